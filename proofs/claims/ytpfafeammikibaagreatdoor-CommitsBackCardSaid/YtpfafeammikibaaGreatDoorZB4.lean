/- Texts of the proof, part 4 of 8 (Wg Wi Wj Wk Wl Wm Wu Wv Wx Wy Wo Ad Ae Af Ah Ag Ai Wz Aa Ac Ab Aj Ak Al Am An Ao Ap Aq Ba Bb Lc Ld Le Lf). -/
import Derived.DeepKeys
import Derived.Shelf.SlSortCmp.NoneTotal
import Derived.Lib.SliceRun
import Derived.BigQuiet
import Derived.Test.YtpfafeammikibaaGreatDoorZB1
import Derived.Test.YtpfafeammikibaaGreatDoorZB2
import Derived.Test.YtpfafeammikibaaGreatDoorZB3
namespace Go.Proofs.YtpfafeammikibaaGreatDoor
set_option maxHeartbeats 64000000
set_option maxRecDepth 100000
set_option linter.unusedVariables false
set_option linter.unusedSimpArgs false
open Go.RowKit
open Go.Proofs.Tryz
open Go.Value renaming int->I
open Go.IntKind renaming i64->N
open _root_.Option renaming some->T,none->hH,map_some->qW
open Go.Value renaming slice->A,string->hK,agg->ja,pointer->jm,tuple->jG
open Go.Obj renaming cells->hF
open Go renaming World->hQ,Value->hZ,Calls->jf,TypeId->jl,Addr->jr,wpList_plain->js,setRow_heap->jt,below_setRow->jv,setRow_other->jA,Boxed->jB,wp_store_row->jD,Program->jE,undef->jF,bodyPost_ret->jI,wp_region_noPanic->jK,wpList_load_row->jO,Oper->jS,maxLen->jW,results_cell_row->jX,wp_region_lit->jY,callFunc->j7,Operand->ms,run_underlying->qe,run_sliceAt_slice->qC
open Go.RowKit renaming Hid->hU,Below->ic
open Go.Proofs.Tryz renaming prog->ih
open Go.Value renaming int->ii,oneCell'->jM,slice->jZ,agg->qu,ownBlock->qF
open Go.IntKind renaming u8->jb,u64->pa,wrap_u64->pr,wrap_u8->p6
open _root_.Nat renaming le_refl->jc,zero_add->ji,le_trans->jw,lt_of_lt_of_le->jH,zero_le->jL,min_eq_left->jU,le_of_eq->j4,mul_le_mul_right->j9,le_of_lt->kl,add_mul->oi,ne_of_lt->oo,le_succ->ow,lt_or_ge->qk,mod_lt->qt,lt_of_le_of_lt->qH
open Go.Ending renaming returned->jd
open Go.World renaming alloc_heap_new->je,size_alloc->jo,ownsRow_nil->jT,setRow->o4,var?_cell->qN,ownsRow_lit->q9
open Go.Proofs renaming intOf->jg
open _root_.List renaming length_map->jh,length_append->jj,getD->jn,replicate->jp,size_toArray->jq,length_take->jy,take_of_length_le->jC,length_cons->jN,append_assoc->jP,getElem?_eq_getElem->jQ,append_nil->jR,map_append->j0,getElem?_map->j1,length_nil->j6,take_succ_eq_append_getElem->j8,nil_append->ki,mem_cons->km,filter_append->kn,filter_nil->kw,map_nil->lo,map_cons->lv,mem_nil_iff->lw,cons_append->n0,getElem?_append_left->ob,getElem?_append_right->oj,getElem?_eq_some_iff->ol,getElem_of_mem->qa,length_set->qb,filter_cons_of_neg->qc,drop_drop->qd,flatMap_cons->qf,take_succ_cons->qg,take->qh,take_zero->qi,take_append_drop->qj,mem_map->ql,take_set_of_le->qm,drop_set_of_lt->qn,drop_of_length_le->qo,getElem_mem->qs,setIfInBounds_toArray->qv,map_set->qw,any_eq_false->qx,take_take->qy,mem_singleton->qz,eq_nil_of_length_eq_zero->qG,length_take_le'->qI,take_append->qJ,take_add_one->qK,flatten_append->qL,mem_flatten->qM,push_toArray->qS,append_toArray->qT,length_singleton->qU,flatten_cons->qV,getElem?_eq_none->qX,toList_toArray->qY,any_eq_true->qZ,mem_flatMap->q4,length_drop->q5,mem_append->q6,length_eq_zero_iff->q8,getElem?_drop->ri,filter_cons_of_pos->rn,getElem_set_self->rv
open _root_.Array renaming getElem?_eq_some_iff->jk,length_toList->j5,replicate_succ->qP,replicate_zero->qQ
open Go.RowKit.Below renaming refl->ju,heap_alloc->j3,heap_setCell->qO
open Go.Proofs.Tryz renaming underlying55->jz,underlying49->mz,underlying24->nn,underlying41->qA,underlying23->qB,underlying203->qD,underlying239->qE
open Go.NoPanic renaming normal->jJ
open _root_.BitVec renaming ofNat->jV,toNat_ofNat->pz
open _root_.Int renaming eq_ofNat_of_zero_le->mb
theorem FN(x:Val)(h:hZ)(a:Int)(w:hQ)(hk:x.k=a)(i:wfV 16 x)(f:ao (·<w.heap.size) w x h)(k:(enc x).length<=2900000):
 jf ih 71 #[ja #[I N a,I N x.n,hK x.s,h]] w λe w'=>e=jd (I N 0)/\ic w w w':=by
 obtain⟨p,c,rfl⟩:=f.form;have d:=af w (hF #[I N a,I N x.n,hK x.s,A p x.l.length c] 43);have j:=O (ao.mono (D':=(·<(w.alloc (hF #[I N a,I N x.n,hK x.s,A p x.l.length c] 43)).heap.size)) (λb (g:b<w.heap.size)=>jH g d.size) x _ (ao.keep (λb g=>d.block b g) x _ f));have g:=O (Oc 16 G x i Y _ _ _ hk j);have l:=O d;clear f d j;generalize x.n=j at*;generalize x.s=xs at*;generalize x.l.length=m at*;clear hk i k
 go_enter func71,ntmps71
 go_wp2_with fail
 refine g.mono ?_;rintro e i ⟨d,rfl,k,b⟩;have f:=ac l b;have n:=ar ((16:Int)<(d:Int));clear b
 go_wp2_with fail
 go_ret;exact⟨rfl,f⟩
theorem vB(x:Val)(u:hZ)(q:Int)(w:hQ)(hk:x.k=q)(h:wfV 16 x)(a:ao (·<w.heap.size) w x u)(H:(enc x).length<=2900000):
 jf ih 19 #[ja #[I N q,I N x.n,hK x.s,u]] w λe w'=>∃v,e=jd (jG #[v,I N 0])/\w'.ownsRow w 5 1 v (enc x).length ((enc x).map v8)/\ic w w w':=by
 obtain⟨p,c,rfl⟩:=a.form;have y:=O (λr s=>KH r s 16 x h);obtain⟨n,o⟩:=(y 0 0).1;obtain⟨d,K⟩:∃d:Nat,q=(d:Int):=⟨q.toNat,by omega⟩;have M:1<=d:=Y;have P:d<=3:=Y;have aa:(d:Int)<4:=Y;subst K;have B:=O hk;have g:=af w (hF #[I N d,I N x.n,hK x.s,A p x.l.length c] 43);have k:=je w (hF #[I N d,I N x.n,hK x.s,A p x.l.length c] 43);have C:=O a;have j:=O (FN x _ _ _ hk h (ao.mono (D':=(·<(w.alloc (hF #[I N d,I N x.n,hK x.s,A p x.l.length c] 43)).heap.size)) (λb (f:b<w.heap.size)=>jH f g.size) x _ (ao.keep (λb f=>g.block b f) x _ a)) H);have l:=O g;have m:=O k;clear a g k n o hk h;obtain⟨D,a⟩:=J x.n;obtain⟨xs,g⟩:=J x.s;obtain⟨E,h⟩:=J x.l.length;rw[<-a,<-g,<-h]at j m l⊢;rw[<-h]at C;have Q:=O a;have R:=O g;clear a g h
 go_enter func19,ntmps19
 go_wp2_with fail
 refine j.mono ?_;rintro e k ⟨rfl,g⟩;obtain⟨b,f⟩:=J w.heap.size;have a:=(g.block w.heap.size av).trans m;rw[<-f]at a⊢;have n:=cell_of (i:=0) a rfl;have o:=cell_of (i:=1) a rfl;have t:=cell_of (i:=2) a rfl;have z:=cell_of (i:=3) a rfl;have h:=ac l g;clear g a f m j l
 go_upto_region 4 with fail
 have F:hU (ic w w k.drew):=O (h.trans ((aQ k).mono h.size));have l:k.drew.cell? ⟨b,0,hH⟩=T (I N d)/\k.drew.cell? ⟨b,1,hH⟩=T (I N D)/\k.drew.cell? ⟨b,2,hH⟩=T (hK xs)/\k.drew.cell? ⟨b,3,hH⟩=T (A p E c):=⟨n,o,t,z⟩;clear n o t z h;refine jK ?_;refine aY (λa=>a.cell? ⟨b,0,hH⟩=T (I N d)/\a.cell? ⟨b,1,hH⟩=T (I N D)/\a.cell? ⟨b,2,hH⟩=T (hK xs)/\a.cell? ⟨b,3,hH⟩=T (A p E c)) (.take 1 (.take 2 (.take 7 (.one 0 (.one 3 (.one 4 (.one 5 (.one 6 (.one 8 (.take 9 (.take 10 .done))))))))))) ae ae ae G (λ_ _ _ _ h=>h) l ?_;generalize k.drew=S at l F⊢;iterate 3 refine BG ?_
 refine ai rfl (λm a=>?_);go_simp;refine(JD S).mono ?_;rintro e t ⟨r,s,rfl,n,j⟩;have g:=And.intro (cell_below l.1 j) (And.intro (cell_below l.2.1 j) (And.intro (cell_below l.2.2.1 j) (cell_below l.2.2.2 j)));have U:=O n;have o:=ac F j;have V:=O (ao.keep (λb f=>o.block b f) x _ C.out);have hgt:=(jk.1 n.ptr).1;have W:r<t.heap.size:=by obtain⟨z,X⟩:=n.tab;exact(jk.1 X).1
 have ad:=n.at B M P;refine a _ _ g λ_=>?_
 clear a j n;refine L ?_;refine ai rfl (λm a=>?_);go_simp;refine a _ _ g λ_=>?_
 clear a;refine L ?_;refine ai rfl (λm a=>?_);go_simp;refine a _ _ g λ_=>?_
 clear a;refine L ?_;refine ai rfl (λm a=>?_);go_simp;refine a _ _ g λ_=>?_
 clear a;refine L ?_;refine ai rfl (λm a=>?_);go_simp;refine a _ _ g λ_=>?_
 clear a;refine L ?_;refine ai rfl (λm a=>?_);have EG:=zS x.k;go_simp;have n:=y r s|>.2 t.heap.size 0 (A hH 0 0) [] _ _ t B (jT _ _ _ _) (jc _) (ao.mono (λb (f:b<w.heap.size)=>jH f o.size) x _ V.out) U W hgt Y;rw[<-Q,<-R]at n;refine n.mono ?_;rintro e W3 ⟨v3,rfl,j⟩;have O8:=O (o.trans ((j.below (jT _ _ _ _) (jc _)).mono o.size));have m:(jZ hH 0 0).ownBlock≠T b:=by simp[qF]
 have c3:=And.intro (cell_grown g.1 j.grown m) (And.intro (cell_grown g.2.1 j.grown m) (And.intro (cell_grown g.2.2.1 j.grown m) (cell_grown g.2.2.2 j.grown m)));replace j:=O j;refine a _ _ c3 λ_=>?_
 clear a EG n;refine L ?_;iterate 2 refine BG ?_
 refine jJ ?_
 go_wp2_with fail
 go_ret2;refine⟨_,rfl,?_,O8⟩;have h:=j.own;rw[ji,ki]at h;exact kX h o.size
theorem pH(l:LBy):ir l=ofB l:=by
 unfold ir ofB strOfNums kO;rw[List.map_map]
 congr 1
 congr 1
 refine List.map_congr_left λb _=>?_
 apply UInt8.eq_of_toBitVec_eq
 simp
theorem gX(n:Int)(w:hQ):
 jf ih 74 #[I N n] w λe w'=>e=jd (ja #[I N 1,I N n,hK ⟨#[]⟩,A hH 0 0])/\ic w w w':=by
 go_enter func74,ntmps74
 go_wp2_with fail
 exact jI (v:=ja #[I N 1,I N n,hK ⟨#[]⟩,A hH 0 0]) (by simp[results,results74,go_sem]) rfl ⟨rfl,(ju _ _).alloc (jc _) _⟩
theorem iY(p:Option jr)(n c:Nat)(w:hQ):
 jf ih 20 #[A p n c] w λe w'=>e=jd (ja #[I N 3,I N 0,hK ⟨#[]⟩,A p n c])/\ic w w w':=by
 go_enter func20,ntmps20
 go_wp2_with fail
 exact jI (v:=ja #[I N 3,I N 0,hK ⟨#[]⟩,A p n c]) (by simp[results,results20,go_sem]) rfl ⟨rfl,(ju _ _).alloc (jc _) _⟩
theorem sT(v:hZ)(l:LBy)(w:hQ)(a:BytesAt w v l):
 jf ih 75 #[v] w λe w'=>e=jd (ja #[I N 2,I N 0,hK (ofB l),A hH 0 0])/\ic w w w':=by
 have b:=gI (a.below (af w (hF #[I N 0,I N 0,hK ⟨#[]⟩,A hH 0 0] 43)));rw[pH]at b;obtain⟨p,c,rfl,-,-,-⟩:=a;obtain⟨s,d⟩:=J (ofB l);rw[<-d]at b⊢;clear d
 go_enter func75,ntmps75
 go_wp2_with fail
 exact jI (v:=ja #[I N 2,I N 0,hK s,A hH 0 0]) (by simp[results,results75,go_sem]) rfl ⟨rfl,(ju _ _).alloc (jc _) _⟩
theorem zJ:(ih.info? 43).map (λi=>(i.zero,i.size,i.bytes))=T (T (ja #[I N 0,I N 0,hK ⟨#[]⟩,A hH 0 0]),4,56):=by kernel_rfl
theorem ig{w:hQ}{o:jS}{a:Act}{K:Act->hQ->Prop}{e:Exit->Act->hQ->Prop}(s x:ms)
 (f:o.op=.call {callee:=.builtin .append,args:=#[s,x],argTypes:=#[41,41]})
 (B:Nat) (v:hZ) (n:Nat) (xs:List hZ) (g:a.eval s=v) (i:w.ownsRow B 43 4 v n xs) (b:hZ) (m:Nat) (c:List hZ) (j:a.eval x=b) (k:bW w b 4 m c) (l:∀b∈c,b.oneCell'=true)
 (E:n+m<=4000000) (p:B<=w.heap.size) (h:∀d w',aV B 43 4 w w' v d (n+m) (xs++c)->K (a.put o.dst d) w'):o.wp ih a w K e:=by
 obtain⟨q,r,t,u,y⟩:=info_parts zJ;exact lN s x 41 f B 43 q _ 4 56 qA r t u y rfl G v n xs g i b m c j k l (by unfold jW;omega) Y p
  λd w' z C D=>h d w' (ly z C D)
abbrev bE:hZ:=A hH 0 0
theorem dO{D:Nat->Prop}{w:hQ}(n:Int):ao D w (vI n) bE:=by
 rw[vI,ao];exact⟨[],⟨rfl,hH,0,rfl,jc _,λ_=>rfl,λh=>absurd h G⟩,by rw[ax]⟩
theorem lE{D:Nat->Prop}{w:hQ}(b:LBy):ao D w (vT b) bE:=by
 rw[vT,ao];exact⟨[],⟨rfl,hH,0,rfl,jc _,λ_=>rfl,λh=>absurd h G⟩,by rw[ax]⟩
theorem tF{D:Nat->Prop}{w:hQ}:∀(l:List Int),ax D w (l.map vI) (jp l.length bE)
 |[]=>by rw[lo,ax];rfl
 |x::l=>by
  rw[lv,ax];exact⟨bE,_,rfl,dO x,tF l⟩
def dB(l:List Int):List hZ:=aW (l.map vI) (jp l.length bE)
theorem yz(l:List Int)(n:Int):dB (l++[n])=dB l++[I N 1,I N n,hK ⟨#[]⟩,A hH 0 0]:=by
 unfold dB;rw[j0,jj,show jp (l.length+[n].length) bE=jp l.length bE++[bE] by simp[List.replicate_succ']];rw[m8 _ _ _ _ av]
 rfl
theorem pI(l:List Int)(v:hZ)(w:hQ)(u:cC w v l)(x:l.length<=1000000):
 jf ih 73 #[v] w λe w'=>∃j,e=jd j/\w'.ownsRow w 43 4 j l.length (dB l)/\ic w w w':=by
 obtain⟨p,c,rfl,z,a⟩:=u;obtain⟨n,b⟩:=J l.length;rw[<-b]at z x a⊢;have k:=O b;have m:=O a;clear b a
 go_enter func73,ntmps73
 go_wp2_with fail
 go_loopw [3,8] (λa v8 wr=>∃(i:Nat) (f:hZ),a=f/\v8=I N i/\i<=n/\hU (wr.ownsRow w 43 4 f i (dB (l.take i)))/\hU (ic w w wr)) (λ_ v8 _=>n-(jg v8).toNat)
 case atStart=>exact⟨0,_,rfl,rfl,jL _,O (by simpa [dB,aW]using jT w w.heap.size 43 4),O (ju _ _)⟩
 obtain⟨i,f,rfl,rfl,H,q,b⟩:=hrel
 by_cases r:i<n
 ·have B:=ap ((i:Int)<(n:Int))
  have C:=ap (i<n);obtain⟨g,o,rfl,s⟩:=m Y;have d:i<l.length:=by rw[<-k];exact r
  have t:l.getD i 0=l[i]:=by simp[jn,d]
  obtain⟨y,h⟩:=J (l.getD i 0);have a:=s i r;rw[<-h]at a;have K:wr.cell? ⟨g,o+i,hH⟩=T (I N y):=(bz (b.block g (eN a))).trans a;have D:hU (dB (l.take (i+1))=dB (l.take i)++[I N 1,I N y,hK ⟨#[]⟩,A hH 0 0]):=O (by
   rw[j8 d,yz,h,t])
  have E:=b.size;clear t h a s d m
  go_wp2_with fail
  refine(gX y wr).mono ?_;rintro e a ⟨rfl,d⟩;have h:=aE q d;have t:=O (b.trans (d.mono E));have M:=d.size;clear d
  go_wp2_with (at_builtin;refine Hid.out ?_)
  refine O ?_;refine js rfl λ_ s=>ig _ _ rfl w.heap.size _ _ _ rfl (cZ h (af a _)) _ 1 [I N 1,I N y,hK ⟨#[]⟩,A hH 0 0] rfl (ei a [I N 1,I N y,hK ⟨#[]⟩,A hH 0 0] _ _ 4 1 1 rfl (jc _)) (by simp[jM]) (show i+1<=4000000 by omega) (by rw[jo];omega) λP Q d=>s _ _ ?_
  have F:=O (t.trans (((af a _).mono (show w.heap.size<=a.heap.size by omega)).trans (d.below (cZ h (af a _)) (by rw[jo];omega))));replace d:=O d.own;clear s
  go_wp2_with fail
  refine⟨⟨i+1,_,rfl,by go_num,by omega,O (by rw[D];exact d),F⟩,?_⟩;simp only[jg];omega
 have B:=ar ((i:Int)<(n:Int));have C:=ar (i<n);have a:i=n:=Y;have d:=O a;clear a
 go_wp2_with fail
 go_ret;refine⟨_,rfl,?_,b⟩;have h:=q.out;rw[d,jC (by rw[<-k];exact jc _)]at h;exact h
section
section
variable {α:Type}
def cB(f:α->hZ->List hZ):List α->List hZ->List hZ
 |x::xs,a::b=>f x a++cB f xs b
 |_,_=>[]
theorem zU(f:α->hZ->List hZ):∀(l m:List α) (a b:List hZ),a.length=l.length->cB f (l++m) (a++b)=cB f l a++cB f m b
 |[],m,a,b,h=>by
  have:a=[]:=qG (by simpa using h);subst this
  cases m<;>cases b<;>simp[cB]
 |x::l,m,[],b,h=>by simp at h
 |x::l,m,c::a,b,h=>by
  simp only[n0,cB,zU f l m a b (by simpa using h),jP]
theorem nZ(f:α->hZ->List hZ)(k:Nat)(hk:∀x a,(f x a).length=k):∀(l:List α) (b:List hZ) (j i:Nat) (x:α) (a:hZ),l[j]?=T x->b[j]?=T a->i<k->(cB f l b)[j*k+i]?=(f x a)[i]?
 |[],b,j,i,x,a,h,_,_=>by simp at h
 |y::l,[],j,i,x,a,_,h,_=>by simp at h
 |y::l,v::b,0,i,x,a,h,c,d=>by
  have e:y=x:=by simpa using h
  have g:v=a:=by simpa using c
  subst e;subst g;show(f y v++cB f l b)[0*k+i]?=_;rw[Nat.zero_mul,ji,ob (by rw[hk];exact d)]
 |y::l,v::b,j+1,i,x,a,h,c,d=>by
  show(f y v++cB f l b)[(j+1)*k+i]?=_;have g:(f y v).length=k:=hk _ _;have e:(j+1)*k=k+j*k:=by rw[oi];omega
  rw[oj (by rw[g,e];omega),g,show(j+1)*k+i-k=j*k+i by omega];exact nZ f k hk l b j i x a (by simpa using h) (by simpa using c) d
theorem flat_length(f:α->List hZ)(k:Nat)(hk:∀x,(f x).length=k)(l:List α):(l.flatMap f).length=l.length*k:=by
 induction l with
 |nil=>simp
 |cons x l a=>rw[qf,jj,a,hk,jN,oi];omega
theorem flat_get(f:α->List hZ)(k:Nat)(hk:∀x,(f x).length=k):∀(l:List α) (j i:Nat) (x:α),l[j]?=T x->i<k->(l.flatMap f)[j*k+i]?=(f x)[i]?
 |[],j,i,x,h,_=>by simp at h
 |y::l,0,i,x,h,a=>by
  have e:y=x:=by simpa using h
  subst e;rw[qf,Nat.zero_mul,ji,ob (by rw[hk];exact a)]
 |y::l,j+1,i,x,h,a=>by
  have e:(j+1)*k=k+j*k:=by rw[oi];omega
  rw[qf,oj (by rw[hk,e];omega),hk,show(j+1)*k+i-k=j*k+i by omega];exact flat_get f k hk l j i x (by simpa using h) a
end
def bH(D:Nat->Prop)(w:hQ):List (LBy)->List hZ->Prop
 |[],a=>a=[]
 |b::e,a=>∃c d,a=c::d/\ah D w c 1 b.length (b.map v8)/\bH D w e d
theorem bH.keep{D:Nat->Prop}{w w':hQ}(hk:∀g,D g->w'.heap[g]?=w.heap[g]?):∀{c:List (LBy)} {a:List hZ},bH D w c a->bH D w' c a
 |[],a,h=>h
 |b::c,a,⟨d,e,f,g,i⟩=>⟨d,e,f,g.keep hk,i.keep hk⟩
theorem bH.mono{D D':Nat->Prop}{w:hQ}(d:∀g,D g->D' g):∀{c:List (LBy)} {a:List hZ},bH D w c a->bH D' w c a
 |[],a,h=>h
 |b::c,a,⟨e,f,g,i,j⟩=>⟨e,f,g,i.mono d,j.mono d⟩
theorem bH.len{D:Nat->Prop}{w:hQ}:∀{c:List (LBy)} {a:List hZ},bH D w c a->a.length=c.length
 |[],a,h=>by rw[show a=[]from h];rfl
 |b::c,a,⟨f,g,d,i,e⟩=>by rw[d];simp[e.len]
theorem bH.at{D:Nat->Prop}{w:hQ}:∀{f:List (LBy)} {a:List hZ} {i:Nat} {b:LBy},bH D w f a->f[i]?=T b->∃c,a[i]?=T c/\ah D w c 1 b.length (b.map v8)
 |[],a,i,x,h,d=>by simp at d
 |y::l,a,i,x,⟨c,o,g,j,k⟩,d=>by
  subst g
  rcases i with _|i
  ·have e:y=x:=by simpa using d
   subst e;exact⟨c,rfl,j⟩
  obtain⟨e,m,n⟩:=k.at (i:=i) (by simpa using d);exact⟨e,by simpa using m,n⟩
theorem bH.snoc{D:Nat->Prop}{w:hQ}{b:LBy}{c:hZ}(e:ah D w c 1 b.length (b.map v8)):∀{d:List (LBy)} {a:List hZ},bH D w d a->bH D w (d++[b]) (a++[c])
 |[],a,h=>by rw[show a=[]from h];exact⟨c,[],rfl,e,rfl⟩
 |x::d,a,⟨v,f,g,i,j⟩=>⟨v,f++[c],by rw[g];rfl,i,j.snoc e⟩
theorem ah.bytes{D:Nat->Prop}{w:hQ}{v:hZ}{l:LBy}(h:ah D w v 1 l.length (l.map v8)):BytesAt w v l:=by
 obtain⟨-,p,c,b,d,f,i⟩:=h;refine⟨p,c,b,d,f,λk=>?_⟩;obtain⟨g,o,e,-,m⟩:=i k;refine⟨g,o,e,λj a=>m j _ ?_⟩;rw[j1,jQ a];simp[jn,a]
theorem ah.form{D:Nat->Prop}{w:hQ}{v:hZ}{sz n:Nat}{xs:List hZ}(h:ah D w v sz n xs):∃p c,v=A p n c:=by
 obtain⟨-,p,c,a,-⟩:=h;exact⟨p,c,a⟩
theorem ah.of_own{D:Nat->Prop}{w:hQ}{B sz n:Nat}{e:jl}{v:hZ}{xs:List hZ}(h:w.ownsRow B e sz v n xs)(a:∀g,v.ownBlock=T g->D g):ah D w v sz n xs:=by
 obtain⟨b,p,c,rfl,d,f,i⟩:=bW.of_own h;refine⟨b,p,c,rfl,d,f,λj=>?_⟩;obtain⟨g,o,rfl,k⟩:=i j;exact⟨g,o,rfl,a g rfl,k⟩
def Chg.cells(x:Chg):List hZ:=[I N x.k,I N x.d,I N x.p,I N x.v,I N x.c]
def Bx.cells(x:Bx)(a:hZ):List hZ:=[I N x.node,I N x.lev,I N x.u,a]
def Wl.cells(x:Wl)(a:hZ):List hZ:=[I N x.dev,I N x.u,a]
structure CQ where
 vc:hZ
 vp:hZ
 vb:hZ
 vw:hZ
def aj(c:Cmt)(q:CQ):List hZ:=
 I N c.folder::I N c.epoch::(c.parent.map v8++(I N c.author::q.vc::q.vp::q.vb::q.vw::(c.confirm.map v8++[I N c.r,I N c.s])))
structure az(D:Nat->Prop)(w:hQ)(c:Cmt)(q:CQ):Prop where
 chg:ah D w q.vc 5 c.chg.length (c.chg.flatMap Chg.cells)
 path:ah D w q.vp 1 c.path.length (c.path.map (ii .i64))
 box:∃a,ah D w q.vb 4 c.box.length (cB Bx.cells c.box a)/\bH D w (c.box.map Bx.body) a
 wel:∃a,ah D w q.vw 3 c.wel.length (cB Wl.cells c.wel a)/\bH D w (c.wel.map Wl.body) a
 plen:c.parent.length=32
 clen:c.confirm.length=32
theorem az.keep{D:Nat->Prop}{w w':hQ}{c:Cmt}{q:CQ}(h:az D w c q)(hk:∀g,D g->w'.heap[g]?=w.heap[g]?):az D w' c q:=by
 obtain⟨a,b,⟨d,e,f⟩,⟨g,i,j⟩,k,l⟩:=h;exact⟨a.keep hk,b.keep hk,⟨d,e.keep hk,f.keep hk⟩,⟨g,i.keep hk,j.keep hk⟩,k,l⟩
theorem az.mono{D D':Nat->Prop}{w:hQ}{c:Cmt}{q:CQ}(h:az D w c q)(hk:∀g,D g->D' g):az D' w c q:=by
 obtain⟨a,b,⟨d,e,f⟩,⟨g,i,j⟩,k,l⟩:=h;exact⟨a.mono hk,b.mono hk,⟨d,e.mono hk,f.mono hk⟩,⟨g,i.mono hk,j.mono hk⟩,k,l⟩
theorem az.below{w w':hQ}{c:Cmt}{q:CQ}(h:az (·<w.heap.size) w c q)(b:ic w w w'):az (·<w'.heap.size) w' c q:=
 (h.keep λg a=>b.block g a).mono λg (a:g<w.heap.size)=>jH a b.size
structure cD(w:hQ)(b:Nat)(c:Cmt)(q:CQ):Prop where
 blk:w.heap[b]?=T (hF (aj c q).toArray 31 (0,0))
 plen:c.parent.length=32
 clen:c.confirm.length=32
theorem eA(c:Cmt)(q:CQ)(a:c.parent.length=32)(b:c.confirm.length=32):(aj c q).length=73:=by
 unfold aj;simp[a,b]
theorem cD.keep{w w':hQ}{b:Nat}{c:Cmt}{q:CQ}(h:cD w b c q)(hk:w'.heap[b]?=w.heap[b]?):cD w' b c q:=⟨hk.trans h.blk,h.plen,h.clen⟩
theorem cD.get{w:hQ}{b:Nat}{c:Cmt}{q:CQ}(h:cD w b c q){i:Nat}{v:hZ}(a:(aj c q)[i]?=T v):w.cell? ⟨b,i,hH⟩=T v:=
 cell_of h.blk (by simpa using a)
theorem eK(c:Cmt)(q:CQ)(d:c.parent.length=32)(e:c.confirm.length=32):
 (aj c q)[0]?=T (I N c.folder)/\(aj c q)[1]?=T (I N c.epoch)/\(aj c q)[34]?=T (I N c.author)/\(aj c q)[35]?=T q.vc/\(aj c q)[36]?=T q.vp/\
 (aj c q)[37]?=T q.vb/\(aj c q)[38]?=T q.vw/\(aj c q)[71]?=T (I N c.r)/\(aj c q)[72]?=T (I N c.s):=by
 have k:∀(l r:List hZ) (i:Nat),l.length=32->(l++r)[32+i]?=r[i]?:=λl r i f=>by
  rw[oj Y,f];congr 1;omega
 have a:(c.parent.map v8).length=32:=by rw[jh];exact d
 have b:(c.confirm.map v8).length=32:=by rw[jh];exact e
 unfold aj;refine⟨rfl,rfl,?_,?_,?_,?_,?_,?_,?_⟩
 ·exact k _ _ 0 a
 ·exact k _ _ 1 a
 ·exact k _ _ 2 a
 ·exact k _ _ 3 a
 ·exact k _ _ 4 a
 ·exact(k _ _ (5+32) a).trans (k _ _ 0 b)
 exact(k _ _ (5+33) a).trans (k _ _ 1 b)
theorem tZ(c:Cmt)(q:CQ)(d:c.parent.length=32){j:Nat}(f:j<32):(aj c q)[2+j]?=T (I .u8 (c.parent.getD j 0).toNat):=by
 unfold aj;have e:∀(a b:hZ) (l:List hZ),(a::b::l)[2+j]?=l[j]?:=λa b l=>by rw[show 2+j=j+1+1 by omega];rfl
 rw[e,ob (by rw[jh];omega),j1,jQ Y];simp[jn,d,f]
theorem Bv(c:Cmt)(q:CQ)(g:c.parent.length=32)(h:c.confirm.length=32){j:Nat}(i:j<32):(aj c q)[39+j]?=T (I .u8 (c.confirm.getD j 0).toNat):=by
 unfold aj;have e:∀(a b:hZ) (l:List hZ),(a::b::l)[39+j]?=l[37+j]?:=λa b l=>by rw[show 39+j=37+j+1+1 by omega];rfl
 have k:(c.parent.map v8).length=32:=by rw[jh];exact g
 have m:∀(a b c d f:hZ) (l:List hZ),(a::b::c::d::f::l)[5+j]?=l[j]?:=λa b c d f l=>by rw[show 5+j=j+1+1+1+1+1 by omega];rfl
 rw[e,oj Y,k,show 37+j-32=5+j by omega,m,ob (by rw[jh];omega),j1,jQ Y];simp[jn,h,i]
theorem cD.parent{w:hQ}{b:Nat}{c:Cmt}{q:CQ}(h:cD w b c q):BytesAt w (A (T ⟨b,2,hH⟩) 32 32) c.parent:=
 ⟨_,32,by rw[h.plen],by rw[h.plen];exact jc _,(λe=>by cases e),λ_=>⟨b,2,rfl,λj a=>h.get (tZ c q h.plen (by rw[h.plen]at a;exact a))⟩⟩
theorem cD.confirm{w:hQ}{b:Nat}{c:Cmt}{q:CQ}(h:cD w b c q):BytesAt w (A (T ⟨b,39,hH⟩) 32 32) c.confirm:=
 ⟨_,32,by rw[h.clen],by rw[h.clen];exact jc _,(λe=>by cases e),λ_=>⟨b,39,rfl,λj a=>h.get (Bv c q h.plen h.clen (by rw[h.clen]at a;exact a))⟩⟩
structure Bld(M b:Nat)(w0 wr:hQ)(l:List Val)(a:hZ)(c:List hZ):Prop where
 box:wr.heap[b]?=T (hF #[I N 3,I N 0,hK ⟨#[]⟩,a] 43 (0,0))
 own:wr.ownsRow M 43 4 a l.length (aW l c)
 kids:ax (λg=>M<=g/\g<wr.heap.size/\a.ownBlock≠T g) wr l c
 but:aD b M w0 wr
 sz:M<=wr.heap.size
theorem Bld.start{M a:Nat}{w:hQ}(b:w.heap[a]?=T (hF #[I N 3,I N 0,hK ⟨#[]⟩,bE] 43 (0,0)))(c:M<=w.heap.size):Bld M a w w [] bE []:=
 ⟨b,by simpa [aW]using jT w M 43 4,by rw[ax],aD.refl _ _ _,c⟩
theorem Bld.later{M c:Nat}{w0 wr e:hQ}{l:List Val}{f:hZ}{d:List hZ}(h:Bld M c w0 wr l f d)(i:c<M)(a:ic wr wr e):Bld M c w0 e l f d:=
 ⟨(a.block c (jH i h.sz)).trans h.box,cZ h.own a,ax.mono (λg b=>⟨b.1,jH b.2.1 a.size,b.2.2⟩) l d (ax.keep (λg b=>a.block g b.2.1) l d h.kids),
  h.but.trans (aD.of_below (a.mono h.sz)) (jc _),jw h.sz a.size⟩
theorem Bld.push{M j:Nat}{w0 c p m:hQ}{l:List Val}{n o:hZ}{f:List hZ}(h:Bld M j w0 c l n f)(D:j<M){x:Val}{i:hZ}
 (t:ao (λg=>M<=g/\g<c.heap.size/\n.ownBlock≠T g) c x i) (a:aV M 43 4 c p n o (l.length+1) (aW l f++ee x i))
 (u:m.heap[j]?=T (hF #[I N 3,I N 0,hK ⟨#[]⟩,o] 43 (0,0))) (b:kz j p m):Bld M j w0 m (l++[x]) o (f++[i]):=by
 have v:=h.kids.len;have q:∀g,(M<=g/\g<c.heap.size/\n.ownBlock≠T g)->m.heap[g]?=c.heap[g]?:=λg d=>
  (b.block g Y).trans (a.grown.block g d.2.1 (λe=>d.2.2 e.symm))
 have r:∀g,(M<=g/\g<c.heap.size/\n.ownBlock≠T g)->(M<=g/\g<m.heap.size/\o.ownBlock≠T g):=λg d=>
  ⟨d.1,by rw[b.size];exact jH d.2.1 a.grown.size,a.ne d.2.1 d.2.2⟩
 refine⟨u,?_,ax.append (ax.mono r _ _ (ax.keep q _ _ h.kids)) (ax.one (ao.mono r _ _ (ao.keep q _ _ t))),?_,?_⟩
 ·have e:aW (l++[x]) (f++[i])=aW l f++ee x i:=by
   rw[m8 l [x] f [i] v];simp[aW]
  rw[e,jj];have s:=a.own;refine⟨s.1,?_⟩
  rcases s.2 with k|⟨g,w,y,z,k,B,C⟩
  ·exact .inl k
  exact .inr ⟨g,w,y,z,k,(b.block g Y).trans B,C⟩
 ·refine h.but.trans ⟨b.os.trans a.grown.os,b.tape.trans a.grown.tape,b.output.trans a.grown.output,by rw[b.size];exact a.grown.size,λk hk s=>?_⟩ (jc _)
  refine(b.block k s).trans (a.grown.block k (jH hk h.sz) (λe=>?_));have:=(h.own.lt k e.symm).1;omega
 rw[b.size];exact jw h.sz a.grown.size
end
theorem dW{w w':hQ}{g:Nat}{o:Obj}{a:Option Nat}(h:w.heap[g]?=T o)(b:w.grownBy w' a)(c:a≠T g):w'.heap[g]?=T o:=
 (b.block g (jk.1 h).1 (λe=>c e.symm)).trans h
theorem ak{w w':hQ}{g:Nat}{o:Obj}(h:w.heap[g]?=T o)(a:ic w w w'):w'.heap[g]?=T o:=
 (a.block g (jk.1 h).1).trans h
theorem Bld.fresh{M f:Nat}{w0 a b:hQ}{l:List Val}{c:hZ}{i:List hZ}(h:Bld M f w0 a l c i)(p:ic a a b){e:jl}{sz n:Nat}{d:hZ}{xs:List hZ}(j:b.ownsRow a e sz d n xs):
 ∀g,d.ownBlock=T g->M<=g/\g<b.heap.size/\c.ownBlock≠T g:=λg k=>by
 obtain⟨m,o⟩:=j.lt g k;exact⟨jw h.sz m,o,λe=>by have:=(h.own.lt g e).2;omega⟩
theorem Bld.fin{M d:Nat}{w0 wr:hQ}{l:List Val}{c:hZ}{b:List hZ}(h:Bld M d w0 wr l c b):ao (λg=>M<=g/\g<wr.heap.size) wr (vL l) c:=by
 rw[vL,ao];exact⟨b,ah.of_own h.own (λg a=>h.own.lt g a),ax.mono (λg a=>⟨a.1,a.2.1⟩) l b h.kids⟩
theorem lR{D:Nat->Prop}{w:hQ}{B:Nat}{a:hZ}{l:List Int}(b:w.ownsRow B 43 4 a l.length (dB l))(c:∀g,a.ownBlock=T g->D g):ao D w (vL (l.map vI)) a:=by
 rw[vL,ao];exact⟨jp l.length bE,by rw[jh];exact ah.of_own b c,tF l⟩
theorem Ct(W:hQ)(l:List Int)(t:jl):cC (W.alloc (hF (l.map (ii .i64)).toArray t)) (A (T ⟨W,0,hH⟩) l.length l.length) l:=by
 refine⟨_,l.length,rfl,jc _,λ_=>⟨W.heap.size,0,rfl,λj a=>?_⟩⟩;refine cell_of (je W _) ?_;rw[ji];simp[jn,a]
theorem iG(W:hQ)(xs:List hZ)(t:jl)(sz n B:Nat)(b:B<=W.heap.size)(a:xs.length=n*sz)(c:n<=jW):(W.alloc (hF xs.toArray t)).ownsRow B t sz (A (T ⟨W,0,hH⟩) n n) n xs:=by
 refine⟨a,.inr ⟨W.heap.size,n,xs.toArray,rfl,b,je W _,jc _,c,by simpa using a,?_⟩⟩;simp[<-a]
theorem mY{α:Type}{l:List α}{j:Nat}(h:j<l.length):∃x,l[j]?=T x/\l.take (j+1)=l.take j++[x]:=
 ⟨l[j],jQ h,j8 h⟩
theorem ax.nil{D:Nat->Prop}{w:hQ}:ax D w [] []:=by rw[ax]
theorem ax.cons{D:Nat->Prop}{w:hQ}{x:Val}{a:hZ}{xs:List Val}{b:List hZ}(h:ao D w x a)(t:ax D w xs b):ax D w (x::xs) (a::b):=by
 rw[ax];exact⟨a,b,rfl,h,t⟩
theorem ah.ints{D:Nat->Prop}{w:hQ}{v:hZ}{l:List Int}(h:ah D w v 1 l.length (l.map (ii .i64))):cC w v l:=by
 obtain⟨-,p,c,b,d,m,f⟩:=h;refine⟨p,c,b,d,λi=>?_⟩;obtain⟨g,o,e,-,k⟩:=f i;refine⟨g,o,e,λj a=>k j _ ?_⟩;rw[j1,jQ a];simp[jn,a]
def ik(w w':hQ)(c:Cmt)(v:hZ):Prop:=∃a,w'.ownsRow w 43 4 v 11 (aW (aA c) a)/\ax (λg=>w.heap.size<=g/\g<w'.heap.size) w' (aA c) a
theorem nJ{p q:Prop}(k:q)(h:q->p:=by intro k;refine cR (v:=?_) rfl ag (λW' hS=>?_) ?_;rotate_left;(have k3:=cell_of (i:=3) hS.1 rfl;have e0:=cell_of (i:=0) hS.2 rfl;have e1:=cell_of (i:=1) hS.2 rfl;have e2:=cell_of (i:=2) hS.2 rfl;have e3:=cell_of (i:=3) hS.2 rfl;have e4:=cell_of (i:=4) hS.2 rfl;go_simp;with_reducible rfl);refine L ?_;exact k):p:=h k
theorem rj{p q:Prop}(k:q)(h:q->p:=by intro k;refine cR (v:=?_) rfl ag (λW' hS=>?_) ?_;rotate_left;(have k3:=cell_of (i:=3) hS.1 rfl;have e0:=cell_of (i:=0) hS.2 rfl;have e1:=cell_of (i:=1) hS.2 rfl;have e2:=cell_of (i:=2) hS.2 rfl;have e3:=cell_of (i:=3) hS.2 rfl;go_simp;with_reducible rfl);refine L ?_;exact k):p:=h k
theorem td{p q:Prop}(k:q)(h:q->p:=by intro k;refine cR (v:=?_) rfl ag (λW' hS=>?_) ?_;rotate_left;(have k3:=cell_of (i:=3) hS.1 rfl;have e0:=cell_of (i:=0) hS.2 rfl;have e1:=cell_of (i:=1) hS.2 rfl;have e2:=cell_of (i:=2) hS.2 rfl;go_simp;with_reducible rfl);refine L ?_;exact k):p:=h k
theorem nH(c:Cmt)(q:CQ)(w:hQ)(d:az (·<w.heap.size) w c q)(l1:c.chg.length<=1000000)(l2:c.path.length<=1000000)(l3:c.box.length<=1000000)(l4:c.wel.length<=1000000):
 jf ih 21 #[ja (aj c q).toArray] w λe w'=>∃v,e=jd v/\ik w w' c v/\ic w w w':=by
 have h:cD (w.alloc (hF (aj c q).toArray 31)) w.heap.size c q:=⟨je w _,d.plen,d.clen⟩;have i:=af w (hF (aj c q).toArray 31);have X:=O d;have y:=O h;have C:=O i;obtain⟨Pl,f⟩:=J ((aj c q).toArray);rw[<-f]at y C⊢;have R0:=O f;obtain⟨b,g⟩:=J w.heap.size;rw[<-g]at y;have RQ:=O g;clear h i d f g
 go_enter func21,ntmps21
 go_wp2_with fail
 refine(iY hH 0 0 _).mono ?_;rintro e w1 ⟨rfl,d⟩;replace y:=O (y.keep (d.block b (by rw[RQ];simp)));replace C:=ac C d;clear d
 go_wp2_with fail
 refine(iY hH 0 0 _).mono ?_;rintro e w2 ⟨rfl,d⟩;have f:=(jk.1 y.blk).1;replace y:=O (y.keep (d.block b f));replace C:=ac C d;clear d f
 go_wp2_with fail
 refine(iY hH 0 0 _).mono ?_;rintro e w3 ⟨rfl,d⟩;have f:=(jk.1 y.blk).1;replace y:=O (y.keep (d.block b f));replace C:=ac C d;clear d f
 go_upto_region 2 with fail
 obtain⟨r,h⟩:=J w3.heap.size;have m:=je w3 (hF #[I N 3,I N 0,hK ⟨#[]⟩,A hH 0 0] 43);have a2:=je (w3.alloc (hF #[I N 3,I N 0,hK ⟨#[]⟩,A hH 0 0] 43)) (hF #[I N 3,I N 0,hK ⟨#[]⟩,A hH 0 0] 43);have RO:=je ((w3.alloc (hF #[I N 3,I N 0,hK ⟨#[]⟩,A hH 0 0] 43)).alloc (hF #[I N 3,I N 0,hK ⟨#[]⟩,A hH 0 0] 43)) (hF #[I N 3,I N 0,hK ⟨#[]⟩,A hH 0 0] 43);have k:ic w3 w3 (((w3.alloc (hF #[I N 3,I N 0,hK ⟨#[]⟩,A hH 0 0] 43)).alloc (hF #[I N 3,I N 0,hK ⟨#[]⟩,A hH 0 0] 43)).alloc (hF #[I N 3,I N 0,hK ⟨#[]⟩,A hH 0 0] 43)):=(((ju _ w3).alloc (jc _) _).alloc av _).alloc (by simp;omega) _;obtain⟨W,i⟩:=J ((((w3.alloc (hF #[I N 3,I N 0,hK ⟨#[]⟩,A hH 0 0] 43)).alloc (hF #[I N 3,I N 0,hK ⟨#[]⟩,A hH 0 0] 43)).alloc (hF #[I N 3,I N 0,hK ⟨#[]⟩,A hH 0 0] 43)));have n:W.heap[r]?=T (hF #[I N 3,I N 0,hK ⟨#[]⟩,bE] 43 (0,0)):=by
  rw[i,h,j3 _ _ _ (by simp;omega),j3 _ _ _ av];exact m
 have o:W.heap[r+1]?=T (hF #[I N 3,I N 0,hK ⟨#[]⟩,bE] 43 (0,0)):=by
  rw[i,h,j3 _ _ _ av];simpa using a2
 have p:W.heap[r+2]?=T (hF #[I N 3,I N 0,hK ⟨#[]⟩,bE] 43 (0,0)):=by
  rw[i,h];simpa using RO
 have s:W.heap.size=r+3:=by rw[i,h];simp
 rw[<-i]at k⊢;have f:=(jk.1 y.blk).1;replace y:=O (y.keep (k.block b f));have t:w.heap.size<=r:=by rw[h];exact C.size
 replace C:=ac C k;have x:b<r:=by rw[h];exact f
 have u:=O t;have SU:=O x;have Ua:=O n;have QO:=O o;have QM:=O p;have Py:=O s;rw[<-h,<-RQ];have bA:hU (∀g,g<w.heap.size->W.heap[g]?=w.heap[g]?):=O (λg B=>C.block g B);clear m a2 RO n o p k f t x s i h;obtain⟨c0,c1,R1,Rq,T8,S7,S8,Vp,Vr⟩:=eK c q X.plen X.clen;replace Rq:=y.get Rq;obtain⟨Vq,p1,q1,al,UY,bb,Qr⟩:=X.chg;obtain⟨n1,TA⟩:=J c.chg.length;rw[al]at Rq;rw[<-TA]at Rq l1 UY;have Rz:=O TA;have V:=O Qr;clear c0 c1 R1 T8 S7 S8 Vp Vr Vq al bb TA Qr
 go_wp2_with fail
 have Qa:=O (Bld.start (M:=(r+3)) Ua (j4 Py.symm))
 go_loopw [18] (λv wr=>∃(i:Nat) (vr:hZ) (us:List hZ),v=I N i/\i<=n1/\hU (Bld (r+3) r W wr ((c.chg.take i).map Chg.val) vr us)) (λv _=>n1-(jg v).toNat)
 case atStart=>exact⟨0,bE,[],rfl,jL _,Qa⟩
 clear Qa Rq;obtain⟨i,vr,us,rfl,hi,m⟩:=hrel
 by_cases a3:i<n1
 ·have hd:=ap ((i:Int)<(n1:Int))
  have PX:=ap (i<n1);obtain⟨g,o,rfl,bk,a4⟩:=V (aw Rz);obtain⟨x,hx,SK⟩:=mY (l:=c.chg) (j:=i) (by rw[<-Rz];exact a3);have ZR:g<(r+3):=aw u;have a5:g≠r:=aw u;have QH:=(m.but.block g ZR a5).trans (bA g bk);have aa:=λk hk=>(bz (a:=⟨g,o+(i*5+k),hH⟩) QH).trans (a4 (i*5+k) _ ((flat_get Chg.cells 5 (λ_=>rfl) c.chg i k x hx hk).trans (show x.cells[k]?=T (x.cells.getD k (I N 0)) by have:x.cells.length=5:=rfl;simp[jn,jQ (show k<x.cells.length by omega)])))
  have d0:wr.cell? ⟨g,o+i*5,hH⟩=T (I N x.k):=aa 0 G;have d1:wr.cell? ⟨g,o+i*5+1,hH⟩=T (I N x.d):=aa 1 G;have d2:wr.cell? ⟨g,o+i*5+2,hH⟩=T (I N x.p):=aa 2 G;have p:wr.cell? ⟨g,o+i*5+3,hH⟩=T (I N x.v):=aa 3 G;have f:wr.cell? ⟨g,o+i*5+4,hH⟩=T (I N x.c):=aa 4 G;have Rf:=O SK;clear ZR a5 QH aa a4 hx SK;obtain⟨P,Q,Rl⟩:=aL m.own;have au:((c.chg.take i).map Chg.val).length=i:=by rw[jh,jy,<-Rz];omega
  rw[au]at Rl;have TB:=O au;subst Rl;clear au
  go_upto_region 5 with fail
  obtain⟨bx,a1⟩:=J wr.heap.size;have ad:=je wr (hF #[I N x.k,I N x.d,I N x.p,I N x.v,I N x.c] 59);have n:=af wr (hF #[I N x.k,I N x.d,I N x.p,I N x.v,I N x.c] 59);have RY:hU ((jZ P i Q).ownBlock≠T bx):=O (bU m.own (.inl (j4 a1.symm)));rw[<-a1]at ad⊢;obtain⟨R,Ru⟩:=J (wr.alloc (hF #[I N x.k,I N x.d,I N x.p,I N x.v,I N x.c] 59));rw[<-Ru]at ad n⊢;have Rp:=n.trans ((aQ R).mono n.size);have Qn:hU (Bld (r+3) r W R.drew ((c.chg.take i).map Chg.val) (A P i Q) us):=O (m.later Y Rp);have E:R.drew.heap[r]?=T (hF #[I N 3,I N 0,hK ⟨#[]⟩,A P i Q] 43 (0,0))/\R.drew.heap[bx]?=T (hF #[I N x.k,I N x.d,I N x.p,I N x.v,I N x.c] 59 (0,0)):=⟨Qn.box,ad⟩;clear ad n Ru a1 m Rp d0 d1 d2 p f;refine jK ?_;refine ib (λF=>F.heap[r]?=T (hF #[I N 3,I N 0,hK ⟨#[]⟩,A P i Q] 43 (0,0))/\F.heap[bx]?=T (hF #[I N x.k,I N x.d,I N x.p,I N x.v,I N x.c] 59 (0,0))) 18 [(0,true),(1,true),(2,true),(3,true),(4,true),(5,true),(6,true),(7,true),(8,true),(9,true),(10,true),(11,true),(12,false),(13,false),(14,false),(15,false),(16,false),(17,true),(18,false)] ae ae ae G (λ_ _ _ _ h=>h) E ?_;generalize R.drew=wa at E Qn⊢;refine bY ?_;refine nJ ?_;refine bY ?_;refine nJ ?_;refine bY ?_;refine nJ ?_;refine bY ?_;refine nJ ?_;refine bY ?_;refine nJ ?_;refine bY ?_;refine nJ ?_;refine aS rfl (λt f=>?_);go_simp;have n:=af wa (hF #[I N x.k,I N x.d,I N x.p,I N x.v,I N x.c] 3);have s:cC (wa.alloc (hF #[I N x.k,I N x.d,I N x.p,I N x.v,I N x.c] 3)) (A (T ⟨wa,0,hH⟩) 5 5) [x.k,x.d,x.p,x.v,x.c]:=Ct wa [x.k,x.d,x.p,x.v,x.c] 3;refine f _ _ ⟨ak E.1 n,ak E.2 n⟩ λS=>?_
  clear f;generalize wa.alloc (hF #[I N x.k,I N x.d,I N x.p,I N x.v,I N x.c] 3)=wb at n s S⊢;have z:=O n;have H:=O s;clear n s;refine L ?_;refine aS rfl (λt f=>?_);go_simp;refine(pI _ _ wb H av).mono ?_;rintro e wc ⟨u1,rfl,D,d⟩;obtain⟨s,cu,rfl⟩:=aL D;refine f _ _ ⟨ak S.1 d,ak S.2 d⟩ λU=>?_
  have Qp:hU (wc.ownsRow wa 43 4 (A s 5 cu) 5 (dB [x.k,x.d,x.p,x.v,x.c])):=O (kX D z.size);have Vs:=ac z d;clear f D d H z S;refine L ?_;refine aS rfl (λt f=>?_);go_simp;refine(iY s 5 cu wc).mono ?_;rintro e wd ⟨rfl,d⟩;refine f _ _ ⟨ak U.1 d,ak U.2 d⟩ λUI=>?_
  have PZ:=aE Qp d;have SY:=ac Vs d;clear f d Qp Vs U;refine L ?_;refine aS rfl (λt f=>?_);go_simp;have n:=af wd (hF #[I N 3,I N 0,hK ⟨#[]⟩,A s 5 cu] 43);have Q4:=ei wd [I N 3,I N 0,hK ⟨#[]⟩,A s 5 cu] 43 (0,0) 4 1 1 rfl (jc _);refine f _ _ ⟨ak UI.1 n,ak UI.2 n⟩ λH=>?_
  clear f;replace Q4:bW (wd.alloc (hF #[I N 3,I N 0,hK ⟨#[]⟩,A s 5 cu] 43)) (A (T ⟨wd,0,hH⟩) 1 1) 4 1 [I N 3,I N 0,hK ⟨#[]⟩,A s 5 cu]:=Q4;generalize wd.alloc (hF #[I N 3,I N 0,hK ⟨#[]⟩,A s 5 cu] 43)=we at n Q4 H⊢;have P5:=aE PZ n;have Sc:=ac SY n;have PT:=O Q4;have PH:=O (Qn.later Y Sc);have Yu:=O (lR (l:=[x.k,x.d,x.p,x.v,x.c]) P5 (Qn.fresh Sc P5));clear n Q4 PZ SY UI;refine L ?_;refine aS rfl (λt f=>?_);rw[if_pos ag];refine ig _ _ rfl (r+3) (A P i Q) _ _ rfl PH.own _ 1 _ rfl PT (by simp[jM]) (by rw[TB];omega) PH.sz λv' wf K=>?_
  have Pj:=K.own;rw[TB]at Pj;obtain⟨pn,cn,rfl⟩:=aL Pj;have a2:=dW H.1 K.grown (bU PH.own (.inr Y));have RO:=dW H.2 K.grown RY;refine f _ _ ⟨a2,RO⟩ λbc=>?_
  replace K:=O K;clear f H Pj;refine L ?_;refine bY ?_;refine gq rfl (λt f=>?_);obtain⟨⟨vo,c3⟩,f3,Yv,UJ⟩:=bP (i:=3) (A pn (i+1) cn) bc.1 av;go_simp;refine f _ _ ?_;have WC:=O (PH.push Y (x:=Chg.val x) Yu K Yv UJ);clear f c3 f3 Yv UJ;refine jJ ?_
  go_wp2_with fail
  refine⟨⟨i+1,_,_,by go_num,by omega,by rw[Rf,j0];exact WC⟩,?_⟩;simp only[jg];omega
 have hd:=ar ((i:Int)<(n1:Int));have PX:=ar (i<n1);have ba:c.chg.take i=c.chg:=jC (by rw[<-Rz];omega);replace m:hU (Bld (r+3) r W wr (c.chg.map Chg.val) vr us):=O (by rw[<-ba];exact m);clear ba V;obtain⟨TV,TU,Rl⟩:=aL m.own;rw[jh,<-Rz]at Rl;subst Rl;have WE:=O m.fin;obtain⟨M2,hM⟩:=J wr.heap.size;have Qk:=O hM;have Vi:(r+3)<=M2:=by rw[hM];exact m.sz
 rw[<-hM]at WE;have bs:hU (∀g,g<w.heap.size->wr.heap[g]?=w.heap[g]?):=O (λg B=>(m.but.block g (aw u) (aw u)).trans (bA g B));replace y:=O (y.keep (m.but.block b (aw SU) (aw SU)));replace C:hU (ic w w wr):=O (C.trans (m.but.below (aw u) (aw u)));have Rv:=O m.box;replace QO:=O ((m.but.block (r+1) Y Y).trans QO);replace QM:=O ((m.but.block (r+2) Y Y).trans QM);clear m;clear hM;rename hQ=>W2;obtain⟨c0,c1,R1,Rq,T8,S7,S8,Vp,Vr⟩:=eK c q X.plen X.clen;replace S7:=y.get S7;obtain⟨ub,⟨Vq,p1,q1,al,UY,bb,Qr⟩,bl⟩:=X.box;have bu:=O bl;clear bl;obtain⟨n2,TA⟩:=J c.box.length;rw[al]at S7;rw[<-TA]at S7 l3 UY;have S0:=O TA;have Pu:=O Qr;clear c0 c1 R1 Rq T8 S8 Vp Vr Vq al bb TA Qr
 go_wp2_with fail
 clear a3 hd PX hi;have Qa:=O (Bld.start (M:=M2) QO (j4 Qk))
 go_loopw [44] (λv wr=>∃(i:Nat) (vr:hZ) (us:List hZ),v=I N i/\i<=n2/\hU (Bld M2 (r+1) W2 wr ((c.box.take i).map Bx.val) vr us)) (λv _=>n2-(jg v).toNat)
 case atStart=>exact⟨0,bE,[],rfl,jL _,Qa⟩
 clear Qa S7;obtain⟨i,vr,us,rfl,hi,m⟩:=hrel
 by_cases a3:i<n2
 ·have hd:=ap ((i:Int)<(n2:Int))
  have PX:=ap (i<n2);obtain⟨g,o,rfl,bk,a4⟩:=Pu (aw S0);obtain⟨x,hx,SK⟩:=mY (l:=c.box) (j:=i) (by rw[<-S0];exact a3);have ZR:g<M2:=aw u;have a5:g≠(r+1):=aw u;have QH:=(m.but.block g ZR a5).trans (bs g bk);obtain⟨ux,Ti,RD⟩:=bu.at (i:=i) (b:=x.body) (by rw[j1,hx];rfl);obtain⟨z,D,rfl⟩:=RD.form;have aa:=λk hk=>(bz (a:=⟨g,o+(i*4+k),hH⟩) QH).trans (a4 (i*4+k) _ ((nZ Bx.cells 4 (λ_ _=>rfl) c.box ub i k x _ hx Ti hk).trans (show(x.cells (A z x.body.length D))[k]?=T ((x.cells (A z x.body.length D)).getD k (I N 0)) by have:(x.cells (A z x.body.length D)).length=4:=rfl;simp[jn,jQ (show k<(x.cells (A z x.body.length D)).length by omega)])))
  have d0:wr.cell? ⟨g,o+i*4,hH⟩=T (I N x.node):=aa 0 G;have d1:wr.cell? ⟨g,o+i*4+1,hH⟩=T (I N x.lev):=aa 1 G;have d2:wr.cell? ⟨g,o+i*4+2,hH⟩=T (I N x.u):=aa 2 G;have p:wr.cell? ⟨g,o+i*4+3,hH⟩=T (A z x.body.length D):=aa 3 G;clear Ti;have Rf:=O SK;clear ZR a5 QH aa a4 hx SK;obtain⟨P,Q,Rl⟩:=aL m.own;have au:((c.box.take i).map Bx.val).length=i:=by rw[jh,jy,<-S0];omega
  rw[au]at Rl;have TB:=O au;subst Rl;clear au
  go_upto_region 10 with fail
  obtain⟨bx,a1⟩:=J wr.heap.size;have ad:=je wr (hF #[I N x.node,I N x.lev,I N x.u,A z x.body.length D] 73);have n:=af wr (hF #[I N x.node,I N x.lev,I N x.u,A z x.body.length D] 73);have RY:hU ((jZ P i Q).ownBlock≠T bx):=O (bU m.own (.inl (j4 a1.symm)));rw[<-a1]at ad⊢;obtain⟨R,Ru⟩:=J (wr.alloc (hF #[I N x.node,I N x.lev,I N x.u,A z x.body.length D] 73));rw[<-Ru]at ad n⊢;have Rp:=n.trans ((aQ R).mono n.size);have Qn:hU (Bld M2 (r+1) W2 R.drew ((c.box.take i).map Bx.val) (A P i Q) us):=O (m.later Y Rp);have bd:hU (BytesAt R.drew (A z x.body.length D) x.body):=O ((RD.keep (λg B=>(Rp.block g (jH (show g<M2 by have:=u.out;omega) m.sz)).trans ((m.but.block g (aw u) (aw u)).trans (bs g B)))).bytes);clear RD;have E:R.drew.heap[(r+1)]?=T (hF #[I N 3,I N 0,hK ⟨#[]⟩,A P i Q] 43 (0,0))/\R.drew.heap[bx]?=T (hF #[I N x.node,I N x.lev,I N x.u,A z x.body.length D] 73 (0,0)):=⟨Qn.box,ad⟩;clear ad n Ru a1 m Rp d0 d1 d2 p;refine jK ?_;refine ib (λF=>F.heap[(r+1)]?=T (hF #[I N 3,I N 0,hK ⟨#[]⟩,A P i Q] 43 (0,0))/\F.heap[bx]?=T (hF #[I N x.node,I N x.lev,I N x.u,A z x.body.length D] 73 (0,0))) 21 [(0,true),(1,true),(2,true),(3,true),(5,true),(6,true),(8,true),(9,true),(10,true),(12,true),(13,true),(14,true),(4,false),(7,false),(11,false),(15,false),(16,false),(17,false),(18,false),(19,false),(20,true),(21,false)] ae ae ae G (λ_ _ _ _ h=>h) E ?_;generalize R.drew=wa at E Qn bd⊢;refine bY ?_;refine rj ?_;refine bY ?_;refine rj ?_;refine bY ?_;refine rj ?_;iterate 2 refine bY ?_
  refine rj ?_;iterate 2 refine bY ?_
  refine rj ?_;refine aS rfl (λt f=>?_);go_simp;refine(gX x.node wa).mono ?_;rintro e bv ⟨rfl,d⟩;refine f _ _ ⟨ak E.1 d,ak E.2 d⟩ λbf=>?_
  have bm:=O (d);have bn:=O (bd.below d);clear f d E bd;refine L ?_;refine aS rfl (λt f=>?_);go_simp;refine(gX x.lev bv).mono ?_;rintro e bw ⟨rfl,d⟩;refine f _ _ ⟨ak bf.1 d,ak bf.2 d⟩ λbg=>?_
  have bo:=ac bm d;have bq:=O (bn.below d);clear f d bf bm bn;refine L ?_;refine aS rfl (λt f=>?_);go_simp;refine(gX x.u bw).mono ?_;rintro e bB ⟨rfl,d⟩;refine f _ _ ⟨ak bg.1 d,ak bg.2 d⟩ λp=>?_
  have V:=ac bo d;have br:=O (bq.below d);clear f d bg bo bq;refine L ?_;refine aS rfl (λt f=>?_);go_simp;refine(sT _ x.body bB br).mono ?_;rintro e wb ⟨rfl,d⟩;refine f _ _ ⟨ak p.1 d,ak p.2 d⟩ λS=>?_
  have bh:=ac V d;clear f d p V br;refine L ?_;refine aS rfl (λt f=>?_);go_simp;have n:=af wb (hF #[I N 1,I N x.node,hK ⟨#[]⟩,A hH 0 0,I N 1,I N x.lev,hK ⟨#[]⟩,A hH 0 0,I N 1,I N x.u,hK ⟨#[]⟩,A hH 0 0,I N 2,I N 0,hK (ofB x.body),A hH 0 0] 43);have V:=iG wb [I N 1,I N x.node,hK ⟨#[]⟩,A hH 0 0,I N 1,I N x.lev,hK ⟨#[]⟩,A hH 0 0,I N 1,I N x.u,hK ⟨#[]⟩,A hH 0 0,I N 2,I N 0,hK (ofB x.body),A hH 0 0] 43 4 4 wa.heap.size bh.size rfl G;refine f _ _ ⟨ak S.1 n,ak S.2 n⟩ λU=>?_
  clear f;replace V:(wb.alloc (hF #[I N 1,I N x.node,hK ⟨#[]⟩,A hH 0 0,I N 1,I N x.lev,hK ⟨#[]⟩,A hH 0 0,I N 1,I N x.u,hK ⟨#[]⟩,A hH 0 0,I N 2,I N 0,hK (ofB x.body),A hH 0 0] 43)).ownsRow wa.heap.size 43 4 (A (T ⟨wb,0,hH⟩) 4 4) 4 [I N 1,I N x.node,hK ⟨#[]⟩,A hH 0 0,I N 1,I N x.lev,hK ⟨#[]⟩,A hH 0 0,I N 1,I N x.u,hK ⟨#[]⟩,A hH 0 0,I N 2,I N 0,hK (ofB x.body),A hH 0 0]:=V;generalize wb.alloc (hF #[I N 1,I N x.node,hK ⟨#[]⟩,A hH 0 0,I N 1,I N x.lev,hK ⟨#[]⟩,A hH 0 0,I N 1,I N x.u,hK ⟨#[]⟩,A hH 0 0,I N 2,I N 0,hK (ofB x.body),A hH 0 0] 43)=wc at n V U⊢;obtain⟨s,Zh⟩:∃p:Option jr,p=T ⟨wb,0,hH⟩:=⟨_,rfl⟩;rw[<-Zh]at V⊢;have Qp:=O V;have Vs:=ac bh n;clear n V Zh S bh;refine L ?_;refine aS rfl (λt f=>?_);go_simp;refine(iY s 4 4 wc).mono ?_;rintro e wd ⟨rfl,d⟩;refine f _ _ ⟨ak U.1 d,ak U.2 d⟩ λUI=>?_
  have PZ:=aE Qp d;have SY:=ac Vs d;clear f d Qp Vs U;refine L ?_;refine aS rfl (λt f=>?_);go_simp;have n:=af wd (hF #[I N 3,I N 0,hK ⟨#[]⟩,A s 4 4] 43);have Q4:=ei wd [I N 3,I N 0,hK ⟨#[]⟩,A s 4 4] 43 (0,0) 4 1 1 rfl (jc _);refine f _ _ ⟨ak UI.1 n,ak UI.2 n⟩ λH=>?_
  clear f;replace Q4:bW (wd.alloc (hF #[I N 3,I N 0,hK ⟨#[]⟩,A s 4 4] 43)) (A (T ⟨wd,0,hH⟩) 1 1) 4 1 [I N 3,I N 0,hK ⟨#[]⟩,A s 4 4]:=Q4;generalize wd.alloc (hF #[I N 3,I N 0,hK ⟨#[]⟩,A s 4 4] 43)=we at n Q4 H⊢;have P5:=aE PZ n;have Sc:=ac SY n;have PT:=O Q4;have PH:=O (Qn.later Y Sc);have Yu:=O (show ao (λg=>M2<=g/\g<we.heap.size/\(jZ P i Q).ownBlock≠T g) we (Bx.val x) (A s 4 4) by
   unfold Bx.val;rw[vL,ao];refine⟨jp 4 bE,ah.of_own P5 (Qn.fresh Sc P5),?_⟩;exact ax.cons (dO _) (ax.cons (dO _) (ax.cons (dO _) (ax.cons (lE _) (ax.nil)))))
  clear n Q4 PZ SY UI;refine L ?_;refine aS rfl (λt f=>?_);rw[if_pos ag];refine ig _ _ rfl M2 (A P i Q) _ _ rfl PH.own _ 1 _ rfl PT (by simp[jM]) (by rw[TB];omega) PH.sz λv' wf K=>?_
  have Pj:=K.own;rw[TB]at Pj;obtain⟨pn,cn,rfl⟩:=aL Pj;have a2:=dW H.1 K.grown (bU PH.own (.inr Y));have RO:=dW H.2 K.grown RY;refine f _ _ ⟨a2,RO⟩ λbc=>?_
  replace K:=O K;clear f H Pj;refine L ?_;refine bY ?_;refine gq rfl (λt f=>?_);obtain⟨⟨vo,c3⟩,f3,Yv,UJ⟩:=bP (i:=3) (A pn (i+1) cn) bc.1 av;go_simp;refine f _ _ ?_;have WC:=O (PH.push Y (x:=Bx.val x) Yu K Yv UJ);clear f c3 f3 Yv UJ;refine jJ ?_
  go_wp2_with fail
  refine⟨⟨i+1,_,_,by go_num,by omega,by rw[Rf,j0];exact WC⟩,?_⟩;simp only[jg];omega
 have hd:=ar ((i:Int)<(n2:Int));have PX:=ar (i<n2);have ba:c.box.take i=c.box:=jC (by rw[<-S0];omega);replace m:hU (Bld M2 (r+1) W2 wr (c.box.map Bx.val) vr us):=O (by rw[<-ba];exact m);clear ba Pu;obtain⟨Ub,T9,Rl⟩:=aL m.own;rw[jh,<-S0]at Rl;subst Rl;have br:=O m.fin;obtain⟨M3,hM⟩:=J wr.heap.size;have QI:=O hM;have Ys:M2<=M3:=by rw[hM];exact m.sz
 rw[<-hM]at br;have bB:hU (∀g,g<w.heap.size->wr.heap[g]?=w.heap[g]?):=O (λg B=>(m.but.block g (aw u) (aw u)).trans (bs g B));replace y:=O (y.keep (m.but.block b (aw SU) (aw SU)));replace C:hU (ic w w wr):=O (C.trans (m.but.below (aw u) (aw u)));replace Rv:=O ((m.but.block r Y Y).trans Rv);have QF:=O m.box;replace WE:=O (ao.keep (λg B=>m.but.block g Y Y) _ _ WE.out);replace QM:=O ((m.but.block (r+2) Y Y).trans QM);clear m;clear hM;rename hQ=>W3;obtain⟨c0,c1,R1,Rq,T8,S7,S8,Vp,Vr⟩:=eK c q X.plen X.clen;replace S8:=y.get S8;obtain⟨ub,⟨Vq,p1,q1,al,UY,bb,Qr⟩,bl⟩:=X.wel;have bu:=O bl;clear bl;obtain⟨n3,TA⟩:=J c.wel.length;rw[al]at S8;rw[<-TA]at S8 l4 UY;have Wk:=O TA;have PM:=O Qr;clear c0 c1 R1 Rq T8 S7 Vp Vr Vq al bb TA Qr
 go_wp2_with fail
 clear a3 hd PX hi;have Qa:=O (Bld.start (M:=M3) QM (j4 QI))
 go_loopw [73] (λv wr=>∃(i:Nat) (vr:hZ) (us:List hZ),v=I N i/\i<=n3/\hU (Bld M3 (r+1+1) W3 wr ((c.wel.take i).map Wl.val) vr us)) (λv _=>n3-(jg v).toNat)
 case atStart=>exact⟨0,bE,[],rfl,jL _,Qa⟩
 clear Qa S8;obtain⟨i,vr,us,rfl,hi,m⟩:=hrel
 by_cases a3:i<n3
 ·have hd:=ap ((i:Int)<(n3:Int))
  have PX:=ap (i<n3);obtain⟨g,o,rfl,bk,a4⟩:=PM (aw Wk);obtain⟨x,hx,SK⟩:=mY (l:=c.wel) (j:=i) (by rw[<-Wk];exact a3);have ZR:g<M3:=aw u;have a5:g≠(r+1+1):=aw u;have QH:=(m.but.block g ZR a5).trans (bB g bk);obtain⟨ux,Ti,RD⟩:=bu.at (i:=i) (b:=x.body) (by rw[j1,hx];rfl);obtain⟨z,D,rfl⟩:=RD.form;have aa:=λk hk=>(bz (a:=⟨g,o+(i*3+k),hH⟩) QH).trans (a4 (i*3+k) _ ((nZ Wl.cells 3 (λ_ _=>rfl) c.wel ub i k x _ hx Ti hk).trans (show(x.cells (A z x.body.length D))[k]?=T ((x.cells (A z x.body.length D)).getD k (I N 0)) by have:(x.cells (A z x.body.length D)).length=3:=rfl;simp[jn,jQ (show k<(x.cells (A z x.body.length D)).length by omega)])))
  have d0:wr.cell? ⟨g,o+i*3,hH⟩=T (I N x.dev):=aa 0 G;have d1:wr.cell? ⟨g,o+i*3+1,hH⟩=T (I N x.u):=aa 1 G;have d2:wr.cell? ⟨g,o+i*3+2,hH⟩=T (A z x.body.length D):=aa 2 G;clear Ti;have Rf:=O SK;clear ZR a5 QH aa a4 hx SK;obtain⟨P,Q,Rl⟩:=aL m.own;have au:((c.wel.take i).map Wl.val).length=i:=by rw[jh,jy,<-Wk];omega
  rw[au]at Rl;have TB:=O au;subst Rl;clear au
  go_upto_region 15 with fail
  obtain⟨bx,a1⟩:=J wr.heap.size;have ad:=je wr (hF #[I N x.dev,I N x.u,A z x.body.length D] 75);have n:=af wr (hF #[I N x.dev,I N x.u,A z x.body.length D] 75);have RY:hU ((jZ P i Q).ownBlock≠T bx):=O (bU m.own (.inl (j4 a1.symm)));rw[<-a1]at ad⊢;obtain⟨R,Ru⟩:=J (wr.alloc (hF #[I N x.dev,I N x.u,A z x.body.length D] 75));rw[<-Ru]at ad n⊢;have Rp:=n.trans ((aQ R).mono n.size);have Qn:hU (Bld M3 (r+1+1) W3 R.drew ((c.wel.take i).map Wl.val) (A P i Q) us):=O (m.later Y Rp);have bd:hU (BytesAt R.drew (A z x.body.length D) x.body):=O ((RD.keep (λg B=>(Rp.block g (jH (show g<M3 by have:=u.out;omega) m.sz)).trans ((m.but.block g (aw u) (aw u)).trans (bB g B)))).bytes);clear RD;have E:R.drew.heap[(r+1+1)]?=T (hF #[I N 3,I N 0,hK ⟨#[]⟩,A P i Q] 43 (0,0))/\R.drew.heap[bx]?=T (hF #[I N x.dev,I N x.u,A z x.body.length D] 75 (0,0)):=⟨Qn.box,ad⟩;clear ad n Ru a1 m Rp d0 d1 d2;refine jK ?_;refine ib (λF=>F.heap[(r+1+1)]?=T (hF #[I N 3,I N 0,hK ⟨#[]⟩,A P i Q] 43 (0,0))/\F.heap[bx]?=T (hF #[I N x.dev,I N x.u,A z x.body.length D] 75 (0,0))) 18 [(0,true),(1,true),(2,true),(3,true),(5,true),(6,true),(7,true),(9,true),(10,true),(11,true),(4,false),(8,false),(12,false),(13,false),(14,false),(15,false),(16,false),(17,true),(18,false)] ae ae ae G (λ_ _ _ _ h=>h) E ?_;generalize R.drew=wa at E Qn bd⊢;refine bY ?_;refine td ?_;refine bY ?_;refine td ?_;iterate 2 refine bY ?_
  refine td ?_;iterate 2 refine bY ?_
  refine td ?_;refine aS rfl (λt f=>?_);go_simp;refine(gX x.dev wa).mono ?_;rintro e bv ⟨rfl,d⟩;refine f _ _ ⟨ak E.1 d,ak E.2 d⟩ λbf=>?_
  have bm:=O (d);have bn:=O (bd.below d);clear f d E bd;refine L ?_;refine aS rfl (λt f=>?_);go_simp;refine(gX x.u bv).mono ?_;rintro e bw ⟨rfl,d⟩;refine f _ _ ⟨ak bf.1 d,ak bf.2 d⟩ λbg=>?_
  have bo:=ac bm d;have bq:=O (bn.below d);clear f d bf bm bn;refine L ?_;refine aS rfl (λt f=>?_);go_simp;refine(sT _ x.body bw bq).mono ?_;rintro e wb ⟨rfl,d⟩;refine f _ _ ⟨ak bg.1 d,ak bg.2 d⟩ λS=>?_
  have bh:=ac bo d;clear f d bg bo bq;refine L ?_;refine aS rfl (λt f=>?_);go_simp;have n:=af wb (hF #[I N 1,I N x.dev,hK ⟨#[]⟩,A hH 0 0,I N 1,I N x.u,hK ⟨#[]⟩,A hH 0 0,I N 2,I N 0,hK (ofB x.body),A hH 0 0] 43);have V:=iG wb [I N 1,I N x.dev,hK ⟨#[]⟩,A hH 0 0,I N 1,I N x.u,hK ⟨#[]⟩,A hH 0 0,I N 2,I N 0,hK (ofB x.body),A hH 0 0] 43 4 3 wa.heap.size bh.size rfl G;refine f _ _ ⟨ak S.1 n,ak S.2 n⟩ λU=>?_
  clear f;replace V:(wb.alloc (hF #[I N 1,I N x.dev,hK ⟨#[]⟩,A hH 0 0,I N 1,I N x.u,hK ⟨#[]⟩,A hH 0 0,I N 2,I N 0,hK (ofB x.body),A hH 0 0] 43)).ownsRow wa.heap.size 43 4 (A (T ⟨wb,0,hH⟩) 3 3) 3 [I N 1,I N x.dev,hK ⟨#[]⟩,A hH 0 0,I N 1,I N x.u,hK ⟨#[]⟩,A hH 0 0,I N 2,I N 0,hK (ofB x.body),A hH 0 0]:=V;generalize wb.alloc (hF #[I N 1,I N x.dev,hK ⟨#[]⟩,A hH 0 0,I N 1,I N x.u,hK ⟨#[]⟩,A hH 0 0,I N 2,I N 0,hK (ofB x.body),A hH 0 0] 43)=wc at n V U⊢;obtain⟨s,Zh⟩:∃p:Option jr,p=T ⟨wb,0,hH⟩:=⟨_,rfl⟩;rw[<-Zh]at V⊢;have Qp:=O V;have Vs:=ac bh n;clear n V Zh S bh;refine L ?_;refine aS rfl (λt f=>?_);go_simp;refine(iY s 3 3 wc).mono ?_;rintro e wd ⟨rfl,d⟩;refine f _ _ ⟨ak U.1 d,ak U.2 d⟩ λUI=>?_
  have PZ:=aE Qp d;have SY:=ac Vs d;clear f d Qp Vs U;refine L ?_;refine aS rfl (λt f=>?_);go_simp;have n:=af wd (hF #[I N 3,I N 0,hK ⟨#[]⟩,A s 3 3] 43);have Q4:=ei wd [I N 3,I N 0,hK ⟨#[]⟩,A s 3 3] 43 (0,0) 4 1 1 rfl (jc _);refine f _ _ ⟨ak UI.1 n,ak UI.2 n⟩ λH=>?_
  clear f;replace Q4:bW (wd.alloc (hF #[I N 3,I N 0,hK ⟨#[]⟩,A s 3 3] 43)) (A (T ⟨wd,0,hH⟩) 1 1) 4 1 [I N 3,I N 0,hK ⟨#[]⟩,A s 3 3]:=Q4;generalize wd.alloc (hF #[I N 3,I N 0,hK ⟨#[]⟩,A s 3 3] 43)=we at n Q4 H⊢;have P5:=aE PZ n;have Sc:=ac SY n;have PT:=O Q4;have PH:=O (Qn.later Y Sc);have Yu:=O (show ao (λg=>M3<=g/\g<we.heap.size/\(jZ P i Q).ownBlock≠T g) we (Wl.val x) (A s 3 3) by
   unfold Wl.val;rw[vL,ao];refine⟨jp 3 bE,ah.of_own P5 (Qn.fresh Sc P5),?_⟩;exact ax.cons (dO _) (ax.cons (dO _) (ax.cons (lE _) (ax.nil))))
  clear n Q4 PZ SY UI;refine L ?_;refine aS rfl (λt f=>?_);rw[if_pos ag];refine ig _ _ rfl M3 (A P i Q) _ _ rfl PH.own _ 1 _ rfl PT (by simp[jM]) (by rw[TB];omega) PH.sz λv' wf K=>?_
  have Pj:=K.own;rw[TB]at Pj;obtain⟨pn,cn,rfl⟩:=aL Pj;have a2:=dW H.1 K.grown (bU PH.own (.inr Y));have RO:=dW H.2 K.grown RY;refine f _ _ ⟨a2,RO⟩ λbc=>?_
  replace K:=O K;clear f H Pj;refine L ?_;refine bY ?_;refine gq rfl (λt f=>?_);obtain⟨⟨vo,c3⟩,f3,Yv,UJ⟩:=bP (i:=3) (A pn (i+1) cn) bc.1 av;go_simp;refine f _ _ ?_;have WC:=O (PH.push Y (x:=Wl.val x) Yu K Yv UJ);clear f c3 f3 Yv UJ;refine jJ ?_
  go_wp2_with fail
  refine⟨⟨i+1,_,_,by go_num,by omega,by rw[Rf,j0];exact WC⟩,?_⟩;simp only[jg];omega
 have hd:=ar ((i:Int)<(n3:Int));have PX:=ar (i<n3);have ba:c.wel.take i=c.wel:=jC (by rw[<-Wk];omega);replace m:hU (Bld M3 (r+1+1) W3 wr (c.wel.map Wl.val) vr us):=O (by rw[<-ba];exact m);clear ba PM;obtain⟨n,o,Rl⟩:=aL m.own;rw[jh,<-Wk]at Rl;subst Rl;have x:=O m.fin;have D:hU (wr.heap[r+1+1]?=T (hF #[I N 3,I N 0,hK ⟨#[]⟩,A n n3 o] 43 (0,0))):=O m.box;have K:hU (wr.heap[r]?=T (hF #[I N 3,I N 0,hK ⟨#[]⟩,A TV n1 TU] 43 (0,0))):=O ((m.but.block r Y Y).trans Rv);have P:hU (wr.heap[r+1]?=T (hF #[I N 3,I N 0,hK ⟨#[]⟩,A Ub n2 T9] 43 (0,0))):=O ((m.but.block (r+1) Y Y).trans QF);have p:=m.sz;have z:=QI.out;have Q:M2<=M3:=Ys;replace WE:hU (ao (λg=>w.heap.size<=g/\g<wr.heap.size) wr (vL (c.chg.map Chg.val)) (A TV n1 TU)):=O (ao.mono (λg B=>⟨by have:=u.out;omega,by omega⟩) _ _ (ao.keep (λg B=>m.but.block g Y Y) _ _ WE.out));replace br:hU (ao (λg=>w.heap.size<=g/\g<wr.heap.size) wr (vL (c.box.map Bx.val)) (A Ub n2 T9)):=O (ao.mono (λg B=>⟨by have:=u.out;omega,by omega⟩) _ _ (ao.keep (λg B=>m.but.block g Y Y) _ _ br.out));replace x:hU (ao (λg=>w.heap.size<=g/\g<wr.heap.size) wr (vL (c.wel.map Wl.val)) (A n n3 o)):=O (ao.mono (λg B=>⟨by have:=u.out;omega,by omega⟩) _ _ x.out);replace y:=O (y.keep (m.but.block b (aw SU) (aw SU)));replace C:hU (ic w w wr):=O (C.trans (m.but.below (aw u) (aw u)));clear p z Q
 go_upto_region 17 with fail
 obtain⟨c0,c1,R1,Rq,T8,S7,S8,Vp,Vr⟩:=eK c q X.plen X.clen;have Q:=O X.path;obtain⟨Vq,R,qp,al,UY,bb,Qr⟩:=X.path;rw[al]at T8 Q;have Qc:hU (Pl[0]?=T (I N c.folder)):=O (by rw[R0];simpa using c0);have PD:hU (Pl[1]?=T (I N c.epoch)):=O (by rw[R0];simpa using c1);have Yt:hU (Pl[34]?=T (I N c.author)):=O (by rw[R0];simpa using R1);have aa:hU (Pl[36]?=T (A R c.path.length qp)):=O (by rw[R0];simpa using T8);have ad:hU (Pl[71]?=T (I N c.r)):=O (by rw[R0];simpa using Vp);have au:hU (Pl[72]?=T (I N c.s)):=O (by rw[R0];simpa using Vr);have p:wr.drew.heap[b]?=T (hF Pl 31 (0,0))/\wr.drew.heap[r]?=T (hF #[I N 3,I N 0,hK ⟨#[]⟩,A TV n1 TU] 43 (0,0))/\wr.drew.heap[r+1]?=T (hF #[I N 3,I N 0,hK ⟨#[]⟩,A Ub n2 T9] 43 (0,0))/\wr.drew.heap[r+1+1]?=T (hF #[I N 3,I N 0,hK ⟨#[]⟩,A n n3 o] 43 (0,0)):=⟨by rw[R0];exact y.blk,K,P,D⟩;have z:hU (ic wr wr wr.drew):=O (aQ wr);clear c0 c1 R1 Rq T8 S7 S8 Vp Vr Vq al UY bb Qr a3 hd PX hi Rv QF K P D m y;refine jK ?_;refine aY (λF=>F.heap[b]?=T (hF Pl 31 (0,0))/\F.heap[r]?=T (hF #[I N 3,I N 0,hK ⟨#[]⟩,A TV n1 TU] 43 (0,0))/\F.heap[r+1]?=T (hF #[I N 3,I N 0,hK ⟨#[]⟩,A Ub n2 T9] 43 (0,0))/\F.heap[r+1+1]?=T (hF #[I N 3,I N 0,hK ⟨#[]⟩,A n n3 o] 43 (0,0))) (.take 0 (.take 1 (.take 3 (.take 4 (.take 6 (.take 7 (.take 9 (.take 10 (.take 12 (.take 13 (.take 14 (.take 17 (.take 18 (.take 19 (.take 20 (.take 22 (.take 23 (.take 24 (.take 26 (.take 27 (.take 28 (.one 2 (.one 5 (.one 8 (.one 11 (.one 15 (.one 16 (.one 21 (.one 25 (.one 29 (.one 30 (.take 31 .done)))))))))))))))))))))))))))))))) ae ae ae G (λ_ _ _ _ h=>h) p ?_;generalize wr.drew=x0 at p z⊢;refine aP ?_
 (refine ay (v:=?_) rfl ag (λF m=>?_) ?_;rotate_left;(have k:=cell_of m.1 Qc;go_simp;with_reducible rfl);refine L ?_)
 refine aP ?_
 (refine ay (v:=?_) rfl ag (λF m=>?_) ?_;rotate_left;(have k:=cell_of m.1 PD;go_simp;with_reducible rfl);refine L ?_)
 iterate 3 refine aP ?_
 (refine ay (v:=?_) rfl ag (λF m=>?_) ?_;rotate_left;(have k:=cell_of m.1 Yt;go_simp;with_reducible rfl);refine L ?_)
 (refine ay (v:=?_) rfl ag (λF m=>?_) ?_;rotate_left;(have y:=cell_of (i:=0) m.2.1 rfl;have D:=cell_of (i:=1) m.2.1 rfl;have K:=cell_of (i:=2) m.2.1 rfl;have P:=cell_of (i:=3) m.2.1 rfl;go_simp;with_reducible rfl);refine L ?_)
 refine aP ?_
 (refine ay (v:=?_) rfl ag (λF m=>?_) ?_;rotate_left;(have k:=cell_of m.1 aa;go_simp;with_reducible rfl);refine L ?_)
 (refine ay (v:=?_) rfl ag (λF m=>?_) ?_;rotate_left;(have y:=cell_of (i:=0) m.2.2.1 rfl;have D:=cell_of (i:=1) m.2.2.1 rfl;have K:=cell_of (i:=2) m.2.2.1 rfl;have P:=cell_of (i:=3) m.2.2.1 rfl;go_simp;with_reducible rfl);refine L ?_)
 (refine ay (v:=?_) rfl ag (λF m=>?_) ?_;rotate_left;(have y:=cell_of (i:=0) m.2.2.2 rfl;have D:=cell_of (i:=1) m.2.2.2 rfl;have K:=cell_of (i:=2) m.2.2.2 rfl;have P:=cell_of (i:=3) m.2.2.2 rfl;go_simp;with_reducible rfl);refine L ?_)
 iterate 4 refine aP ?_
 (refine ay (v:=?_) rfl ag (λF m=>?_) ?_;rotate_left;(have k:=cell_of m.1 ad;go_simp;with_reducible rfl);refine L ?_)
 iterate 2 refine aP ?_
 (refine ay (v:=?_) rfl ag (λF m=>?_) ?_;rotate_left;(have k:=cell_of m.1 au;go_simp;with_reducible rfl);refine L ?_)
 refine ai rfl (λt f=>?_);go_simp;refine(gX c.folder x0).mono ?_;rintro e F ⟨rfl,d⟩;refine f _ _ ⟨ak p.1 d,ak p.2.1 d,ak p.2.2.1 d,ak p.2.2.2 d⟩ λm=>?_
 have y:=ac z d;clear f d p z;refine L ?_;refine ai rfl (λt f=>?_);go_simp;refine(gX c.epoch F).mono ?_;rintro e K ⟨rfl,d⟩;refine f _ _ ⟨ak m.1 d,ak m.2.1 d,ak m.2.2.1 d,ak m.2.2.2 d⟩ λk=>?_
 have p:=ac y d;clear f d m y;refine L ?_;refine ai rfl (λt f=>?_);go_simp;refine(sT _ c.parent K (cD.parent (q:=q) ⟨by rw[<-R0];exact k.1,X.plen,X.clen⟩)).mono ?_;rintro e P ⟨rfl,d⟩;refine f _ _ ⟨ak k.1 d,ak k.2.1 d,ak k.2.2.1 d,ak k.2.2.2 d⟩ λm=>?_
 have y:=ac p d;clear f d k p;refine L ?_;refine ai rfl (λt f=>?_);go_simp;refine(gX c.author P).mono ?_;rintro e x4 ⟨rfl,d⟩;refine f _ _ ⟨ak m.1 d,ak m.2.1 d,ak m.2.2.1 d,ak m.2.2.2 d⟩ λk=>?_
 have p:=ac y d;clear f d m y;refine L ?_;refine ai rfl (λt f=>?_);go_simp;refine(pI c.path _ x4 (ah.ints (Q.keep λg B=>((C.trans (p.mono C.size)).block g B))) Y).mono ?_;rintro e y ⟨up,rfl,m,d⟩;obtain⟨s,cu,rfl⟩:=aL m;have z:hU (y.ownsRow wr 43 4 (A s c.path.length cu) c.path.length (dB c.path)):=O (kX m p.size);refine f _ _ ⟨ak k.1 d,ak k.2.1 d,ak k.2.2.1 d,ak k.2.2.2 d⟩ λE=>?_
 have D:=ac p d;clear m;clear f d k p;refine L ?_;refine ai rfl (λt f=>?_);go_simp;refine(iY s c.path.length cu y).mono ?_;rintro e x6 ⟨rfl,d⟩;refine f _ _ ⟨ak E.1 d,ak E.2.1 d,ak E.2.2.1 d,ak E.2.2.2 d⟩ λS=>?_
 have k:=ac D d;have m:=aE z d;clear f d E D z;refine L ?_;refine ai rfl (λt f=>?_);go_simp;refine(sT _ c.confirm x6 (cD.confirm (q:=q) ⟨by rw[<-R0];exact S.1,X.plen,X.clen⟩)).mono ?_;rintro e x7 ⟨rfl,d⟩;refine f _ _ ⟨ak S.1 d,ak S.2.1 d,ak S.2.2.1 d,ak S.2.2.2 d⟩ λU=>?_
 have p:=ac k d;have z:=aE m d;clear f d S k m;refine L ?_;refine ai rfl (λt f=>?_);go_simp;refine(gX c.r x7).mono ?_;rintro e S ⟨rfl,d⟩;refine f _ _ ⟨ak U.1 d,ak U.2.1 d,ak U.2.2.1 d,ak U.2.2.2 d⟩ λUI=>?_
 have m:=ac p d;have D:=aE z d;clear f d U p z;refine L ?_;refine ai rfl (λt f=>?_);go_simp;refine(gX c.s S).mono ?_;rintro e k ⟨rfl,d⟩;refine f _ _ ⟨ak UI.1 d,ak UI.2.1 d,ak UI.2.2.1 d,ak UI.2.2.2 d⟩ λH=>?_
 have p:=ac m d;have z:=aE D d;clear f d UI m D;refine L ?_;refine ai rfl (λt f=>?_);go_simp;have d:=af k (hF #[I N 1,I N c.folder,hK ⟨#[]⟩,A hH 0 0,I N 1,I N c.epoch,hK ⟨#[]⟩,A hH 0 0,I N 2,I N 0,hK (ofB c.parent),A hH 0 0,I N 1,I N c.author,hK ⟨#[]⟩,A hH 0 0,I N 3,I N 0,hK ⟨#[]⟩,A TV n1 TU,I N 3,I N 0,hK ⟨#[]⟩,A s c.path.length cu,I N 3,I N 0,hK ⟨#[]⟩,A Ub n2 T9,I N 3,I N 0,hK ⟨#[]⟩,A n n3 o,I N 2,I N 0,hK (ofB c.confirm),A hH 0 0,I N 1,I N c.r,hK ⟨#[]⟩,A hH 0 0,I N 1,I N c.s,hK ⟨#[]⟩,A hH 0 0] 43);have V:=iG k [I N 1,I N c.folder,hK ⟨#[]⟩,A hH 0 0,I N 1,I N c.epoch,hK ⟨#[]⟩,A hH 0 0,I N 2,I N 0,hK (ofB c.parent),A hH 0 0,I N 1,I N c.author,hK ⟨#[]⟩,A hH 0 0,I N 3,I N 0,hK ⟨#[]⟩,A TV n1 TU,I N 3,I N 0,hK ⟨#[]⟩,A s c.path.length cu,I N 3,I N 0,hK ⟨#[]⟩,A Ub n2 T9,I N 3,I N 0,hK ⟨#[]⟩,A n n3 o,I N 2,I N 0,hK (ofB c.confirm),A hH 0 0,I N 1,I N c.r,hK ⟨#[]⟩,A hH 0 0,I N 1,I N c.s,hK ⟨#[]⟩,A hH 0 0] 43 4 11 w.heap.size (jw C.size p.size) rfl G;replace V:(k.alloc (hF #[I N 1,I N c.folder,hK ⟨#[]⟩,A hH 0 0,I N 1,I N c.epoch,hK ⟨#[]⟩,A hH 0 0,I N 2,I N 0,hK (ofB c.parent),A hH 0 0,I N 1,I N c.author,hK ⟨#[]⟩,A hH 0 0,I N 3,I N 0,hK ⟨#[]⟩,A TV n1 TU,I N 3,I N 0,hK ⟨#[]⟩,A s c.path.length cu,I N 3,I N 0,hK ⟨#[]⟩,A Ub n2 T9,I N 3,I N 0,hK ⟨#[]⟩,A n n3 o,I N 2,I N 0,hK (ofB c.confirm),A hH 0 0,I N 1,I N c.r,hK ⟨#[]⟩,A hH 0 0,I N 1,I N c.s,hK ⟨#[]⟩,A hH 0 0] 43)).ownsRow w.heap.size 43 4 (A (T ⟨k,0,hH⟩) 11 11) 11 [I N 1,I N c.folder,hK ⟨#[]⟩,A hH 0 0,I N 1,I N c.epoch,hK ⟨#[]⟩,A hH 0 0,I N 2,I N 0,hK (ofB c.parent),A hH 0 0,I N 1,I N c.author,hK ⟨#[]⟩,A hH 0 0,I N 3,I N 0,hK ⟨#[]⟩,A TV n1 TU,I N 3,I N 0,hK ⟨#[]⟩,A s c.path.length cu,I N 3,I N 0,hK ⟨#[]⟩,A Ub n2 T9,I N 3,I N 0,hK ⟨#[]⟩,A n n3 o,I N 2,I N 0,hK (ofB c.confirm),A hH 0 0,I N 1,I N c.r,hK ⟨#[]⟩,A hH 0 0,I N 1,I N c.s,hK ⟨#[]⟩,A hH 0 0]:=V;have D:=O V;refine f _ _ ⟨ak H.1 d,ak H.2.1 d,ak H.2.2.1 d,ak H.2.2.2 d⟩ λbc=>?_
 have m:=ac p d;have t:=aE z d;clear V;clear f d H p z;obtain⟨z,d⟩:=J (k.alloc (hF #[I N 1,I N c.folder,hK ⟨#[]⟩,A hH 0 0,I N 1,I N c.epoch,hK ⟨#[]⟩,A hH 0 0,I N 2,I N 0,hK (ofB c.parent),A hH 0 0,I N 1,I N c.author,hK ⟨#[]⟩,A hH 0 0,I N 3,I N 0,hK ⟨#[]⟩,A TV n1 TU,I N 3,I N 0,hK ⟨#[]⟩,A s c.path.length cu,I N 3,I N 0,hK ⟨#[]⟩,A Ub n2 T9,I N 3,I N 0,hK ⟨#[]⟩,A n n3 o,I N 2,I N 0,hK (ofB c.confirm),A hH 0 0,I N 1,I N c.r,hK ⟨#[]⟩,A hH 0 0,I N 1,I N c.s,hK ⟨#[]⟩,A hH 0 0] 43));rw[<-d]at D m t⊢;clear d bc;refine L ?_;refine aP ?_;refine jJ ?_
 go_wp2_with fail
 go_ret;have d:=λg (B:w.heap.size<=g/\g<wr.heap.size)=>(show w.heap.size<=g/\g<z.heap.size from⟨B.1,jH B.2 m.size⟩)
 have f:=λg (B:w.heap.size<=g/\g<wr.heap.size)=>m.block g B.2
 refine⟨_,rfl,⟨[bE,bE,bE,bE,A TV n1 TU,A s c.path.length cu,A Ub n2 T9,A n n3 o,bE,bE,bE],D,?_⟩,C.trans (m.mono C.size)⟩;have p:ao (λg=>w.heap.size<=g/\g<z.heap.size) z (vL (c.path.map vI)) (A s c.path.length cu):=lR t (λg B=>by
  have h:=t.lt g B;exact⟨jw C.size h.1,h.2⟩)
 exact ax.cons (dO _) (ax.cons (dO _) (ax.cons (lE _) (ax.cons (dO _) (ax.cons (ao.mono d _ _ (ao.keep f _ _ WE.out)) (ax.cons p (ax.cons (ao.mono d _ _ (ao.keep f _ _ br.out)) (ax.cons (ao.mono d _ _ (ao.keep f _ _ x.out)) (ax.cons (lE _) (ax.cons (dO _) (ax.cons (dO _) ax.nil))))))))))
theorem Z{w w':hQ}{g:Nat}{o:Obj}(h:hU (w.heap[g]?=T o))(a:ic w w w'):hU (w'.heap[g]?=T o):=O (ak h a)
def cM(s:ByteArray)(l:List Val):LBy:=cg (aK s) (enc (vL l))
theorem dJ(s l):(cM s l).length=32:=gh _ _
theorem gN(l:List Val):enc (vL l)=3#8::(aX l.length++encs l):=by rw[vL,enc,if_neg G,if_neg G]
structure dy(l:List Val):Prop where
 wf:wfV 16 (vL l)
 len:(enc (vL l)).length<=800000
theorem dy.take{l:List Val}(h:dy l)(i:l.length<128)(k:Nat):dy (l.take k):=by
 have g:=h.wf;have j:=h.len;refine⟨?_,?_⟩
 ·unfold vL at g⊢
  rw[wfV]at g⊢
  rcases g with⟨e,-⟩|⟨e,-⟩|⟨a,b,c,d,f⟩
  ·exact absurd e G
  ·exact absurd e G
  exact .inr (.inr ⟨a,b,c,qH (qI _ _) d,λx m=>f x (List.mem_of_mem_take m)⟩)
 rw[gN]at j⊢;have a:(aX (l.take k).length).length=1:=by rw[iN (qH (qI _ _) i)];rfl
 have b:(aX l.length).length=1:=by rw[iN i];rfl
 have:=pW l k;simp only[jN,jj]at j⊢;omega
theorem dA(l:LBy):(l.map v8).toArray.all (·.oneCell')=true:=by
 rw[Array.all_eq_true_iff_forall_mem];intro a b;exact gs _ a (by simpa using b)
theorem kN(s:ByteArray)(F:s.size<=1000)(l:List Val)(v:hZ)(w:hQ)(a:ao (·<w.heap.size) w (vL l) v)(b:dy l)(d:dH w)(f:fw w):
 jf ih 36 #[hK s,v] w λe w'=>e=jd (ja ((cM s l).map v8).toArray)/\ic w w w':=by
 obtain⟨p,c,rfl⟩:=a.form;have h:(vL l).l.length=l.length:=rfl;rw[h]at a⊢;obtain⟨n,i⟩:=J l.length;rw[<-i]at a⊢;have j:=O a;have g:=O b;have x:=O d;have y:=O f;clear a b d f i h;have b:=je w (hF aI 23);have a:=af w (hF aI 23);have d:(w.alloc (hF aI 23)).heap.size=w.heap.size+1:=by simp
 obtain⟨o,f⟩:=J (w.alloc (hF aI 23));obtain⟨D,h⟩:=J w.heap.size;rw[<-f]at b a d;rw[<-h]at b d;have i:=O b;have k:=O a;have m:=O f;have q:=O h;have u:D<o.heap.size:=Y;clear b a d f h
 go_enter func36,ntmps36
 go_wp2_with fail
 rw[<-m,<-q];refine(iY p n c o).mono ?_;rintro e h ⟨rfl,a⟩;have r:=Z i a;have d:=ac k a;have t:hU (ao (·<h.heap.size) h (vL l) (A p n c)):=O (ao.mono (λb (f:b<w.heap.size)=>jH f d.size) _ _ (ao.keep (λb f=>d.block b f) _ _ j.out));clear a k i u m
 go_wp2_with fail
 refine(vB (vL l) _ 3 h rfl g.wf t (a8 g.len)).mono ?_;rintro e z ⟨H,rfl,b,a⟩;have u:=Z r a;have f:=ac d a;have B:=O (BytesAt.of_own b);obtain⟨K,M,rfl⟩:=aL b;clear a b d r t j
 go_wp2_with fail
 refine(ot s Y _ (enc (vL l)) (a8 g.len) z B (x.below f (jc _)) (y.below f (jc _))).mono ?_;rintro e d ⟨rfl,a⟩;have r:=Z u a;have t:=ac f a;have i:((cg (aK s) (enc (vL l))).map v8).toArray.size=32:=by rw[jq,jh,gh]
 have j:=dA (cg (aK s) (enc (vL l)));obtain⟨b,k⟩:=J (((cg (aK s) (enc (vL l))).map v8).toArray);rw[<-k]at i j⊢;have C:=O k;have m:=O i;have E:=O j;clear k i j a u f
 go_wp2_with (refine js rfl λ_ a=>jD 23 _ _ rfl D b rfl rfl 23 _ r.out (by rw[m];rfl) (by rw[m];simp) E (a _ _ ?_))
 have a:(d.setRow D b).heap[D]?=T (hF b 23 (0,0)):=jt _ _ _ _ _ _ r.out;have f:ic w w (d.setRow D b):=jv t.out (by rw[q];exact jc _) _;generalize d.setRow D b=k at a f⊢;have i:=O f;have j:=O a;clear a f
 go_wp2_with fail
 refine jI (v:=ja b) ?_ rfl ?_
 ·exact jX rfl _ _ _ 23 _ (0,0) _ rfl j qB rfl (by rw[m];rfl)
 exact⟨by rw[C];rfl,i⟩
theorem ah.take{D:Nat->Prop}{w:hQ}{p:Option jr}{n c sz:Nat}{xs:List hZ}(h:ah D w (A p n c) sz n xs){k:Nat}(hk:k<=n):ah D w (A p k c) sz k (xs.take (k*sz)):=by
 obtain⟨b,s,t,e,u,d,f⟩:=h;injection e with i v l
 subst i;subst l;refine⟨?_,p,c,rfl,by omega,d,λx=>?_⟩
 ·rw[jy,b,jU (j9 _ hk)]
 obtain⟨g,o,e,m,q⟩:=f Y;refine⟨g,o,e,m,λj r a=>q j r ?_⟩;rw[List.getElem?_take]at a
 split at a
 ·exact a
 cases a
theorem DF:∀(l:List Val) (a:List hZ) (k:Nat),a.length=l.length->aW (l.take k) (a.take k)=(aW l a).take (k*4)
 |[],a,k,h=>by
  have:a=[]:=qG (by simpa using h);subst this;simp[aW]
 |x::l,[],k,h=>by simp at h
 |x::l,b::a,0,h=>by simp[aW]
 |x::l,b::a,k+1,h=>by
  have c:(ee x b).length=4:=rfl;simp only[qg,aW,DF l a k (by simpa using h)];have e:qh ((k+1)*4) (ee x b)=ee x b:=jC (by rw[c];omega);rw[qJ,c,show(k+1)*4-4=k*4 by omega,e]
theorem ax.take{D:Nat->Prop}{w:hQ}:∀{l:List Val} {a:List hZ} (k:Nat),ax D w l a->ax D w (l.take k) (a.take k)
 |[],a,k,h=>by rw[ax]at h;subst h;simp[ax]
 |x::l,a,0,h=>by simp[ax]
 |x::l,a,k+1,h=>by
  rw[ax]at h;obtain⟨b,e,rfl,c,d⟩:=h;simp only[qg];rw[ax];exact⟨b,_,rfl,c,ax.take k d⟩
theorem sy{w:hQ}{B sz n:Nat}{e:jl}{v:hZ}{xs:List hZ}(h:w.ownsRow B e sz v n xs)(i:0<n):∃g c,v=A (T ⟨g,0,hH⟩) n c/\n<=c/\B<=g/\g<w.heap.size:=by
 rcases h.2 with⟨rfl,j⟩|⟨g,a,k,rfl,b,d,f,-⟩
 ·omega
 exact⟨g,a,rfl,f,b,(jk.1 d).1⟩
theorem oW(c:Cmt):(aA c).length=11:=rfl
theorem ik.val{w w':hQ}{c:Cmt}{p:Option jr}{n d:Nat}(h:ik w w' c (A p n d))(k:Nat)(hk:k<=11):n=11/\ao (·<w'.heap.size) w' (vL ((aA c).take k)) (A p k d):=by
 obtain⟨j,a,f⟩:=h;obtain⟨_,_,e⟩:=aL a;injection e with o l q
 subst l;have m:=f.len;refine⟨rfl,?_⟩;rw[vL,ao];have i:=(ah.of_own (D:=(·<w'.heap.size)) a (λg b=>(a.lt g b).2)).take hk;rw[<-DF _ _ _ m]at i;refine⟨j.take k,?_,ax.mono (λg b=>b.2) _ _ (f.take k)⟩;rw[jy,oW,jU hk];exact i
theorem uW{l:List Val}{x:Val}(h:x∈l):(enc x).length<=(encs l).length:=by
 obtain⟨i,a⟩:=List.getElem?_of_mem h;have b:=pW l (i+1);rw[pO a,jj]at b;omega
theorem G8(l:List Val):l.length<=(enc (vL l)).length:=by
 have:=nS l;rw[gN,jN,jj];omega
theorem dy.lens{c:Cmt}(h:dy (aA c)):c.chg.length<=1000000/\c.path.length<=1000000/\c.box.length<=1000000/\c.wel.length<=1000000:=by
 have g:=h.len;have k:∀l:List Val,vL l∈aA c->l.length<=1000000:=λl f=>by
  have a:=uW f;have b:=G8 l;have d:(encs (aA c)).length<=(enc (vL (aA c))).length:=by rw[gN,jN,jj];omega
  omega
 have a:=k (c.chg.map Chg.val) (by simp[aA]);have b:=k (c.path.map vI) (by simp[aA]);have d:=k (c.box.map Bx.val) (by simp[aA]);have e:=k (c.wel.map Wl.val) (by simp[aA]);rw[jh]at a b d e;exact⟨a,b,d,e⟩
structure cJ(w:hQ):Prop where
 num:dH w
 start:fw w
theorem cJ.below{w w':hQ}(h:cJ w)(a:ic w w w'):cJ w':=⟨h.num.below a (jc _),h.start.below a (jc _)⟩
def oy:ByteArray:=⟨#[99,111,109,109,105,116]⟩
def pj:ByteArray:=⟨#[99,111,109,109,105,116,32,115,105,103,110]⟩
def idC(c:Cmt):LBy:=cM oy (aA c)
def dk(c:Cmt):LBy:=cM pj ((aA c).take 9)
theorem pg(c):(idC c).length=32:=dJ _ _
theorem Iu(c):(dk c).length=32:=dJ _ _
theorem dZ:(ih.info? 31).map (·.size)=T 73:=by kernel_rfl
theorem sd(c:Cmt)(q:CQ)(w:hQ)(h:az (·<w.heap.size) w c q)(m:dy (aA c))(n:cJ w):
 jf ih 11 #[ja (aj c q).toArray] w λe w'=>e=jd (ja ((idC c).map v8).toArray)/\ic w w w':=by
 have y:=O h;have o:=O m;have r:=O n;obtain⟨d,i⟩:=J ((aj c q).toArray);rw[<-i];have s:=O i;have p:d.size=73:=by rw[i,jq,eA c q h.plen h.clen]
 have z:=O p;have f:=je w (hF d 31);have g:=je (w.alloc (hF d 31)) (hF aI 23);have a:ic w w ((w.alloc (hF d 31)).alloc (hF aI 23)):=((ju _ w).alloc (jc _) _).alloc av _;replace f:=ak f (af (w.alloc (hF d 31)) (hF aI 23));rw[jo]at g;obtain⟨B,j⟩:=J ((w.alloc (hF d 31)).alloc (hF aI 23));obtain⟨b,k⟩:=J w.heap.size;rw[<-j]at g a f;rw[<-k]at g f;have t:=O g;have l:=O a;have u:=O f;have v:=O j;have x:=O k;clear g a j k f i p h m n
 go_enter func11,ntmps11
 go_upto_region 1 with fail
 rw[<-v,<-x];clear v
 go_wp2_with (refine jO rfl 31 _ rfl b rfl 31 d (0,0) _ u.out underlying31 rfl (by rw[z];exact dZ) ?_)
 obtain⟨h,i,j,k⟩:=o.lens;rw[s];refine(nH c q B (y.below l) h i j k).mono ?_;rintro e C ⟨v,rfl,f,a⟩;obtain⟨p,m,rfl⟩:∃p m,v=A p 11 m:=by obtain⟨K,D,-⟩:=f;exact aL D
 have E:=O f;have n:=Z t a;have g:=ac l a;rw[<-s];clear f a t l u h i j k
 go_wp2_with fail
 refine(kN oy G (aA c) _ C (E.val 11 (jc _)).2 o (r.below g).num (r.below g).start).mono ?_;rintro e h ⟨rfl,a⟩;have t:=Z n a;have u:=ac g a;have i:((cM oy (aA c)).map v8).toArray.size=32:=by rw[jq,jh,dJ]
 have j:=dA (cM oy (aA c));obtain⟨f,k⟩:=J (((cM oy (aA c)).map v8).toArray);rw[<-k]at i j⊢;have F:=O k;have l:=O i;have H:=O j;clear k i j a n g
 go_wp2_with (refine js rfl λ_ a=>jD 23 _ _ rfl (b+1) f rfl rfl 23 _ t.out (by rw[l];rfl) (by rw[l];simp) H (a _ _ ?_))
 have a:(h.setRow (b+1) f).heap[b+1]?=T (hF f 23 (0,0)):=jt _ _ _ _ _ _ t.out;have g:ic w w (h.setRow (b+1) f):=jv u.out (by rw[x];omega) _;generalize h.setRow (b+1) f=k at a g⊢;have i:=O g;have j:=O a;clear a g
 go_wp2_with fail
 refine jI (v:=ja f) ?_ rfl ?_
 ·exact jX rfl _ _ _ 23 _ (0,0) _ rfl j qB rfl (by rw[l];rfl)
 exact⟨by rw[F];rfl,i⟩
theorem sZ{P:jE}(t e:jl)(k:Nat)(a:P.underlying t=T (.slice e))(b:∀w,(sizeOf e).run P w=.ok k w)(g o n c h:Nat)(d:h<=c)(W:hQ):
 (Instr.sliceAt t (A (T ⟨g,o,hH⟩) n c) hH (T (I N (h:Int))) hH).run P W=.ok (A (T ⟨g,o,hH⟩) h c) W:=by
 have he:P.elem t=e:=by simp[Program.elem,a]
 rw[qC W t _ _ _ _ (by rw[he];exact a),run_slice_h W t _ n c (by rw[he];exact a) .i64 _ Y Y,he];simp[b,Result.andThen,sliced,Addr.add]
 try(split<;>simp_all)
theorem tw:∀w,(sizeOf 43).run ih w=.ok 4 w:=λw=>by go_simp
theorem lV{W:hQ}{D:Nat}{l:LBy}(h:W.heap[D]?=T (hF (l.map v8).toArray 23 (0,0)))(a:l.length=32):BytesAt W (A (T ⟨D,0,hH⟩) 32 32) l:=by
 refine⟨_,32,by rw[a],by rw[a];exact jc _,(λh=>by cases h),λ_=>⟨D,0,rfl,λj b=>cell_of h ?_⟩⟩;rw[ji];simp[jn,b]
theorem DI(c:Cmt)(q:CQ)(w:hQ)(f:az (·<w.heap.size) w c q)(l:dy (aA c))(m:cJ w):
 jf ih 49 #[ja (aj c q).toArray] w λe w'=>∃D,e=jd (A (T ⟨D,0,hH⟩) 32 32)/\BytesAt w' (A (T ⟨D,0,hH⟩) 32 32) (dk c)/\ic w w w':=by
 have y:=O f;have o:=O l;have p:=O m;obtain⟨i,g⟩:=J ((aj c q).toArray);rw[<-g];have r:=O g;have n:i.size=73:=by rw[g,jq,eA c q f.plen f.clen]
 have z:=O n;have d:=je w (hF i 31);have a:=af w (hF i 31);obtain⟨B,h⟩:=J (w.alloc (hF i 31));obtain⟨b,j⟩:=J w.heap.size;rw[<-h]at a d;rw[<-j]at d;have k:=O a;have s:=O d;have t:=O h;have C:=O j;clear a h j d g n f l m
 go_enter func49,ntmps49
 go_upto_region 1 with fail
 rw[<-t,<-C];clear t
 go_wp2_with (refine jO rfl 31 _ rfl b rfl 31 i (0,0) _ s.out underlying31 rfl (by rw[z];exact dZ) ?_)
 obtain⟨m,n,t,u⟩:=o.lens;rw[r];refine(nH c q B (y.below k) m n t u).mono ?_;rintro e E ⟨v,rfl,j,a⟩;obtain⟨l,f,rfl,P⟩:∃g f,v=A (T ⟨g,0,hH⟩) 11 f/\11<=f:=by
  obtain⟨H,h,-⟩:=j;obtain⟨g,c,x,F,-⟩:=sy h G;exact⟨g,c,x,F⟩
 have F:=O j;have h:=ac k a;have H:∀W,(Instr.sliceAt 41 (A (T ⟨l,0,hH⟩) 11 f) hH (T (I N 9)) hH).run ih W=.ok (A (T ⟨l,0,hH⟩) 9 f) W:=λW=>sZ 41 43 4 qA tw l 0 11 f 9 Y W
 rw[<-r];clear j a k s m n t u
 go_wp2_with fail
 refine(kN pj G ((aA c).take 9) _ E (F.val 9 G).2 (o.take (by rw[oW];decide) 9) (p.below h).num (p.below h).start).mono ?_;rintro e j ⟨rfl,a⟩;have s:=ac h a;have t:((cM pj ((aA c).take 9)).map v8).toArray.size=32:=by rw[jq,jh,dJ]
 have k:=dA (cM pj ((aA c).take 9));obtain⟨m,n⟩:=J (((cM pj ((aA c).take 9)).map v8).toArray);rw[<-n]at t k⊢;have u:=O n;have Q:=uS j aI m rfl t k;have x:=je j (hF m 23);have K:=O x;have M:=O (s.trans ((af j (hF m 23)).mono s.size));clear n a h k x H
 go_wp2_with fail
 go_ret;have h:=K.out;rw[u]at h;have d:=lV h (dJ _ _);rw[<-u]at d;refine⟨j.heap.size,rfl,?_,M⟩;exact d
structure Wrote(b:Nat)(a:LBy)(w w':hQ):Prop where
 buf:Buf b a w'
 bel:ic b w w'
theorem Eo(k:LBy)(g:Nat){W:hQ}{t:jl}(h:W.heap[g]?=T (hF (k.map v8).toArray t (0,0))):∀j v,(k.map v8)[j]?=T v->W.cell? ((⟨g,0,hH⟩:jr).add j)=T v:=by
 intro j v a;have e:(⟨g,0,hH⟩:jr).add j=⟨g,j,hH⟩:=by unfold Addr.add;split<;>simp_all
 rw[e];exact cell_of h (by rw[List.getElem?_toArray];exact a)
theorem CX(b:Nat)(a cs:LBy)(g n c:Nat)(w:hQ)(h:Buf b a w)(d:cs.length=n)(f:g≠b)(i:∀j v,(cs.map v8)[j]?=T v->w.cell? ((⟨g,0,hH⟩:jr).add j)=T v)(l:a.length+n<=1000000):
 jf ih 104 #[jm (T ⟨b,0,hH⟩),A (T ⟨g,0,hH⟩) n c] w λe w'=>e=jd (jG #[I N n,.nilIface])/\Wrote b (a++cs) w w':=by
 refine(Tryz.Buffer_Write_at _ _ b b 0 (a.map v8) (cs.map v8) ⟨g,0,hH⟩ n c w h (kl h.lt) (pZ _) (by rw[jh];exact d) f i (pZ _) (by rw[jh];omega)).mono ?_;rintro e w' ⟨rfl,j,k,-⟩;exact⟨rfl,by unfold Buf;rw[j0];exact j,k⟩
theorem rF(b:Nat)(a k:LBy)(w:hQ)(h:Buf b a w)(hk:k.length=32)(q:a.length<=900000):
 jf ih 103 #[jm (T ⟨b,0,hH⟩),ja (k.map v8).toArray] w λe w'=>e=jd (jm (T ⟨b,0,hH⟩))/\Wrote b (a++k) w w':=by
 obtain⟨i,l⟩:=J ((k.map v8).toArray);rw[<-l];have o:=h.lt;have d:=af w (hF i 55);have m:=je w (hF i 55);obtain⟨c,f⟩:=J (w.alloc (hF i 55));obtain⟨g,n⟩:=J w.heap.size;have r:=O f;have s:=O n;rw[<-f]at d;rw[<-f,<-n]at m;have t:hU (g≠b):=O Y;have p:=O (h.keep d);have u:=O (d.mono (kl o));have x:hU (∀j v,(k.map v8)[j]?=T v->c.cell? ((⟨g,0,hH⟩:jr).add j)=T v):=O (Eo k g (by rw[<-l];exact m));have v:=O hk;have y:hU (a.length+32<=1000000):=O Y;clear l h o d m f n hk q
 go_enter func103,ntmps103
 go_upto_region 1 with fail
 rw[<-r,<-s];refine jK ?_;refine aY (λd=>True) (.take 0 (.take 1 (.take 2 (.take 3 (.one 4 .done))))) ae ae ae G (λ_ _ _ _ h=>h) trivial ?_;iterate 4 refine aC ?_
 refine ai rfl (λd f=>?_);go_simp;refine(CX b a k g 32 32 c.drew (p.keep (aQ c)) v t x y).mono ?_;rintro e l ⟨rfl,d⟩;have j:hU (Wrote b (a++k) c l):=O ⟨d.buf,((aQ c).mono (kl p.lt)).trans d.bel⟩;clear d;refine f _ _ trivial λ_=>?_
 clear f;refine L ?_;refine jJ ?_
 go_wp2_with fail
 go_ret;exact⟨rfl,j.buf,u.trans j.bel⟩
theorem zQ(b:Nat)(a:LBy)(s:ByteArray)(B:s.size<=100000)(w:hQ)(h:Buf b a w)(C:a.length<=900000)(t:cJ w):
 jf ih 105 #[jm (T ⟨b,0,hH⟩),hK s] w λe w'=>e=jd (ja ((cg (aK s) a).map v8).toArray)/\ic w w w':=by
 obtain⟨g,i⟩:=J (cg (aK s) a);have j:=gh (aK s) a;rw[<-i]at j⊢;have k:(g.map v8).toArray.size=32:=by rw[jq,jh,j]
 have l:(g.map v8).toArray.all (·.oneCell')=true:=by
  rw[List.all_toArray,List.all_eq_true];exact λc d=>pZ _ c d
 obtain⟨m,n⟩:=J ((g.map v8).toArray);rw[<-n]at k l⊢;have D:=O n;have E:=O i;have o:=O k;have F:=O l;have c:=af w (hF aI 55);have p:=je w (hF aI 55);obtain⟨H,d⟩:=J (w.alloc (hF aI 55));obtain⟨f,q⟩:=J w.heap.size;have K:=O d;rw[<-d]at c;rw[<-d,<-q]at p;have u:=O (h.keep c);have x:=O (t.below c);have y:=O c;have r:=O p;have z:=O q;clear h c p t n i j k l d q
 go_enter func105,ntmps105
 go_wp2_with fail
 rw[<-K,<-z];refine(Mv b a H u).mono ?_;rintro e l ⟨v,rfl,d,c⟩;have h:=ot s B v a C l (BytesAt.of_own (by rw[jh]at d;exact d)) (x.below c).num (x.below c).start;rw[<-E,<-D]at h;have j:=O h;have i:=O ((c.block _ (jk.1 r).1).trans r);have k:=ac y c;clear c r y u h d
 go_wp2_with fail
 refine j.mono ?_;rintro e h ⟨rfl,c⟩;have d:=O ((c.block _ (jk.1 i).1).trans i);have n:=ac k c;clear c i k j
 go_wp2_with (refine js rfl λ_ c=>jD 55 _ _ rfl f m rfl rfl 55 _ d.out (by rw[o];rfl) (by rw[o];rfl) F (c _ _ ?_))
 have c:(h.setRow f m).heap[f]?=T (hF m 55 (0,0)):=jt _ _ _ _ _ _ d.out;refine jI (jX rfl _ _ f 55 _ (0,0) _ rfl c jz rfl (by rw[o];rfl)) rfl ?_;exact⟨rfl,jv n.out (by rw[z];exact jc _) _⟩
def iz(s:ByteArray)(nums:List Int):Val:=vL (.mk 2 0 s []::nums.map vI)
def eI(k:LBy)(s:ByteArray)(nums:List Int):LBy:=cg (aK ⟨#[100,101,114,105,118,101]⟩) (k++enc (iz s nums))
theorem m0(k s nums):(eI k s nums).length=32:=gh _ _
def iE(s:ByteArray)(nums:List Int):List hZ:=[I N 2,I N 0,hK s,A hH 0 0]++dB nums
theorem Nx{D:Nat->Prop}{w:hQ}{B:Nat}{a:hZ}{s:ByteArray}{nums:List Int}(b:w.ownsRow B 43 4 a (nums.length+1) (iE s nums))(c:∀g,a.ownBlock=T g->D g):ao D w (iz s nums) a:=by
 rw[iz,vL,ao];refine⟨bE::jp nums.length bE,?_,?_⟩
 ·rw[jN,jh];exact ah.of_own b c
 rw[ax];refine⟨bE,_,rfl,?_,tF nums⟩;rw[ao];exact⟨[],⟨rfl,hH,0,rfl,jc _,λ_=>rfl,λh=>absurd h G⟩,by rw[ax]⟩
structure wP(s:ByteArray)(nums:List Int):Prop where
 wf:wfV 16 (iz s nums)
 len:(enc (iz s nums)).length<=800000
 cnt:nums.length<=100000
theorem L9(s:ByteArray)(l:List Int)(n:Int):iE s (l++[n])=iE s l++[I N 1,I N n,hK ⟨#[]⟩,A hH 0 0]:=by
 unfold iE;rw[yz,jP]
theorem Je{w:hQ}{B sz n:Nat}{e:jl}{v:hZ}{xs:List hZ}(h:w.ownsRow B e sz v n xs)(m:0<n):∃g c,v=A (T ⟨g,0,hH⟩) n c/\B<=g/\g<w.heap.size/\∀j b,xs[j]?=T b->w.cell? ((⟨g,0,hH⟩:jr).add j)=T b:=by
 rcases h.2 with⟨rfl,o⟩|⟨g,f,p,rfl,i,d,q,r,s,k⟩
 ·omega
 refine⟨g,f,rfl,i,(jk.1 d).1,λj b a=>?_⟩;have e:(⟨g,0,hH⟩:jr).add j=⟨g,j,hH⟩:=by unfold Addr.add;split<;>simp_all
 rw[e];refine cell_of d ?_;rw[<-k]at a;have l:=(ol.1 a).1;rw[jy]at l;rw[List.getElem?_take_of_lt Y]at a;rw[<-a];simp
theorem BO{w w':hQ}{g:Nat}{xs:List hZ}(h:∀j a,xs[j]?=T a->w.cell? ((⟨g,0,hH⟩:jr).add j)=T a)(hk:w'.heap[g]?=w.heap[g]?):∀j a,xs[j]?=T a->w'.cell? ((⟨g,0,hH⟩:jr).add j)=T a:=by
 intro j a b;have e:(⟨g,0,hH⟩:jr).add j=⟨g,j,hH⟩:=by unfold Addr.add;split<;>simp_all
 have:=h j a b;rw[e]at this⊢;exact(bz hk).trans this
theorem oA(k:LBy)(hk:k.length=32)(s:ByteArray)(l:List Int)(v:hZ)(w:hQ)(hv:cC w v l)(f:wP s l)(E:cJ w):
 jf ih 44 #[ja (k.map v8).toArray,hK s,v] w λe w'=>e=jd (ja ((eI k s l).map v8).toArray)/\ic w w w':=by
 obtain⟨p,c,rfl,hc,r⟩:=hv;obtain⟨n,t⟩:=J l.length;have hl:=f.cnt;rw[<-t]at hc hl r⊢;have z:=O t;have B:=O f;have U:=O r;have C:=O hk;obtain⟨h,g⟩:=J ((k.map v8).toArray);have K:h.size=32:=by rw[g,jq,jh,hk]
 have u:=af w (hF h 55);have x:=je w (hF h 55);have y:=af (w.alloc (hF h 55)) (hF aI 55);have b:=je (w.alloc (hF h 55)) (hF aI 55);rw[jo]at b;obtain⟨a,i⟩:=J ((w.alloc (hF h 55)).alloc (hF aI 55));obtain⟨d,o⟩:=J w.heap.size;have q:=(y.block _ (jk.1 x).1).trans x;have m:=O (u.trans (y.mono u.size));have M:a.heap.size=d+1+1:=by rw[i,o];simp
 rw[<-o]at q b;rw[<-i]at q b m;rw[<-g];have V:=O g;have P3:=O i;have F:=O o;have Rc:=O q;have Pr:=O b;have H:=O E;have Py:=O K;have j:=O M;clear t f r hk g u x y b i o q E K M
 go_enter func44,ntmps44
 go_upto_region 2 with fail
 rw[<-P3,<-F];have b:=af a (hF #[I N 2,I N 0,hK s,A hH 0 0] 43);have g:(a.alloc (hF #[I N 2,I N 0,hK s,A hH 0 0] 43)).ownsRow a.heap.size 43 4 (A (T ⟨d+1+1,0,hH⟩) 1 1) 1 (iE s []):=by
  rw[<-j];refine⟨by simp[iE,dB,aW],.inr ⟨a.heap.size,1,_,rfl,jc _,je a _,jc _,by unfold jW;omega,rfl,by simp[iE,dB,aW]⟩⟩
 obtain⟨W2,i⟩:=J (a.alloc (hF #[I N 2,I N 0,hK s,A hH 0 0] 43));rw[<-i]at b g⊢;have O4:=O b;have W:=O g;obtain⟨v2,o⟩:=J (jZ (T ⟨d+1+1,0,hH⟩) 1 1);rw[<-o]at W⊢;have ba:=b.size;clear b g i o
 go_wp2_with fail
 go_loopw [7,18] (λg b wr=>∃(i:Nat) (K:hZ),g=K/\b=I N i/\i<=n/\hU (wr.ownsRow a 43 4 K (i+1) (iE s (l.take i)))/\hU (ic a a wr)) (λ_ b _=>n-(jg b).toNat)
 case atStart=>exact⟨0,_,rfl,rfl,jL _,O (by rw[qi];exact W),O4⟩
 obtain⟨i,K,rfl,rfl,hi,t,q⟩:=hrel
 by_cases X:i<n
 ·have hd:=ap ((i:Int)<(n:Int))
  have PX:=ap (i<n);obtain⟨g,o,rfl,u⟩:=U Y;have r:i<l.length:=by rw[<-z];exact X
  have E:l.getD i 0=l[i]:=by simp[jn,r]
  obtain⟨y,x⟩:=J (l.getD i 0);have b:=u i X;rw[<-x]at b;have M:wr.cell? ⟨g,o+i,hH⟩=T (I N y):=(bz (q.block g (jH (eN b) m.size))).trans ((bz (m.block g (eN b))).trans b);have H:hU (iE s (l.take (i+1))=iE s (l.take i)++[I N 1,I N y,hK ⟨#[]⟩,A hH 0 0]):=O (by
   rw[j8 r,L9,x,E])
  have P:=q.size;clear E x b u r U
  go_wp2_with (at_builtin;refine Hid.out ?_)
  refine O ?_;refine js rfl λ_ x=>ig _ _ rfl a.heap.size _ _ _ rfl (cZ t (af wr _)) _ 1 [I N 1,I N y,hK ⟨#[]⟩,A hH 0 0] rfl (ei wr [I N 1,I N y,hK ⟨#[]⟩,A hH 0 0] _ _ 4 1 1 rfl (jc _)) (by simp[jM]) (show i+1+1<=4000000 by omega) (by rw[jo];omega) λE w6 b=>x _ _ ?_
  have r:=O (q.trans (((af wr _).mono (show a.heap.size<=wr.heap.size by omega)).trans (b.below (cZ t (af wr _)) (by rw[jo];omega))));replace b:=O b.own;clear x
  go_wp2_with fail
  refine⟨⟨i+1,_,rfl,by go_num,by omega,O (by rw[H];exact b),r⟩,?_⟩;simp only[jg];omega
 have hd:=ar ((i:Int)<(n:Int));have PX:=ar (i<n);have o:i=n:=Y;have b:=t.out;rw[o,jC (by rw[<-z];exact jc _),z]at b;obtain⟨p7,c7,rfl⟩:=aL b;have y:=Nx (D:=(·<wr.heap.size)) b (λg u=>(b.lt g u).2);have aa:=O (vB (iz s l) _ 3 wr rfl B.wf y (a8 B.len));have bb:=O o;clear o b y t
 go_wp2_with fail
 refine aa.mono ?_;rintro e u ⟨vb,rfl,QA,b⟩;have o:=ac q b;clear b
 go_upto_region 9 with fail
 have y:=Buf.new u;have g:=af u (hF #[A hH 0 0,I N 0,.int .i8 0] 184);obtain⟨M,Te⟩:=J (u.alloc (hF #[A hH 0 0,I N 0,.int .i8 0] 184));obtain⟨b,P⟩:=J u.heap.size;rw[<-Te]at y g⊢;rw[<-P]at y⊢;have ad:=o.size;have Q:M.heap[d]?=T (hF h 55 (0,0)):=(g.block _ (aw j)).trans ((o.block _ (aw j)).trans Rc);have al:M.heap[d+1]?=T (hF aI 55 (0,0)):=(g.block _ (aw j)).trans ((o.block _ (aw j)).trans Pr);have au:=Q;rw[V]at Q;obtain⟨R,cb,e3,a5,S,t⟩:=Je QA (An _);subst e3;have a1:R<b:=by rw[P];exact S
 replace t:=BO t (g.block _ S);obtain⟨E,f⟩:=J (enc (iz s l));have a2:E.length<=800000:=by rw[f];exact B.len
 rw[<-f]at t⊢;have a3:=O y;have ZS:=O au;have Qs:=O al;have Sw:=O t;have Wd:=O f;have WP:=O a1;have Yi:=O a2;have Pf:=O (m.trans ((o.mono m.size).trans (g.mono (jw m.size ad))));have UC:hU (w.heap.size<=b):=O (dP j F);have a4:hU (d+1<b):=O (aw j);clear y g Te P ad Q al au QA a5 S t a1 f a2 aa o q j hd PX;refine jY ?_;refine jO rfl 55 _ rfl d rfl 55 h (0,0) _ ZS.out jz rfl (by rw[Py];rfl) ?_
 go_wp2_with fail
 have f:=rF b [] k M a3 C av;rw[<-V]at f;refine f.mono ?_;clear f;rintro e y ⟨rfl,f⟩;rw[ki]at f;have g:hU (∀j v,(E.map v8)[j]?=T v->y.cell? ((⟨R,0,hH⟩:jr).add j)=T v):=O (by
  exact BO Sw (f.bel.block _ WP.out))
 have j:=O ((f.bel.block _ a4.out).trans Qs);have q:=O (Pf.trans (f.bel.mono UC));have t:=O f.buf;clear f Qs Pf Sw ZS a3
 go_wp2_with fail
 refine(CX b k E R E.length cb y t rfl (oo WP) g (by have:=Yi.out;rw[C];omega)).mono ?_;rintro e w6 ⟨rfl,f⟩;have o:=O ((f.bel.block _ a4.out).trans j);have r:=O (q.trans (f.bel.mono UC));have ad:=O f.buf;clear f j q t g;have f:=zQ b (k++E) ⟨#[100,101,114,105,118,101]⟩ G w6 ad (by have:=Yi.out;rw[jj,C];omega) (H.below r);have P:cg (aK ⟨#[100,101,114,105,118,101]⟩) (k++E)=eI k s l:=by rw[Wd];rfl
 rw[P]at f;have Q:=m0 k s l;have q:=dA (eI k s l);obtain⟨g,j⟩:=J (((eI k s l).map v8).toArray);have S:g.size=32:=by rw[j,jq,jh,Q]
 rw[<-j]at f q;have aa:=O f;have al:=O j;have t:=O S;have au:=O q;clear f P Q q j S
 go_wp2_with fail
 refine aa.mono ?_;rintro e q ⟨rfl,f⟩;have j:=O ((f.block _ (jk.1 o).1).trans o);have P:=ac r f;clear f o r aa
 go_wp2_with (refine js rfl λ_ x=>jD 55 _ _ rfl (d+1) g rfl rfl 55 _ j.out (by rw[t];rfl) (by rw[t];rfl) au (x _ _ ?_))
 have f:(q.setRow (d+1) g).heap[d+1]?=T (hF g 55 (0,0)):=jt _ _ _ _ _ _ j.out;refine jI (jX rfl _ _ (d+1) 55 _ (0,0) _ rfl f jz rfl (by rw[t];rfl)) rfl ?_;exact⟨by rw[al],jv P.out (by rw[F];exact ow _) _⟩
def mP(s:ByteArray)(a b:LBy):LBy:=cg (aK ⟨#[109,105,120]⟩) ([]++cT (aK s)++a++b)
theorem Bd(s a b):(mP s a b).length=32:=gh _ _
theorem Ie:(ih.info? 55).map (·.size)=T 32:=by kernel_rfl
theorem po{a:Act}{o:jS}{x:ms}{c:Array hZ}{b:Nat}{d:hQ}(e:c.size=32)(f:o.op=.load 55 x)(g:a.eval x=jm (T ⟨b,0,hH⟩))(i:d.heap[b]?=T (hF c 55 (0,0))):
 (execOp a.eval o).run ih d=.ok (.value (ja c)) d:=by
 have h:=oY (P:=ih) o a 55 x f b 0 g c.toList _ (sO (t:=55) (l:=c.toList) (by simpa using i)) jz rfl (by rw[j5,e];exact Ie)
 simpa using h
theorem MA(s:ByteArray)(R:s.size<=100000)(g i:LBy)(q:g.length=32)(r:i.length=32)(w:hQ)(S:cJ w):
 jf ih 69 #[hK s,ja (g.map v8).toArray,ja (i.map v8).toArray] w λe w'=>e=jd (ja ((mP s g i).map v8).toArray)/\ic w w w':=by
 obtain⟨A0,U⟩:=J (((cT (aK s)).map v8).toArray);obtain⟨k,t⟩:=J ((g.map v8).toArray);obtain⟨l,u⟩:=J ((i.map v8).toArray);have V:k.size=32:=by rw[t,jq,jh,q]
 have W:l.size=32:=by rw[u,jq,jh,r]
 have X:=Bd s g i;have z:=dA (mP s g i);obtain⟨m,x⟩:=J (((mP s g i).map v8).toArray);have aa:m.size=32:=by rw[x,jq,jh,X]
 rw[<-x]at z⊢;rw[<-t,<-u];obtain⟨f,d⟩:=J w.heap.size;obtain⟨j,c⟩:=J (((w.alloc (hF k 55)).alloc (hF l 55)).alloc (hF aI 55));have hp:j.heap[f]?=T (hF k 55 (0,0)):=by
  rw[c,d];exact(j3 _ _ _ (by simp;omega)).trans ((j3 _ _ _ av).trans (je w _))
 have ad:j.heap[f+1]?=T (hF l 55 (0,0)):=by
  have h:=je (w.alloc (hF k 55)) (hF l 55);rw[jo]at h;rw[c,d];exact(j3 _ _ _ av).trans h
 have hr:j.heap[f+1+1]?=T (hF aI 55 (0,0)):=by
  have h:=je ((w.alloc (hF k 55)).alloc (hF l 55)) (hF aI 55);rw[jo,jo]at h;rw[c,d];exact h
 have a:ic w w j:=by
  rw[c];exact(((ju _ w).alloc (jc _) _).alloc av _).alloc (by simp;omega) _
 have al:j.heap.size=f+1+1+1:=by rw[c,d];simp
 have o:=Buf.new j;have n:=af j (hF #[A hH 0 0,I N 0,.int .i8 0] 184);obtain⟨W2,B⟩:=J (j.alloc (hF #[A hH 0 0,I N 0,.int .i8 0] 184));rw[<-B]at o n;rw[al]at o;obtain⟨b,C⟩:=J (f+1+1+1);rw[<-C]at o;have D:hU (w.heap.size<=b):=O Y;have E:hU (f<b):=O Y;have F:hU (f+1<b):=O Y;have H:hU (f+1+1<b):=O Y;have au:=O o;have K:=Z hp n;have M:=Z ad n;have PC:=Z hr n;have O4:=O (a.trans (n.mono a.size));have HG:=O d;have P3:=O c;have a3:=O B;have TN:=O C;have Qc:=O U;have PD:=O t;have P7:=O u;have a4:=O V;have a5:=O W;have a1:=O x;have P:=O aa;have ba:=O z;have p:=O q;have a2:=O r;have Q:=O S;have y:hU (s.size<=100000/\(cT (aK s)).length=32):=O ⟨R,kL _⟩;clear d c B C U t u V W x X aa z q r S R hp ad hr a al o n
 go_enter func69,ntmps69
 go_upto_region 2 with fail
 rw[<-HG,<-P3,<-a3,<-TN];refine jK ?_;refine aY (λc=>c.heap[f]?=T (hF k 55 (0,0))/\c.heap[f+1]?=T (hF l 55 (0,0))) (.take 0 (.take 4 (.take 6 (.one 1 (.one 2 (.one 3 (.one 5 (.one 7 (.one 8 (.one 9 .done)))))))))) ae ae ae G (λ_ _ _ _ h=>h) ⟨K,M⟩ ?_;obtain⟨o,d⟩:=J W2.drew;have a:=aQ W2;rw[<-d]at a⊢;have x:=O (au.keep a);have z:=Z PC a;have B:=Z K a;have C:=Z M a;have R:=ac O4 a;clear au PC K M O4 a d;refine aC ?_
 (refine ay (v:=ja k) rfl ag (λc d=>po a4 rfl rfl d.1) ?_;refine L ?_)
 (refine ay (v:=ja l) rfl ag (λc d=>po a5 rfl rfl d.2) ?_;refine L ?_)
 refine ai rfl (λn c=>?_);go_simp;have d:=ti s o;rw[d];have a:=pM s o o.heap.size (jc _);have h:=rx s o;obtain⟨V,t⟩:=J (dU s o);rw[<-t]at a h⊢;clear d t;have K:=O (x.keep a);have M:=Z z a;have t:=Z B a;have u:=Z C a;have d:=ac R a;clear x z B C R a;have W:=O h;clear h;go_simp;refine c _ _ ⟨t,u⟩ λ_=>?_
 clear c;refine L ?_;refine ai rfl (λn c=>?_);go_simp;have h:=rh _ _ (by rw[et];have:=y.out;omega) V W (Q.below d).num (Q.below d).start;rw[<-Qc]at h;refine h.mono ?_;clear h;rintro e X ⟨rfl,a⟩;have B:=O (K.keep a);have C:=Z M a;have x:=Z t a;have z:=Z u a;have R:=ac d a;clear K M t u d a;refine c _ _ ⟨x,z⟩ λ_=>?_
 clear c;refine L ?_;refine ai rfl (λn c=>?_);go_simp;have h:=rF b [] (cT (aK s)) X B (kL _) (by have:=y.out;have:=p.out;simp only[j6,jj];omega);rw[<-Qc]at h;refine h.mono ?_;clear h;rintro e x3 ⟨rfl,d⟩;have K:=O d.buf;have M:=O ((d.bel.block _ H.out).trans C);have t:=O ((d.bel.block _ E.out).trans x);have u:=O ((d.bel.block _ F.out).trans z);have S:=O (R.trans (d.bel.mono D));clear d B C x z R;refine c _ _ ⟨t,u⟩ λ_=>?_
 clear c;refine L ?_;refine ai rfl (λn c=>?_);go_simp;have h:=rF b ([]++cT (aK s)) g x3 K p (by have:=y.out;have:=p.out;simp only[j6,jj];omega);rw[<-PD]at h;refine h.mono ?_;clear h;rintro e x4 ⟨rfl,d⟩;have C:=O d.buf;have R:=O ((d.bel.block _ H.out).trans M);have x:=O ((d.bel.block _ E.out).trans t);have z:=O ((d.bel.block _ F.out).trans u);have U:=O (S.trans (d.bel.mono D));clear d K M t u S;refine c _ _ ⟨x,z⟩ λ_=>?_
 clear c;refine L ?_;refine ai rfl (λn c=>?_);go_simp;have h:=rF b ([]++cT (aK s)++g) i x4 C a2 (by have:=y.out;have:=p.out;simp only[j6,jj];omega);rw[<-P7]at h;refine h.mono ?_;clear h;rintro e S ⟨rfl,d⟩;have h:=O d.buf;have K:=O ((d.bel.block _ H.out).trans R);have t:=O ((d.bel.block _ E.out).trans x);have u:=O ((d.bel.block _ F.out).trans z);have B:=O (U.trans (d.bel.mono D));clear d C R x z U;refine c _ _ ⟨t,u⟩ λ_=>?_
 clear c;refine L ?_;refine ai rfl (λn c=>?_);go_simp;have d:=zQ b ([]++cT (aK s)++g++i) ⟨#[109,105,120]⟩ G S h (by have q:=kL (aK s);have r:=p.out;have x:=a2.out;simp only[j6,jj];omega) (Q.below B);have x:cg (aK ⟨#[109,105,120]⟩) ([]++cT (aK s)++g++i)=mP s g i:=rfl;rw[x]at d;rw[<-a1]at d;refine d.mono ?_;clear d x;rintro e d ⟨rfl,a⟩;have U:=O (h.keep a);have x:=Z K a;have C:=Z t a;have M:=Z u a;have R:=ac B a;clear h K t u B a;refine c _ _ ⟨C,M⟩ λ_=>?_
 clear c;refine L ?_;refine ai rfl (λn c=>?_);rw[if_pos ag];refine jD 55 _ _ rfl (f+1+1) m rfl rfl 55 _ x.out (by rw[P];rfl) (by rw[P];rfl) ba (c _ _ ⟨(jA _ _ _ _ Y).trans C,(jA _ _ _ _ Y).trans M⟩ λ_=>?_);clear c;have a:(d.setRow (f+1+1) m).heap[f+1+1]?=T (hF m 55 (0,0)):=jt _ _ _ _ _ _ x.out;have c:ic w w (d.setRow (f+1+1) m):=jv R.out (by rw[HG];omega) _;generalize d.setRow (f+1+1) m=z at a c⊢;have h:=O a;have n:=O c;clear a c;refine L ?_;refine jJ ?_
 go_wp2_with fail
 refine jI (jX rfl _ _ (f+1+1) 55 _ (0,0) _ rfl h jz rfl (by rw[P];rfl)) rfl ?_;exact⟨by rw[a1],n⟩
theorem vG(w:hQ):cC w (A hH 0 0) []:=⟨hH,0,rfl,jc _,λh=>absurd h av⟩
theorem Do(a:Nat)(b:a<2^64):(aX a).length<=10:=kh a b
theorem wK(s:ByteArray)(b:s.size<=1000):wP s [] where
 wf:=by
  rw[iz,vL,wfV];refine .inr (.inr ⟨rfl,rfl,rfl,by simp,λx a=>?_⟩);simp only[lo,km,lw,or_false]at a;subst a;rw[wfV];exact .inr (.inl ⟨rfl,rfl,by omega,rfl⟩)
 len:=by
  rw[iz,gN];simp only[lo,encs,enc];rw[if_neg G,if_pos trivial];have a:=Do 1 G;have c:=Do s.size Y;simp only[jN,jj,j6,et];simp only[j6,ji];omega
 cnt:=by simp
theorem vY{W:hQ}{D:Nat}{l:LBy}{t:jl}(h:W.heap[D]?=T (hF (l.map v8).toArray t (0,0)))(a:l.length=32):BytesAt W (A (T ⟨D,0,hH⟩) 32 32) l:=by
 refine⟨_,32,by rw[a],by rw[a];exact jc _,(λh=>by cases h),λ_=>⟨D,0,rfl,λj b=>cell_of h ?_⟩⟩;rw[ji];simp[jn,b]
def r8(k:LBy)(s:ByteArray):Nat:=mK (aK ⟨#[115,99,97,108,97,114]⟩) (eI k s [])
theorem Dm(k:LBy)(hk:k.length=32)(s:ByteArray)(x:s.size<=1000)(w:hQ)(h:cJ w):
 jf ih 94 #[ja (k.map v8).toArray,hK s] w λe w'=>e=jd (I N (r8 k s:Nat))/\ic w w w':=by
 obtain⟨b,i⟩:=J ((k.map v8).toArray);have o:b.size=32:=by rw[i,jq,jh,hk]
 have a:=af w (hF b 55);have c:=je w (hF b 55);obtain⟨y,j⟩:=J w.heap.size;obtain⟨z,l⟩:=J (w.alloc (hF b 55));rw[<-j]at c;rw[<-l]at c a;have d:=oA k hk s [] _ z (vG _) (wK s x) (h.below a);rw[<-i]at d⊢;have m:=m0 k s [];have n:=dA (eI k s []);obtain⟨f,g⟩:=J (((eI k s []).map v8).toArray);have p:f.size=32:=by rw[g,jq,jh,m]
 rw[<-g]at n d;have B:=O j;have C:=O l;have D:=O a;have q:=O c;have r:=O d;have E:=O g;have t:=O p;have u:=O m;have F:=O n;have H:=O o;have v:=O h;clear i o a c j l d m n g p h
 go_enter func94,ntmps94
 go_upto_region 1 with fail
 rw[<-B,<-C];refine jY ?_;refine jO rfl 55 _ rfl y rfl 55 b (0,0) _ q.out jz rfl (by rw[H];rfl) ?_
 go_wp2_with fail
 refine r.mono ?_;rintro e a ⟨rfl,c⟩;have g:=ac D c;clear c r q
 go_wp2_with (refine js rfl λ_ j=>jD 55 _ _ rfl a.heap.size f rfl rfl 55 _ (je a _) (by rw[t];rfl) (by rw[t];rfl) F (j _ _ ?_))
 obtain⟨h,c⟩:=J ((a.alloc (hF aI 55)).setRow a.heap.size f);have i:h.heap[a.heap.size]?=T (hF f 55 (0,0)):=by rw[c];exact jt _ _ _ _ _ _ (je a _)
 have d:ic w w h:=by rw[c];exact jv (g.trans ((af a _).mono g.size)) g.size _
 rw[E]at i;have l:=Ee ⟨#[115,99,97,108,97,114]⟩ G _ _ (by rw[u];decide) h (vY i u) (v.below d).num (v.below d).start;rw[<-c];have m:=O d;clear i c j d;refine l.mono ?_;clear l;rintro e i ⟨rfl,c⟩;have d:=ac m c;clear c
 go_wp2_with fail
 go_ret;exact⟨rfl,d⟩
theorem Ge(n:Nat)(r:n<=1000000)(w:hQ):
 jf ih 157 #[A hH 0 0,I N n] w λe w'=>∃v,e=jd v/\w'.ownsRow w 43 4 v 0 []/\ic w w w':=by
 rcases Nat.eq_zero_or_pos n with b|b
 ·subst b
  go_enter func157,ntmps157
  go_wp2
  go_ret;exact⟨_,rfl,jT _ _ _ _,ju _ _⟩
 obtain⟨i,f,g,j,h⟩:=info_parts zJ;have a:=Lib.run_append_nil_zeros (P:=ih) w 41 3 41 43 i (ja #[I N 0,I N 0,hK ⟨#[]⟩,A hH 0 0]:hZ) .i64 .i64 qA underlying3 f g n b Y Y (by rw[h];omega);have l:=grownCap_ge w n 0 43;have c:=grownCap_le_maxLen w n 0 43 (by unfold jW;omega);generalize grownCap w n 0 43=C at a l c;have d:(Builtin.zeroCells (ja #[I N 0,I N 0,hK ⟨#[]⟩,A hH 0 0]:hZ).cells n++Builtin.zeroCells (ja #[I N 0,I N 0,hK ⟨#[]⟩,A hH 0 0]:hZ).cells (C-n)).size=C*4:=by
  rw[Array.size_append,size_zeroCells,size_zeroCells];show n*4+(C-n)*4=C*4;omega
 generalize Builtin.zeroCells (ja #[I N 0,I N 0,hK ⟨#[]⟩,A hH 0 0]:hZ).cells n++Builtin.zeroCells (ja #[I N 0,I N 0,hK ⟨#[]⟩,A hH 0 0]:hZ).cells (C-n)=m at a d;have o:=O a;have p:=O d;have q:=O c;clear a d c f g j h;have a:(0:Int)<(n:Int):=Y
 go_enter func157,ntmps157
 go_wp2_with (at_builtin;refine Lib.wpList_append_run _ rfl _ _ 41 3 rfl _ _ rfl rfl _ _ o.out ?_)
 go_ret;refine⟨_,rfl,⟨rfl,.inr ⟨w.heap.size,C,m,rfl,jc _,je w.drew _,jL _,q,p,rfl⟩⟩,?_⟩;exact⟨rfl,rfl,rfl,by simp,λk hk=>j3 w.drew _ _ hk⟩
def oN(w:hQ)(v:hZ)(l:List (List hZ)):Prop:=bW w v 4 l.length l.flatten
def eZ(a:List (List (List hZ)))(k:Nat):List (List hZ):=(a.take k).flatten
theorem CW(a:List (List (List hZ)))(k:Nat)(hk:k<a.length):eZ a (k+1)=eZ a k++a.getD k []:=by
 unfold eZ;rw[qK,qL];simp[hk,jn]
theorem uB(a:List (List (List hZ)))(k:Nat):(eZ a k).length<=a.flatten.length:=by
 have h:a.flatten=eZ a k++(a.drop k).flatten:=by
  unfold eZ;rw[<-qL,qj]
 rw[h];simp
theorem LN(g m:Nat)(t:jl)(h:List hZ)(a:List (List (List hZ)))(z:h.length=m)(B:a.length=m)(U:a.flatten.length<=1000000)(w:hQ)
 (b:w.heap[g]?=T (hF h.toArray t (0,0))) (c:∀i,i<m->oN w (h.getD i jF) (a.getD i [])) (V:m<=1000) (d:∀e∈a.flatten,∀o∈e,o.oneCell'=true):
 jf ih 106 #[A (T ⟨g,0,hH⟩) m m] w λe w'=>∃v,e=jd v/\w'.ownsRow w 43 4 v a.flatten.length a.flatten.flatten/\ic w w w':=by
 have C:g<w.heap.size:=(jk.1 b).1;have f:hU (∀i,i<m->w.cell? ⟨g,i,hH⟩=T (h.getD i jF)):=O λi D=>by
  simp[World.cell?,b,z,D,jn]
 have u:=O c;have E:=O d;clear c b d
 go_enter func106,ntmps106
 go_wp2_with fail
 go_loopw [3,11] (λs b wr=>∃k:Nat,b=I N k/\k<=m/\s=I N ((eZ a k).length:Nat)/\wr=w) (λ_ b _=>(m-jg b).toNat)
 case atStart=>exact⟨0,rfl,by omega,rfl,rfl⟩
 obtain⟨k,rfl,hk,rfl,c⟩:=hrel;have F:=c.symm;subst F;clear c
 by_cases s:k<m
 ·have l:=f k s
  have H:=uB a (k+1);have d:=CW a k Y;obtain⟨n,p,c,j,x,y,q⟩:=u k s;rw[j]at l;have r:(eZ a (k+1)).length=(eZ a k).length+(a.getD k []).length:=by rw[d];simp
  clear j q d n;generalize(a.getD k []).length=n at l r x;have j:=O r;clear r;generalize(eZ a k).length=q at j⊢;have K:¬((q:Int)+(n:Int)<0):=Y;have M:q+n<=1000000:=aw j
  go_wp2
  refine⟨⟨k+1,by go_num,by omega,?_,trivial⟩,by simp[jg];omega⟩;rw[j];simp
 have W:hU (k=m):=O Y;have H:=uB a k
 go_wp2_with fail
 refine(Ge _ Y _).mono ?_;rintro e X ⟨v,rfl,K,c⟩;have M:=O c;clear c
 go_wp2_with fail
 go_loopw [6,27] (λl b c=>∃j:Nat,b=I N j/\j<=m/\c.ownsRow w 43 4 l (eZ a j).length (eZ a j).flatten/\hU (ic w w c)) (λ_ b _=>(m-jg b).toNat)
 case atStart=>exact⟨0,rfl,by omega,by simpa [eZ]using K,M⟩
 obtain⟨j,rfl,hj,b,c⟩:=hrel
 by_cases x:j<m
 ·have P:=ff (f j x) (c.block _ C)
  have l:=bW.below (u j x) c;have d:=CW a j Y;have y:=uB a (j+1);generalize h.getD j jF=vj at P l;have n:∀o∈(a.getD j []).flatten,o.oneCell'=true:=λo p=>by
   obtain⟨e,he,p⟩:=qM.1 p;refine E e (qM.2 ⟨a.getD j [],?_,he⟩) o p;have q:j<a.length:=Y;simp[jn,q]
  generalize a.getD j []=q at d l n;have aa:=c.size;have r:(eZ a j).length+q.length<=1000000:=by rw[d,jj]at y;omega
  have Q:=O d;have R:=O n;have S:=O l;clear d l y n
  go_wp2_with (at_builtin;refine Hid.out ?_)
  refine O ?_;refine js rfl λ_ d=>ig _ _ rfl w.heap.size _ _ _ rfl b _ q.length q.flatten rfl S R Y Y λy w4 f=>d _ _ ?_
  have l:=f.own;have n:=f.grown;clear f d
  go_wp2_with fail
  go_roundw
  case rel=>
   refine⟨j+1,by go_num,by omega,?_,c.grown n Y (λk e=>(b.lt k e).1)⟩;rw[Q]
   simpa using l
  case measure=>simp[jg];omega
 have d:j=m:=Y;have l:eZ a j=a.flatten:=by rw[d,<-B];simp[eZ]
 rw[l]at b;have n:=O b;clear b d l
 go_wp2
 go_ret;exact⟨_,rfl,n,c⟩
def kM(w:hQ):Prop:=w.var? ih "chartroom/schedule.labels" =T #[hK ⟨#[105,110,105,116]⟩,hK ⟨#[99,111,109,109,105,116]⟩,hK ⟨#[99,104,105,108,100]⟩]
theorem vA:ih.globalNamed "chartroom/schedule.labels" =T 0:=by kernel_rfl
theorem kM.below{w w':hQ}(h:kM w)(b:ic w w w'):kM w':=by
 unfold kM World.var? at*;rw[vA]at h⊢;simp only[Option.bind_some]at h⊢;have c:0<w.heap.size:=by
  rcases qk 0 w.heap.size with a|a
  ·exact a
  rw[Array.getElem?_eq_none a]at h
  cases h
 rw[b.block _ c];exact h
theorem kM.c0{w:hQ}(h:kM w):w.cell? ⟨0,0,hH⟩=T (hK ⟨#[105,110,105,116]⟩):=by
 have:=qN vA h 0
 simpa using this
theorem kM.c1{w:hQ}(h:kM w):w.cell? ⟨0,1,hH⟩=T (hK ⟨#[99,111,109,109,105,116]⟩):=by
 have:=qN vA h 1
 simpa using this
structure fL(w:hQ):Prop where
 dig:cJ w
 lab:kM w
theorem fL.below{w w':hQ}(h:fL w)(a:ic w w w'):fL w':=⟨h.dig.below a,h.lab.below a⟩
def oC(a:ByteArray)(k:LBy):LBy:=eI k a []
def rp(init a:LBy):LBy:=mP ⟨#[101,112,111,99,104]⟩ init (oC ⟨#[99,111,109,109,105,116]⟩ a)
def lF(s:LBy):Nat:=r8 s ⟨#[110,111,100,101]⟩
theorem ud(l k):(oC l k).length=32:=m0 _ _ _
theorem tR(l k):(rp l k).length=32:=Bd _ _ _
structure Arr(l:LBy)(a:Array hZ):Prop where
 eq:a=(l.map v8).toArray
 sz:a.size=32
 one:a.all (·.oneCell')=true
theorem Arr.mk'{l:LBy}(h:l.length=32):∃a,a=(l.map v8).toArray/\Arr l a:=⟨_,rfl,rfl,by rw[jq,jh,h],dA _⟩
theorem Ib(k:LBy)(l:k.length=32)(w:hQ)(h:fL w):
 jf ih 70 #[I N 1,ja (k.map v8).toArray] w λe w'=>e=jd (ja ((oC ⟨#[99,111,109,109,105,116]⟩ k).map v8).toArray)/\ic w w w':=by
 obtain⟨c,r,s⟩:=Arr.mk' l;obtain⟨f,t,u⟩:=Arr.mk' (ud ⟨#[99,111,109,109,105,116]⟩ k);rw[<-r,<-t];have hk:=O l;have x:=O s;have g:=O u;have C:=O h;have m:=af w (hF c 55);have y:=je w (hF c 55);have a:=af (w.alloc (hF c 55)) (hF aI 55);have n:=je (w.alloc (hF c 55)) (hF aI 55);rw[jo]at n;obtain⟨B,o⟩:=J ((w.alloc (hF c 55)).alloc (hF aI 55));obtain⟨b,p⟩:=J w.heap.size;have i:=Z y a;have d:=O (m.trans (a.mono m.size));have j:=O n;rw[<-p]at i j;rw[<-o]at i j d;have D:=O o;have q:=O p;clear m y a n o p;have m:=O (cell_below h.lab.c1 d);have y:hU (0<b+1):=O (by have:=eN h.lab.c1;rw[q];exact Nat.lt_succ_of_lt this);clear r s t u l h
 go_enter func70,ntmps70
 go_upto_region 1 with fail
 rw[<-D,<-q];refine jK ?_;refine aY (λl=>l.heap[b]?=T (hF c 55 (0,0))/\l.cell? ⟨0,1,hH⟩=T (hK ⟨#[99,111,109,109,105,116]⟩)) (.take 0 (.take 1 (.take 2 (.take 3 (.one 4 (.one 5 .done)))))) ae ae ae G (λ_ _ _ _ h=>h) ⟨i,m⟩ ?_;obtain⟨r,h⟩:=J B.drew;have a:=aQ B;rw[<-h]at a⊢;replace d:=ac d a;have n:=Z i a;have o:=Z j a;have p:=O (cell_below m a);clear a h i j m
 (refine ay (v:=ja c) rfl ag (λl h=>po x.sz rfl rfl h.1) ?_;refine L ?_)
 iterate 2 refine aC ?_
 (refine ay (v:=?_) rfl ag (λl h=>?_) ?_;rotate_left;(have i:=h.2;go_simp;with_reducible rfl);refine L ?_)
 refine ai rfl (λs h=>?_);go_simp;have i:=oA k hk ⟨#[99,111,109,109,105,116]⟩ [] _ r (vG _) (wK _ G) (C.dig.below d);rw[<-x.eq]at i;have j:((eI k ⟨#[99,111,109,109,105,116]⟩ []).map v8).toArray=f:=g.eq.symm;rw[j]at i;refine i.mono ?_;clear i j;rintro e i ⟨rfl,a⟩;have j:=Z n a;have l:=Z o a;have m:=O (cell_below p a);have t:=ac d a;clear a n o p d;refine h _ _ ⟨j,m⟩ λ_=>?_
 clear h;refine L ?_;refine ai rfl (λs h=>?_);rw[if_pos ag];refine jD 55 _ _ rfl (b+1) f rfl rfl 55 _ l.out (by rw[g.sz];rfl) (by rw[g.sz];rfl) g.one (h _ _ ⟨(jA _ _ _ _ Y).trans j,(bz (jA _ _ _ _ (oo y))).trans m⟩ λ_=>?_);clear h;have a:(i.setRow (b+1) f).heap[b+1]?=T (hF f 55 (0,0)):=jt _ _ _ _ _ _ l.out;have d:ic w w (i.setRow (b+1) f):=jv t.out (by rw[q];exact ow _) _;generalize i.setRow (b+1) f=z at a d⊢;have h:=O a;have n:=O d;clear a d;refine L ?_;refine jJ ?_
 go_wp2_with fail
 refine jI (jX rfl _ _ (b+1) 55 _ (0,0) _ rfl h jz rfl (by rw[g.sz];rfl)) rfl ?_;exact⟨rfl,n⟩
theorem Db(init d:LBy)(q:init.length=32)(r:d.length=32)(w:hQ)(x:fL w):
 jf ih 17 #[ja (init.map v8).toArray,ja (d.map v8).toArray] w λe w'=>e=jd (ja ((rp init d).map v8).toArray)/\ic w w w':=by
 obtain⟨c,y,z⟩:=Arr.mk' q;obtain⟨i,B,C⟩:=Arr.mk' r;obtain⟨A3,U,D⟩:=Arr.mk' (ud ⟨#[99,111,109,109,105,116]⟩ d);obtain⟨j,E,F⟩:=Arr.mk' (tR init d);rw[<-y,<-B,<-E];have V:=O q;have W:=O r;have H:=O z;have K:=O C;have M:=O D;have k:=O F;have P:=O x;obtain⟨Q,b⟩:=J ((((w.alloc (hF c 55)).alloc (hF i 55)).alloc (hF aI 55)));obtain⟨f,h⟩:=J w.heap.size;have a:=je w (hF c 55);have l:=af w (hF c 55);have g:=je (w.alloc (hF c 55)) (hF i 55);have n:=af (w.alloc (hF c 55)) (hF i 55);have o:=je ((w.alloc (hF c 55)).alloc (hF i 55)) (hF aI 55);have p:=af ((w.alloc (hF c 55)).alloc (hF i 55)) (hF aI 55);replace a:=ak a n;replace a:=ak a p;rw[jo]at g;replace g:=ak g p;rw[jo,jo]at o;have s:=((l).trans (n.mono (l).size)).trans (p.mono ((l).trans (n.mono (l).size)).size);rw[<-b]at s;rw[<-b,<-h]at a;rw[<-b,<-h]at g;rw[<-b,<-h]at o;have t:=O a;have u:=O g;have R:=O o;have m:=O s;have X:=O b;have S:=O h;clear s b h a l g n o p;clear y z B C U D E F q r x
 go_enter func17,ntmps17
 go_upto_region 1 with fail
 rw[<-X,<-S];refine jK ?_;refine aY (λb=>b.heap[f]?=T (hF c 55 (0,0))/\b.heap[f+1]?=T (hF i 55 (0,0))) (.take 0 (.take 1 (.one 2 (.one 3 (.one 4 .done))))) ae ae ae G (λ_ _ _ _ h=>h) ⟨t,u⟩ ?_;obtain⟨x,g⟩:=J Q.drew;have a:=aQ Q;rw[<-g]at a⊢;replace m:=ac m a;have o:=Z t a;have p:=Z u a;have q:=Z R a;clear a g t u R
 (refine ay (v:=ja c) rfl ag (λb g=>po H.sz rfl rfl g.1) ?_;refine L ?_)
 (refine ay (v:=ja i) rfl ag (λb g=>po K.sz rfl rfl g.2) ?_;refine L ?_)
 refine ai rfl (λr g=>?_);go_simp;have b:=Ib d W x (P.below m);rw[<-K.eq]at b;rw[<-M.eq]at b;refine b.mono ?_;clear b;rintro e t ⟨rfl,a⟩;have h:=ac m a;have l:=Z o a;have n:=Z p a;have s:=Z q a;clear m o p q;clear a;refine g _ _ ⟨l,n⟩ λ_=>?_
 clear g;refine L ?_;refine ai rfl (λr g=>?_);go_simp;have b:=MA ⟨#[101,112,111,99,104]⟩ G init (oC ⟨#[99,111,109,109,105,116]⟩ d) V (ud _ _) t (P.dig.below h);rw[<-H.eq]at b;rw[<-M.eq]at b;rw[show((mP ⟨#[101,112,111,99,104]⟩ init (oC ⟨#[99,111,109,109,105,116]⟩ d)).map v8).toArray=j from k.eq.symm]at b;refine b.mono ?_;clear b;rintro e b ⟨rfl,a⟩;have q:=ac h a;have m:=Z l a;have o:=Z n a;have p:=Z s a;clear h l n s;clear a;refine g _ _ ⟨m,o⟩ λ_=>?_
 clear g;refine L ?_;refine ai rfl (λr g=>?_);rw[if_pos ag];refine jD 55 _ _ rfl (f+1+1) j rfl rfl 55 _ p.out (by rw[k.sz];rfl) (by rw[k.sz];rfl) k.one (g _ _ ⟨(jA _ _ _ _ Y).trans m,(jA _ _ _ _ Y).trans o⟩ λ_=>?_);clear g;have a:(b.setRow (f+1+1) j).heap[f+1+1]?=T (hF j 55 (0,0)):=jt _ _ _ _ _ _ p.out;have g:ic w w (b.setRow (f+1+1) j):=jv q.out (by rw[S];omega) _;generalize b.setRow (f+1+1) j=z at a g⊢;have h:=O a;have l:=O g;clear a g;refine L ?_;refine jJ ?_
 go_wp2_with fail
 refine jI (jX rfl _ _ (f+1+1) 55 _ (0,0) _ rfl h jz rfl (by rw[k.sz];rfl)) rfl ?_;exact⟨rfl,l⟩
theorem NU(k:LBy)(c:k.length=32)(w:hQ)(i:fL w):
 jf ih 40 #[ja (k.map v8).toArray] w λe w'=>e=jd (I N (lF k:Nat))/\ic w w w':=by
 obtain⟨a,j,l⟩:=Arr.mk' c;rw[<-j];have o:=O c;have m:=O l;have p:=O i;obtain⟨q,b⟩:=J ((w.alloc (hF a 55)));obtain⟨r,d⟩:=J w.heap.size;have f:=je w (hF a 55);have n:=af w (hF a 55);have g:=n;rw[<-b]at g;rw[<-b,<-d]at f;have s:=O f;have h:=O g;have t:=O b;have u:=O d;clear g b d f n;clear j l c i
 go_enter func40,ntmps40
 go_upto_region 1 with fail
 rw[<-t,<-u];refine jY ?_;refine jO rfl 55 _ rfl r rfl 55 a (0,0) _ s.out jz rfl (by rw[m.sz];rfl) ?_
 go_wp2_with fail
 have b:=Dm k o ⟨#[110,111,100,101]⟩ G q (p.dig.below h);rw[<-m.eq]at b;refine b.mono ?_;clear b;rintro e d ⟨rfl,b⟩;have c:=ac h b;clear b h
 go_wp2_with fail
 go_ret;exact⟨rfl,c⟩
theorem AA(k:LBy):1<=lF k/\lF k<2305843009213688669:=vy _ _
def pk(k body:LBy):LBy:=cg (aK ⟨#[99,111,110,102,105,114,109]⟩) (k++body)
theorem oM(k b):(pk k b).length=32:=gh _ _
theorem KU(k body:LBy)(j:k.length=32)(l:body.length=32)(w:hQ)(x:fL w):
 jf ih 47 #[ja (k.map v8).toArray,ja (body.map v8).toArray] w λe w'=>e=jd (ja ((pk k body).map v8).toArray)/\ic w w w':=by
 obtain⟨d,y,z⟩:=Arr.mk' j;obtain⟨f,B,C⟩:=Arr.mk' l;obtain⟨g,D,E⟩:=Arr.mk' (oM k body);rw[<-y,<-B,<-D];have hk:=O j;have s:=O l;have P:=O z;have Q:=O C;have m:=O E;have F:=O x;obtain⟨H,c⟩:=J ((((w.alloc (hF d 55)).alloc (hF f 23)).alloc (hF aI 23)));obtain⟨b,i⟩:=J w.heap.size;have a:=je w (hF d 55);have n:=af w (hF d 55);have h:=je (w.alloc (hF d 55)) (hF f 23);have o:=af (w.alloc (hF d 55)) (hF f 23);have p:=je ((w.alloc (hF d 55)).alloc (hF f 23)) (hF aI 23);have q:=af ((w.alloc (hF d 55)).alloc (hF f 23)) (hF aI 23);replace a:=ak a o;replace a:=ak a q;rw[jo]at h;replace h:=ak h q;rw[jo,jo]at p;have t:=((n).trans (o.mono (n).size)).trans (q.mono ((n).trans (o.mono (n).size)).size);rw[<-c]at t;rw[<-c,<-i]at a;rw[<-c,<-i]at h;rw[<-c,<-i]at p;have u:=O a;have v:=O h;have K:=O p;have r:=O t;have R:=O c;have M:=O i;clear t c i a n h o p q;clear y z B C D E j l x
 go_enter func47,ntmps47
 go_upto_region 1 with fail
 rw[<-R,<-M];refine jK ?_;refine aY (λa=>a.heap[b]?=T (hF d 55 (0,0))/\a.heap[b+1]?=T (hF f 23 (0,0))) (.take 0 (.take 1 (.one 2 (.one 3 (.one 4 (.one 5 .done)))))) ae ae ae G (λ_ _ _ _ h=>h) ⟨u,v⟩ ?_;obtain⟨n,c⟩:=J H.drew;have a:=aQ H;rw[<-c]at a⊢;replace r:=ac r a;have t:=Z u a;have x:=Z v a;have y:=Z K a;clear a c u v K;iterate 2 refine aC ?_
 refine ai rfl (λq c=>?_);go_simp;have a:=af n (hF #[A (T ⟨b,0,hH⟩) 32 32,A (T ⟨b+1,0,hH⟩) 32 32] 32);have i:=je n (hF #[A (T ⟨b,0,hH⟩) 32 32,A (T ⟨b+1,0,hH⟩) 32 32] 32);obtain⟨B,u⟩:=J (n.alloc (hF #[A (T ⟨b,0,hH⟩) 32 32,A (T ⟨b+1,0,hH⟩) 32 32] 32));rw[<-u]at a i⊢;obtain⟨C,o⟩:=J n.heap.size;rw[<-o]at i⊢;have S:=O o;clear o;have v:=ac r a;have o:=Z t a;have p:=Z x a;have z:=Z y a;clear r t x y;have x:=O i;clear i u a;refine c _ _ ⟨o,p⟩ λ_=>?_
 clear c;refine L ?_;refine ai rfl (λq c=>?_);go_simp;have r:=rU C 2 32 [A (T ⟨b,0,hH⟩) 32 32,A (T ⟨b+1,0,hH⟩) 32 32] [k,body] rfl rfl (by have j:=hk.out;have l:=s.out;simp;omega) B x (λi t=>by
  match i,t with
  |0,_=>exact vY (by have h:=o.out;rw[P.eq]at h;exact h) hk
  |1,_=>exact vY (by have h:=p.out;rw[Q.eq]at h;exact h) s) G
 refine r.mono ?_;clear r;rintro e y ⟨D,rfl,h,a⟩;have i:[k,body].flatten=k++body:=by simp
 rw[i]at h;have E:=O (BytesAt.of_own h);clear h i;have h:=ac v a;have i:=Z o a;have r:=Z p a;have t:=Z z a;clear v o p z;clear a;refine c _ _ ⟨i,r⟩ λ_=>?_
 clear c;refine L ?_;refine ai rfl (λq c=>?_);go_simp;have o:=ot ⟨#[99,111,110,102,105,114,109]⟩ G D (k++body) (by have j:=hk.out;have l:=s.out;simp;omega) y E (F.dig.below h).num (F.dig.below h).start;rw[show((cg (aK ⟨#[99,111,110,102,105,114,109]⟩) (k++body)).map v8).toArray=g from m.eq.symm]at o;refine o.mono ?_;clear o;rintro e o ⟨rfl,a⟩;have K:=ac h a;have p:=Z i a;have u:=Z r a;have v:=Z t a;clear h i r t;clear a;refine c _ _ ⟨p,u⟩ λ_=>?_
 clear c;refine L ?_;refine ai rfl (λq c=>?_);rw[if_pos ag];refine jD 23 _ _ rfl (b+1+1) g rfl rfl 23 _ v.out (by rw[m.sz];rfl) (by rw[m.sz];rfl) m.one (c _ _ ⟨(jA _ _ _ _ Y).trans p,(jA _ _ _ _ Y).trans u⟩ λ_=>?_);clear c;have a:(o.setRow (b+1+1) g).heap[b+1+1]?=T (hF g 23 (0,0)):=jt _ _ _ _ _ _ v.out;have c:ic w w (o.setRow (b+1+1) g):=jv K.out (by rw[M];omega) _;generalize o.setRow (b+1+1) g=z at a c⊢;have h:=O a;have i:=O c;clear a c;refine L ?_;refine jJ ?_
 go_wp2_with fail
 refine jI (jX rfl _ _ (b+1+1) 23 _ (0,0) _ rfl h qB rfl (by rw[m.sz];rfl)) rfl ?_;exact⟨rfl,i⟩
section
attribute [local go_sem] Oper.semAt_some
section
variable {P:jE} {F:Fence} {nF:Nat}
theorem Cp{f:Array jS}{i:List jS}{o:jS}{a:Act}{w:hQ}{j:Exit->Act->hQ->Prop}(k:o.guard=hH)(b:jl)(x y:ms)(d:o.op=.store b x y)
 (g:Nat) (cells:Array hZ) (l:a.eval x=jm (T ⟨g,0,hH⟩)) (m:a.eval y=ja cells) (t:jl) (e:Array hZ) (n:w.heap[g]?=T (hF e t (0,0))) (p:(P.info? b).map (·.size)=T cells.size)
 (q:e.size=cells.size) (r:cells.all (·.oneCell')=true) (h:wpListIn F nF P f j i (a.put o.dst jF) (w.setRow g cells)):wpListIn F nF P f j (o::i) a w:=by
 refine wpListIn_plain k λv s=>?_
 unfold Oper.wpIn;refine⟨by simp[Oper.about,d],?_⟩;rw[Oper.semAt_plain F _ _ (by rw[d];intro c u;cases u)];simp only[execOp,d,l,m,Instr.storeAt,Instr.sureAddr,Sem.run_bind,Sem.run_pure,Result.andThen_ok,run_storeVar_row w g t b e cells n p q r];exact s _ _ h
end
def Aj(k:LBy):LBy:=eI k ⟨#[112,97,116,104]⟩ []
def bQ(k:LBy):Nat->LBy
 |0=>k
 |i+1=>Aj (bQ k i)
def fg(k:LBy)(n:Nat):List (LBy):=(List.range n).map (bQ k)
theorem dY(k:LBy)(h:k.length=32):∀i,(bQ k i).length=32
 |0=>h
 |i+1=>by
  rw[bQ,Aj];exact m0 _ _ _
theorem zt(k:LBy)(n:Nat):fg k (n+1)=fg k n++[bQ k n]:=by unfold fg;rw[List.range_succ,j0];rfl
theorem CC(k:LBy)(n:Nat):(fg k n).length=n:=by unfold fg;simp
def gL(k:LBy):hZ:=ja (k.map v8).toArray
theorem aZ.setRow{B0:Nat}{Ψ:Nat->Prop}(a:hQ)(g:Nat)(cs:Array hZ)(b:Ψ g):aZ B0 Ψ a (a.setRow g cs):=
 ⟨rfl,rfl,rfl,by simp[o4],λk _ hk=>.inl (jA _ _ _ _ (λe=>hk (e▸b)))⟩
theorem aZ.setCell{B0:Nat}{Ψ:Nat->Prop}(a:hQ)(p:jr)(v:hZ)(b:Ψ p.block):aZ B0 Ψ a (a.setCell p v):=
 ⟨rfl,rfl,rfl,by simp[World.setCell],λk _ hk=>.inl (qO _ _ _ _ (λe=>hk (e▸b)))⟩
theorem Hc(c:LBy)(h:c.length=32)(w0:hQ)(i:cJ w0)(b a:Nat)(j:w0.heap.size<=b)(m:w0.heap.size<=a)(p:b≠a)(w:hQ)(e:ic w0 w0 w)
 (f:jB w b 3 (I N (0:Nat))) (g:w.heap[a]?=T (hF (c.map v8).toArray 55 (0,0))):
 dI ih 137 #[jm (T ⟨b,0,hH⟩),jm (T ⟨a,0,hH⟩)] (λx:LBy=>#[gL x]) (λk=>k=b\/k=a) w0.heap.size (λxs=>xs=fg c 10) (λ_=>True) (λd=>d.length<=10/\∀x∈d,x.length=32) w:=by
 intro l Q Jx W d q r s t;have u:jB W b 3 (I N (0:Nat)):=(d.block b f.lt).trans f;have v:=(d.block a (jk.1 g).1).trans g;have O6:=O (e.trans (d.mono e.size));have HT:=O i;have o:=O h;have R:=O p;have S6:=O j;have ad:=O m;have al:=O u;have au:=O v;clear f g e i h p j m u v d;have B:=O q;have a1:=O r;have S:=O s;have U:=O t;clear q r s t;refine(callsIn_wide (n:=0)).1 ?_;refine callsIn_of_wp func137 rfl trivial ?_ rfl;simp only[ntmps137,jq,jN,j6,Nat.reduceAdd,Nat.reduceSub,qP,qQ,qS,qT,ki,n0]
 gi_wp2_with fail
 gi_loopw [4] (λs wr=>W.heap.size<=wr.heap.size/\∃i:Nat,i<=10/\hU (jB wr b 3 (I N (i:Nat)))/\hU (wr.heap[a]?=T (hF ((bQ c i).map v8).toArray 55 (0,0)))/\hU (ic w0 w0 wr)/\hU (Q (fg c i) (λk=>k=b\/k=a) wr))
  (λs wr=>(10-jg ((wr.cell? ⟨b,0,hH⟩).getD jF)).toNat)
 case atStart=>
  exact⟨jc _,0,by omega,al,au,O6,U⟩
 obtain⟨a3,i,hi,f,p,C,q⟩:=hrel;have D:=f.cell;have E:=O D
 by_cases h1:i<10
 ·have hd:=ap ((i:Int)<=9)
  obtain⟨r,d,e⟩:=Arr.mk' (dY c o i);obtain⟨s,m,h⟩:=Arr.mk' (dY c o (i+1));have t:=S (fg c i) (bQ c i) (λk=>k=b\/k=a) wr q (by
   rintro k (rfl|rfl)
   ·exact f.lt
   exact(jk.1 p).1) (by
   rw[<-zt];refine⟨by rw[CC];omega,λx g=>?_⟩;unfold fg at g;obtain⟨j,-,rfl⟩:=ql.1 g;exact dY c o j)
  rw[<-zt]at t;unfold gL at t;rw[<-d]at t;obtain⟨fn,tmps,assign,body,V,j⟩:=t;have u:hU (wr.heap[a]?=T (hF r 55 (0,0))):=O (by rw[d];exact p);have F:=O e;have Sc:=O d;have g:=O h;have H:=O j;clear d e m h j
  gi_wp2_with (refine mr rfl 55 _ rfl a rfl 55 r (0,0) _ u.out jz rfl (by rw[F.sz];rfl) ?_)
  refine⟨rfl,H.mono ?_⟩;rintro e v (⟨rfl,X,h,j⟩|⟨rfl,Uz,h,j⟩)
  ·have m:hU (jB v b 3 (I N (i:Nat))):=O ((j b (.inl rfl)).trans f)
   have K:=O ((j a (.inr rfl)).trans u);have M:=O (C.trans h);have y:=O X;have a4:wr.heap.size<=v.heap.size:=h.size;clear D f p C q u H X h j V
   gi_wp2_with (refine mr rfl 55 _ rfl a rfl 55 r (0,0) _ K.out jz rfl (by rw[F.sz];rfl) ?_)
   have d:=oA (bQ c i) (dY c o i) ⟨#[112,97,116,104]⟩ [] _ v (vG _) (wK _ G) (HT.below M);rw[<-Sc]at d;have z:((eI (bQ c i) ⟨#[112,97,116,104]⟩ []).map v8).toArray=s:=g.eq.symm;rw[z]at d;refine⟨trivial,rfl,(callsIn_wide.2 d).mono ?_⟩;clear d z;rintro e z ⟨rfl,d⟩;have U3:hU (jB z b 3 (I N (i:Nat))):=O ((d.block _ m.lt).trans m);have P:=Z K d;have Pf:=ac M d;have aa:=O (B.keep y (aZ.ofBelow d (λk hk _=>hk)));have YZ:v.heap.size<=z.heap.size:=d.size;clear m K M y d
   gi_wp2_with (refine Cp rfl 55 _ _ rfl a s rfl rfl 55 r P.out (by rw[g.sz];rfl) (by rw[F.sz,g.sz]) g.one ?_;obtain⟨m,d⟩:∃x,x=z.setRow a s:=⟨_,rfl⟩;have a5:=O d;rw[<-d];have M:hU (m.heap[a]?=T (hF s 55 (0,0))):=O (by rw[d];exact jt _ _ _ _ _ _ P.out);have K:hU (jB m b 3 (I N (i:Nat))):=O (by rw[d];exact(jA _ _ _ _ R.out).trans U3);have a2:hU (Q (fg c (i+1)) (λk=>k=b\/k=a) m):=O (by rw[d];exact B.keep aa (aZ.setRow _ _ _ (.inr rfl)));have Pk:hU (ic w0 w0 m):=O (by rw[d];exact jv Pf ad _);have k:z.heap.size<=m.heap.size:=(by rw[d];simp[o4]);have ba:=K.cell;have bb:=K.frozen;clear d P U3 aa Pf)
   have k:=K.set (I N ((i:Int)+1));have x:=k.cell;refine⟨⟨by rw[World.size_setCell];omega,i+1,by omega,O k,O ?_,O ?_,O ?_⟩,?_⟩
   ·rw[<-g.eq];exact(qO _ _ _ _ (Ne.symm R.out)).trans M
   ·exact Pk.setCell S6.out _
   ·exact B.keep a2 (aZ.setCell _ _ _ (.inl rfl))
   rw[x,E];simp only[Option.getD_some,jg];omega
  have y:=O Uz;clear D f p C q u H Uz h j V E
  gi_wp2
  refine jI (results_none rfl _ _ _) rfl ?_;exact⟨⟨_,rfl⟩,.inr ⟨_,_,trivial,y⟩⟩
 have hd:=ar ((i:Int)<=9);obtain rfl:i=10:=Y;clear S U a1 E
 gi_wp2
 refine bodyPost_end (results_none rfl _ _ _) rfl ?_;exact⟨⟨_,rfl⟩,.inl ⟨_,_,rfl,q⟩⟩
end
section
variable {P:jE}
theorem Gw{α:Type}{g:ms}{q:Array Tmp}{assign body:Code}{u:Exit->Act->hQ->Prop}{a:Act}{w:hQ}{n:Nat}
 {gf:Nat} {lb:Array hZ} (C:a.eval g=.func (.func gf) #[] lb) (E:∀args w,(j7 gf args).run P w=.ok (.enter gf args) w)
 {encs:α->Array hZ} {y:Nat->Prop} {n₀:Nat} {S z V:List α->Prop} (F:dI P gf lb encs y n₀ S z V w)
 (H:n₀<=w.heap.size) (M:∀x,(encs x).size=q.size) (Q:∀k,y k->k<w.heap.size)
 (f:List α->(Nat->Prop)->hQ->Prop) (m:Code->List α->(Nat->Prop)->hQ->Prop) (R:bi w.heap.size f) (U:∀c,bi w.heap.size (m c)) (X:f [] y w)
 (o:α->Act->(Nat->Prop)->hQ->Prop) (aa:bi w.heap.size (fun(s:α×Act) Ψ W=>o s.1 s.2 Ψ W))
 (ad:∀(l:Nat) (d:List α) (x:α) (Ψ:Nat->Prop) (b:hQ) (K:Act->hQ->Prop),f d Ψ b->V (d++[x])->(∀k,Ψ k->k<b.heap.size)->
  (∀i e,ic b b e->f d Ψ e->o x i Ψ e->K i e)->
  assign.wpIn (Fence.wide.inRound l) 0 P (Exit.then K (λ_ _ _=>False)) {tmps:=(q.zip (encs x)).foldl (λt (p,v)=>t.setIfInBounds p v) a.tmps,defers:=[]} b)
 (t:∀(l:Nat) (d:List α) (x:α) (Ψ:Nat->Prop) (i:Act) (b:hQ),f d Ψ b->o x i Ψ b->V (d++[x])->(∀k,Ψ k->k<b.heap.size)->w.heap.size<=b.heap.size->(∃r,b.heap[l]?=T (.loop r))->
  body.wpIn (Fence.wide.inRound l) 0 P (nD w.heap.size n₀ f m (d++[x]) Ψ b) i b)
 (v:∀(D:Nat) (xs:List α) (Ψ:Nat->Prop) (W:hQ),w.heap.size<=D->S xs->f xs Ψ W->W.heap[D]?=T (.deferred (T []))->u .normal {a with defers:={target:=.collected D,args:=#[]}::a.defers} W)
 (al:∀(D:Nat) (c:Code) (d:List α) (Ψ:Nat->Prop) (W:hQ),w.heap.size<=D->z d->m c d Ψ W->W.heap[D]?=T (.deferred (T []))->c.wpIn Fence.wide n P u {a with defers:={target:=.collected D,args:=#[]}::a.defers} W):
 (Code.rangeFunc g q assign body).wpIn Fence.wide n P u a w:=by
 refine wN C E F.v H M Q f m R (λ_ _ _ _=>trivial) U X o aa (λl d x Ψ b K p _ j s hk=>ad l d x Ψ b K p j s hk) (λl d x Ψ i b p K j s e h h1 k=>?_) (λD xs Ψ W e=>v D xs Ψ W (j4 e.symm)) (λD c d Ψ W e=>al D c d Ψ W (j4 e.symm));obtain⟨-,-,j⟩:=j;obtain⟨r,k⟩:=k;exact wpIn_mono (t l d x Ψ i b p K j s Y ⟨r,by rw[h];exact k⟩) λe a B h=>nD.two h1 k h
end
section
attribute [local go_sem] Oper.semAt_some
def fy(l:List (LBy)):List hZ:=(l.map λk=>k.map v8).flatten
theorem KS(l:List (LBy))(k:LBy):fy (l++[k])=fy l++k.map v8:=by unfold fy;simp
theorem Fa:(ih.info? 55).map (λi=>(i.zero,i.size,i.bytes))=T (T (ja aI),32,32):=by kernel_rfl
def zo(f:LBy->Nat->Act)(x:LBy)(a:Act)(Ψ:Nat->Prop)(W:hQ):Prop:=∃g,a=f x g/\W.heap[g]?=T (hF (x.map v8).toArray 55 (0,0))/\¬Ψ g
theorem N6(B0:Nat)(f:LBy->Nat->Act):bi B0 (fun(s:LBy×Act) Ψ W=>zo f s.1 s.2 Ψ W):=by
 rintro s Ψ c l B ⟨g,e,h,d⟩ i m j;have a:¬c g:=λk=>by
  rcases j _ k with b|b
  ·exact d b
  have:=(jk.1 h).1;omega
 exact⟨g,e,i.cells h a,a⟩
theorem zr:∀(xs:List hZ) (k:Nat) (cs:Array hZ),k+xs.length<=cs.size->((xs.zipIdx k).foldl (λcs x=>cs.setIfInBounds x.2 x.1) cs).toList=cs.toList.take k++xs++cs.toList.drop (k+xs.length)
 |[],k,cs,h=>by simp
 |x::xs,k,cs,h=>by
  rw[jN]at h;have hk:k<cs.toList.length:=by rw[j5];omega
  rw[List.zipIdx_cons,List.foldl_cons,zr xs (k+1) _ (by rw[Array.size_setIfInBounds];omega),Array.toList_setIfInBounds,qK,qm (jc _),List.getElem?_set_self hk,qn Y,jN];simp only[Option.toList_some,jP,List.singleton_append,n0,ki];rw[show k+1+xs.length=k+(xs.length+1) by omega]
theorem FS(X a:Array hZ)(h:X.size=32)(d:a.size=32):Array.foldl (λcs x=>cs.setIfInBounds x.2 x.1) a X.zipIdx 0 32=X:=by
 have b:X.zipIdx.size=32:=by simp[h]
 have c:Array.foldl (λcs (x:hZ×Nat)=>cs.setIfInBounds x.2 x.1) a X.zipIdx 0 32=X.zipIdx.toList.foldl (λcs x=>cs.setIfInBounds x.2 x.1) a:=by
  rw[Array.foldl_toList,b]
 rw[c,Array.toList_zipIdx]
 apply Array.ext'
 rw[zr _ _ _ (by rw[j5];omega)];rw[j5,qi,ki,qo (by rw[j5];omega),jR]
theorem L8{gf:Nat}{lb:Array hZ}(b:∀args w,(j7 gf args).run ih w=.ok (.enter gf args) w){p:Nat->Prop}{n₀:Nat}{S Sp V:List (LBy)->Prop}{w:hQ}
 (c:dI ih gf lb (λx:LBy=>#[gL x]) p n₀ S Sp V w) (Tp:n₀<=w.heap.size) (H:∀k,p k->k<w.heap.size) (d:∀a,V a->a.length<=100000/\∀x∈a,x.length=32) (f:Nat) (s:f<=w.heap.size) (ZL:∀k,p k->f<=k):
 jf ih 136 #[A hH 0 0,.func (.func gf) #[] lb] w λe w'=>∃v xs,e=jd v/\S xs/\w'.ownsRow w 55 32 v xs.length (fy xs)/\ic f w w':=by
 have aa:=O c;have ad:=O b;have z:=O d;clear c b d;refine(callsIn_wide (n:=0)).1 ?_;refine callsIn_of_wp_marks func136 rfl trivial ?_ rfl;simp only[ntmps136,jq,jN,j6,Nat.reduceAdd,Nat.reduceSub,qP,qQ,qS,qT,ki,n0]
 gi_wp2_with fail
 obtain⟨d,a⟩:=J (w.alloc (hF #[A hH 0 0] 65));have bN:jB d w.heap.size 65 (A hH 0 0):=by rw[a];exact Boxed.new w _ _
 have M:ic w w d:=by rw[a];exact(ju _ w).alloc (jc _) _
 have a5:w.heap.size+1<=d.heap.size:=by rw[a];simp
 rw[<-a];clear a;have al:kK w.heap.size 65 w.heap.size 55 32 ([]:List (LBy)).length (fy []) (λ_=>True) p d/\(ic f w d/\∀k,p k->f<=k):=by
  refine⟨⟨_,bN,λh=>by have:=H _ h;omega,jT _ _ _ _,by simp[qF],trivial⟩,M.mono s,ZL⟩
 have P:bi d.heap.size (fun(b:List (LBy)) Ψ W=>kK w.heap.size 65 w.heap.size 55 32 b.length (fy b) (λ_=>True) Ψ W):=oB (β:=List (LBy)) d.heap.size w.heap.size 65 w.heap.size 55 32 (λb=>b.length) (λb=>fy b) (λ_ _=>True);refine Gw (n:=0) (gf:=gf) (lb:=lb) rfl ad (aa.later M) Y (λ_=>rfl) (λk hk=>by have:=H k hk;omega)
  (λb Ψ W=>kK w.heap.size 65 w.heap.size 55 32 b.length (fy b) (λ_=>True) Ψ W/\(ic f w W/\∀k,Ψ k->f<=k))
  (λ_ _ _ _=>False)
  (P.and (k7 _ _ w s Y))
  (λ_=>eY _ _)
  al
  (zo (λx g=>{tmps:=#[A hH 0 0,.func (.func gf) #[] lb,jm (T ⟨w,0,hH⟩),jF,A hH 0 0,jm (T ⟨g,0,hH⟩),.func (.func gf) #[] lb,gL x,jF,jF,jF,jF,jF],defers:=[]})) (N6 _ _)
  ?assign ?body ?done ?stop
 case assign=>
  intro l b x Ψ a K C q D t;have u:=(z _ q).2 x av;obtain⟨X,c,j⟩:=Arr.mk' u;have i:gL x=ja X:=by unfold gL;rw[c]
  rw[i];have y:=O c;have m:=O j;clear c j i
  gi_wp2_with (refine Cp rfl 55 _ _ rfl a.heap.size X rfl rfl 55 _ (je a _) (by rw[m.sz];rfl) (by rw[m.sz];rfl) m.one ?_)
  obtain⟨r,o⟩:=J ((a.alloc (hF aI 55)).setRow a.heap.size X);rw[<-o];have E:r.heap[a.heap.size]?=T (hF X 55 (0,0)):=by rw[o];exact jt _ _ _ _ _ _ (je a _)
  have B:ic a a r:=by rw[o];exact jv (af a _) (jc _) _
  refine t _ _ B ((P.and (k7 _ _ w s Y)).keep C (aZ.ofBelow B (λk hk _=>hk))) ⟨a.heap.size,?_,by rw[<-y];exact E,λh=>absurd (D _ h) (Nat.lt_irrefl _)⟩;have i:gL x=ja X:=by unfold gL;rw[y]
  simp only[i]
  rfl
 case body=>
  rintro l b x Ψ ba a ⟨⟨v,k,K,r,Q,-⟩,o,R⟩ ⟨g,rfl,B,bb⟩ q Uk bc Vf;have au:=(z _ q).1;have u:=(z _ q).2 x av;rw[jj,qU]at au;obtain⟨X,c,j⟩:=Arr.mk' u;have i:gL x=ja X:=by unfold gL;rw[c]
  simp only[i];rw[<-c]at B;have y:=O c;have m:=O j;have U:=k.cell;have C:=O o;have bd:=o.size;obtain⟨i0,hi,Pe,a1,a2⟩:=info_parts Fa;have QL:=m.sz;have a3:=FS X aI QL rfl;clear o q c j i
  gi_wp2_with (first|(refine mr rfl 55 _ rfl g rfl 55 X (0,0) _ B jz rfl (by rw[m.sz];rfl) ?_)|(gi_at_builtin;refine Hid.out ?_))
  refine O ?_;refine wpListIn_append_own_at _ rfl _ _ 65 rfl w.heap.size 55 i0 (ja aI) 32 32 underlying65 hi Pe a1 a2 rfl G v _ _ rfl (r.alloc _) ⟨a,0,hH⟩ 1 1 (x.map v8) rfl (by rw[jh,u]) (Eo x a.heap.size (by rw[<-y];exact je a _)) (pZ _) (by unfold jW;omega) Y (by simp;omega) ?_;intro v' w1 D E ZF F;obtain⟨g',bf,rfl⟩:=ownsRow_succ D;obtain⟨c,ZM⟩:=oq (B0:=d.heap.size) k G r Y (jc _) K Q Uk D E (by intro j hj;rw[hj]at F;rcases F with h|h;exact .inl h.symm;exact .inr (by simpa using h));have j:jB w1 w.heap.size 65 v:=(k.alloc _).kept E (by have:=k.not_row (e:=55) G r;exact this);have bg:=j.cell;have bh:=j.frozen;have a4:=O c;have Ze:=O ZM;clear c ZM D E ZF F U a3 QL B
  gi_wp2_with fail
  obtain⟨v',B,D,E,F,b5⟩:=Ze.out;have c:=a4.out;refine⟨⟨c.1,c.2.1.mono Tp,c.2.2⟩,⟨v',B,D,?_,F,trivial⟩,C.trans (c.2.1.mono s),R⟩;rw[KS,jj,qU];exact E
 case done=>
  rintro D xs Ψ W c a ⟨⟨v,k,K,r,Q,-⟩,o,R⟩ t;have U:=k.cell;have C:=O o;clear o
  gi_wp2
  refine⟨by simp,.inl ⟨_,_,rfl,run_takeDeferred t,?_⟩⟩;exact⟨_,results_tmp rfl _ _ _,_,xs,rfl,a,ownsRow_putObj r _ t rfl,C.trans (gZ Y)⟩
 intro D c b Ψ W _ _ h;exact h.elim
theorem Mq{gf:Nat}{lb:Array hZ}(c:∀args w,(j7 gf args).run ih w=.ok (.enter gf args) w){b:Nat->Prop}{n₀:Nat}{S j V:List (LBy)->Prop}{w:hQ}
 (d:dI ih gf lb (λx:LBy=>#[gL x]) b n₀ S j V w) (f:n₀<=w.heap.size) (g:∀k,b k->k<w.heap.size) (h:∀a,V a->a.length<=100000/\∀x∈a,x.length=32) (a:Nat) (l:a<=w.heap.size) (i:∀k,b k->a<=k):
 jf ih 67 #[.func (.func gf) #[] lb] w λe w'=>∃v xs,e=jd v/\S xs/\w'.ownsRow w 55 32 v xs.length (fy xs)/\ic a w w':=by
 have k:=O (L8 c d f g h a l i);clear c d f g h i
 go_enter func67,ntmps67
 go_wp2_with fail
 refine k.mono ?_;rintro e i ⟨v,xs,rfl,f,c,d⟩;have g:=O c;have h:=O d;clear c d
 go_wp2
 go_ret;exact⟨v,xs,rfl,f,g,h⟩
end
theorem GJ(a:Array hZ)(b:a.size=32)(w:hQ):
 jf ih 68 #[ja a,I N 0] w λe w'=>e=jd (.func (.func 137) #[] #[jm (T ⟨w.heap.size+1,0,hH⟩),jm (T ⟨w,0,hH⟩)])/\w'=(w.alloc (hF a 55)).alloc (hF #[I N 0] 3):=by
 go_enter func68,ntmps68
 go_wp2
 go_ret;exact⟨rfl,rfl⟩
theorem zZ(k:LBy)(d:k.length=32)(w:hQ)(j:cJ w):
 jf ih 16 #[ja (k.map v8).toArray] w λe w'=>∃v,e=jd v/\w'.ownsRow w 55 32 v 10 (fy (fg k 10))/\ic w w w':=by
 obtain⟨b,f,l⟩:=Arr.mk' d;rw[<-f];have s:=O d;have t:=O f;have m:=O l;have u:=O j;have c:=je w (hF b 55);have g:=af w (hF b 55);obtain⟨a,h⟩:=J (w.alloc (hF b 55));obtain⟨x,i⟩:=J w.heap.size;rw[<-h]at g c;rw[<-i]at c;have y:=O c;have n:=O g;have z:=O h;have B:=O i;clear f l d j c g h i
 go_enter func16,ntmps16
 go_upto_region 1 with fail
 rw[<-z,<-B];refine jY ?_;refine jO rfl 55 _ rfl x rfl 55 b (0,0) _ y.out jz rfl (by rw[m.sz];rfl) ?_
 go_wp2_with fail
 refine(GJ b m.sz a).mono ?_;rintro e c ⟨rfl,d⟩;have i:c.heap[a.heap.size]?=T (hF (k.map v8).toArray 55 (0,0)):=by
  rw[d,<-t];exact(j3 _ _ _ av).trans (je a _)
 have l:jB c (a.heap.size+1) 3 (I N (0:Nat)):=by
  have h:=Boxed.new (a.alloc (hF b 55)) 3 (I N (0:Nat));rw[jo]at h;rw[d];exact h
 have o:ic a a c:=by rw[d];exact((ju _ a).alloc (jc _) _).alloc av _
 have C:a.heap.size+1<c.heap.size:=by rw[d];simp
 have g:=n.size;have f:=n.trans (o.mono g);have p:=Hc k s w u (a.heap.size+1) a.heap.size Y g Y c f l i;have q:=Mq (λ_ _=>rfl) p (a8 f.size) (by rintro j (rfl|rfl)<;>omega) (λr h=>⟨by omega,h.2⟩) w.heap.size (a8 f.size) (by rintro j (rfl|rfl)<;>omega);have j:=O q;have r:=O f;clear i l o C g f p q d
 go_wp2_with fail
 refine j.mono ?_;rintro e o ⟨v,xs,rfl,d,f,i⟩;have l:o.ownsRow w 55 32 v 10 (fy (fg k 10)):=by
  have h:=f;rw[d,CC]at h;refine⟨h.1,?_⟩
  rcases h.2 with p|⟨g,q,C,e,D,E⟩
  ·exact .inl p
  exact .inr ⟨g,q,C,e,jw r.size D,E⟩
 have g:=O l;have h:=O (r.trans i);clear f l i j d
 go_wp2_with fail
 go_ret;exact⟨_,rfl,g,h⟩
def beK(n:Nat):Nat->LBy
 |0=>[]
 |k+1=>beK n k++[jV 8 (n/2^(56-8*k))]
def be8(n:Nat):LBy:=beK n 8
theorem sY(n k:Nat):(beK n k).length=k:=by induction k with
 |zero=>rfl
 |succ k a=>simp[beK,a]
def cH(l:List Nat):LBy:=(l.map be8).flatten
theorem pf(l:List Nat):(cH l).length=8*l.length:=by
 unfold cH
 induction l with
 |nil=>rfl
 |cons a l b=>
  have h:(be8 a).length=8:=sY a 8;rw[lv,qV,jj,b,jN,h];omega
theorem sC(l:List Nat)(a:Nat):cH (l++[a])=cH l++be8 a:=by unfold cH;simp
def lZ(a:LBy)(msg:LBy)(nums:List Nat):Nat:=mK a (cH nums++msg)
theorem wI(s:ByteArray)(d:s.size<=1000)(msg:LBy)(vm:hZ)(f:msg.length<=100000)(nums:List Nat)(E:hZ)(F:nums.length<=1000)(g:∀x∈nums,x<9223372036854775808)(w:hQ)(t:BytesAt w vm msg)(hn:cC w E (nums.map Int.ofNat))(h:cJ w):
 jf ih 112 #[hK s,vm,E] w λe w'=>e=jd (I N (lZ (aK s) msg nums:Nat))/\ic w w w':=by
 obtain⟨p,c,rfl,H,a⟩:=hn;rw[jh]at H a⊢;obtain⟨n,l⟩:=J nums.length;rw[<-l]at H F a⊢;have q:=O l;have K:=O a;have aa:=O g;have M:=O t;have Ty:=O f;obtain⟨P,Q,rfl,Ss,-,-⟩:=t;have ad:=O d;have R:=O h;obtain⟨S,b⟩:=J msg.length;rw[<-b]at M Ss⊢;have a1:=O b;clear l a g f d h b
 go_enter func112,ntmps112
 go_wp2_with fail
 go_loopw [7,10,13] (λj b a wr=>∃(i:Nat) (u:hZ),j=u/\a=I N i/\i<=n/\hU (wr.ownsRow w 5 1 u (8*i) ((cH (nums.take i)).map v8))/\hU (ic w w wr)) (λ_ _ a _=>n-(jg a).toNat)
 case atStart=>exact⟨0,_,rfl,rfl,jL _,O (jT _ _ _ _),O (ju _ _)⟩
 obtain⟨i,u,rfl,rfl,hi,U,f⟩:=hrel
 by_cases V:i<n
 ·have hd:=ap ((i:Int)<(n:Int))
  have PX:=ap (i<n);obtain⟨g,o,rfl,k⟩:=K Y;have a:i<nums.length:=by rw[<-q];exact V
  have m:(nums.map Int.ofNat).getD i 0=((nums[i]:Nat):Int):=by simp[jn,a]
  obtain⟨y,d⟩:=J (nums[i]);have a2:y<9223372036854775808:=by rw[d];exact aa _ (qs a)
  have h:=k i V;rw[m,<-d]at h;have c1:wr.cell? ⟨g,o+i,hH⟩=T (I N (y:Nat)):=(bz (f.block g (eN h))).trans h;have Tf:hU (cH (nums.take (i+1))=cH (nums.take i)++be8 y):=O (by
   rw[j8 a,sC,d])
  have v:=f.size;have a3:(0:Int)<=(y:Int):=Y;have a4:pa.wrap (y:Int)=(y:Int):=by rw[pr];omega
  clear m d h k a K
  go_wp2_with fail
  go_loopw [7,10] (λj b d=>∃(k:Nat) (x:hZ) (a:Int),j=x/\b=I N a/\ -8<=a/\a<=56/\hU (a=56-8*(k:Int))/\hU (d.ownsRow w 5 1 x (8*i+k) ((cH (nums.take i)++beK y k).map v8))/\hU (ic w w d)) (λ_ b _=>(jg b+8).toNat)
  case atStart=>exact⟨0,_,_,rfl,rfl,by omega,by omega,O rfl,O (by rw[beK,jR];exact U),f⟩
  obtain⟨k,x,a,rfl,rfl,a5,ba,r,z,B⟩:=hrel
  by_cases W:0<=a
  ·obtain⟨m,rfl⟩:=mb W
   have al:decide ((0:Int)<=(m:Int))=true:=by simp
   have t:m<=56:=Y;have C:k<8:=aw r;have d:beK y (k+1)=beK y k++[jV 8 (y/2^m)]:=by rw[beK,show 56-8*k=m by have:=r.out;omega]
   obtain⟨b,h⟩:=J (jV 8 (y/2^m));rw[<-h]at d;have YY:jb.wrap ((y:Int)/2^m)=(b.toNat:Int):=by
    rw[h,pz,p6];have e:(y:Int)/2^m=((y/2^m:Nat):Int):=by simp
    rw[e];omega
   have au:=O d;have D:=B.size;have bb:decide ((m:Int)<0)=false:=by simp
   clear h d W
   go_wp2_with (at_builtin;refine Hid.out ?_)
   refine O ?_;refine js rfl λ_ h=>mF _ _ rfl w.heap.size _ _ _ rfl (cZ z (af wr _)) _ 1 [I .u8 b.toNat] rfl (nX wr (I .u8 b.toNat)) (by simp[jM]) Y (jw D (af wr _).size) λX w5 d=>h _ _ ?_
   have j:=O (B.trans (((af wr _).mono D).trans (d.below (cZ z (af wr _)) (jw D (af wr _).size))));have Sg:=O d.own;clear h d
   go_wp2_with fail
   refine⟨⟨k+1,_,_,rfl,rfl,by omega,by omega,O (aw r),?_,j⟩,?_⟩
   ·exact O (by rw[au,<-jP,j0];exact Sg)
   simp only[jg];omega
  have al:=ar ((0:Int)<=a);have C:k=8:=aw r;have b:=z.out;rw[C]at b;have m:=O b;clear b C
  go_wp2_with fail
  refine⟨⟨i+1,_,rfl,by go_num,by omega,O ?_,B⟩,?_⟩
  ·rw[Tf];exact m
  simp only[jg];omega
 have hd:=ar ((i:Int)<(n:Int));have PX:=ar (i<n);have a:i=n:=Y;have b:=U.out;rw[a,jC (by rw[<-q];exact jc _)]at b;have m:=O b;have v:=f.size;have g:BytesAt wr (A P S Q) msg:=M.below f;have r:=O g.row;clear b a g
 go_wp2_with (at_builtin;refine Hid.out ?_)
 refine O ?_;have x:=pf nums;have l:nums.length<=1000:=by rw[<-q];exact F
 have y:=Ty.out;refine js rfl λ_ h=>mF _ _ rfl w.heap.size _ _ _ rfl m (A P S Q) msg.length (msg.map v8) rfl r (pZ _) Y v λX w5 d=>h _ _ ?_
 have j:=O (f.trans ((d.below m v)));have a:=d.own;rw[<-j0]at a;have b:8*n+msg.length=(cH nums++msg).length:=by rw[jj,x,<-q]
 rw[b]at a;have g:=BytesAt.of_own a;have k:=Ee s (aw ad) X _ (by rw[jj];omega) w5 g (R.below j).num (R.below j).start;have o:=O k;clear h d a b g k
 go_wp2_with fail
 refine o.mono ?_;rintro e d ⟨rfl,a⟩;have b:=ac j a;clear a o
 go_wp2_with fail
 go_ret;exact⟨rfl,b⟩
theorem fU{P:jE}{fn:Func}{p b:Tmp}{a:jl}(h:fn.results= #[.cell p a,.tmp b])(tmps:Array hZ)(w:hQ)(g:Nat)(t:jl)(cs:Array hZ)(fr:Nat×Nat)(d:TypeDesc)
 (c:tmps.getD p jF=jm (T ⟨g,0,hH⟩)) (e:w.heap[g]?=T (hF cs t fr))
 (f:P.underlying a=T d) (i:(match d with| .struct _ | .array _ _=>true|_=>false)=true) (j:(P.info? a).map (·.size)=T cs.size):
 (results fn tmps).run P w=.ok (jG #[ja cs,tmps.getD b jF]) w:=by
 rw[results_cell_tmp h,c];simp[asAddr,run_loadVar_row w g t a cs fr d e f i j]
def im(x:Int):Prop:=1<=x/\x<2305843009213688669
instance(x:Int):Decidable (im x):=by unfold im;infer_instance
theorem sV(a k:Nat):aG a k<4611686018427377339:=by
 have h:aG a k<PN:=qt _ (by rw[dX];decide)
 rwa [dX]at h
theorem wm(x:Int)(w:hQ):
 jf ih 91 #[I N x] w λe w'=>e=jd (.bool (decide (im x)))/\w=w':=by
 obtain⟨r,a⟩:=J (decide (im x));rw[<-a]
 by_cases b:1<=x
 ·have c:=ap (1<=x)
  obtain rfl:r=decide (x<2305843009213688669):=by rw[a];simp[im,b]
  clear a
  go_enter func91,ntmps91
  go_wp2
  go_ret;exact⟨rfl,rfl⟩
 have c:=ar (1<=x);obtain rfl:r=false:=by rw[a];simp[im,b]
 clear a
 go_enter func91,ntmps91
 go_wp2
 go_ret;exact⟨rfl,rfl⟩
theorem Dr(x:Nat)(f:1<=x)(b:x<2305843009213688669)(w:hQ):
 jf ih 92 #[I N x] w λe w'=>e=jd (I N (aG 4 x:Nat))/\ic w w w':=by
 have c:=O (tc x b)
 go_enter func92,ntmps92
 go_wp2_with fail
 refine(c _).mono ?_;rintro e g ⟨rfl,a⟩;have d:=O a;clear a
 go_wp2_with fail
 go_ret;exact⟨rfl,d⟩
theorem sA(x:Nat)(c:1<=x)(d:x<2305843009213688669)(w:hQ):
 jf ih 37 #[I N x] w λe w'=>e=jd (jG #[I N (aG 4 x:Nat),I N 0])/\ic w w w':=by
 have a:=O (wm (x:Int));have b:im (x:Int):=⟨by omega,by omega⟩;rw[decide_eq_true b]at a;have f:=O (Dr x c d);clear b
 go_enter func37,ntmps37
 go_wp2_with fail
 refine(a _).mono ?_;rintro e h ⟨rfl,rfl⟩
 go_wp2_with fail
 refine(f _).mono ?_;rintro e i ⟨rfl,b⟩;have g:=O b;clear b
 go_wp2_with fail
 go_ret2;exact⟨rfl,g⟩
theorem EV(x:Int)(h:¬im x)(w:hQ):
 jf ih 37 #[I N x] w λe w'=>e=jd (jG #[I N 0,I N 50])/\w=w':=by
 have a:=O (wm x);rw[decide_eq_false h]at a;clear h
 go_enter func37,ntmps37
 go_wp2_with fail
 refine(a _).mono ?_;rintro e b ⟨rfl,rfl⟩
 go_wp2_with fail
 go_ret2;exact⟨rfl,rfl⟩
def rB(x:Nat)(msg:LBy):Nat:=lZ (aK ⟨#[110,111,110,99,101]⟩) msg [x]
def kG(x:Nat)(msg:LBy):Nat:=aG 4 (rB x msg)
def pL(r p:Nat)(msg:LBy):Nat:=lZ (aK ⟨#[115,105,103,110]⟩) msg [r,p]
def kZ(x:Nat)(msg:LBy):Nat:=(rB x msg+pL (kG x msg) (aG 4 x) msg*x%QN)%QN
theorem tD(t m l):lZ t m l<2305843009213688669:=(vy _ _).2
theorem M6(x:Nat)(Q:1<=x)(R:x<2305843009213688669)(msg:LBy)(vm:hZ)(u:msg.length<=100000)(w:hQ)(S:BytesAt w vm msg)(y:cJ w):
 jf ih 48 #[I N x,vm] w λe w'=>e=jd (jG #[ja #[I N (kG x msg:Nat),I N (kZ x msg:Nat)],I N 0])/\ic w w w':=by
 obtain⟨b,a⟩:=J (kG x msg);obtain⟨g,c⟩:=J (rB x msg);obtain⟨r,h⟩:=J (pL b (aG 4 x) msg);obtain⟨k,j⟩:=J (r*x%QN);have o:kZ x msg=(g+k)%QN:=by rw[j,h,a,c];rfl
 have U:hU (g<2305843009213688669):=O (by rw[c];exact tD _ _ _);have Yi:hU (r<2305843009213688669):=O (by rw[h];exact tD _ _ _);have SZ:hU (k<2305843009213688669):=O (by rw[j];exact qt _ G);have Tw:hU (b<4611686018427377339):=O (by rw[a];exact sV _ _);have ad:hU (lZ (aK ⟨#[115,105,103,110]⟩) msg [b,aG 4 x]=r):=O h.symm;have al:hU (lZ (aK ⟨#[110,111,110,99,101]⟩) msg [x]=g):=O c.symm;have au:hU (r*x%QN=k):=O j.symm;have a1:hU (aG 4 g=b):=O (by rw[c,a];rfl);rw[o,<-a];have a2:=O R;have QO:=O Q;have D:=O S;have V:=O u;have W:=O y;obtain⟨X,cm,rfl,Ss,-,-⟩:=S;obtain⟨ml,m⟩:=J msg.length;rw[<-m]at D Ss⊢;have a4:=O m;have n:=wm (x:Int);have z:im (x:Int):=⟨by omega,by omega⟩;rw[decide_eq_true z]at n;have HV:=O n;have EG:∀args w,(j7 91 args).run ih w=.ok (.enter 91 args) w:=λ_ _=>rfl
 have a5:∀args w,(j7 92 args).run ih w=.ok (.enter 92 args) w:=λ_ _=>rfl
 have l:=je w (hF #[I N 0,I N 0] 29);have q:=af w (hF #[I N 0,I N 0] 29);obtain⟨p,s⟩:=J (w.alloc (hF #[I N 0,I N 0] 29));obtain⟨d,t⟩:=J w.heap.size;rw[<-s]at l q;rw[<-t]at l;have C:=O l;have f:=O q;have P3:=O s;have B:=O t;clear a c h j o u y m n z l q s t
 go_enter func48,ntmps48
 go_wp2_with fail
 rw[<-P3,<-B];refine(HV _).mono ?_;rintro e w1 ⟨rfl,rfl⟩
 go_wp2_with fail
 have l:=wI ⟨#[110,111,110,99,101]⟩ G msg (A X ml cm) V [x] _ av (by
  intro z s;simp only[km,lw,or_false]at s;rw[s];omega) (p.alloc (hF #[I N (x:Nat)] 3)) ((D.below f).below (af p _)) (ma p (x:Nat)) ((W.below f).below (af p _))
 rw[al]at l;refine l.mono ?_;clear l;rintro e w2 ⟨rfl,a⟩;replace a:=(af p (hF #[I N (x:Nat)] 3)).trans (a.mono (af p _).size);have t:=Z C a;have m:=ac f a;clear a C f
 go_wp2_with fail
 refine(tc g U w2).mono ?_;rintro e w3 ⟨rfl,a⟩;rw[a1];have u:=Z t a;have C:=ac m a;clear a t m;obtain⟨⟨u3,E⟩,F,n,j⟩:=bP (i:=0) (I N (b:Nat)) u G;obtain⟨H,c⟩:=J (w3.setCell ⟨d,0,hH⟩ (I N (b:Nat)));have a3:=O c;rw[<-c]at n j;have q:hU (H.heap[d]?=T (hF #[I N (b:Nat),I N 0] 29 (0,0))):=O n;have y:=O (C.trans (j.below (by rw[B];exact jc _)));have Yy:=O j;have K:=cell_of (i:=0) q rfl;clear n c j u
 go_upto_region 7 with fail
 rw[<-a3];clear E F;refine jK ?_;refine aY (λc=>c.cell? ⟨d,0,hH⟩=T (I N (b:Nat))) (.take 0 (.take 1 (.take 2 (.take 3 (.take 7 (.one 4 (.one 5 (.one 6 (.one 8 (.take 9 (.take 10 (.take 11 (.take 12 (.take 13 .done)))))))))))))) ae ae ae G (λ_ _ _ _ h=>h) K ?_;obtain⟨y0,h⟩:=J H.drew;have a:=aQ H;rw[<-h]at a⊢;have P:=O (cell_below K a);have Pv:=Z q a;have f:=ac y a;clear a h K q y;iterate 2 refine aC ?_
 (refine ay (v:=?_) rfl ag (λc h=>?_) ?_;rotate_left;(have h:=h;go_simp;with_reducible rfl);refine L ?_)
 iterate 2 refine aC ?_
 refine ai rfl (λK c=>?_);go_simp;refine(Dr x Q R y0).mono ?_;rintro e h ⟨rfl,a⟩;have M:=O (cell_below P a);have Pr:=Z Pv a;have OZ:=ac f a;clear a P Pv f;refine c _ _ M.out λ_=>?_
 clear c;refine L ?_;refine ai rfl (λK c=>?_);go_simp;have a:=af h (hF #[I N (b:Nat),I N (aG 4 x:Nat)] 3);have f:=ky h (b:Nat) (aG 4 x:Nat);obtain⟨y2,Zf⟩:=J (h.alloc (hF #[I N (b:Nat),I N (aG 4 x:Nat)] 3));obtain⟨gi,Yx⟩:=J h.heap.size;rw[<-Zf]at a f⊢;rw[<-Yx]at f⊢;have P:=O (cell_below M a);have t:=Z Pr a;have m:=ac OZ a;have aa:=O f;clear a M Pr OZ Zf Yx f;refine c _ _ P.out λ_=>?_
 clear c;refine L ?_;refine ai rfl (λK c=>?_);go_simp;have l:=wI ⟨#[115,105,103,110]⟩ G msg (A X ml cm) V [b,aG 4 x] _ av (by
  intro z s;simp only[km,lw,or_false]at s
  rcases s with rfl|rfl
  ·have:=Tw.out;omega
  have:=sV 4 x;omega) y2 (D.below m) aa (W.below m)
 rw[ad]at l;refine l.mono ?_;clear l;rintro e M ⟨rfl,a⟩;have f:=O (cell_below P a);have u:=Z t a;have C:=ac m a;clear a P t m aa;refine c _ _ f.out λ_=>?_
 clear c;refine L ?_;refine ai rfl (λK c=>?_);go_simp;have l:=EU r x M Yi a2;rw[au]at l;refine l.mono ?_;clear l;rintro e t ⟨rfl,a⟩;have m:=O (cell_below f a);have q:=Z u a;have y:=ac C a;clear a f u C;refine c _ _ m.out λ_=>?_
 clear c;refine L ?_;iterate 5 refine aC ?_
 refine jJ ?_
 go_wp2_with fail
 have l:=Gs (g:Nat) (k:Nat) t ⟨by omega,by have:=U.out;omega⟩ ⟨by omega,by have:=SZ.out;omega⟩;rw[show((g:Int)+(k:Int))%2305843009213688669=(((g+k)%QN:Nat):Int)from by unfold QN;omega]at l;obtain⟨f,o⟩:=J ((g+k)%QN);rw[<-o]at l;refine l.mono ?_;clear l;rintro e u ⟨rfl,a⟩;have s:=Z q a;have K:=ac y a;have P:=O o;clear a q y m o;obtain⟨⟨u3,E⟩,F,n,j⟩:=bP (i:=1) (I N (f:Nat)) s av;obtain⟨a,l⟩:=J (u.setCell ⟨d,1,hH⟩ (I N (f:Nat)));have o:=O l;rw[<-l]at n j;have m:hU (a.heap[d]?=T (hF #[I N (b:Nat),I N (f:Nat)] 29 (0,0))):=O n;have q:=O (K.trans (j.below (by rw[B];exact jc _)));clear n l j s
 go_upto_region 9 with fail
 rw[<-o];clear E F;refine jY ?_;refine jO rfl 29 _ rfl d rfl 29 #[I N (b:Nat),I N (f:Nat)] (0,0) _ m.out underlying29 rfl rfl ?_;refine js rfl λ_ j=>?_
 go_simp;refine j _ _ ?_;clear j;refine js rfl λ_ c=>jD 29 _ _ rfl d #[I N (b:Nat),I N (f:Nat)] rfl rfl 29 _ m.out rfl rfl (by simp[jM]) (c _ _ ?_)
 have j:(a.setRow d #[I N (b:Nat),I N (f:Nat)]).heap[d]?=T (hF #[I N (b:Nat),I N (f:Nat)] 29 (0,0)):=jt _ _ _ _ _ _ m.out;have l:ic w w (a.setRow d #[I N (b:Nat),I N (f:Nat)]):=jv q.out (by rw[B];exact jc _) _;generalize a.setRow d #[I N (b:Nat),I N (f:Nat)]=z at j l⊢;have n:=O j;have s:=O l;clear j l c
 go_wp2_with fail
 refine bodyPost_ret_by (fU rfl _ _ d 29 #[I N (b:Nat),I N (f:Nat)] (0,0) _ rfl n underlying29 rfl rfl) rfl ⟨by rw[P];rfl,s⟩
section
open Go Go.RowKit
theorem mapM_some{α β:Type}{f:α->Option β}{g:α->β}:∀(l:List α),(∀i∈l,f i=T (g i))->l.mapM f=T (l.map g)
 |[],_=>by simp
 |a::l,h=>by
  rw[List.mapM_cons,h a av,mapM_some l (λi b=>h i (by simp[b]))]
  rfl
theorem EL{P:jE}{t e:jl}{n:Nat}{k:IntKind}(f:P.underlying t=T (.array n e))(he:P.underlying e=T (.int k))(h:P.cellsOf t=n)(j:P.cellsOf e=1)(cs:List Int)(d:cs.length=n)(m:∀c∈cs,(Lit.int k c).wf=true):
 P.keyLits 2 t (cs.map (ii k))=T (cs.map (Lit.int k)):=by
 have c:∀i∈List.range n,P.keyLits 1 e (((cs.map (ii k)).drop (i*1)).take 1)=T [Lit.int k (cs.getD i 0)]:=λi b=>by
  have a:i<cs.length:=by rw[d];exact List.mem_range.1 b
  have l:((cs.map (ii k)).drop (i*1)).take 1=[ii k cs[i]]:=by
   rw[Nat.mul_one,<-List.map_drop,<-List.map_take,List.drop_eq_getElem_cons a,qg,qi,lv,lo]
  have o:cs.getD i 0=cs[i]:=by simp[jn,a]
  rw[l,o];unfold Program.keyLits;rw[he];simp[m _ (qs a)]
 unfold Program.keyLits;rw[f];simp only[jh,d,h,j,if_true];rw[mapM_some (g:=λi=>[Lit.int k (cs.getD i 0)]) _ c];simp only[qW,Option.some.injEq];have o:∀(l:List Nat),(l.map λi=>[Lit.int k (cs.getD i 0)]).flatten=l.map λi=>Lit.int k (cs.getD i 0):=λl=>by
  induction l with
  |nil=>rfl
  |cons a l p=>rw[lv,qV,p];rfl
 rw[o]
 apply List.ext_getElem?
 intro i;rw[j1,j1]
 by_cases b:i<n
 ·rw[List.getElem?_range b,jQ Y]
  have:i<cs.length:=Y;simp[jn,this]
 rw[qX (by simp;omega),qX Y]
 rfl
theorem wY{P:jE}{t e:jl}{n:Nat}{k:IntKind}(f:P.underlying t=T (.array n e))(he:P.underlying e=T (.int k))(g:P.cellsOf t=n)(i:P.cellsOf e=1)(hk:P.keyTypeAt 2 t=true)(xs d:List Int)(j:xs.length=n)(m:d.length=n)
 (p:∀c∈xs,(Lit.int k c).wf=true) (q:∀c∈d,(Lit.int k c).wf=true) (w:hQ):
 (Op.equalIn 10000 t (.agg (xs.map (ii k)).toArray) (.agg (d.map (ii k)).toArray)).run P w=.ok (decide (xs=d)) w:=by
 have o:∀l:List Int,l.length=n->(qu (l.map (ii k)).toArray).formed P t=true:=λl s=>by
  unfold Value.formed;rw[f];simp[g,s]
 obtain⟨r,u,c⟩:=run_equalIn_deep 9998 2 t hk w 2 2 (.agg (xs.map (ii k)).toArray) (.agg (d.map (ii k)).toArray) _ _ (o xs j) (o d m) (by show P.keyLits 2 t (xs.map (ii k)).toArray.toList=_;rw[qY];exact EL f he g i xs j p) (by show P.keyLits 2 t (d.map (ii k)).toArray.toList=_;rw[qY];exact EL f he g i d m q);rw[u]
 congr 1
 have v:xs.map (Lit.int k)=d.map (Lit.int k)↔xs=d:=by
  constructor
  ·intro h
   exact(List.map_inj_right (λa b h=>by injection h)).1 h
  intro h;rw[h]
 rw[v]at c
 by_cases h:xs=d
 ·rw[c.2 h];simp[h]
 have:r=false:=by cases r with
  |false=>rfl
  |true=>exact absurd (c.1 rfl) h
 rw[this];simp[h]
end
def kF(p r s:Int)(msg:LBy):Prop:=aN p/\aN r/\InQ s/\aG 4 s.toNat=r.toNat*aG p.toNat (pL r.toNat p.toNat msg)%PN
theorem MZ(a b:Nat):(((a:Int)==(b:Int))=true↔a=b):=by rw[beq_iff_eq];omega
theorem CV(n:Int):bL n=0\/bL n=40:=by
 by_cases h:aN n
 ·exact .inl (fq h)
 exact .inr (iR h)
theorem Jw(n:Int):iK n=0\/iK n=1:=by unfold iK;split<;>simp
theorem eq3(a b c:Int)(f:a=0\/a=40)(g:b=0\/b=40)(i:c=0\/c=1)(z:hQ):
 (Op.equalIn 10000 203 (ja #[I N a,I N b,I N c]) (ja #[I N 0,I N 0,I N 0])).run ih z=.ok (decide (a=0/\b=0/\c=0)) z:=by
 have h:=wY (P:=ih) (t:=203) (e:=35) (n:=3) (k:=.i64) qD underlying35 ae ae ae [a,b,c] [0,0,0] rfl rfl (by
  intro x d;simp only[km,lw,or_false]at d;exact WalkArith.wf_i64 Y) G z
 simpa using h
theorem DZ{p r s:Int}{msg:LBy}{a kb b:Int}(c:a=bL p)(d:kb=bL r)(f:b=iK s):(a=0/\kb=0/\b=0)↔(aN p/\aN r/\InQ s):=by
 have e:∀n,bL n=0↔aN n:=λn=>⟨λh=>by
  by_cases g:aN n
  ·exact g
  rw[iR g]at h;exact absurd h G,fq⟩
 have q:iK s=0↔InQ s:=by unfold iK;split<;>simp_all
 rw[c,d,f,e,e,q]
theorem Mu{P:jE}{b:Array jS}{c:Exit->Act->hQ->Prop}{S:hQ->Prop}{t:Sch}{a:Act}{w:hQ}(r:Sch){d:Nat->Act}{e:Nat->hQ->Prop}(f:∀x w,e x w->dK P b c S r (d x) w)(h:(∀x w,e x w->dK P b c S r (d x) w)->dK P b c S t a w):dK P b c S t a w:=h f
theorem Jz(p r t:Int)(msg:LBy)(vm:hZ)(k:msg.length<=100000)(w:hQ)(hm:BytesAt w vm msg)(l:cJ w):
 jf ih 55 #[I N p,vm,ja #[I N r,I N t]] w λe w'=>∃b,e=jd (.bool b)/\hU (b=true↔kF p r t msg)/\ic w w w':=by
 obtain⟨m,a⟩:=J (bL p);obtain⟨kb,c⟩:=J (bL r);obtain⟨n,f⟩:=J (iK t);have KA:=fk p;have KB:=fk r;have X:=JL t;rw[<-a]at KA;rw[<-c]at KB;rw[<-f]at X;have aa:=O a;have Wp:=O c;have ad:=O f;have HM:=O hm;have Ty:=O k;have HT:=O l;obtain⟨pm,cm,rfl,Ss,-,-⟩:=hm;obtain⟨ml,o⟩:=J msg.length;rw[<-o]at HM Ss⊢;have d:=je w (hF #[I N r,I N t] 29);have g:=af w (hF #[I N r,I N t] 29);obtain⟨W1,h⟩:=J (w.alloc (hF #[I N r,I N t] 29));obtain⟨F,u⟩:=J w.heap.size;rw[<-h]at d g;rw[<-u]at d;have j:=O d;have O6:=O g;have P3:=O h;have HG:=O u;clear a c f k l o d g h u
 go_enter func55,ntmps55
 have al:=O (eq3 m kb n (by rw[aa];exact CV p) (by rw[Wp];exact CV r) (by rw[ad];exact Jw t))
 go_upto_region 1 with fail
 rw[<-P3,<-HG];refine jK ?_;refine aY (λf=>f.heap[F]?=T (hF #[I N r,I N t] 29 (0,0))) (.take 0 (.take 2 (.take 3 (.take 5 (.take 6 (.two 1 9 (.two 4 9 (.two 7 9 (.take 8 (.one 9 (.one 10 .done))) (.one 7 (.take 8 (.one 10 .done)))) (.one 4 (.one 7 (.take 8 (.one 10 .done))))) (.one 1 (.one 4 (.one 7 (.take 8 (.one 10 .done))))))))))) ae ae ae G (λ_ _ _ _ h=>h) j ?_;obtain⟨W,c⟩:=J W1.drew;have a:=aQ W1;rw[<-c]at a⊢;have Pm:=Z j a;have O6:=ac O6 a;clear a c j;iterate 2 refine aC ?_
 (refine ay (v:=?_) rfl ag (λf c=>?_) ?_;rotate_left;(have c0:=cell_of (i:=0) c rfl;have c1:=cell_of (i:=1) c rfl;go_simp;with_reducible rfl);refine L ?_)
 refine aC ?_
 (refine ay (v:=?_) rfl ag (λf c=>?_) ?_;rotate_left;(have c0:=cell_of (i:=0) c rfl;have c1:=cell_of (i:=1) c rfl;go_simp;with_reducible rfl);refine L ?_)
 apply Mu (.one 10 .done)
 rotate_left
 ·intro S
  refine gx ?_ ?_
  ·refine ai rfl (λl c=>?_)
   go_simp;refine(KA W).mono ?_;rintro e P ⟨rfl,a⟩;have U:=ac O6 a;have H:=Z Pm a;clear a;refine c _ _ H.out λ_=>?_
   clear c;refine L ?_;refine gx ?_ ?_
   ·refine ai rfl (λl c=>?_)
    go_simp;refine(KB P).mono ?_;rintro e x ⟨rfl,a⟩;have y:=ac U a;have j:=Z H a;clear U H;clear a;refine c _ _ j.out λ_=>?_
    clear c;refine L ?_;refine gx ?_ ?_
    ·refine ai rfl (λl c=>?_)
     go_simp;refine(X x).mono ?_;rintro e o ⟨rfl,a⟩;have q:=ac y a;have f:=Z j a;clear y j;clear a;refine c _ _ f.out λ_=>?_
     clear c;refine L ?_;refine aC ?_;refine ai rfl (λl c=>?_);go_simp;have a:=af o (hF #[I N 0,I N 0,I N 0] 203);have d:=je o (hF #[I N 0,I N 0,I N 0] 203);obtain⟨s,z⟩:=J (o.alloc (hF #[I N 0,I N 0,I N 0] 203));have B:F<o.heap.size:=(jk.1 f).1;have C:w.heap.size<=o.heap.size:=q.size;rw[<-z]at a d⊢;obtain⟨D,g⟩:=J o.heap.size;rw[<-g]at d⊢;have E:=O g;clear g;have Q:=ac q a;have k:=Z f a;clear q f;have K:=O d;have M:hU (F<D):=O (by rw[E];exact B);have R:hU (w.heap.size<=D):=O (by rw[E];exact C);clear B C;clear d z a;refine c _ _ k.out λ_=>?_
     clear c;refine L ?_;have u:=(And.intro Q (And.intro k (And.intro K (And.intro M R))));exact S D s u
    refine ai rfl (λl c=>?_);go_simp;have a:=af x (hF #[I N 0,I N 0,I N 0] 203);have d:=je x (hF #[I N 0,I N 0,I N 0] 203);obtain⟨o,z⟩:=J (x.alloc (hF #[I N 0,I N 0,I N 0] 203));have B:F<x.heap.size:=(jk.1 j).1;have C:w.heap.size<=x.heap.size:=y.size;rw[<-z]at a d⊢;obtain⟨D,g⟩:=J x.heap.size;rw[<-g]at d⊢;have E:=O g;clear g;have q:=ac y a;have f:=Z j a;clear y j;have V:=O d;have M:hU (F<D):=O (by rw[E];exact B);have R:hU (w.heap.size<=D):=O (by rw[E];exact C);clear B C;clear d z a;refine c _ _ f.out λ_=>?_
    clear c;refine L ?_;refine ai rfl (λl c=>?_);go_simp;refine(X o).mono ?_;rintro e s ⟨rfl,a⟩;have Q:=ac q a;have k:=Z f a;have K:=Z V a;clear q f V;clear a;refine c _ _ k.out λ_=>?_
    clear c;refine L ?_;refine aC ?_;have u:=(And.intro Q (And.intro k (And.intro K (And.intro M R))));exact S D s u
   refine ai rfl (λl c=>?_);go_simp;have a:=af P (hF #[I N 0,I N 0,I N 0] 203);have d:=je P (hF #[I N 0,I N 0,I N 0] 203);obtain⟨x,z⟩:=J (P.alloc (hF #[I N 0,I N 0,I N 0] 203));have B:F<P.heap.size:=(jk.1 H).1;have C:w.heap.size<=P.heap.size:=U.size;rw[<-z]at a d⊢;obtain⟨D,g⟩:=J P.heap.size;rw[<-g]at d⊢;have E:=O g;clear g;have y:=ac U a;have j:=Z H a;clear U H;have Sb:=O d;have M:hU (F<D):=O (by rw[E];exact B);have R:hU (w.heap.size<=D):=O (by rw[E];exact C);clear B C;clear d z a;refine c _ _ j.out λ_=>?_
   clear c;refine L ?_;refine ai rfl (λl c=>?_);go_simp;refine(KB x).mono ?_;rintro e o ⟨rfl,a⟩;have q:=ac y a;have f:=Z j a;have V:=Z Sb a;clear y j Sb;clear a;refine c _ _ f.out λ_=>?_
   clear c;refine L ?_;refine ai rfl (λl c=>?_);go_simp;refine(X o).mono ?_;rintro e s ⟨rfl,a⟩;have Q:=ac q a;have k:=Z f a;have K:=Z V a;clear q f V;clear a;refine c _ _ k.out λ_=>?_
   clear c;refine L ?_;refine aC ?_;have u:=(And.intro Q (And.intro k (And.intro K (And.intro M R))));exact S D s u
  refine ai rfl (λl c=>?_);go_simp;have a:=af W (hF #[I N 0,I N 0,I N 0] 203);have d:=je W (hF #[I N 0,I N 0,I N 0] 203);obtain⟨P,z⟩:=J (W.alloc (hF #[I N 0,I N 0,I N 0] 203));have B:F<W.heap.size:=(jk.1 Pm).1;have C:w.heap.size<=W.heap.size:=O6.size;rw[<-z]at a d⊢;obtain⟨D,g⟩:=J W.heap.size;rw[<-g]at d⊢;have E:=O g;clear g;have U:=ac O6 a;have H:=Z Pm a;have g:=O d;have M:hU (F<D):=O (by rw[E];exact B);have R:hU (w.heap.size<=D):=O (by rw[E];exact C);clear B C;clear d z a;refine c _ _ H.out λ_=>?_
  clear c;refine L ?_;refine ai rfl (λl c=>?_);go_simp;refine(KA P).mono ?_;rintro e x ⟨rfl,a⟩;have y:=ac U a;have j:=Z H a;have Sb:=Z g a;clear U H g;clear a;refine c _ _ j.out λ_=>?_
  clear c;refine L ?_;refine ai rfl (λl c=>?_);go_simp;refine(KB x).mono ?_;rintro e o ⟨rfl,a⟩;have q:=ac y a;have f:=Z j a;have V:=Z Sb a;clear y j Sb;clear a;refine c _ _ f.out λ_=>?_
  clear c;refine L ?_;refine ai rfl (λl c=>?_);go_simp;refine(X o).mono ?_;rintro e s ⟨rfl,a⟩;have Q:=ac q a;have k:=Z f a;have K:=Z V a;clear q f V;clear a;refine c _ _ k.out λ_=>?_
  clear c;refine L ?_;refine aC ?_;have u:=(And.intro Q (And.intro k (And.intro K (And.intro M R))));exact S D s u
 clear O6 Pm;rintro D s ⟨Q,k,K,M,R⟩;refine ai rfl (λl c=>?_);rw[if_pos ag];refine jD 203 _ _ rfl D #[I N m,I N kb,I N n] rfl rfl 203 _ K.out ae ag (by simp[jM]) (c _ _ ((jA _ _ _ _ (oo M)).trans k) λ_=>?_);clear c;have c:(s.setRow D #[I N m,I N kb,I N n]).heap[D]?=T (hF #[I N m,I N kb,I N n] 203 (0,0)):=jt _ _ _ _ _ _ K.out;have f:(s.setRow D #[I N m,I N kb,I N n]).heap[F]?=T (hF #[I N r,I N t] 29 (0,0)):=(jA _ _ _ _ (oo M)).trans k;have g:ic w w (s.setRow D #[I N m,I N kb,I N n]):=jv Q R _;generalize s.setRow D #[I N m,I N kb,I N n]=z at c f g⊢;have B:=O c;have C:=O f;have E:=O g;clear c f g;refine L ?_;refine jJ ?_;have eq3:=al.out;clear al KA KB X
 by_cases g:m=0/\kb=0/\n=0
 ·have X:decide (m=0/\kb=0/\n=0)=true:=decide_eq_true g
  obtain⟨l,o,q⟩:=(DZ (msg:=msg) aa Wp ad).1 g;clear g
  go_upto_region 2 with fail
  refine jY ?_;refine jO rfl 203 _ rfl D rfl 203 #[I N m,I N kb,I N n] (0,0) _ B.out qD rfl ae ?_;clear B;obtain⟨c,rfl⟩:=mb (show 0<=p by have:=l.1;omega);obtain⟨f,rfl⟩:=mb (show 0<=r by have:=o.1;omega);obtain⟨x,rfl⟩:=mb q.1;have H:x<2305843009213688669:=by have:=q.2;omega
  have P:f<9223372036854775808:=by have:=o.2.1;omega
  have U:c<9223372036854775808:=by have:=l.2.1;omega
  have V:=O l;have HR:=O o;have ZU:=O H;have Un:=O P;have al:=O U;obtain⟨j,y⟩:=J (pL f c msg);have au:hU (lZ (aK ⟨#[115,105,103,110]⟩) msg [f,c]=j):=O y.symm;have Yi:hU (j<2305843009213688669):=O (by rw[y];exact tD _ _ _);have Q7:hU (∀b:Bool,(b=true↔aG 4 x=f*aG c j%PN)->(b=true↔kF (c:Nat) (f:Nat) (x:Nat) msg)):=O (λb h=>by
   rw[h];unfold kF;simp only[Int.toNat_natCast,<-y];exact⟨λh=>⟨l,o,q,h⟩,λh=>h.2.2.2⟩)
  clear l o q H P U y;have c1:=cell_of (i:=1) C rfl
  go_wp2_with fail
  refine(tc x ZU z).mono ?_;rintro e l ⟨rfl,a⟩;have y:=Z C a;have o:=ac E a;clear c1 a C E;have c0:=cell_of (i:=0) y rfl
  go_wp2_with fail
  have S:=wI ⟨#[115,105,103,110]⟩ G msg (A pm ml cm) Ty [f,c] _ av (by
   intro q H;simp only[km,lw,or_false]at H
   rcases H with rfl|rfl
   ·exact Un
   exact al) (l.alloc (hF #[I N (f:Nat),I N (c:Nat)] 3)) ((HM.below o).below (af l _)) (ky l (f:Nat) (c:Nat)) ((HT.below o).below (af l _))
  rw[au]at S;refine S.mono ?_;clear S;rintro e P ⟨rfl,a⟩;replace a:=(af l (hF #[I N (f:Nat),I N (c:Nat)] 3)).trans (a.mono (af l _).size);have q:=Z y a;have H:=ac o a;clear c0 a y o
  go_wp2_with fail
  refine(wU c j V Yi P).mono ?_;rintro e U ⟨rfl,a⟩;have o:=Z q a;have y:=ac H a;clear a q H;have c0:=cell_of (i:=0) o rfl
  go_wp2_with fail
  refine(Kw f (aG c j) HR (mQ V j) U).mono ?_;rintro e H ⟨rfl,a⟩;have q:=ac y a;clear a o y c0
  go_wp2_with fail
  go_ret;exact⟨_,rfl,O (Q7 _ (MZ _ _)),q⟩
 have X:decide (m=0/\kb=0/\n=0)=false:=decide_eq_false g;have c:hU (¬kF p r t msg):=O (λh=>g ((DZ (msg:=msg) aa Wp ad).2 ⟨h.1,h.2.1,h.2.2.1⟩));clear g
 go_upto_region 2 with fail
 refine jY ?_;refine jO rfl 203 _ rfl D rfl 203 #[I N m,I N kb,I N n] (0,0) _ B.out qD rfl ae ?_
 go_wp2_with fail
 go_ret;exact⟨false,rfl,O ⟨λh=>absurd h G,λh=>absurd h c⟩,E⟩
structure AL(b:Nat)(x:Nat)(c:Nat):Prop where
 enter:∀args w,(j7 b args).run ih w=.ok (.enter b args) w
 call:∀(a:Nat) (w:hQ),aN a->jB w c 3 (I N (x:Nat))->jf ih b #[I N a,jm (T ⟨c,0,hH⟩)] w λe w'=>e=jd (jG #[I N (aG a x:Nat),I N 0])/\ic w w w'
theorem Nm(x f:Nat)(b:x<2305843009213688669):AL 99 x f:=by
 refine⟨λ_ _=>rfl,λa w c d=>?_⟩;have g:=O (wU a x c b);have h:=d.cell;clear c b d
 go_enter func99,ntmps99
 go_wp2_with fail
 refine(g _).mono ?_;rintro e d ⟨rfl,b⟩;have c:=O b;clear b
 go_wp2_with fail
 go_ret2;exact⟨rfl,c⟩
def rM(p a v:Nat):LBy:=cg (aK ⟨#[119,114,97,112]⟩) (cH [p,a,v])
theorem vq(p u v):(rM p u v).length=32:=gh _ _
theorem uO(l:LBy)(m:Nat)(b:BitVec 8):((l++jp (m+1) 0#8).set l.length b)=(l++[b])++jp m 0#8:=by
 rw[List.set_append_right _ _ (jc _),Nat.sub_self,List.replicate_succ,List.set_cons_zero,jP]
 rfl
theorem Kh{W:hQ}{D:Nat}{l:LBy}{n:Nat}{t:jl}(h:W.heap[D]?=T (hF (l.map v8).toArray t (0,0)))(a:l.length=n):BytesAt W (A (T ⟨D,0,hH⟩) n n) l:=by
 refine⟨_,n,by rw[a],by rw[a];exact jc _,(λh=>by cases h),λ_=>⟨D,0,rfl,λj b=>cell_of h ?_⟩⟩;rw[ji];simp[jn,b]
theorem GP(R x K:Nat)(l:AL R x K)(p a e:Nat)(t:p<9223372036854775808)(s:a<9223372036854775808)(he:aN e)(w:hQ)(c:jB w K 3 (I N (x:Nat)))(u:cJ w):
 jf ih 102 #[ja #[I N p,.func (.func R) #[] #[jm (T ⟨K,0,hH⟩)]],I N a,I N e] w λe' w'=>e'=jd (ja ((rM p a (aG e x)).map v8).toArray)/\ic w w w':=by
 obtain⟨aa,y,z⟩:=Arr.mk' (vq p a (aG e x));rw[<-y];have S:=O z;have al:=O u;have H:=l.enter;have B:=O l.call;have HE:=O he;have hv:=sV e x;obtain⟨v,m⟩:=J (aG e x);rw[<-m]at hv;have Q7:=O m;have HP:=O t;have HU:=O s;have HV:hU (v<9223372036854775808):=O Y;have f:=je w (hF #[I N p,.func (.func R) #[] #[jm (T ⟨K,0,hH⟩)]] 174);have b:=af w (hF #[I N p,.func (.func R) #[] #[jm (T ⟨K,0,hH⟩)]] 174);obtain⟨W0,g⟩:=J (w.alloc (hF #[I N p,.func (.func R) #[] #[jm (T ⟨K,0,hH⟩)]] 174));rw[<-g]at f b;have h:=je W0 (hF aI 55);have d:=af W0 (hF aI 55);obtain⟨W1,o⟩:=J (W0.alloc (hF aI 55));obtain⟨r,j⟩:=J w.heap.size;rw[<-o]at h d;have C:W0.heap.size=r+1:=by rw[g,j];simp
 rw[C]at h;rw[<-j]at f;have k:=Z f d;have D:=O h;have E:=O (b.trans (d.mono b.size));have F:hU (jB W1 K 3 (I N (x:Nat))):=O (((b.trans (d.mono b.size)).block _ c.lt).trans c);have U:=O j;have bf:=O g;have P3:=O o;have q:=cell_of (i:=0) k rfl;have M:=cell_of (i:=1) k rfl;clear y z u l he m t s f b g h d o C j c
 go_enter func102,ntmps102
 go_upto_region 1 with fail
 rw[<-bf,<-P3,<-U]
 go_wp2_with fail
 refine(B e W1 HE F).mono ?_;rintro e2 z1 ⟨rfl,b⟩;rw[<-Q7];have j:=Z k b;have g:=Z D b;have l:=ac E b;clear b q M k D E F B H;have d:=je z1 (hF #[ii jb 0,ii jb 0,ii jb 0,ii jb 0,ii jb 0,ii jb 0,ii jb 0,ii jb 0,ii jb 0,ii jb 0,ii jb 0,ii jb 0,ii jb 0,ii jb 0,ii jb 0,ii jb 0,ii jb 0,ii jb 0,ii jb 0,ii jb 0,ii jb 0,ii jb 0,ii jb 0,ii jb 0] 238);have b:=af z1 (hF #[ii jb 0,ii jb 0,ii jb 0,ii jb 0,ii jb 0,ii jb 0,ii jb 0,ii jb 0,ii jb 0,ii jb 0,ii jb 0,ii jb 0,ii jb 0,ii jb 0,ii jb 0,ii jb 0,ii jb 0,ii jb 0,ii jb 0,ii jb 0,ii jb 0,ii jb 0,ii jb 0,ii jb 0] 238);obtain⟨W2,h⟩:=J (z1.alloc (hF #[ii jb 0,ii jb 0,ii jb 0,ii jb 0,ii jb 0,ii jb 0,ii jb 0,ii jb 0,ii jb 0,ii jb 0,ii jb 0,ii jb 0,ii jb 0,ii jb 0,ii jb 0,ii jb 0,ii jb 0,ii jb 0,ii jb 0,ii jb 0,ii jb 0,ii jb 0,ii jb 0,ii jb 0] 238));obtain⟨D,f⟩:=J z1.heap.size;rw[<-h]at d b;rw[<-f]at d;have Sf:hU (W2.heap[D]?=T (hF (([]++jp 24 0#8).map v8).toArray 238 (0,0))):=O d;have PC:=Z g b;have O8:=ac l b;have M:hU (r+1<D):=O (by rw[f];exact(jk.1 g).1);have q:=cell_of (i:=0) (ak j b) rfl;have bg:=O h;have HD:=O f;clear d b h f j g l
 go_upto_region 3 with fail
 rw[<-bg,<-HD]
 go_wp2_with fail
 have au:∀W:hQ,(Instr.index 239 (ja #[I N p,I N a,I N v]) (I N 0)).run ih W=.ok (I N p) W:=λW=>by
  have s:=qE;unfold Instr.index;simp[asIntOf,qe s,part]
 have a1:∀W:hQ,(Instr.index 239 (ja #[I N p,I N a,I N v]) (I N 1)).run ih W=.ok (I N a) W:=λW=>by
  have s:=qE;unfold Instr.index;simp[asIntOf,qe s,part]
 have a2:∀W:hQ,(Instr.index 239 (ja #[I N p,I N a,I N v]) (I N 2)).run ih W=.ok (I N v) W:=λW=>by
  have s:=qE;unfold Instr.index;simp[asIntOf,qe s,part]
 clear q
 go_loopw [25] (λb wr=>∃i:Nat,b=I N i/\i<=3/\hU (wr.heap[D]?=T (hF ((cH ([p,a,v].take i)++jp (24-8*i) 0#8).map v8).toArray 238 (0,0)))/\hU (wr.heap[r+1]?=T (hF aI 55 (0,0)))/\hU (ic w w wr)) (λb _=>(3-jg b).toNat)
 case atStart=>exact⟨0,rfl,by omega,O Sf,PC,O8⟩
 obtain⟨i,rfl,hi,PT,ad,Q⟩:=hrel
 rcases(show i=0\/i=1\/i=2\/i=3 by omega)with rfl|rfl|rfl|rfl
 ·have a3:=HP.out
  have a4:pa.wrap (p:Int)=(p:Int):=by rw[pr];omega
  have a5:(0:Int)<=(p:Int):=Y;have ba:=au
  go_wp2_with fail
  go_loopw [29] (λg j=>∃k:Nat,g=I N k/\k<=8/\hU (j.heap[D]?=T (hF (((cH ([p,a,v].take 0)++beK p k)++jp (24-0-k) 0#8).map v8).toArray 238 (0,0)))/\hU (j.heap[r+1]?=T (hF aI 55 (0,0)))/\hU (ic w w j)) (λg _=>(8-jg g).toNat)
  case atStart=>exact⟨0,rfl,by omega,O (by rw[beK,jR];exact PT),ad,Q⟩
  obtain⟨k,rfl,V8,d,t,u⟩:=hrel
  by_cases Vg:k<8
  ·have V:=ap ((k:Int)<8)
   obtain⟨m,y⟩:∃m:Nat,m=56-8*k:=⟨_,rfl⟩;have SB:(56:Int)-8*(k:Int)=(m:Int):=Y;have bb:m<=56:=Y;have bc:decide ((m:Int)<0)=false:=by simp
   have l:beK p (k+1)=beK p k++[jV 8 (p/2^m)]:=by rw[beK,y]
   obtain⟨b,c⟩:=J (jV 8 (p/2^m));rw[<-c]at l;have YY:jb.wrap ((p:Int)/2^m)=(b.toNat:Int):=by
    rw[c,pz,p6];have e:(p:Int)/2^m=((p/2^m:Nat):Int):=by simp
    rw[e];omega
   obtain⟨P,f⟩:=J (cH ([p,a,v].take 0)++beK p k);have o:P.length=k:=by rw[f,jj,pf,sY];simp
   have z:cH ([p,a,v].take 0)++beK p (k+1)=P++[b]:=by rw[l,<-jP,f]
   rw[<-f]at d;have B:24-0-k=(24-0-(k+1))+1:=Y;rw[B]at d;obtain⟨⟨u3,bd⟩,Tn,C,E⟩:=bP (i:=k) (v8 b) d (by simp[o]);have F:(wr.setCell ⟨D,k,hH⟩ (v8 b)).heap[D]?=T (hF (((P++[b])++jp (24-0-(k+1)) 0#8).map v8).toArray 238 (0,0)):=by
    rw[C,qv,<-qw,<-o,uO]
   have H:=O F;have q:=O E;have X:=O z;clear l c f o z B C F E y;unfold v8 at H q
   go_wp2_with fail
   refine⟨⟨k+1,by go_num,by omega,O (by rw[X];exact H),O ((q.block _ (aw M)).trans t),O (u.trans (q.below (dP M U)))⟩,by simp only[jg];omega⟩
  have hk:k=8:=Y;have V:=ar ((k:Int)<8);have h:=d.out;rw[hk,show cH ([p,a,v].take 0)++beK p 8=cH ([p,a,v].take (0+1))from(sC ([p,a,v].take 0) p).symm]at h;have Sk:=O h;clear h hk
  go_wp2_with fail
  refine⟨⟨0+1,by go_num,by omega,Sk,t,u⟩,by simp only[jg];omega⟩
 ·have a3:=HU.out
  have a4:pa.wrap (a:Int)=(a:Int):=by rw[pr];omega
  have a5:(0:Int)<=(a:Int):=Y;have ba:=a1
  go_wp2_with fail
  go_loopw [29] (λg j=>∃k:Nat,g=I N k/\k<=8/\hU (j.heap[D]?=T (hF (((cH ([p,a,v].take 1)++beK a k)++jp (24-8-k) 0#8).map v8).toArray 238 (0,0)))/\hU (j.heap[r+1]?=T (hF aI 55 (0,0)))/\hU (ic w w j)) (λg _=>(8-jg g).toNat)
  case atStart=>exact⟨0,rfl,by omega,O (by rw[beK,jR];exact PT),ad,Q⟩
  obtain⟨k,rfl,V8,d,t,u⟩:=hrel
  by_cases Vg:k<8
  ·have V:=ap ((k:Int)<8)
   obtain⟨m,y⟩:∃m:Nat,m=56-8*k:=⟨_,rfl⟩;have SB:(56:Int)-8*(k:Int)=(m:Int):=Y;have bb:m<=56:=Y;have bc:decide ((m:Int)<0)=false:=by simp
   have l:beK a (k+1)=beK a k++[jV 8 (a/2^m)]:=by rw[beK,y]
   obtain⟨b,c⟩:=J (jV 8 (a/2^m));rw[<-c]at l;have YY:jb.wrap ((a:Int)/2^m)=(b.toNat:Int):=by
    rw[c,pz,p6];have e:(a:Int)/2^m=((a/2^m:Nat):Int):=by simp
    rw[e];omega
   obtain⟨P,f⟩:=J (cH ([p,a,v].take 1)++beK a k);have o:P.length=8+k:=by rw[f,jj,pf,sY];simp
   have z:cH ([p,a,v].take 1)++beK a (k+1)=P++[b]:=by rw[l,<-jP,f]
   rw[<-f]at d;have B:24-8-k=(24-8-(k+1))+1:=Y;rw[B]at d;obtain⟨⟨u3,bd⟩,Tn,C,E⟩:=bP (i:=8+k) (v8 b) d (by simp[o]);have F:(wr.setCell ⟨D,8+k,hH⟩ (v8 b)).heap[D]?=T (hF (((P++[b])++jp (24-8-(k+1)) 0#8).map v8).toArray 238 (0,0)):=by
    rw[C,qv,<-qw,<-o,uO]
   have H:=O F;have q:=O E;have X:=O z;clear l c f o z B C F E y;unfold v8 at H q
   go_wp2_with fail
   refine⟨⟨k+1,by go_num,by omega,O (by rw[X];exact H),O ((q.block _ (aw M)).trans t),O (u.trans (q.below (dP M U)))⟩,by simp only[jg];omega⟩
  have hk:k=8:=Y;have V:=ar ((k:Int)<8);have h:=d.out;rw[hk,show cH ([p,a,v].take 1)++beK a 8=cH ([p,a,v].take (1+1))from(sC ([p,a,v].take 1) a).symm]at h;have Sk:=O h;clear h hk
  go_wp2_with fail
  refine⟨⟨1+1,by go_num,by omega,Sk,t,u⟩,by simp only[jg];omega⟩
 ·have a3:=HV.out
  have a4:pa.wrap (v:Int)=(v:Int):=by rw[pr];omega
  have a5:(0:Int)<=(v:Int):=Y;have ba:=a2
  go_wp2_with fail
  go_loopw [29] (λg j=>∃k:Nat,g=I N k/\k<=8/\hU (j.heap[D]?=T (hF (((cH ([p,a,v].take 2)++beK v k)++jp (24-16-k) 0#8).map v8).toArray 238 (0,0)))/\hU (j.heap[r+1]?=T (hF aI 55 (0,0)))/\hU (ic w w j)) (λg _=>(8-jg g).toNat)
  case atStart=>exact⟨0,rfl,by omega,O (by rw[beK,jR];exact PT),ad,Q⟩
  obtain⟨k,rfl,V8,d,t,u⟩:=hrel
  by_cases Vg:k<8
  ·have V:=ap ((k:Int)<8)
   obtain⟨m,y⟩:∃m:Nat,m=56-8*k:=⟨_,rfl⟩;have SB:(56:Int)-8*(k:Int)=(m:Int):=Y;have bb:m<=56:=Y;have bc:decide ((m:Int)<0)=false:=by simp
   have l:beK v (k+1)=beK v k++[jV 8 (v/2^m)]:=by rw[beK,y]
   obtain⟨b,c⟩:=J (jV 8 (v/2^m));rw[<-c]at l;have YY:jb.wrap ((v:Int)/2^m)=(b.toNat:Int):=by
    rw[c,pz,p6];have e:(v:Int)/2^m=((v/2^m:Nat):Int):=by simp
    rw[e];omega
   obtain⟨P,f⟩:=J (cH ([p,a,v].take 2)++beK v k);have o:P.length=16+k:=by rw[f,jj,pf,sY];simp
   have z:cH ([p,a,v].take 2)++beK v (k+1)=P++[b]:=by rw[l,<-jP,f]
   rw[<-f]at d;have B:24-16-k=(24-16-(k+1))+1:=Y;rw[B]at d;obtain⟨⟨u3,bd⟩,Tn,C,E⟩:=bP (i:=16+k) (v8 b) d (by simp[o]);have F:(wr.setCell ⟨D,16+k,hH⟩ (v8 b)).heap[D]?=T (hF (((P++[b])++jp (24-16-(k+1)) 0#8).map v8).toArray 238 (0,0)):=by
    rw[C,qv,<-qw,<-o,uO]
   have H:=O F;have q:=O E;have X:=O z;clear l c f o z B C F E y;unfold v8 at H q
   go_wp2_with fail
   refine⟨⟨k+1,by go_num,by omega,O (by rw[X];exact H),O ((q.block _ (aw M)).trans t),O (u.trans (q.below (dP M U)))⟩,by simp only[jg];omega⟩
  have hk:k=8:=Y;have V:=ar ((k:Int)<8);have h:=d.out;rw[hk,show cH ([p,a,v].take 2)++beK v 8=cH ([p,a,v].take (2+1))from(sC ([p,a,v].take 2) v).symm]at h;have Sk:=O h;clear h hk
  go_wp2_with fail
  refine⟨⟨2+1,by go_num,by omega,Sk,t,u⟩,by simp only[jg];omega⟩
 have b:=pf [p,a,v];have d:=PT.out;rw[show cH ([p,a,v].take 3)++jp (24-8*3) 0#8=cH [p,a,v]from jR _]at d;have f:=ot ⟨#[119,114,97,112]⟩ G _ (cH [p,a,v]) (by rw[b];simp) wr (Kh (n:=24) d (by rw[b];rfl)) (al.below Q).num (al.below Q).start;rw[show((cg (aK ⟨#[119,114,97,112]⟩) (cH [p,a,v])).map v8).toArray=aa from by rw[Q7];exact S.eq.symm]at f;have g:=O f;clear b d f au a1 a2
 go_wp2_with fail
 refine g.mono ?_;rintro e' f ⟨rfl,b⟩;have d:=Z ad b;have h:=ac Q b;clear b g
 go_wp2_with (refine js rfl λ_ b=>jD 55 _ _ rfl (r+1) aa rfl rfl 55 _ d.out (by rw[S.sz];rfl) (by rw[S.sz];rfl) S.one (b _ _ ?_))
 have b:(f.setRow (r+1) aa).heap[r+1]?=T (hF aa 55 (0,0)):=jt _ _ _ _ _ _ d.out;refine jI (jX rfl _ _ (r+1) 55 _ (0,0) _ rfl b jz rfl (by rw[S.sz];rfl)) rfl ?_;exact⟨rfl,jv h.out (by rw[U];exact ow _) _⟩
def kD(a:Int)(n:Nat):Prop:=aN a/\16<=n/\n<=65552
noncomputable def kH(a:Int)(n:Nat):Int:=by classical exact if kD a n then 0 else 90
theorem BZ{a:Int}{n:Nat}(h:kD a n):kH a n=0:=by unfold kH;rw[if_pos h]
theorem r5{a:Int}{n:Nat}(h:¬kD a n):kH a n=90:=by unfold kH;rw[if_neg h]
theorem CL(a:Int)(p:Option jr)(n c:Nat)(u:n<4611686018427387904)(w:hQ):
 jf ih 26 #[ja #[I N a,A p n c]] w λe w'=>e=jd (I N (kH a n))/\ic w w w':=by
 have j:=je w (hF #[I N a,A p n c] 71);have l:=af w (hF #[I N a,A p n c] 71);have k:=O (fk a);obtain⟨d,b⟩:=J (bL a);rw[<-b]at k;have o:hU (d=0->aN a):=O (λh=>by
  by_cases g:aN a
  ·exact g
  rw[b,iR g]at h;exact absurd h G)
 have q:hU (d≠0->¬aN a):=O (λh g=>h (by rw[b,fq g]));have s:=cell_of (i:=0) j rfl;have t:=cell_of (i:=1) j rfl;have m:=O l;obtain⟨r,g⟩:=J (kH a n);rw[<-g];have f:=O g;clear b g j l
 go_enter func26,ntmps26
 go_wp2_with fail
 refine(k _).mono ?_;rintro e v ⟨rfl,b⟩;have g:=ac m b;clear b k s t m
 by_cases b:d=0
 ·have k:decide (d=0)=true:=by simp[b]
  have j:=o b;subst b
  by_cases s:n<16
  ·have l:=ap ((n:Int)<16)
   obtain rfl:r=90:=by rw[f];exact r5 (λh=>by have:=h.2.1;omega)
   go_wp2_with fail
   go_ret;exact⟨rfl,g⟩
  have l:=ar ((n:Int)<16)
  by_cases t:65552<n
  ·have m:=ap ((65552:Int)<(n:Int))
   obtain rfl:r=90:=by rw[f];exact r5 (λh=>by have:=h.2.2;omega)
   go_wp2_with fail
   go_ret;exact⟨rfl,g⟩
  have m:=ar ((65552:Int)<(n:Int));obtain rfl:r=0:=by rw[f];exact BZ ⟨j,by omega,by omega⟩
  clear j
  go_wp2_with fail
  go_ret;exact⟨rfl,g⟩
 have k:decide (d=0)=false:=by simp[b]
 obtain rfl:r=90:=by rw[f];exact r5 (λh=>q b h.1)
 have h:(d !=0)=true:=by simpa using b
 have j:=O b;clear b
 go_wp2_with fail
 go_ret;exact⟨rfl,g⟩
def zi:LBy:=jp 12 0#8
def kr(seed:LBy):Nat:=r8 seed ⟨#[119,114,97,112]⟩
def fW(a:Nat)(seed b body:LBy):LBy:=sU (rM a (aG 4 (kr seed)) (aG a (kr seed))) zi b body
theorem DG(b:Nat)(s:aN b)(seed m body:LBy)(t:seed.length=32)(E:m.length<=70000)(F:body.length<=65536)(H K:hZ)(w:hQ)(M:BytesAt w H m)(P:BytesAt w K body)(Q:iB w):
 jf ih 43 #[I N b,ja (seed.map v8).toArray,H,K] w λe w'=>∃c,e=jd (jG #[ja #[I N (aG 4 (kr seed):Nat),c],I N 0])/\w'.ownsRow w 5 1 c (body.length+16) ((fW b seed m body).map v8)/\ic w w w':=by
 obtain⟨o,u,R⟩:=Arr.mk' t;rw[<-u];have Sc:=O u;have PD:=O R;have Sa:=O t;have n:=O Q;have U:=O s;have v:=O (fk b);rw[fq s]at v;have ad:=O E;have S6:=O F;have V:=O M;have W:=O P;obtain⟨r,x⟩:=J (kr seed);have y:=O x;have X:hU (r<2305843009213688669):=O (by rw[x];exact(vy _ _).2);obtain⟨d,a⟩:=J (aG 4 (kr seed));have aa:=O a;have Vu:hU (d<4611686018427377339):=O (by rw[a];exact sV _ _);rw[<-a];have f:=je w (hF o 55);have g:=af w (hF o 55);obtain⟨p,h⟩:=J (w.alloc (hF o 55));rw[<-h]at f g;have i:=je p (hF #[I N 0,A hH 0 0] 71);have k:=af p (hF #[I N 0,A hH 0 0] 71);obtain⟨W1,z⟩:=J (p.alloc (hF #[I N 0,A hH 0 0] 71));obtain⟨j,l⟩:=J w.heap.size;rw[<-z]at i k;have S:p.heap.size=j+1:=by rw[h,l];simp
 rw[S]at i;rw[<-l]at f;have HK:=Z f k;have HR:=O i;have OZ:=O (g.trans (k.mono g.size));have HG:=O l;have al:=O h;have P3:=O z;obtain⟨ph,ch,rfl,-,-,-⟩:=M;obtain⟨B,C,rfl,-,-,-⟩:=P;obtain⟨hl,D⟩:=J m.length;obtain⟨bl,q⟩:=J body.length;rw[<-D]at V⊢;rw[<-q]at W;clear u R t Q s E F x a f g h i k z S l;have a3:=O D;have RQ:=O q;rw[show(jZ B body.length C)=A B bl C from by rw[q]];clear D q
 go_enter func43,ntmps43
 go_wp2_with fail
 rw[<-al,<-P3,<-HG];refine(v W1).mono ?_;rintro e R ⟨rfl,a⟩;have h:=Z HK a;have i:=Z HR a;have f:=ac OZ a;clear a HK HR OZ v
 go_upto_region 3 with fail
 refine jY ?_;refine jO rfl 55 _ rfl j rfl 55 o (0,0) _ h.out jz rfl (by rw[PD.sz];rfl) ?_
 go_wp2_with fail
 have g:=Dm seed Sa ⟨#[119,114,97,112]⟩ G R (cJ.below ⟨n.num,n.start⟩ f);rw[<-Sc,show r8 seed ⟨#[119,114,97,112]⟩=r from y.symm]at g;refine g.mono ?_;clear g;rintro e q ⟨rfl,a⟩;have l:=Z i a;have s:=ac f a;clear a h i f
 go_wp2_with fail
 obtain⟨x,h⟩:=J (q.alloc (hF #[I N (r:Nat)] 3));obtain⟨f,i⟩:=J q.heap.size;have t:jB x f 3 (I N (r:Nat)):=by rw[h,i];exact Boxed.new q _ _
 have a:=af q (hF #[I N (r:Nat)] 3);rw[<-h]at a⊢;rw[<-i];have u:=Z l a;have v:=ac s a;have k:=O t;clear a h i t l s;have g:=tc r X x;rw[show aG 4 r=d from by rw[y,aa]]at g;refine g.mono ?_;clear g;rintro e i ⟨rfl,a⟩;have z:=Z u a;have D:=ac v a;have h:hU (jB i f 3 (I N (r:Nat))):=O ((a.block _ k.lt).trans k);clear a u v k;obtain⟨S,g⟩:=J (#[ii .i64 b,.func (.func 99) #[] #[jm (T ⟨f,0,hH⟩)]]);have HS:=O g;have k:S.all (·.oneCell')=true:=by rw[g];simp[jM]
 have l:S.size=2:=by rw[g];rfl
 have ZH:=O k;have a4:=O l;clear g k l
 go_upto_region 6 with(refine js rfl λ_ t=>jD 174 _ _ rfl i.heap.size #[I N b,.func (.func 99) #[] #[jm (T ⟨f,0,hH⟩)]] rfl rfl 174 #[I N 0,.nilFunc] (je i _) ae ag (by simp[jM]) (t _ _ ?_))
 obtain⟨s,g⟩:=J ((i.alloc (hF #[I N 0,.nilFunc] 174)).setRow i.heap.size #[I N b,.func (.func 99) #[] #[jm (T ⟨f,0,hH⟩)]]);obtain⟨E,k⟩:=J i.heap.size;have u:s.heap[E]?=T (hF #[I N b,.func (.func 99) #[] #[jm (T ⟨f,0,hH⟩)]] 174 (0,0)):=by rw[g,k];exact jt _ _ _ _ _ _ (je i _)
 have a:ic i i s:=by rw[g];exact jv (af i _) (jc _) _
 rw[<-g,<-k];have v:=Z z a;have l:=ac D a;have F:hU (jB s f 3 (I N (r:Nat))):=O ((a.block _ h.lt).trans h);have Q:=O u;clear a g k u z D h;refine jY ?_;refine jO rfl 174 _ rfl E rfl 174 #[I N b,.func (.func 99) #[] #[jm (T ⟨f,0,hH⟩)]] (0,0) _ Q.out underlying174 rfl ae ?_
 go_wp2_with fail
 obtain⟨a5,g,k⟩:=Arr.mk' (vq b d (aG b r));have h:=GP _ r f (Nm r f X) b d b (a8 U.2.1) (aw Vu) U s F (cJ.below ⟨n.num,n.start⟩ l);rw[<-g]at h;have D:=O g;refine h.mono ?_;clear h g k;rintro e w7 ⟨rfl,a⟩;have h:=Z v a;have g:=ac l a;clear a v l F Q
 go_wp2_with fail
 have k:=I9 (rM b d (aG b r)) zi m body (A ph hl ch) (A B bl C) w7 (vq _ _ _) rfl ad S6 (V.below g) (W.below g) (n.below g);rw[<-D]at k;refine k.mono ?_;clear k;rintro e u ⟨cv,rfl,v,a⟩;have z:=Z h a;have F:=O v;have Q:=O g.size;have au:=O h;have Qg:=ac g a;obtain⟨k,l,rfl⟩:=aL v;clear a h g v
 go_upto_region 9 with fail
 go_wp2_with (refine js rfl λ_ t=>jD 71 _ _ rfl (j+1) #[I N d,A k (body.length+16) l] rfl rfl 71 _ z.out ae ag (by simp[jM]) (t _ _ ?_))
 have a:(u.setRow (j+1) #[I N d,A k (body.length+16) l]).heap[j+1]?=T (hF #[I N d,A k (body.length+16) l] 71 (0,0)):=jt _ _ _ _ _ _ z.out;have t:ic w w (u.setRow (j+1) #[I N d,A k (body.length+16) l]):=jv Qg.out (by rw[HG];exact ow _) _;have v:(u.setRow (j+1) #[I N d,A k (body.length+16) l]).ownsRow w.heap.size 5 1 (A k (body.length+16) l) (body.length+16) ((fW b seed m body).map v8):=by
  have h:=F.out;rw[aa,y]at h;refine⟨h.1,?_⟩
  rcases h.2 with hn|⟨g,a1,Pq,e,hb,hg,a2⟩
  ·exact .inl hn
  refine .inr ⟨g,a1,Pq,e,jw Q hb,(jA _ _ _ _ ?_).trans hg,a2⟩;have:=(jk.1 au).1;omega
 exact bodyPost_ret_by (fU rfl _ _ (j+1) 71 #[I N d,A k (body.length+16) l] (0,0) _ rfl a underlying71 rfl ae) rfl ⟨_,rfl,v,t⟩
def eF(x:Int):Prop:=0<=x/\x<512
def gy(x:Int):Prop:=0<=x/\x<16
instance(x:Int):Decidable (eF x):=by unfold eF;infer_instance
instance(x:Int):Decidable (gy x):=by unfold gy;infer_instance
theorem ye(x:Int)(w:hQ):
 jf ih 23 #[I N x] w λe w'=>e=jd (.bool (decide (eF x)))/\w=w':=by
 obtain⟨r,a⟩:=J (decide (eF x));rw[<-a]
 by_cases b:0<=x
 ·have c:=ap (0<=x)
  obtain rfl:r=decide (x<512):=by rw[a];simp[eF,b]
  clear a
  go_enter func23,ntmps23
  go_wp2
  go_ret;exact⟨rfl,rfl⟩
 have c:=ar (0<=x);obtain rfl:r=false:=by rw[a];simp[eF,b]
 clear a
 go_enter func23,ntmps23
 go_wp2
 go_ret;exact⟨rfl,rfl⟩
theorem Bp(x:Int)(w:hQ):
 jf ih 22 #[I N x] w λe w'=>e=jd (.bool (decide (gy x)))/\w=w':=by
 obtain⟨r,a⟩:=J (decide (gy x));rw[<-a]
 by_cases b:0<=x
 ·have c:=ap (0<=x)
  obtain rfl:r=decide (x<16):=by rw[a];simp[gy,b]
  clear a
  go_enter func22,ntmps22
  go_wp2
  go_ret;exact⟨rfl,rfl⟩
 have c:=ar (0<=x);obtain rfl:r=false:=by rw[a];simp[gy,b]
 clear a
 go_enter func22,ntmps22
 go_wp2
 go_ret;exact⟨rfl,rfl⟩
def co(x y:Int):Int:=if x<y then -1 else if y<x then 1 else 0
theorem yU(x:Int)(w:hQ):
 jf ih 131 #[I N x] w λe w'=>e=jd (.bool false)/\w=w':=by
 go_enter func131,ntmps131
 go_wp2
 go_ret;exact⟨by simp,rfl⟩
theorem yb(x y:Int)(w:hQ):
 jf ih 64 #[I N x,I N y] w λe w'=>e=jd (I N (co x y))/\w=w':=by
 have d:=O (yU x);have f:=O (yU y);obtain⟨r,a⟩:=J (co x y);rw[<-a];have b:=O a;clear a
 go_enter func64,ntmps64
 go_wp2_with fail
 refine(d _).mono ?_;rintro e g ⟨rfl,rfl⟩
 go_wp2_with fail
 refine(f _).mono ?_;rintro e g ⟨rfl,rfl⟩
 by_cases a:x<y
 ·have h:=ap (x<y)
  obtain rfl:r= -1:=by rw[b,co,if_pos a]
  go_wp2_with fail
  go_ret;exact⟨rfl,rfl⟩
 have h:=ar (x<y)
 by_cases c:y<x
 ·have i:=ap (y<x)
  obtain rfl:r=1:=by rw[b,co,if_neg a,if_pos c]
  go_wp2_with fail
  go_ret;exact⟨rfl,rfl⟩
 have i:=ar (y<x);obtain rfl:r=0:=by rw[b,co,if_neg a,if_neg c]
 go_wp2_with fail
 go_ret;exact⟨rfl,rfl⟩
def Mem.cells(m:Mem):List hZ:=[I N m.dev,I N m.since,I N m.ver]
theorem zF(m:Mem)(d:Int)(w:hQ):
 jf ih 150 #[ja m.cells.toArray,I N d] w λe w'=>e=jd (I N (co m.dev d))/\ic w w w':=by
 obtain⟨md,b,c⟩:=m;unfold Mem.cells;have a:=af w (hF #[I N md,I N b,I N c] 68);have f:=O (yb md d);have g:=O a;clear a
 go_enter func150,ntmps150
 go_wp2_with fail
 refine(f _).mono ?_;rintro e a ⟨rfl,rfl⟩
 go_wp2_with fail
 go_ret;exact⟨rfl,g⟩
def lX(w:hQ)(v:hZ)(l:List Mem):Prop:=ah (λ_=>True) w v 3 l.length (l.flatMap Mem.cells)
def bR:Mem:=⟨0,0,0⟩
theorem lX.below{w w':hQ}{v:hZ}{l:List Mem}(h:lX w v l)(a:ic w w w'):lX w' v l:=by
 obtain⟨b,p,c,d,f,i,k⟩:=h;refine⟨b,p,c,d,f,i,λm=>?_⟩;obtain⟨g,o,e,-,n⟩:=k m;exact⟨g,o,e,trivial,λj q r=>cell_below (n j q r) a⟩
def kt(l:List Mem):Prop:=∀i j,i<j->j<l.length->(l.getD i bR).dev<(l.getD j bR).dev
theorem lX.cells{w:hQ}{v:hZ}{l:List Mem}(h:lX w v l):∃p c,v=A p l.length c/\l.length<=c/\(0<l.length->∃g o,p=T ⟨g,o,hH⟩/\∀i,i<l.length->w.cell? ⟨g,o+i*3,hH⟩=T (I N (l.getD i bR).dev)/\w.cell? ⟨g,o+i*3+1,hH⟩=T (I N (l.getD i bR).since)/\w.cell? ⟨g,o+i*3+2,hH⟩=T (I N (l.getD i bR).ver)):=by
 obtain⟨s,p,c,d,f,t,j⟩:=h;refine⟨p,c,d,f,λk=>?_⟩;obtain⟨g,o,e,-,a⟩:=j k;refine⟨g,o,e,λi m=>?_⟩;have b:l[i]?=T (l.getD i bR):=by simp[jn,m]
 have n:=a (i*3+0) _ ((flat_get Mem.cells 3 (λ_=>rfl) l i 0 (l.getD i bR) b G).trans rfl);have q:=a (i*3+1) _ ((flat_get Mem.cells 3 (λ_=>rfl) l i 1 (l.getD i bR) b G).trans rfl);have r:=a (i*3+2) _ ((flat_get Mem.cells 3 (λ_=>rfl) l i 2 (l.getD i bR) b G).trans rfl);exact⟨n,q,r⟩
theorem zB{a v x y:hZ}(b:a=x)(c:v=y):Ending.returned (jG #[a,v])=jd (jG #[x,y]):=by rw[b,c]
theorem eh{α:Type}{l:List α}{i:Nat}(d:α)(h:i<l.length):l.getD i d=l[i]:=by simp[jn,h]
def iV(l:List Mem)(d:Int):Nat:=l.countP λm=>decide (m.dev<d)
def cE(l:List Mem)(d:Int):Bool:=l.any λm=>m.dev==d
theorem ui{l:List Mem}(h:kt l){i j:Nat}(a:i<=j)(b:j<l.length):(l.getD i bR).dev<=(l.getD j bR).dev:=by
 rcases Nat.eq_or_lt_of_le a with rfl|c
 ·exact Int.le_refl _
 exact Int.le_of_lt (h i j c b)
theorem wE(d:Int):∀(l:List Mem) (i:Nat),i<=l.length->(∀t,t<i->(l.getD t bR).dev<d)->(∀t,i<=t->t<l.length->d<=(l.getD t bR).dev)->iV l d=i
 |[],i,b,_,_=>by simp at b;simp[iV,b]
 |a::r,0,_,_,c=>by
  unfold iV;rw[List.countP_eq_zero];intro x f;obtain⟨t,e,rfl⟩:=qa f;have:=c t (jL _) e;rw[eh _ e]at this;simp;omega
 |a::r,i+1,b,f,c=>by
  have h:a.dev<d:=by simpa using f 0 (Nat.succ_pos _)
  have g:=wE d r i (by simpa using b) (λt e=>by simpa using f (t+1) Y) (λt j e=>by simpa using c (t+1) Y (by simpa using e));unfold iV at g⊢;rw[List.countP_cons_of_pos (by simpa using h),g]
theorem He{l:List Mem}{d:Int}(h:∀t,t<l.length->(l.getD t bR).dev<d):cE l d=false:=by
 unfold cE;rw[qx];intro x b;obtain⟨t,a,rfl⟩:=qa b;have:=h t a;rw[eh _ a]at this;simp;omega
theorem FL(x y:Int):(co x y==0)=decide (x=y):=by
 unfold co
 by_cases a:x<y
 ·rw[if_pos a];simp;omega
 rw[if_neg a]
 by_cases b:y<x
 ·rw[if_pos b];simp;omega
 rw[if_neg b];simp;omega
theorem JQ{l:List Mem}{d:Int}{i:Nat}(f:kt l)(e:i<l.length)(h:∀t,t<i->(l.getD t bR).dev<d)(j:d<=(l.getD i bR).dev):cE l d=(co (l.getD i bR).dev d==0):=by
 rw[FL]
 by_cases he:(l.getD i bR).dev=d
 ·rw[decide_eq_true he]
  unfold cE;refine qZ.2 ⟨l.getD i bR,?_,by simpa using he⟩;rw[eh _ e];exact qs e
 rw[decide_eq_false he];unfold cE;rw[qx];intro x c;obtain⟨t,b,rfl⟩:=qa c;have c:l[t].dev≠d->¬((l[t].dev==d)=true):=λh=>by simpa using h
 apply c
 rcases Nat.lt_trichotomy t i with a|a|a
 ·have:=h t a;rw[eh _ b]at this;omega
 ·subst a;rw[eh _ b]at he;exact he
 have g:=f i t a b;rw[eh _ b]at g;omega
theorem NJ(l:List Mem)(f:kt l)(v:hZ)(d:Int)(w:hQ)(h:lX w v l)(U:l.length<=1000000):
 jf ih 149 #[v,I N d,.func (.func 150) #[] #[]] w λe w'=>e=jd (jG #[I N (iV l d:Nat),.bool (cE l d)])/\ic w w w':=by
 obtain⟨p,c,rfl,u,s⟩:=h.cells;have R:=O s;have M:=O f;obtain⟨n,b⟩:=J l.length;have a:=O b;rw[<-b]at U u⊢;clear s f h b;have EG:∀args w,(j7 150 args).run ih w=.ok (.enter 150 args) w:=λ_ _=>rfl
 go_enter func149,ntmps149
 go_wp2_with fail
 go_loopw [9,10] (λb f wr=>∃i j:Nat,b=I N i/\f=I N j/\i<=j/\j<=n/\hU ((∀t,t<i->(l.getD t bR).dev<d)/\∀t,j<=t->t<n->d<=(l.getD t bR).dev)/\hU (ic w w wr)) (λb f _=>(jg f-jg b).toNat)
 case atStart=>exact⟨0,n,rfl,rfl,jL _,jc _,O ⟨λt P=>absurd P Y,λt z F=>absurd z Y⟩,O (ju _ _)⟩
 obtain⟨i,j,rfl,rfl,ZN,V,x,b⟩:=hrel
 by_cases aa:i<j
 ·have W:=ap ((i:Int)<(j:Int))
  obtain⟨m,q⟩:∃m:Nat,m=(i+j)/2:=⟨_,rfl⟩;have VU:i<=m:=Y;have P6:m<j:=Y;have e1:((i:Int)+(j:Int))/2=(m:Int):=Y;obtain⟨g,o,rfl,s⟩:=R.out (by rw[<-a];omega);obtain⟨f,h,k⟩:=s m (by rw[<-a];omega);replace f:=cell_below f b;replace h:=cell_below h b;replace k:=cell_below k b;have r:=O (zF (l.getD m bR) d);obtain⟨md,B,C,y⟩:∃md B C,l.getD m bR=⟨md,B,C⟩:=⟨_,_,_,rfl⟩;rw[y]at f h k r;have X:=O y;unfold Mem.cells at r;clear s q y
  go_wp2_with fail
  refine(r wr).mono ?_;rintro e w1 ⟨rfl,D⟩;have H:=ac b D;clear D r f h k;obtain⟨q,E⟩:=J (co md d);rw[<-E];have S:=O x;have K:(l.getD m bR).dev=md:=by rw[X]
  by_cases u:md<d
  ·obtain rfl:q= -1:=by rw[E,co,if_pos u]
   have Q:hU ((∀t,t<m+1->(l.getD t bR).dev<d)/\∀t,j<=t->t<n->d<=(l.getD t bR).dev):=O ⟨λt P=>Int.lt_of_le_of_lt (ui M (show t<=m by omega) (by rw[<-a];omega)) (by rw[K];exact u),S.2⟩;clear E u K
   go_wp2_with fail
   exact⟨⟨m+1,j,by go_num,rfl,by omega,by omega,Q,H⟩,by simp only[jg];omega⟩
  have ad:0<=q:=by rw[E,co,if_neg u];split<;>omega
  have al:=ar (q<0);have Q:hU ((∀t,t<i->(l.getD t bR).dev<d)/\∀t,m<=t->t<n->d<=(l.getD t bR).dev):=O ⟨S.1,λt z F=>Int.le_trans (show d<=(l.getD m bR).dev by rw[K];omega) (ui M z (by rw[<-a];exact F))⟩;clear E u K
  go_wp2_with fail
  exact⟨⟨i,m,rfl,by go_num,by omega,by omega,Q,H⟩,by simp only[jg];omega⟩
 obtain rfl:i=j:=Y;have W:decide ((i:Int)<(i:Int))=false:=by simp
 have q:iV l d=i:=wE d l i (by rw[<-a];exact V) x.1 (λt z F=>x.2 t z (by rw[a];exact F))
 by_cases E:i<n
 ·have S:=ap ((i:Int)<(n:Int))
  obtain⟨g,o,rfl,s⟩:=R.out (by rw[<-a];omega);obtain⟨f,h,k⟩:=s i (by rw[<-a];omega);replace f:=cell_below f b;replace h:=cell_below h b;replace k:=cell_below k b;have r:=O (zF (l.getD i bR) d);have m:=JQ (l:=l) (d:=d) (i:=i) M.out (by rw[<-a];exact E) x.1 (x.2 i (jc _) E);obtain⟨md,B,C,y⟩:∃md B C,l.getD i bR=⟨md,B,C⟩:=⟨_,_,_,rfl⟩;rw[y]at f h k r m;have K:hU (cE l d=(co md d==0)):=O m;have Q:=O q;unfold Mem.cells at r;clear s y m q
  go_wp2_with fail
  refine(r wr).mono ?_;rintro e w1 ⟨rfl,D⟩;have H:=ac b D;clear D r f h k
  go_wp2_with fail
  go_ret2;exact⟨zB (congrArg (λn:Nat=>ii .i64 (n:Int)) Q.symm) (congrArg Value.bool K.symm),H⟩
 have S:=ar ((i:Int)<(n:Int));have m:cE l d=false:=He (λt P=>x.1 t (by rw[a]at E;omega));have K:=O m;have Q:=O q;clear m q
 go_wp2_with fail
 go_ret2;exact⟨zB (congrArg (λn:Nat=>ii .i64 (n:Int)) Q.symm) (congrArg Value.bool K.symm),b⟩
section
open Go.RowKit Go.Maps Go.Sort
theorem cN{P:jE}{b:Array jS}{c:Exit->Act->hQ->Prop}{a:Act}{w:hQ}{d:List jS}{o:jS}{v:hZ}(e:Region.wanted o (yielded b a.tmps)=true)
 (h:(execOp a.eval o).run P w=.ok (.value v) w) (f:wpList P b c d (a.put o.dst v) w):wpList P b c (o::d) a w:=
 wpList_step λK k=>by
  rw[if_pos e];unfold Oper.wp;rw[h];exact k _ _ f
theorem iD{a b:Bool}(h:a=b):Ending.returned (.bool a)=jd (.bool b):=by rw[h]
theorem NW(n m:Int):(n !=m)=decide (n≠m):=by by_cases h:n=m<;>simp[h]
structure EK(α:Type) where
 cells:α->List hZ
 k:Nat
 t:jl
 pos:0<k
 len:∀x,(cells x).length=k
 one:∀x,∀v∈cells x,v.oneCell'=true
section
variable {α:Type} (E:EK α)
def EK.flat(l:List α):List hZ:=l.flatMap E.cells
theorem EK.flat_length(l:List α):(E.flat l).length=l.length*E.k:=by
 unfold EK.flat;exact Go.Proofs.YtpfafeammikibaaGreatDoor.flat_length E.cells E.k E.len l
theorem EK.flat_append(l m:List α):E.flat (l++m)=E.flat l++E.flat m:=by unfold EK.flat;exact List.flatMap_append
theorem EK.flat_one(x:α):E.flat [x]=E.cells x:=by simp[EK.flat]
theorem EK.flat_cons(x:α)(l:List α):E.flat (x::l)=E.cells x++E.flat l:=by simp[EK.flat]
theorem EK.flat_get(l:List α)(j i:Nat)(x:α)(h:l[j]?=T x)(a:i<E.k):(E.flat l)[j*E.k+i]?=(E.cells x)[i]?:=
 Go.Proofs.YtpfafeammikibaaGreatDoor.flat_get E.cells E.k E.len l j i x h a
theorem EK.flat_take(l:List α)(i:Nat):E.flat (l.take i)=(E.flat l).take (i*E.k):=by
 rcases qk i l.length with h|h
 ·have a:(E.flat (l.take i)).length=i*E.k:=by rw[E.flat_length,jy,jU (kl h)]
  have:=List.take_left' (l₂:=E.flat (l.drop i)) a;rw[<-E.flat_append,qj]at this;exact this.symm
 rw[jC h,jC (by rw[E.flat_length];exact j9 _ h)]
theorem EK.flat_drop(l:List α)(i:Nat):E.flat (l.drop i)=(E.flat l).drop (i*E.k):=by
 rcases qk i l.length with h|h
 ·have a:(E.flat (l.take i)).length=i*E.k:=by rw[E.flat_length,jy,jU (kl h)]
  have:=List.drop_left' (l₂:=E.flat (l.drop i)) a;rw[<-E.flat_append,qj]at this;exact this.symm
 rw[qo h,qo (by rw[E.flat_length];exact j9 _ h)]
 rfl
theorem EK.flat_one'(l:List α):∀a∈E.flat l,a.oneCell'=true:=by
 intro a b;unfold EK.flat at b;obtain⟨x,-,c⟩:=q4.1 b;exact E.one x a c
theorem EK.flat_set{d:List α}{i:Nat}{e:α}(a:i<d.length):E.flat (d.set i e)=(E.flat d).take (i*E.k)++E.cells e++(E.flat d).drop (i*E.k+E.k):=by
 rw[List.set_eq_take_append_cons_drop,if_pos a,E.flat_append,E.flat_cons,E.flat_take,E.flat_drop,show(i+1)*E.k=i*E.k+E.k by rw[oi];omega,jP]
def EK.At(w:hQ)(v:hZ)(l:List α):Prop:=bW w v E.k l.length (E.flat l)
variable {E}
theorem EK.At.below{w w':hQ}{v:hZ}{l:List α}(h:E.At w v l)(a:ic w w w'):E.At w' v l:=bW.below h a
theorem EK.At.of_own{w:hQ}{B:Nat}{v:hZ}{l:List α}(h:w.ownsRow B E.t E.k v l.length (E.flat l)):E.At w v l:=bW.of_own h
theorem EK.At.of_sl{D:Nat->Prop}{w:hQ}{v:hZ}{l:List α}(h:ah D w v E.k l.length (E.flat l)):E.At w v l:=h.row
theorem EK.At.form{w:hQ}{v:hZ}{l:List α}(h:E.At w v l):∃p c,v=A p l.length c/\l.length<=c/\(p=hH->c=0):=by
 obtain⟨_,p,c,e,a,b,_⟩:=h;exact⟨p,c,e,a,b⟩
theorem EK.At.nil{w:hQ}:E.At w (A hH 0 0) []:=⟨by simp[EK.flat],hH,0,rfl,jc _,λ_=>rfl,λh=>absurd h (Nat.lt_irrefl _)⟩
theorem EK.At.cells{w:hQ}{p:Option jr}{n c:Nat}{l:List α}(h:E.At w (A p n c) l):n=l.length/\n<=c/\(0<n->∃g o,p=T ⟨g,o,hH⟩/\∀j x,l[j]?=T x->∀i a,(E.cells x)[i]?=T a->w.cell? ⟨g,o+j*E.k+i,hH⟩=T a):=by
 obtain⟨_,v,y,e,d,z,f⟩:=h;injection e with k m q
 subst k;subst m;subst q;refine⟨rfl,d,λr=>?_⟩;obtain⟨g,o,e,s⟩:=f r;refine⟨g,o,e,λj x t i a b=>?_⟩;have u:i<E.k:=by rw[<-E.len x];exact(ol.1 b).1
 rw[Nat.add_assoc];exact s (j*E.k+i) a ((E.flat_get l j i x t u).trans b)
theorem dS{l:List α}{j:Nat}(h:j<l.length):∃x,l[j]?=T x/\l.take (j+1)=l.take j++[x]:=
 ⟨l[j],jQ h,j8 h⟩
variable (E)
structure cI(a:Nat)(w W:hQ)(g n c:Nat)(d:List α):Prop where
 own:W.ownsRow a E.t E.k (A (T ⟨g,0,hH⟩) n c) n (E.flat d)
 len:n=d.length
 bel:ic a w W
 sz:a<=w.heap.size
variable {E}
theorem cI.later{a:Nat}{w W b:hQ}{g n c:Nat}{d:List α}(h:cI E a w W g n c d)(e:ic W W b):cI E a w b g n c d:=
 ⟨cZ h.own e,h.len,h.bel.trans (e.mono (jw h.sz (a8 h.bel.size))),h.sz⟩
theorem cI.lt{a:Nat}{w W:hQ}{g n c:Nat}{d:List α}(h:cI E a w W g n c d):a<=g/\g<W.heap.size:=h.own.lt g rfl
theorem cI.cap{a:Nat}{w W:hQ}{g n c:Nat}{d:List α}(h:cI E a w W g n c d):n<=c:=by
 rcases h.own.2 with⟨e,_⟩|⟨i,j,k,e,l,m,b,_⟩
 ·cases e
 injection e with o p f
 subst f;exact b
theorem cI.at{a:Nat}{w W:hQ}{g n c:Nat}{d:List α}(h:cI E a w W g n c d):E.At W (A (T ⟨g,0,hH⟩) n c) d:=EK.At.of_own (by rw[<-h.len];exact h.own)
theorem tI{a:Nat}{w W:hQ}{g:Nat}(h:ic a w W)(b:a<=g)(cs:Array hZ):ic a w (W.setRow g cs):=
 h.trans ⟨rfl,rfl,rfl,by simp[o4],λk hk=>jA _ _ _ _ Y⟩
theorem cI.store{P:jE}{q:Nat}{w W:hQ}{g n c i:Nat}{d:List α}(h:cI E q w W g n c d)(r:i<n)(e:α)(m:jl)(s:(P.info? m).map (·.size)=T E.k):
 ∃j,(storeVar m ⟨g,0+i*E.k,hH⟩ (ja (E.cells e).toArray)).run P W=.ok () j/\cI E q w j g n c (d.set i e)/\(∀k,k≠g->j.heap[k]?=W.heap[k]?)/\W.heap.size<=j.heap.size:=by
 obtain⟨Q,z⟩:=h.own
 rcases z with⟨o,_⟩|⟨R,S,a,o,t,u,v,B,x,C⟩
 ·cases o
 injection o with f U D
 injection f with f
 injection f with f
 subst f;subst D;have V:i*E.k+E.k<=n*E.k:=by rw[<-Nat.succ_mul];exact j9 _ r
 have F:n*E.k<=c*E.k:=j9 _ v;have X:n*E.k<=a.size:=by rw[x];exact F
 have b:(E.cells e).length=E.k:=E.len e;have y:(storeCells ⟨g,i*E.k,hH⟩ (E.cells e) 0).run P W=.ok () (W.setRow g (a.toList.take (i*E.k)++E.cells e++a.toList.drop (i*E.k+(E.cells e).length)).toArray):=
  run_storeCells_at (P:=P) g (i*E.k) E.t (E.cells e) 0 a W u (by rw[b];omega) (E.one e)
 have p:a.toList.length=c*E.k:=by rw[j5];exact x
 rw[b]at y;refine⟨W.setRow g (a.toList.take (i*E.k)++E.cells e++a.toList.drop (i*E.k+E.k)).toArray,?_,⟨⟨by rw[E.flat_length,qb,<-h.len],.inr ⟨g,c,(a.toList.take (i*E.k)++E.cells e++a.toList.drop (i*E.k+E.k)).toArray,rfl,t,jt _ _ _ _ _ _ u,v,B,?_,?_⟩⟩,by rw[qb];exact h.len,tI h.bel t _,h.sz⟩,λk hk=>jA _ _ _ _ hk,by simp[o4]⟩
 ·cases hq:P.info? m with
  |none=>simp[hq]at s
  |some H=>
   have K:H.size=E.k:=by simpa [hq]using s
   rw[ji];have M:(qu (E.cells e).toArray).cells=(E.cells e).toArray:=rfl;simp[storeVar,sizeOf,typeInfo,hq,M,K,b,y]
 ·simp only[jq,jj,jy,q5,p,b]
  omega
 rw[E.flat_set (by rw[<-h.len];exact r),<-C];show qh (n*E.k) (a.toList.take (i*E.k)++E.cells e++a.toList.drop (i*E.k+E.k))=_;rw[qy,jU Y,qJ,jC (l:=a.toList.take (i*E.k)++E.cells e) (by simp only[jj,jy,p,b];omega),List.drop_take];simp only[jj,jy,p,b];rw[jU Y]
theorem zH{P:jE}{f:jS}{a:Act}{W:hQ}{K:Act->hQ->Prop}{m:Exit->Act->hQ->Prop}(j:jl)(x y:ms)(o:f.op=.store j x y)
 {l:Nat} {w:hQ} {g n c i:Nat} {d:List α} (h:cI E l w W g n c d) (p:i<n) (e:α) (q:(P.info? j).map (·.size)=T E.k)
 (r:a.eval x=jm (T ⟨g,0+i*E.k,hH⟩)) (s:a.eval y=ja (E.cells e).toArray)
 (t:∀b,cI E l w b g n c (d.set i e)->(∀k,k≠g->b.heap[k]?=W.heap[k]?)->W.heap.size<=b.heap.size->K (a.put f.dst jF) b):f.wp P a W K m:=by
 obtain⟨b,k,u,v,z⟩:=h.store p e j q;unfold Oper.wp execOp;simp only[o,r,s,Instr.storeAt,Instr.sureAddr,Sem.run_bind,Sem.run_pure,Result.andThen_ok,k];exact t b u v z
theorem cI.clear{P:jE}{q:Nat}{w W:hQ}{g n c i:Nat}{d:List α}(h:cI E q w W g n c d)(B:i<n)(t e:jl)(C:P.underlying t=T (.slice e))(z:α)(D:∀w,(zeroValue e).run P w=.ok (ja (E.cells z).toArray) w):
 ∃r,(∀s,(Builtin.clear_ #[t] s #[A (T ⟨g,0+i*E.k,hH⟩) (n-i) (c-i)]).run P W=.ok (jG #[]) r)/\cI E q w r g i c (d.take i):=by
 obtain⟨V,F⟩:=h.own
 rcases F with⟨o,_⟩|⟨X,aa,b,o,u,x,H,K,k,M⟩
 ·cases o
 injection o with f e2 Q
 injection f with f
 injection f with f
 subst f;subst Q;have y:b.toList.length=c*E.k:=by rw[j5];exact k
 have p:(Builtin.zeroCells (E.cells z).toArray (n-i)).toList.length=(n-i)*E.k:=by
  rw[j5,size_zeroCells,jq,E.len]
 obtain⟨a,l⟩:=J ((Builtin.zeroCells (E.cells z).toArray (n-i)).toList);have R:∀v∈a,v.oneCell'=true:=by
  intro v m;rw[l]at m;unfold Builtin.zeroCells at m;rw[Array.toList_map]at m;obtain⟨j,-,rfl⟩:=ql.1 m;have k:j%(E.cells z).toArray.size<(E.cells z).toArray.size:=qt _ (by rw[jq,E.len];exact E.pos);rw[getElem!_pos (E.cells z).toArray _ k];exact E.one z _ av
 rw[<-l]at p;have ad:(n-i)*E.k=n*E.k-i*E.k:=Nat.sub_mul n i E.k;have al:n*E.k<=c*E.k:=j9 _ H;have au:i*E.k<=n*E.k:=j9 _ (kl B);have j:(storeCells ⟨g,i*E.k,hH⟩ a 0).run P W=.ok () (W.setRow g (b.toList.take (i*E.k)++a++b.toList.drop (i*E.k+a.length)).toArray):=
  run_storeCells_at (P:=P) g (i*E.k) E.t a 0 b W x (by rw[p,k];omega) R
 refine⟨W.setRow g (b.toList.take (i*E.k)++a++b.toList.drop (i*E.k+a.length)).toArray,?_,⟨⟨by rw[E.flat_length,jy,<-h.len,jU Y],.inr ⟨g,c,(b.toList.take (i*E.k)++a++b.toList.drop (i*E.k+a.length)).toArray,rfl,u,jt _ _ _ _ _ _ x,by omega,K,?_,?_⟩⟩,by rw[jy,<-h.len,jU Y],tI h.bel u _,h.sz⟩⟩
 ·obtain⟨m,S⟩:∃m,n-i=m+1:=⟨n-i-1,by omega⟩
  have U:(qu (E.cells z).toArray).cells=(E.cells z).toArray:=rfl;intro s;rw[ji];rw[S]at l⊢;simp[Builtin.clear_,qe C,D,U,<-l,j]
 ·simp only[jq,jj,jy,q5,y,p]
  omega
 show qh (i*E.k) (b.toList.take (i*E.k)++a++b.toList.drop (i*E.k+a.length))=_;rw[E.flat_take,<-M,qy,jP,List.take_append_of_le_length (by simp only[jy,y];omega),qy,Nat.min_self,jU Y]
end
theorem aO{p q:Prop}(k:q)(h:q->p:=by intro k;refine cN (v:=?_) (by rfl) ?_ ?_;rotate_left;(go_simp;with_reducible rfl);(try simp only[Act.put,List.getElem_toArray,List.getElem_cons_succ,List.getElem_cons_zero,List.setIfInBounds_toArray,List.set_cons_zero,List.set_cons_succ]);exact k):p:=h k
end
section
open Go.RowKit Go.Maps Go.Sort
theorem zW{P:jE}(t e:jl)(k:Nat)(b:P.underlying t=T (.slice e))(d:∀w,(sizeOf e).run P w=.ok k w)(g o n c l:Nat)(f:l<=n)(i:n<=c):
 ∃a,(0<n-l->a=⟨g,o+l*k,hH⟩)/\∀W,(Instr.sliceAt t (A (T ⟨g,o,hH⟩) n c) (T (I N (l:Int))) hH hH).run P W=.ok (A (T a) (n-l) (c-l)) W:=by
 have he:P.elem t=e:=by simp[Program.elem,b]
 refine⟨if c=l then⟨g,o,hH⟩else⟨g,o+l*k,hH⟩,λh=>by rw[if_neg Y],λW=>?_⟩;rw[qC W t _ _ _ _ (by rw[he];exact b),run_slice_l W t _ n c (by rw[he];exact b) .i64 _ Y Y,he];simp[d,Result.andThen,sliced,Addr.add]
 by_cases h:c=l
 ·simp[h]
 simp[h]
theorem BJ{P:jE}(t e:jl)(k:Nat)(a:P.underlying t=T (.slice e))(b:∀w,(sizeOf e).run P w=.ok k w)(g o n c h:Nat)(d:h<=c)(W:hQ):
 (Instr.sliceAt t (A (T ⟨g,o,hH⟩) n c) hH (T (I N (h:Int))) hH).run P W=.ok (A (T ⟨g,o,hH⟩) h c) W:=by
 have he:P.elem t=e:=by simp[Program.elem,a]
 rw[qC W t _ _ _ _ (by rw[he];exact a),run_slice_h W t _ n c (by rw[he];exact a) .i64 _ Y Y,he];simp[b,Result.andThen,sliced,Addr.add]
section
variable {α:Type}
structure fz(E:EK α)(a:Nat)(d:Array hZ)(b:Nat)(c:hQ->Prop)(p:α->Bool):Prop where
 enter:∀args w,(j7 a args).run ih w=.ok (.enter a args) w
 keep:∀w w',b<=w.heap.size->c w->ic b w w'->c w'
 call:∀x w,b<=w.heap.size->c w->jf ih a (#[ja (E.cells x).toArray]++d) w λe w'=>e=jd (.bool (p x))/\ic w w w'
def rA(p:α->Bool)(l:List α)(r:Int):Prop:=(r= -1/\∀x∈l,p x=false)\/∃(k:Nat) (x:α),r=k/\l[k]?=T x/\p x=true/\∀y∈l.take k,p y=false
theorem rA.any{p:α->Bool}{l:List α}{r:Int}(h:rA p l r):decide (0<=r)=l.any p:=by
 rcases h with⟨rfl,h⟩|⟨k,x,rfl,a,b,d⟩
 ·have:l.any p=false:=by rw[qx];intro x c;rw[h x c];simp
  rw[this];decide
 have:l.any p=true:=qZ.2 ⟨x,List.mem_of_getElem? a,b⟩;rw[this];simp
theorem tl{p:α->Bool}{l:List α}(h:∀x∈l,p x=false):l.filter (λx=> !p x)=l:=
 List.filter_eq_self.2 λx a=>by rw[h x a];rfl
end
def AP:Chg:=⟨0,0,0,0,0⟩
def EM:EK Mem:=⟨Mem.cells,3,68,by decide,λ_=>rfl,λx v a=>by simp[Mem.cells]at a;rcases a with rfl|rfl|rfl<;>rfl⟩
def EC:EK Chg:=⟨Chg.cells,5,59,by decide,λ_=>rfl,λx v a=>by simp[Chg.cells]at a;rcases a with rfl|rfl|rfl|rfl|rfl<;>rfl⟩
theorem Hj:(ih.info? 68).map (·.size)=T 3:=by kernel_rfl
theorem Ki:(ih.info? 59).map (·.size)=T 5:=by kernel_rfl
theorem zq:(ih.info? 68).map (λi=>(i.zero,i.size,i.bytes))=T (T (ja #[I N 0,I N 0,I N 0]),3,24):=by kernel_rfl
theorem Mg:(ih.info? 59).map (λi=>(i.zero,i.size,i.bytes))=T (T (ja #[I N 0,I N 0,I N 0,I N 0,I N 0]),5,40):=by kernel_rfl
theorem lz{P:jE}{t:jl}{z:hZ}{s b:Nat}(h:(P.info? t).map (λi=>(i.zero,i.size,i.bytes))=T (T z,s,b)):∃i,P.info? t=T i/\i.zero=T z/\i.size=s/\i.bytes=b:=by
 cases hi:P.info? t with
 |none=>rw[hi]at h;cases h
 |some i=>
  rw[hi]at h;simp only[qW,Option.some.injEq,Prod.mk.injEq]at h;exact⟨i,rfl,h.1,h.2.1,h.2.2⟩
theorem vJ{f:Nat}{m:Array hZ}{u:Nat}{z:hQ->Prop}{p:Mem->Bool}(a:fz EM f m u z p)(l:List Mem)(v:hZ)(w:hQ)(h:EM.At w v l)(d:z w)(g:u<=w.heap.size)(M:l.length<=1000000):
 jf ih 128 #[v,.func (.func f) #[] m] w λe w'=>∃r,e=jd (I N r)/\rA p l r/\ic w w w':=by
 obtain⟨q,c,rfl,P,-⟩:=h.form;have B:=O h;have EG:=a.enter;have C:=O a;have Q:=O d;have s:=O g;obtain⟨n,b⟩:=J l.length;have D:=O b;rw[<-b]at M P B⊢;clear h b a d g
 go_enter func128,ntmps128
 go_wp2_with fail
 go_loopw [8] (λi wr=>∃k:Nat,i=I N k/\k<=n/\hU (∀y∈l.take k,p y=false)/\hU (ic w w wr)) (λi _=>n-(jg i).toNat)
 case atStart=>exact⟨0,rfl,jL _,O av,O (ju _ _)⟩
 obtain⟨k,rfl,hk,i,a⟩:=hrel
 by_cases R:k<n
 ·have S:=ap ((k:Int)<(n:Int))
  have U:=ap (k<n);obtain⟨e,he,x⟩:=dS (l:=l) (j:=k) (by rw[<-D];exact R);obtain⟨g,o,rfl,d⟩:=(B.cells).2.2 Y;have b:=O (C.call e wr (jw s a.size) (C.keep _ _ s.out Q (a.mono s)));obtain⟨r,t⟩:=J (p e);rw[<-t]at b;have E:=O t;have V:=O x;have W:=O he;obtain⟨F,H,K⟩:=e;have X:wr.cell? ⟨g,o+k*3,hH⟩=T (I N F):=cell_below (d k _ he 0 _ rfl) a;have c1:wr.cell? ⟨g,o+k*3+1,hH⟩=T (I N H):=cell_below (d k _ he 1 _ rfl) a;have c2:wr.cell? ⟨g,o+k*3+2,hH⟩=T (I N K):=cell_below (d k _ he 2 _ rfl) a;replace b:hU (jf ih f (#[ja #[I N F,I N H,I N K]]++m) wr λe w'=>e=jd (.bool r)/\ic wr wr w'):=b;clear d he x t
  go_wp2_with fail
  refine(b).mono ?_;rintro x w1 ⟨rfl,d⟩;have t:=ac a d;clear d b X c1 c2
  rcases r with _|_
  ·go_wp2_with fail
   exact⟨⟨k+1,by go_num,by omega,O (by
    rw[V];intro y b
    rcases q6.1 b with b|b
    ·exact i y b
    rw[qz]at b;rw[b];exact E.symm),t⟩,by simp only[jg];omega⟩
  go_wp2_with fail
  go_ret;exact⟨_,rfl,.inr ⟨k,_,rfl,W,E.symm,i⟩,t⟩
 have S:=ar ((k:Int)<(n:Int));have U:=ar (k<n);obtain rfl:k=n:=Y
 go_wp2_with fail
 go_ret;exact⟨_,rfl,.inl ⟨rfl,by have h:=i.out;rw[jC (by rw[<-D];exact jc _)]at h;exact h⟩,a⟩
theorem Cq{a:Nat}{b:Array hZ}{c:Nat}{d:hQ->Prop}{p:Mem->Bool}(k:fz EM a b c d p)(l:List Mem)(v:hZ)(w:hQ)(h:EM.At w v l)(f:d w)(g:c<=w.heap.size)(i:l.length<=1000000):
 jf ih 120 #[v,.func (.func a) #[] b] w λe w'=>e=jd (.bool (l.any p))/\ic w w w':=by
 have j:=O (vJ k l v w h f g i);clear h f g i
 go_enter func120,ntmps120
 go_wp2_with fail
 refine(j).mono ?_;rintro x m ⟨r,rfl,f,g⟩;have h:=O f.any;have i:=O g;clear f g j
 go_wp2_with fail
 go_ret;exact⟨iD h,i⟩
theorem K6(l:List Mem)(v:hZ)(w:hQ)(d:EM.At w v l)(q:l.length<=1000000):
 jf ih 61 #[v] w λe w'=>∃h,e=jd h/\w'.ownsRow w EM.t EM.k h l.length (EM.flat l)/\ic w w w':=by
 obtain⟨p,c,rfl,r,i⟩:=d.form;obtain⟨s,t,u,x,y⟩:=lz zq;have E:∀(w:hQ) (a:Option jr) (n c n' f:Nat),(binOp .eql 49 (A a n c) (A hH n' f)).run ih w=.ok (.bool a.isNone) w:=λw a n c n' f=>Lib.run_eql_slice_nil w _ _ a n c n' f mz
 rcases p with _|a
 ·have j:=i rfl
  have b:l.length=0:=Y;have g:l=[]:=q8.1 b;subst g
  go_enter func61,ntmps61
  go_wp2_with fail
  go_ret;exact⟨_,rfl,jT _ _ _ _,ju _ _⟩
 obtain⟨n,j⟩:=J l.length;have b:=O (d.below (af w (hF #[] EM.t)));have g:=O (q9 (base:=w.heap.size) (size:=EM.k) (e:=EM.t) w #[] 0 (jc _) (by unfold jW;omega) av);have k:=O (af w (hF #[] EM.t));unfold EK.At at b;rw[<-j]at r q b⊢;clear d j i
 go_enter func61,ntmps61
 go_wp2_with (at_builtin;refine Hid.out ?_)
 refine O ?_;refine js rfl λ_ i=>?_
 refine Ev _ _ 49 rfl w.heap.size 68 s (ja #[I N 0,I N 0,I N 0]) 3 24 mz t u x y rfl G _ _ _ rfl g _ _ _ rfl b (EM.flat_one' _) (by unfold jW;omega) Y (by rw[jo];omega) ?_;intro z m d o;have B:hU (m.ownsRow w EM.t EM.k z n (EM.flat l)):=O (by rw[ji]at d;exact d);have C:hU (ic w w m):=O (k.grown o (by rw[jo];omega) (λj D=>by have:=(g.lt j D).1;omega));clear d o g k b;refine i _ _ ?_;clear i
 go_wp2_with fail
 go_ret;exact⟨_,rfl,B,C⟩
theorem JA{v:Nat}{C:Array hZ}{b:Nat}{D:hQ->Prop}{p:Mem->Bool}(a:fz EM v C b D p)(l:List Mem)(g n c:Nat)(w:hQ)(h:cI EM b w w g n c l)(d:D w)(hl:n<=1000000):
 jf ih 60 #[A (T ⟨g,0,hH⟩) n c,.func (.func v) #[] C] w λe w'=>∃n',e=jd (A (T ⟨g,0,hH⟩) n' c)/\cI EM b w w' g n' c (l.filter λx=> !p x):=by
 have i:=O h;have j:=O (vJ a l (A (T ⟨g,0,hH⟩) n c) w h.at d h.sz (by rw[<-h.len];exact hl));have a1:=h.cap;have E:=O h.len;have EG:=a.enter;have HP:=O a;have a2:=O d;have Py:=O h.sz;clear h a d
 go_enter func60,ntmps60
 go_wp2_with fail
 refine(j).mono ?_;rintro e w1 ⟨r,rfl,o,f⟩;have ad:=O (i.later f);clear f j i
 rcases o with⟨rfl,al⟩|⟨k,e,rfl,he,d,i⟩
 ·have a:=O (tl al)
  clear al
  go_wp2_with fail
  go_ret;exact⟨_,rfl,by rw[a];exact ad⟩
 have a3:k<n:=by rw[E];exact(ol.1 he).1
 have a4:hU (l.take k=(l.take (k+1)).filter (λx=> !p x)):=O (by
  obtain⟨m,a,q⟩:=dS (l:=l) (j:=k) (by rw[<-E];exact a3);rw[he]at a;injection a with a
  subst a;rw[q,kn,tl i,qc (by rw[d];simp),kw,jR])
 have bd:decide ((k:Int)= -1)=false:=by simp
 have bf:((k:Int)== -1)=false:=by simp
 clear he d i
 go_wp2_with fail
 go_loopw [5,6] (λm a wr=>∃(i j:Nat) (d:List Mem),m=I N i/\a=I N j/\i<j/\j<=n/\hU (d.take i=(l.take j).filter (λx=> !p x))/\hU (d.drop j=l.drop j)/\hU (cI EM b w wr g n c d)) (λ_ a _=>n-(jg a).toNat)
 case atStart=>exact⟨k,k+1,l,rfl,by go_num,by omega,by omega,a4,O rfl,ad⟩
 obtain⟨i,j,d,rfl,rfl,ZN,hj,B,Q,m⟩:=hrel
 by_cases R:j<n
 case neg=>
  obtain rfl:j=n:=Y;have hd:=decide_eq_false (show ¬((j:Int)<(j:Int)) by omega);have PX:=decide_eq_false R;obtain⟨H,s,z⟩:=zW (P:=ih) 49 68 3 mz Tryz.sizeOf68 g 0 j c i Y a1;rw[s Y,ji]at z;have K:=BJ (P:=ih) 49 68 3 mz Tryz.sizeOf68 g 0 j c i Y;obtain⟨t,a,u⟩:=m.clear (P:=ih) ZN 49 68 mz bR Tryz.zeroValue68;rw[ji]at a;have F:hU (cI EM b w t g i c (l.filter λx=> !p x)):=O (by
   have y:=B.out;rw[jC (l:=l) (by rw[<-E];exact jc _)]at y;rw[<-y];exact u)
  replace a:∀y,(Builtin.clear_ #[49] y #[A (T ⟨g,i*3,hH⟩) (j-i) (c-i)]).run ih wr=.ok (jG #[]) t:=a;clear u s
  go_wp2_with fail
  go_ret;exact⟨_,rfl,F⟩
 have hd:=decide_eq_true (show((j:Int)<(n:Int)) by omega);have PX:=decide_eq_true R;obtain⟨e,he,q⟩:=dS (l:=l) (j:=j) (by rw[<-E];exact R);have F:d[j]?=T e:=by
  have h:=congrArg (λz:List Mem=>z[0]?) Q;simp only[ri,Nat.add_zero]at h;rw[h];exact he
 have S:d.drop (j+1)=l.drop (j+1):=by
  have h:=congrArg (List.drop 1) Q;rw[qd,qd]at h;exact h
 have a5:i<n:=Y;have ba:=m.len;have z:hU (p e=true->d.take i=(l.take (j+1)).filter (λx=> !p x)):=O λU=>by
  rw[q,kn,qc (by rw[U];simp),kw,jR];exact B
 have H:hU (p e=false->(d.set i e).take (i+1)=(l.take (j+1)).filter (λx=> !p x)):=O λU=>by
  rw[q,kn,rn (by rw[U];rfl),kw,<-B,j8 (by rw[qb];omega),rv,qm (jc _)]
 have au:hU ((d.set i e).drop (j+1)=l.drop (j+1)):=O (by rw[qn Y];exact S);have Sb:=O S;obtain⟨ga,oa,V,K⟩:=(m.at.cells).2.2 Y;injection V with V
 injection V with bb bc
 subst bb;subst bc;have X:=af wr (hF (EM.cells e).toArray 68);have hX:=je wr (hF (EM.cells e).toArray 68);obtain⟨r,o⟩:=J (p e);have M:hU (∀W,b<=W.heap.size->D W->jf ih v (#[ja (EM.cells e).toArray]++C) W λx w'=>x=jd (.bool r)/\ic W W w'):=O (by rw[o];exact HP.call e);have HR:=O o;obtain⟨B0,aa⟩:∃y:Mem,y=e:=⟨_,rfl⟩;have Wd:=O aa;rw[<-aa]at z H au HR X hX;have HA:=O X;have a:=O hX;obtain⟨s,t,u⟩:=e;have c0:wr.cell? ⟨g,j*3,hH⟩=T (I N s):=by have h:=K j _ F 0 _ rfl;rw[ji]at h;exact h
 have c1:wr.cell? ⟨g,j*3+1,hH⟩=T (I N t):=by have h:=K j _ F 1 _ rfl;rw[ji]at h;exact h
 have c2:wr.cell? ⟨g,j*3+2,hH⟩=T (I N u):=by have h:=K j _ F 2 _ rfl;rw[ji]at h;exact h
 replace M:hU (∀W,b<=W.heap.size->D W->jf ih v (#[ja #[I N s,I N t,I N u]]++C) W λx w'=>x=jd (.bool r)/\ic W W w'):=M;clear he q F S ba B Q K o X hX aa
 go_upto_region 8 with fail
 obtain⟨B,f⟩:=J wr.heap.size;have Q:wr.alloc (hF #[I N s,I N t,I N u] 68)=wr.alloc (hF (EM.cells B0).toArray 68):=by rw[Wd];rfl
 rw[Q,<-f];rw[<-f]at a;obtain⟨K,S⟩:=J (wr.alloc (hF (EM.cells B0).toArray 68));rw[<-S]at HA a⊢;have F:=O (m.later HA);have aa:B<K.heap.size:=(jk.1 a).1;have Vo:g≠B:=by have:=m.lt;omega
 have W:=O (HP.keep _ _ Py.out a2 F.bel);have X:hU (b<=K.heap.size):=O (jw Py F.bel.size);rw[Wd]at a;replace a:hU (K.heap[B]?=T (hF #[I N s,I N t,I N u] 68 (0,0))):=a;have b0:=cell_of (i:=0) a rfl;have b1:=cell_of (i:=1) a rfl;have b2:=cell_of (i:=2) a rfl;clear Q f S m HA c0 c1 c2
 go_wp2_with fail
 refine(M _ X.out W).mono ?_;rintro x S ⟨rfl,f⟩;have Q:=O (F.later f);have m:=O ((f.block B aa).trans a);clear M F a f W X b0 b1 b2
 cases r with
 |true=>
  have a:=O (z HR.symm);clear z H
  go_wp2_with fail
  exact⟨⟨i,j+1,d,rfl,by go_num,by omega,by omega,a,Sb,Q⟩,by simp only[jg];omega⟩
 |false=>
  have a:=O (H HR.symm);clear z H;have b0:=cell_of (i:=0) m rfl;have b1:=cell_of (i:=1) m rfl;have b2:=cell_of (i:=2) m rfl;have H:=decide_eq_true (show((i:Int)<(n:Int)) by omega)
  go_wp2_with (refine js rfl λ_ f=>zH 68 _ _ rfl Q a5 ⟨s,t,u⟩ Hj (by rw[ji];rfl) rfl λz F M W=>f _ _ ?_)
  have f:hU (cI EM b w z g n c (d.set i B0)):=O (by rw[Wd];exact F);exact⟨⟨i+1,j+1,d.set i B0,by go_num,by go_num,by omega,by omega,a,au,f⟩,by simp only[jg];omega⟩
theorem wQ{f:Nat}{m:Array hZ}{u:Nat}{z:hQ->Prop}{p:Chg->Bool}(a:fz EC f m u z p)(l:List Chg)(v:hZ)(w:hQ)(h:EC.At w v l)(d:z w)(g:u<=w.heap.size)(Q:l.length<=1000000):
 jf ih 127 #[v,.func (.func f) #[] m] w λe w'=>∃r,e=jd (I N r)/\rA p l r/\ic w w w':=by
 obtain⟨q,c,rfl,R,-⟩:=h.form;have B:=O h;have EG:=a.enter;have C:=O a;have S:=O d;have s:=O g;obtain⟨n,b⟩:=J l.length;have D:=O b;rw[<-b]at Q R B⊢;clear h b a d g
 go_enter func127,ntmps127
 go_wp2_with fail
 go_loopw [8] (λi wr=>∃k:Nat,i=I N k/\k<=n/\hU (∀y∈l.take k,p y=false)/\hU (ic w w wr)) (λi _=>n-(jg i).toNat)
 case atStart=>exact⟨0,rfl,jL _,O av,O (ju _ _)⟩
 obtain⟨k,rfl,hk,i,a⟩:=hrel
 by_cases U:k<n
 ·have V:=ap ((k:Int)<(n:Int))
  have W:=ap (k<n);obtain⟨e,he,x⟩:=dS (l:=l) (j:=k) (by rw[<-D];exact U);obtain⟨g,o,rfl,b⟩:=(B.cells).2.2 Y;have d:=O (C.call e wr (jw s a.size) (C.keep _ _ s.out S (a.mono s)));obtain⟨r,t⟩:=J (p e);rw[<-t]at d;have E:=O t;have X:=O x;have HE:=O he;obtain⟨F,H,K,M,P⟩:=e;have c0:wr.cell? ⟨g,o+k*5,hH⟩=T (I N F):=cell_below (b k _ he 0 _ rfl) a;have c1:wr.cell? ⟨g,o+k*5+1,hH⟩=T (I N H):=cell_below (b k _ he 1 _ rfl) a;have c2:wr.cell? ⟨g,o+k*5+2,hH⟩=T (I N K):=cell_below (b k _ he 2 _ rfl) a;have c3:wr.cell? ⟨g,o+k*5+3,hH⟩=T (I N M):=cell_below (b k _ he 3 _ rfl) a;have c4:wr.cell? ⟨g,o+k*5+4,hH⟩=T (I N P):=cell_below (b k _ he 4 _ rfl) a;replace d:hU (jf ih f (#[ja #[I N F,I N H,I N K,I N M,I N P]]++m) wr λe w'=>e=jd (.bool r)/\ic wr wr w'):=d;clear b he x t
  go_wp2_with fail
  refine(d).mono ?_;rintro x w1 ⟨rfl,b⟩;have t:=ac a b;clear b d c0 c1 c2 c3 c4
  rcases r with _|_
  ·go_wp2_with fail
   exact⟨⟨k+1,by go_num,by omega,O (by
    rw[X];intro y b
    rcases q6.1 b with b|b
    ·exact i y b
    rw[qz]at b;rw[b];exact E.symm),t⟩,by simp only[jg];omega⟩
  go_wp2_with fail
  go_ret;exact⟨_,rfl,.inr ⟨k,_,rfl,HE,E.symm,i⟩,t⟩
 have V:=ar ((k:Int)<(n:Int));have W:=ar (k<n);obtain rfl:k=n:=Y
 go_wp2_with fail
 go_ret;exact⟨_,rfl,.inl ⟨rfl,by have h:=i.out;rw[jC (by rw[<-D];exact jc _)]at h;exact h⟩,a⟩
theorem D6{a:Nat}{b:Array hZ}{c:Nat}{d:hQ->Prop}{p:Chg->Bool}(k:fz EC a b c d p)(l:List Chg)(v:hZ)(w:hQ)(h:EC.At w v l)(f:d w)(g:c<=w.heap.size)(i:l.length<=1000000):
 jf ih 58 #[v,.func (.func a) #[] b] w λe w'=>e=jd (.bool (l.any p))/\ic w w w':=by
 have j:=O (wQ k l v w h f g i);clear h f g i
 go_enter func58,ntmps58
 go_wp2_with fail
 refine(j).mono ?_;rintro x m ⟨r,rfl,f,g⟩;have h:=O f.any;have i:=O g;clear f g j
 go_wp2_with fail
 go_ret;exact⟨iD h,i⟩
theorem El(l:List Chg)(v:hZ)(w:hQ)(d:EC.At w v l)(q:l.length<=1000000):
 jf ih 39 #[v] w λe w'=>∃h,e=jd h/\w'.ownsRow w EC.t EC.k h l.length (EC.flat l)/\ic w w w':=by
 obtain⟨p,c,rfl,r,i⟩:=d.form;obtain⟨s,t,u,x,y⟩:=lz Mg;have E:∀(w:hQ) (a:Option jr) (n c n' f:Nat),(binOp .eql 24 (A a n c) (A hH n' f)).run ih w=.ok (.bool a.isNone) w:=λw a n c n' f=>Lib.run_eql_slice_nil w _ _ a n c n' f nn
 rcases p with _|a
 ·have j:=i rfl
  have b:l.length=0:=Y;have g:l=[]:=q8.1 b;subst g
  go_enter func39,ntmps39
  go_wp2_with fail
  go_ret;exact⟨_,rfl,jT _ _ _ _,ju _ _⟩
 obtain⟨n,j⟩:=J l.length;have b:=O (d.below (af w (hF #[] EC.t)));have g:=O (q9 (base:=w.heap.size) (size:=EC.k) (e:=EC.t) w #[] 0 (jc _) (by unfold jW;omega) av);have k:=O (af w (hF #[] EC.t));unfold EK.At at b;rw[<-j]at r q b⊢;clear d j i
 go_enter func39,ntmps39
 go_wp2_with (at_builtin;refine Hid.out ?_)
 refine O ?_;refine js rfl λ_ i=>?_
 refine Ev _ _ 24 rfl w.heap.size 59 s (ja #[I N 0,I N 0,I N 0,I N 0,I N 0]) 5 40 nn t u x y rfl G _ _ _ rfl g _ _ _ rfl b (EC.flat_one' _) (by unfold jW;omega) Y (by rw[jo];omega) ?_;intro z m d o;have B:hU (m.ownsRow w EC.t EC.k z n (EC.flat l)):=O (by rw[ji]at d;exact d);have C:hU (ic w w m):=O (k.grown o (by rw[jo];omega) (λj D=>by have:=(g.lt j D).1;omega));clear d o g k b;refine i _ _ ?_;clear i
 go_wp2_with fail
 go_ret;exact⟨_,rfl,B,C⟩
theorem IB{E:Nat}{F:Array hZ}{b:Nat}{H:hQ->Prop}{p:Chg->Bool}(a:fz EC E F b H p)(l:List Chg)(g n c:Nat)(w:hQ)(h:cI EC b w w g n c l)(d:H w)(hl:n<=1000000):
 jf ih 107 #[A (T ⟨g,0,hH⟩) n c,.func (.func E) #[] F] w λe w'=>∃n',e=jd (A (T ⟨g,0,hH⟩) n' c)/\cI EC b w w' g n' c (l.filter λx=> !p x):=by
 have i:=O h;have j:=O (wQ a l (A (T ⟨g,0,hH⟩) n c) w h.at d h.sz (by rw[<-h.len];exact hl));have a2:=h.cap;have K:=O h.len;have EG:=a.enter;have HP:=O a;have a3:=O d;have Py:=O h.sz;clear h a d
 go_enter func107,ntmps107
 go_wp2_with fail
 refine(j).mono ?_;rintro e w1 ⟨r,rfl,s,f⟩;have al:=O (i.later f);clear f j i
 rcases s with⟨rfl,au⟩|⟨k,e,rfl,he,d,i⟩
 ·have a:=O (tl au)
  clear au
  go_wp2_with fail
  go_ret;exact⟨_,rfl,by rw[a];exact al⟩
 have a4:k<n:=by rw[K];exact(ol.1 he).1
 have a5:hU (l.take k=(l.take (k+1)).filter (λx=> !p x)):=O (by
  obtain⟨m,a,t⟩:=dS (l:=l) (j:=k) (by rw[<-K];exact a4);rw[he]at a;injection a with a
  subst a;rw[t,kn,tl i,qc (by rw[d];simp),kw,jR])
 have bf:decide ((k:Int)= -1)=false:=by simp
 have bg:((k:Int)== -1)=false:=by simp
 clear he d i
 go_wp2_with fail
 go_loopw [5,6] (λm a wr=>∃(i j:Nat) (d:List Chg),m=I N i/\a=I N j/\i<j/\j<=n/\hU (d.take i=(l.take j).filter (λx=> !p x))/\hU (d.drop j=l.drop j)/\hU (cI EC b w wr g n c d)) (λ_ a _=>n-(jg a).toNat)
 case atStart=>exact⟨k,k+1,l,rfl,by go_num,by omega,by omega,a5,O rfl,al⟩
 obtain⟨i,j,d,rfl,rfl,ZN,hj,B,S,m⟩:=hrel
 by_cases U:j<n
 case neg=>
  obtain rfl:j=n:=Y;have hd:=decide_eq_false (show ¬((j:Int)<(j:Int)) by omega);have PX:=decide_eq_false U;obtain⟨C,o,y⟩:=zW (P:=ih) 24 59 5 nn Tryz.sizeOf59 g 0 j c i Y a2;rw[o Y,ji]at y;have D:=BJ (P:=ih) 24 59 5 nn Tryz.sizeOf59 g 0 j c i Y;obtain⟨q,a,u⟩:=m.clear (P:=ih) ZN 24 59 nn AP Tryz.zeroValue59;rw[ji]at a;have z:hU (cI EC b w q g i c (l.filter λx=> !p x)):=O (by
   have v:=B.out;rw[jC (l:=l) (by rw[<-K];exact jc _)]at v;rw[<-v];exact u)
  replace a:∀v,(Builtin.clear_ #[24] v #[A (T ⟨g,i*5,hH⟩) (j-i) (c-i)]).run ih wr=.ok (jG #[]) q:=a;clear u o
  go_wp2_with fail
  go_ret;exact⟨_,rfl,z⟩
 have hd:=decide_eq_true (show((j:Int)<(n:Int)) by omega);have PX:=decide_eq_true U;obtain⟨e,he,t⟩:=dS (l:=l) (j:=j) (by rw[<-K];exact U);have o:d[j]?=T e:=by
  have h:=congrArg (λz:List Chg=>z[0]?) S;simp only[ri,Nat.add_zero]at h;rw[h];exact he
 have V:d.drop (j+1)=l.drop (j+1):=by
  have h:=congrArg (List.drop 1) S;rw[qd,qd]at h;exact h
 have ba:i<n:=Y;have bb:=m.len;have M:hU (p e=true->d.take i=(l.take (j+1)).filter (λx=> !p x)):=O λX=>by
  rw[t,kn,qc (by rw[X];simp),kw,jR];exact B
 have Q:hU (p e=false->(d.set i e).take (i+1)=(l.take (j+1)).filter (λx=> !p x)):=O λX=>by
  rw[t,kn,rn (by rw[X];rfl),kw,<-B,j8 (by rw[qb];omega),rv,qm (jc _)]
 have a1:hU ((d.set i e).drop (j+1)=l.drop (j+1)):=O (by rw[qn Y];exact V);have Sb:=O V;obtain⟨ga,oa,aa,q⟩:=(m.at.cells).2.2 Y;injection aa with aa
 injection aa with bc bd
 subst bc;subst bd;have hA:=af wr (hF (EC.cells e).toArray 59);have hX:=je wr (hF (EC.cells e).toArray 59);obtain⟨r,s⟩:=J (p e);have R:hU (∀W,b<=W.heap.size->H W->jf ih E (#[ja (EC.cells e).toArray]++F) W λx w'=>x=jd (.bool r)/\ic W W w'):=O (by rw[s];exact HP.call e);have HR:=O s;obtain⟨B0,ad⟩:∃y:Chg,y=e:=⟨_,rfl⟩;have Wd:=O ad;rw[<-ad]at M Q a1 HR hA hX;have HA:=O hA;have a:=O hX;obtain⟨u,v,z,C,D⟩:=e;have c0:wr.cell? ⟨g,j*5,hH⟩=T (I N u):=by have h:=q j _ o 0 _ rfl;rw[ji]at h;exact h
 have c1:wr.cell? ⟨g,j*5+1,hH⟩=T (I N v):=by have h:=q j _ o 1 _ rfl;rw[ji]at h;exact h
 have c2:wr.cell? ⟨g,j*5+2,hH⟩=T (I N z):=by have h:=q j _ o 2 _ rfl;rw[ji]at h;exact h
 have c3:wr.cell? ⟨g,j*5+3,hH⟩=T (I N C):=by have h:=q j _ o 3 _ rfl;rw[ji]at h;exact h
 have c4:wr.cell? ⟨g,j*5+4,hH⟩=T (I N D):=by have h:=q j _ o 4 _ rfl;rw[ji]at h;exact h
 replace R:hU (∀W,b<=W.heap.size->H W->jf ih E (#[ja #[I N u,I N v,I N z,I N C,I N D]]++F) W λx w'=>x=jd (.bool r)/\ic W W w'):=R;clear he t o V bb B S q s hA hX ad
 go_upto_region 8 with fail
 obtain⟨B,f⟩:=J wr.heap.size;have S:wr.alloc (hF #[I N u,I N v,I N z,I N C,I N D] 59)=wr.alloc (hF (EC.cells B0).toArray 59):=by rw[Wd];rfl
 rw[S,<-f];rw[<-f]at a;obtain⟨q,V⟩:=J (wr.alloc (hF (EC.cells B0).toArray 59));rw[<-V]at HA a⊢;have o:=O (m.later HA);have ad:B<q.heap.size:=(jk.1 a).1;have Vo:g≠B:=by have:=m.lt;omega
 have W:=O (HP.keep _ _ Py.out a3 o.bel);have PR:hU (b<=q.heap.size):=O (jw Py o.bel.size);rw[Wd]at a;replace a:hU (q.heap[B]?=T (hF #[I N u,I N v,I N z,I N C,I N D] 59 (0,0))):=a;have b0:=cell_of (i:=0) a rfl;have b1:=cell_of (i:=1) a rfl;have b2:=cell_of (i:=2) a rfl;have b3:=cell_of (i:=3) a rfl;have b4:=cell_of (i:=4) a rfl;clear S f V m HA c0 c1 c2 c3 c4
 go_wp2_with fail
 refine(R _ PR.out W).mono ?_;rintro x V ⟨rfl,m⟩;have S:=O (o.later m);have f:=O ((m.block B ad).trans a);clear R o a m W PR b0 b1 b2 b3 b4
 cases r with
 |true=>
  have a:=O (M HR.symm);clear M Q
  go_wp2_with fail
  exact⟨⟨i,j+1,d,rfl,by go_num,by omega,by omega,a,Sb,S⟩,by simp only[jg];omega⟩
 |false=>
  have a:=O (Q HR.symm);clear M Q;have b0:=cell_of (i:=0) f rfl;have b1:=cell_of (i:=1) f rfl;have b2:=cell_of (i:=2) f rfl;have b3:=cell_of (i:=3) f rfl;have b4:=cell_of (i:=4) f rfl;have Q:=decide_eq_true (show((i:Int)<(n:Int)) by omega)
  go_wp2_with (refine js rfl λ_ m=>zH 59 _ _ rfl S ba ⟨u,v,z,C,D⟩ Ki (by rw[ji];rfl) rfl λo M R W=>m _ _ ?_)
  have m:hU (cI EC b w o g n c (d.set i B0)):=O (by rw[Wd];exact M);exact⟨⟨i+1,j+1,d.set i B0,by go_num,by go_num,by omega,by omega,a,a1,m⟩,by simp only[jg];omega⟩
end

def Und(n a:Int):Prop:=1<=a/\∃j:Nat,n/2^j=a
noncomputable def gW(n a:Int):Bool:=by classical exact decide (Und n a)
theorem rt{n a:Int}(h:Und n a):gW n a=true:=by unfold gW;simpa using h
theorem AW{n a:Int}(h:¬Und n a):gW n a=false:=by unfold gW;simpa using h
theorem BW(n a:Int):gW n a=true↔Und n a:=by unfold gW;simp
theorem nU{n:Int}(h:1<=n):Und n n:=⟨h,0,by simp⟩
theorem yZ{t:List (Int×Int)}{x:Int}:(ofF t x).isSome=true↔∃e∈t,e.1=x:=by
 unfold ofF;rw[Option.isSome_map,List.find?_isSome];simp
theorem zf:∀(k n:Nat),1<=n->n<2^k->∀x:Nat,(x∈n::(upL k n).map fG↔1<=x/\∃j,n/2^j=x)
 |0,n,d,c,x=>by simp at c;omega
 |k+1,n,d,c,x=>by
  by_cases g:1<n
  ·obtain⟨i,e,h,l⟩:=AQ g c
   obtain rfl:i=k:=Y;have m:=zf i (n/2) Y l x;rw[h,lv,km,show fG n=n/2 from rfl,m];have f:∀j,n/2^(j+1)=n/2/2^j:=λj=>by rw[Nat.pow_succ,Nat.mul_comm,Nat.div_div_eq_div_mul]
   constructor
   ·rintro(rfl|⟨b,j,a⟩)
    ·exact⟨d,0,by simp⟩
    exact⟨b,j+1,by rw[f];exact a⟩
   rintro⟨b,j,a⟩
   cases j with
   |zero=>exact .inl (by simpa using a.symm)
   |succ j=>exact .inr ⟨b,j,by rw[<-f];exact a⟩
  have e:n=1:=Y;rw[BN Y];subst e;simp only[lo,qz]
  constructor
  ·rintro rfl;exact⟨by omega,0,rfl⟩
  rintro⟨b,j,a⟩;have:1/2^j<=1:=Nat.div_le_self _ _;omega
theorem mR(d:Int)(b:0<=d)(g:d<512)(x:Int):x∈(512+d)::aR d↔Und (512+d) x:=by
 obtain⟨n,rfl⟩:=mb b;have h:=zf 10 (512+n) Y Y;have e:(512+(n:Int))::aR (n:Int)=((512+n)::(upL 10 (512+n)).map fG).map λm:Nat=>(m:Int):=by
  simp[aR,gG]
 rw[e];simp only[ql,h];have c:∀j:Nat,(512+(n:Int))/2^j=(((512+n)/2^j:Nat):Int):=λj=>by
  rw[Int.natCast_ediv];push_cast;rfl
 unfold Und
 constructor
 ·rintro⟨y,⟨f,j,a⟩,rfl⟩
  exact⟨by omega,j,by rw[c,a]⟩
 rintro⟨f,j,a⟩;refine⟨(512+n)/2^j,⟨?_,j,rfl⟩,by rw[<-c];exact a⟩;rw[c]at a;omega
theorem BU(a:List Int)(x:Int):x∈eJ a↔∃d∈a,x∈(512+d)::aR d:=by
 unfold eJ;rw[q4]
def mc(t:List (Int×Int))(a:Int):Prop:=∃e∈t,512<=e.1/\Und e.1 a
def nO(t:List (Int×Int))(i:Nat):Prop:=
 (t.getD i (0,0)).1<1\/1023<(t.getD i (0,0)).1\/(0<i/\(t.getD i (0,0)).1<=(t.getD (i-1) (0,0)).1)\/¬aN (t.getD i (0,0)).2\/¬mc t (t.getD i (0,0)).1
theorem Jy{t:List (Int×Int)}{a:Int}(h:a∈eJ (aU t)):mc t a:=by
 obtain⟨d,b,c⟩:=(BU _ _).1 h;obtain⟨f,g,e,i,j⟩:=(mq _ _).1 b;exact⟨e,i,by omega,by rw[j];exact(mR d f g a).1 c⟩
theorem JR{t:List (Int×Int)}{i:Nat}(a:i<t.length)(h:nO t i):cK t=210:=by
 refine lM (U:=eJ (aU t)) rfl a ?_
 rcases h with h|h|h|h|h
 ·exact .inl h
 ·exact .inr (.inl h)
 ·exact .inr (.inr (.inl h))
 ·exact .inr (.inr (.inr (.inl h)))
 exact .inr (.inr (.inr (.inr (λb=>h (Jy b)))))
theorem Lc{t:List (Int×Int)}(h:∀i,i<t.length->¬nO t i):cK t=0:=by
 refine yQ (U:=eJ (aU t)) rfl (λi c a=>?_);have b:=h i c
 rcases a with a|a|a|a|a
 ·exact b (.inl a)
 ·exact b (.inr (.inl a))
 ·exact b (.inr (.inr (.inl a)))
 ·exact b (.inr (.inr (.inr (.inl a))))
 refine b (.inr (.inr (.inr (.inr ?_))));rintro⟨e,he,l,d⟩;obtain⟨k,hk,rfl⟩:=qa he;have f:=h k hk;have g:t.getD k (0,0)=t[k]:=by simp[jn,hk]
 have m:¬1023<t[k].1:=λj=>f (.inr (.inl (by rw[g];exact j)))
 refine a ((BU _ _).2 ⟨t[k].1-512,(mq _ _).2 ⟨by omega,by omega,t[k],he,by omega⟩,?_⟩);refine(mR _ Y Y _).2 ?_;rw[show 512+(t[k].1-512)=t[k].1 by omega];exact d
end Go.Proofs.YtpfafeammikibaaGreatDoor
