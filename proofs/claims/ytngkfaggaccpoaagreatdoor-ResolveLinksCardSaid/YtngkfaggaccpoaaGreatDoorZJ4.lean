/- Contracts of functions that the law reaches, part 4 of 7; no condition. -/
import Derived.Shelf.SlSortCmp.NoneTotal
import Derived.Test.YtngkfaggaccpoaaGreatDoorZJ3
namespace Go.Proofs.YtngkfaggaccpoaaGreatDoor
set_option maxHeartbeats 64000000
set_option maxRecDepth 100000
set_option linter.unusedVariables false
set_option linter.unusedSimpArgs false
set_option linter.unusedSectionVars false
open Go.RowKit
open Go.Proofs.Tryz
open _root_ renaming rfl->I,Int->N,Nat->jb,List->jd,congrArg->js,if_pos->jt,if_neg->jw,absurd->jB,Array->jD,Bool->jF,Option->jP,decide_eq_true->jS,of_decide_eq_true->qd
open Go.Value renaming int->T
open Go.IntKind renaming i64->A
open _root_.Option renaming some->ja,none->jc,getD_some->xe,map_some->xk,isSome_iff_exists->E4
open Go.Obj renaming cells->je
open Go.RowKit renaming Hid->jf,Below->jk
open Go.Value renaming slice->jg,agg->jn,pointer->jz,tuple->jE
open Go renaming World->jh,Value->jj,Calls->jq,Boxed->jA,TypeId->jI,undef->jN,setRow_heap->jR,Program->jX,setRow_other->jY,below_setRow->jZ,Oper->j0,wpList_plain->j3,wp_store_row->j4,Addr->j7,wp_region_lit->ow,callFunc->p6,maxLen->qa,wpList_load_row->qb,wp_region_noPanic->qc,bodyPost_ret->qj,Operand->qT,grownBy_setCell'->qU,callsIn_wide->wt,results_none->wv,run_underlying->wx,callsIn_of_wp_marks->OJ,wpListIn_append_own_at->Ss
open _root_.Bool renaming false->ji,true->jm,eq_iff_iff->qB,eq_false_iff->vi,and_eq_true->wq
open Go.Proofs.Tryz renaming prog->jl
open Go.Value renaming int->jo,oneCell'->oj,bool->qw,agg->xl,ownBlock->xU
open Go.Ending renaming returned->jp
open Go.IntKind renaming u8->jr,u64->rn,wrap_u64->rv,wrap_u8->r5,i64->E5
open _root_.Nat renaming le_refl->ju,le_trans->jL,zero_add->jM,zero_le->j6,min_eq_left->qh,lt_of_lt_of_le->qi,lt_or_ge->qn,mul_le_mul_right->qo,mod_lt->qM,mul_comm->qO,add_le_add->qS,reduceAdd->qX,reduceSub->qY,add_zero->sh,ne_of_lt->xm,le_of_lt->xq,eq_zero_or_pos->xB,div_div_eq_div_mul->E2,lt_or_eq_of_le->GX,le_of_lt_succ->HH,div_lt_of_lt_mul->Ix,div_add_mod->IA
open Go.Proofs renaming intOf->jv
open Go.World renaming alloc_heap_new->jy,size_alloc->j8,ownsRow_nil->nn,cell?->qA,setRow->qW,ownsRow_lit->Bm
open _root_.List renaming length_map->jC,length_append->jH,size_toArray->jJ,mem_map->jO,getD->jQ,mem_cons->jT,take_of_length_le->jU,replicate->jW,mem_of_getElem?->j1,length_cons->j5,getElem?_map->j9,getElem?_eq_getElem->ms,length_take->mz,append_assoc->n0,append_nil->ob,getElem?_eq_some_iff->o8,mem_append->pz,map_append->qe,getElem_of_mem->qk,any_eq_false->ql,nil_append->qt,cons_append->qu,take_succ_eq_append_getElem->qv,mem_singleton->qx,filter_append->qy,filter_nil->qz,length_take_le->qC,length_attach->qD,range->qI,length_nil->qJ,map_cons->qK,getElem_mem->qL,mem_nil_iff->qN,mem_cons_self->qP,mergeSort_perm->qQ,push_toArray->q8,append_toArray->q9,zipIdx_cons->rk,mem_range->r6,any_eq_true->r7,length_set->r8,filter_cons_of_neg->r9,drop_drop->sn,pairwise_cons->sq,getElem?_append_left->sv,getElem_map->sx,eq_nil_of_length_eq_zero->sy,take_set_of_le->xf,drop_set_of_lt->xg,drop_of_length_le->xh,length_singleton->xi,setIfInBounds_toArray->xn,map_set->xo,take_append_drop->xr,take_take->xt,mem_cons_of_mem->xw,pairwise_map->xx,map_map->xy,pairwise_iff_getElem->xz,getElem?_append_right->xA,flatMap_cons->xC,take_zero->xT,flatten_cons->xW,drop_eq_getElem_cons->xX,getElem?_eq_none->xY,toList_toArray->xZ,map_inj_right->yl,mem_flatMap->yn,length_drop->AC,length_eq_zero_iff->AX,getElem?_drop->Bn,filter_cons_of_pos->CF,getElem_set_self->D1,mem_filter->E3,map_congr_left->E6,length_filter_le->H0,getElem?_cons_succ->H1,nodup_append->H5,getElem?_take_of_lt->KC,map_mergeSort->K0,attach_map_subtype_val->Lq,find?_eq_none->Ls
open _root_.Array renaming getElem?_eq_some_iff->jG,length_toList->qf,replicate_succ->qZ,replicate_zero->q7
open Go.RowKit.Below renaming refl->jK,heap_setCell->xS,heap_alloc->xV
open Go.NoPanic renaming normal->jV
open Go.Proofs.Tryz renaming underlying3->nv,underlying41->qs,underlying66->qE,underlying36->qF,underlying42->qG,underlying4->qH,results26->qV,results35->xa,underlying5->xd,underlying149->xD,underlying298->xE,underlying0->xG,underlying9->xH,underlying165->xI,underlying219->xJ,underlying220->xK,underlying49->xL,underlying226->xM,underlying199->xN,underlying286->xO,underlying290->xP,underlying335->xQ,underlying336->xR
open _root_.BitVec renaming ofNat->o1,toNat_ofNat->r4
open _root_.Int renaming eq_ofNat_of_zero_le->qg,ofNat->xj,natCast_ediv->xu
variable{y:Cmt}{e:Grp}{d:N}{z:N×N}{p:N->jP N}{j:Type}{x:ap}{i:jD jj}{P:jX}{b o:jb}{D:jb->Prop}{t:jd (N×N)}{r:jd N}{f:jd ap}{h w w':jh}{S:jh->Prop}{a m vm vt:jj}
section
attribute [local go_sem] Oper.semAt_some
section
variable {P:jX} {F:Fence} {nF:jb}
theorem Ap{f:jD j0}{i:jd j0}{o:j0}{a:Act}{w:jh}{j:Exit->Act->jh->Prop}(k:o.guard=jc)(b:jI)(x y:qT)(d:o.op=.store b x y)
 (g:jb) (cells:jD jj) (l:a.eval x=jz (ja ⟨g,0,jc⟩)) (m:a.eval y=jn cells) (t:jI) (e:jD jj) (n:w.heap[g]?=ja (je e t (0,0))) (p:(P.info? b).map (·.size)=ja cells.size)
 (q:e.size=cells.size) (r:cells.all (·.oneCell')=jm) (h:wpListIn F nF P f j i (a.put o.dst jN) (w.setRow g cells)):wpListIn F nF P f j (o::i) a w:=by
 refine wpListIn_plain k λv s=>?_
 unfold Oper.wpIn;refine⟨by simp[Oper.about,d],?_⟩;rw[Oper.semAt_plain F _ _ (by rw[d];intro c u;cases u)];simp only[execOp,d,l,m,Instr.storeAt,Instr.sureAddr,Sem.run_bind,Sem.run_pure,Result.andThen_ok,run_storeVar_row w g t b e cells n p q r];exact s _ _ h
end
def DG(k:LBy):LBy:=dZ k ⟨#[112,97,116,104]⟩ []
def aA(k:LBy):jb->LBy
 |0=>k
 |i+1=>DG (aA k i)
def gI(k:LBy)(n:jb):jd (LBy):=(qI n).map (aA k)
theorem fL(k:LBy)(h:k.length=32):∀i,(aA k i).length=32
 |0=>h
 |i+1=>by
  rw[aA,DG];exact pD _ _ _
theorem Cy(k:LBy)(n:jb):gI k (n+1)=gI k n++[aA k n]:=by unfold gI;rw[List.range_succ,qe];rfl
theorem F5(k:LBy)(n:jb):(gI k n).length=n:=by unfold gI;simp
def kF(k:LBy):jj:=jn (k.map v8).toArray
theorem bQ.setRow{B0:jb}{Ψ:jb->Prop}(a:jh)(g:jb)(b:jD jj)(c:Ψ g):bQ B0 Ψ a (a.setRow g b):=
 ⟨rfl,rfl,rfl,by simp[qW],λk _ d=>.inl (jY _ _ _ _ (λe=>d (e▸c)))⟩
theorem bQ.setCell{B0:jb}{Ψ:jb->Prop}(a:jh)(p:j7)(v:jj)(b:Ψ p.block):bQ B0 Ψ a (a.setCell p v):=
 ⟨rfl,rfl,rfl,by simp[World.setCell],λk _ c=>.inl (xS _ _ _ _ (λe=>c (e▸b)))⟩
theorem LZ(c:LBy)(h:c.length=32)(w0:jh)(i:bH w0)(b a:jb)(j:w0.heap.size<=b)(m:w0.heap.size<=a)(p:b≠a)(w:jh)(e:jk w0 w0 w)
 (f:jA w b 3 (T A (0:jb))) (g:w.heap[a]?=ja (je (c.map v8).toArray 66 (0,0))):
 eQ jl 198 #[jz (ja ⟨b,0,jc⟩),jz (ja ⟨a,0,jc⟩)] (λx:LBy=>#[kF x]) (λk=>k=b\/k=a) w0.heap.size (λxs=>xs=gI c 10) (λ_=>True) (λys=>ys.length<=10/\∀x∈ys,x.length=32) w:=by
 intro l Q Jx W d q r s t;have u:jA W b 3 (T A (0:jb)):=(d.block b f.lt).trans f;have v:=(d.block a (jG.1 g).1).trans g;have Uq:=O (e.trans (d.mono e.size));have HT:=O i;have o:=O h;have R:=O p;have au:=O j;have ax:=O m;have ay:=O u;have a1:=O v;clear f g e i h p j m u v d;have B:=O q;have a2:=O r;have S:=O s;have U:=O t;clear q r s t;refine(wt (n:=0)).1 ?_;refine callsIn_of_wp func198 I trivial ?_ I;simp only[ntmps198,jJ,j5,qJ,qX,qY,qZ,q7,q8,q9,qt,qu]
 gi_wp2_with fail
 gi_loopw [4] (λs wr=>W.heap.size<=wr.heap.size/\∃i:jb,i<=10/\jf (jA wr b 3 (T A (i:jb)))/\jf (wr.heap[a]?=ja (je ((aA c i).map v8).toArray 66 (0,0)))/\jf (jk w0 w0 wr)/\jf (Q (gI c i) (λk=>k=b\/k=a) wr))
  (λs wr=>(10-jv ((wr.cell? ⟨b,0,jc⟩).getD jN)).toNat)
 case atStart=>
  exact⟨ju _,0,by omega,ay,a1,Uq,U⟩
 obtain⟨a4,i,hi,f,p,C,q⟩:=hrel;have D:=f.cell;have E:=O D
 by_cases h1:i<10
 ·have hd:=aw ((i:N)<=9)
  obtain⟨r,d,e⟩:=Arr.mk' (fL c o i);obtain⟨s,m,h⟩:=Arr.mk' (fL c o (i+1));have t:=S (gI c i) (aA c i) (λk=>k=b\/k=a) wr q (by
   rintro k (rfl|rfl)
   ·exact f.lt
   exact(jG.1 p).1) (by
   rw[<-Cy];refine⟨by rw[F5];omega,λx g=>?_⟩;unfold gI at g;obtain⟨j,-,rfl⟩:=jO.1 g;exact fL c o j)
  rw[<-Cy]at t;unfold kF at t;rw[<-d]at t;obtain⟨fn,tmps,assign,body,V,j⟩:=t;have u:jf (wr.heap[a]?=ja (je r 66 (0,0))):=O (by rw[d];exact p);have F:=O e;have Yx:=O d;have g:=O h;have H:=O j;clear d e m h j
  gi_wp2_with (refine oD I 66 _ I a I 66 r (0,0) _ u.out qE I (by rw[F.sz];rfl) ?_)
  refine⟨I,H.mono ?_⟩;rintro e v (⟨rfl,X,h,j⟩|⟨rfl,ZT,h,j⟩)
  ·have m:jf (jA v b 3 (T A (i:jb))):=O ((j b (.inl I)).trans f)
   have K:=O ((j a (.inr I)).trans u);have M:=O (C.trans h);have y:=O X;have Wt:wr.heap.size<=v.heap.size:=h.size;clear D f p C q u H X h j V
   gi_wp2_with (refine oD I 66 _ I a I 66 r (0,0) _ K.out qE I (by rw[F.sz];rfl) ?_)
   have d:=sD (aA c i) (fL c o i) ⟨#[112,97,116,104]⟩ [] _ v (zR _) (AL _ L) (HT.below M);rw[<-Yx]at d;have z:((dZ (aA c i) ⟨#[112,97,116,104]⟩ []).map v8).toArray=s:=g.eq.symm;rw[z]at d;refine⟨trivial,I,(callsIn_wide.2 d).mono ?_⟩;clear d z;rintro e z ⟨rfl,d⟩;have aa:jf (jA z b 3 (T A (i:jb))):=O ((d.block _ m.lt).trans m);have P:=ae K d;have UA:=ah M d;have ad:=O (B.keep y (bQ.ofBelow d (λk hk _=>hk)));have a5:v.heap.size<=z.heap.size:=d.size;clear m K M y d
   gi_wp2_with (refine Ap I 66 _ _ I a s I I 66 r P.out (by rw[g.sz];rfl) (by rw[F.sz,g.sz]) g.one ?_;obtain⟨m,d⟩:∃x,x=z.setRow a s:=⟨_,I⟩;have a6:=O d;rw[<-d];have M:jf (m.heap[a]?=ja (je s 66 (0,0))):=O (by rw[d];exact jR _ _ _ _ _ _ P.out);have K:jf (jA m b 3 (T A (i:jb))):=O (by rw[d];exact(jY _ _ _ _ R.out).trans aa);have a3:jf (Q (gI c (i+1)) (λk=>k=b\/k=a) m):=O (by rw[d];exact B.keep ad (bQ.setRow _ _ _ (.inr I)));have UF:jf (jk w0 w0 m):=O (by rw[d];exact jZ UA ax _);have k:z.heap.size<=m.heap.size:=(by rw[d];simp[qW]);have ba:=K.cell;have bb:=K.frozen;clear d P aa ad UA)
   have k:=K.set (T A ((i:N)+1));have x:=k.cell;refine⟨⟨by rw[World.size_setCell];omega,i+1,by omega,O k,O ?_,O ?_,O ?_⟩,?_⟩
   ·rw[<-g.eq];exact(xS _ _ _ _ (Ne.symm R.out)).trans M
   ·exact UF.setCell au.out _
   ·exact B.keep a3 (bQ.setCell _ _ _ (.inl I))
   rw[x,E];simp only[xe,jv];omega
  have y:=O ZT;clear D f p C q u H ZT h j V E
  gi_wp2
  refine qj (wv I _ _ _) I ?_;exact⟨⟨_,I⟩,.inr ⟨_,_,trivial,y⟩⟩
 have hd:=az ((i:N)<=9);obtain rfl:i=10:=Y;clear S U a2 E
 gi_wp2
 refine bodyPost_end (wv I _ _ _) I ?_;exact⟨⟨_,I⟩,.inl ⟨_,_,I,q⟩⟩
end
section
variable {P:jX}
theorem KY{α:Type}{g:qT}{q:jD Tmp}{assign body:Code}{u:Exit->Act->jh->Prop}{a:Act}{w:jh}{n:jb}
 {gf:jb} {lb:jD jj} (E:a.eval g=.func (.func gf) #[] lb) (F:∀args w,(p6 gf args).run P w=.ok (.enter gf args) w)
 {encs:α->jD jj} {y:jb->Prop} {z:jb} {S C V:jd α->Prop} (H:eQ P gf lb encs y z S C V w)
 (M:z<=w.heap.size) (Q:∀x,(encs x).size=q.size) (R:∀k,y k->k<w.heap.size)
 (f:jd α->(jb->Prop)->jh->Prop) (m:Code->jd α->(jb->Prop)->jh->Prop) (U:bY w.heap.size f) (X:∀c,bY w.heap.size (m c)) (h0:f [] y w)
 (o:α->Act->(jb->Prop)->jh->Prop) (aa:bY w.heap.size (fun(s:α×Act) Ψ W=>o s.1 s.2 Ψ W))
 (ad:∀(l:jb) (d:jd α) (x:α) (Ψ:jb->Prop) (b:jh) (K:Act->jh->Prop),f d Ψ b->V (d++[x])->(∀k,Ψ k->k<b.heap.size)->
  (∀i e,jk b b e->f d Ψ e->o x i Ψ e->K i e)->
  assign.wpIn (Fence.wide.inRound l) 0 P (Exit.then K (λ_ _ _=>False)) {tmps:=(q.zip (encs x)).foldl (λt (p,v)=>t.setIfInBounds p v) a.tmps,defers:=[]} b)
 (t:∀(l:jb) (d:jd α) (x:α) (Ψ:jb->Prop) (i:Act) (b:jh),f d Ψ b->o x i Ψ b->V (d++[x])->(∀k,Ψ k->k<b.heap.size)->w.heap.size<=b.heap.size->(∃r,b.heap[l]?=ja (.loop r))->
  body.wpIn (Fence.wide.inRound l) 0 P (rc w.heap.size z f m (d++[x]) Ψ b) i b)
 (v:∀(D:jb) (xs:jd α) (Ψ:jb->Prop) (W:jh),w.heap.size<=D->S xs->f xs Ψ W->W.heap[D]?=ja (.deferred (ja []))->u .normal {a with defers:={target:=.collected D,args:=#[]}::a.defers} W)
 (au:∀(D:jb) (c:Code) (d:jd α) (Ψ:jb->Prop) (W:jh),w.heap.size<=D->C d->m c d Ψ W->W.heap[D]?=ja (.deferred (ja []))->c.wpIn Fence.wide n P u {a with defers:={target:=.collected D,args:=#[]}::a.defers} W):
 (Code.rangeFunc g q assign body).wpIn Fence.wide n P u a w:=by
 refine rF E F H.v M Q R f m U (λ_ _ _ _=>trivial) X h0 o aa (λl d x Ψ b K p _ j s e=>ad l d x Ψ b K p j s e) (λl d x Ψ i b p K j s e h h1 k=>?_) (λD xs Ψ W e=>v D xs Ψ W (Nat.le_of_eq e.symm)) (λD c d Ψ W e=>au D c d Ψ W (Nat.le_of_eq e.symm));obtain⟨-,-,j⟩:=j;obtain⟨r,k⟩:=k;exact wpIn_mono (t l d x Ψ i b p K j s Y ⟨r,by rw[h];exact k⟩) λe a B h=>rc.two h1 k h
end
section
attribute [local go_sem] Oper.semAt_some
def im(l:jd (LBy)):jd jj:=(l.map λk=>k.map v8).flatten
theorem Pz(l:jd (LBy))(k:LBy):im (l++[k])=im l++k.map v8:=by unfold im;simp
theorem Jh:(jl.info? 66).map (λi=>(i.zero,i.size,i.bytes))=ja (ja (jn a8),32,32):=by kernel_rfl
def Cq(f:LBy->jb->Act)(x:LBy)(a:Act)(Ψ:jb->Prop)(W:jh):Prop:=∃g,a=f x g/\W.heap[g]?=ja (je (x.map v8).toArray 66 (0,0))/\¬Ψ g
theorem Tj(B0:jb)(f:LBy->jb->Act):bY B0 (fun(s:LBy×Act) Ψ W=>Cq f s.1 s.2 Ψ W):=by
 rintro s Ψ c l B ⟨g,e,h,d⟩ i m j;have a:¬c g:=λk=>by
  rcases j _ k with b|b
  ·exact d b
  have:=(jG.1 h).1;omega
 exact⟨g,e,i.cells h a,a⟩
theorem Cw:∀(xs:jd jj) (k:jb) (a:jD jj),k+xs.length<=a.size->((xs.zipIdx k).foldl (λa x=>a.setIfInBounds x.2 x.1) a).toList=a.toList.take k++xs++a.toList.drop (k+xs.length)
 |[],k,a,h=>by simp
 |x::xs,k,a,h=>by
  rw[j5]at h;have b:k<a.toList.length:=by rw[qf];omega
  rw[rk,List.foldl_cons,Cw xs (k+1) _ (by rw[Array.size_setIfInBounds];omega),Array.toList_setIfInBounds,List.take_add_one,xf (ju _),List.getElem?_set_self b,xg Y,j5];simp only[Option.toList_some,n0,List.singleton_append,qu,qt];rw[show k+1+xs.length=k+(xs.length+1) by omega]
theorem J8(X Z:jD jj)(h:X.size=32)(d:Z.size=32):Array.foldl (λa x=>a.setIfInBounds x.2 x.1) Z X.zipIdx 0 32=X:=by
 have b:X.zipIdx.size=32:=by simp[h]
 have c:Array.foldl (λa (x:jj×jb)=>a.setIfInBounds x.2 x.1) Z X.zipIdx 0 32=X.zipIdx.toList.foldl (λa x=>a.setIfInBounds x.2 x.1) Z:=by
  rw[Array.foldl_toList,b]
 rw[c,Array.toList_zipIdx]
 apply Array.ext'
 rw[Cw _ _ _ (by rw[qf];omega)];rw[qf,xT,qt,xh (by rw[qf];omega),ob]
theorem QO{gf:jb}{lb:jD jj}(a:∀args w,(p6 gf args).run jl w=.ok (.enter gf args) w){p:jb->Prop}{H:jb}{S Sp V:jd (LBy)->Prop}{w:jh}
 (b:eQ jl gf lb (λx:LBy=>#[kF x]) p H S Sp V w) (ZO:H<=w.heap.size) (M:∀k,p k->k<w.heap.size) (c:∀ys,V ys->ys.length<=100000/\∀x∈ys,x.length=32) (f:jb) (s:f<=w.heap.size) (au:∀k,p k->f<=k):
 jq jl 197 #[jg jc 0 0,.func (.func gf) #[] lb] w λe w'=>∃v xs,e=jp v/\S xs/\w'.ownsRow w 66 32 v xs.length (im xs)/\jk f w w':=by
 have ax:=O b;have ay:=O a;have z:=O c;clear b a c;refine(wt (n:=0)).1 ?_;refine OJ func197 I trivial ?_ I;simp only[ntmps197,jJ,j5,qJ,qX,qY,qZ,q7,q8,q9,qt,qu]
 gi_wp2_with fail
 obtain⟨d,a⟩:=J (w.alloc (je #[jg jc 0 0] 168));have bN:jA d w.heap.size 168 (jg jc 0 0):=by rw[a];exact Boxed.new w _ _
 have P:jk w w d:=by rw[a];exact(jK _ w).alloc (ju _) _
 have bc:w.heap.size+1<=d.heap.size:=by rw[a];simp
 rw[<-a];clear a;have a1:gR w.heap.size 168 w.heap.size 66 32 ([]:jd (LBy)).length (im []) (λ_=>True) p d/\(jk f w d/\∀k,p k->f<=k):=by
  refine⟨⟨_,bN,λh=>by have:=M _ h;omega,nn _ _ _ _,by simp[xU],trivial⟩,P.mono s,au⟩
 have Q:bY d.heap.size (fun(b:jd (LBy)) Ψ W=>gR w.heap.size 168 w.heap.size 66 32 b.length (im b) (λ_=>True) Ψ W):=m5 (β:=jd (LBy)) d.heap.size w.heap.size 168 w.heap.size 66 32 (λb=>b.length) (λb=>im b) (λ_ _=>True);refine KY (n:=0) (gf:=gf) (lb:=lb) I ay (ax.later P) Y (λ_=>rfl) (λk o=>by have:=M k o;omega)
  (λb Ψ W=>gR w.heap.size 168 w.heap.size 66 32 b.length (im b) (λ_=>True) Ψ W/\(jk f w W/\∀k,Ψ k->f<=k))
  (λ_ _ _ _=>False)
  (Q.and (kI _ _ w s Y))
  (λ_=>fp _ _)
  a1
  (Cq (λx g=>{tmps:=#[jg jc 0 0,.func (.func gf) #[] lb,jz (ja ⟨w,0,jc⟩),jN,jg jc 0 0,jz (ja ⟨g,0,jc⟩),.func (.func gf) #[] lb,kF x,jN,jN,jN,jN,jN],defers:=[]})) (Tj _ _)
  ?assign ?body ?done ?stop
 case assign=>
  intro l b x Ψ a K D q E t;have u:=(z _ q).2 x ar;obtain⟨X,c,j⟩:=Arr.mk' u;have i:kF x=jn X:=by unfold kF;rw[c]
  rw[i];have y:=O c;have m:=O j;clear c j i
  gi_wp2_with (refine Ap I 66 _ _ I a.heap.size X I I 66 _ (jy a _) (by rw[m.sz];rfl) (by rw[m.sz];rfl) m.one ?_)
  obtain⟨B,r⟩:=J ((a.alloc (je a8 66)).setRow a.heap.size X);rw[<-r];have F:B.heap[a.heap.size]?=ja (je X 66 (0,0)):=by rw[r];exact jR _ _ _ _ _ _ (jy a _)
  have C:jk a a B:=by rw[r];exact jZ (ao a _) (ju _) _
  refine t _ _ C ((Q.and (kI _ _ w s Y)).keep D (bQ.ofBelow C (λk o _=>o))) ⟨a.heap.size,?_,by rw[<-y];exact F,λh=>jB (E _ h) (Nat.lt_irrefl _)⟩;have i:kF x=jn X:=by unfold kF;rw[y]
  simp only[i]
  rfl
 case body=>
  rintro l b x Ψ bd a ⟨⟨v,k,K,r,R,-⟩,o,U⟩ ⟨g,rfl,B,bf⟩ q Ys bg bh;have a2:=(z _ q).1;have u:=(z _ q).2 x ar;rw[jH,xi]at a2;obtain⟨X,c,j⟩:=Arr.mk' u;have i:kF x=jn X:=by unfold kF;rw[c]
  simp only[i];rw[<-c]at B;have y:=O c;have m:=O j;have hc:=k.cell;have C:=O o;have bi:=o.size;obtain⟨i0,hi,UJ,a3,a4⟩:=info_parts Jh;have aa:=m.sz;have a5:=J8 X a8 aa I;clear o q c j i
  gi_wp2_with (first|(refine oD I 66 _ I g I 66 X (0,0) _ B qE I (by rw[m.sz];rfl) ?_)|(gi_at_builtin;refine Hid.out ?_))
  refine O ?_;refine Ss _ I _ _ 168 I w.heap.size 66 i0 (jn a8) 32 32 underlying168 hi UJ a3 a4 I L v _ _ I (r.alloc _) ⟨a,0,jc⟩ 1 1 (x.map v8) I (by rw[jC,u]) (Iy x a.heap.size (by rw[<-y];exact jy a _)) (iu _) (by unfold qa;omega) Y (by simp;omega) ?_;intro v' w1 D E a6 F;obtain⟨g',bk,rfl⟩:=ownsRow_succ D;obtain⟨c,ad⟩:=si (B0:=d.heap.size) k L r Y (ju _) K R Ys D E (by intro j hj;rw[hj]at F;rcases F with h|h;exact .inl h.symm;exact .inr (ak h));have j:jA w1 w.heap.size 168 v:=(k.alloc _).kept E (by have:=k.not_row (e:=66) L r;exact this);have bl:=j.cell;have bm:=j.frozen;have ba:=O c;have bb:=O ad;clear c ad D E a6 F hc a5 aa B
  gi_wp2_with fail
  obtain⟨v',B,D,E,F,b5⟩:=bb.out;have c:=ba.out;refine⟨⟨c.1,c.2.1.mono ZO,c.2.2⟩,⟨v',B,D,?_,F,trivial⟩,C.trans (c.2.1.mono s),U⟩;rw[Pz,jH,xi];exact E
 case done=>
  rintro D xs Ψ W c a ⟨⟨v,k,K,r,R,-⟩,o,U⟩ t;have hc:=k.cell;have C:=O o;clear o
  gi_wp2
  refine⟨by simp,.inl ⟨_,_,I,run_takeDeferred t,?_⟩⟩;exact⟨_,results_tmp I _ _ _,_,xs,I,a,ownsRow_putObj r _ t I,C.trans (iC Y)⟩
 intro D c b Ψ W _ _ h;exact h.elim
theorem Rc{i:jD jj}(c:∀args w,(p6 b args).run jl w=.ok (.enter b args) w){gf:jb->Prop}{d:jb}{S l V:jd (LBy)->Prop}{w:jh}
 (f:eQ jl b i (λx:LBy=>#[kF x]) gf d S l V w) (g:d<=w.heap.size) (h:∀k,gf k->k<w.heap.size) (lb:∀ys,V ys->ys.length<=100000/\∀x∈ys,x.length=32) (a:jb) (m:a<=w.heap.size) (j:∀k,gf k->a<=k):
 jq jl 148 #[.func (.func b) #[] i] w λe w'=>∃v xs,e=jp v/\S xs/\w'.ownsRow w 66 32 v xs.length (im xs)/\jk a w w':=by
 have k:=O (QO c f g h lb a m j);clear c f g h lb j
 go_enter func148,ntmps148
 go_wp2_with fail
 refine k.mono ?_;rintro e j ⟨v,xs,rfl,g,c,f⟩;have h:=O c;have lb:=O f;clear c f
 go_wp2
 go_ret;exact⟨v,xs,I,g,h,lb⟩
end
theorem Ld(a:jD jj)(b:a.size=32)(w:jh):
 jq jl 149 #[jn a,T A 0] w λe w'=>e=jp (.func (.func 198) #[] #[jz (ja ⟨w.heap.size+1,0,jc⟩),jz (ja ⟨w,0,jc⟩)])/\w'=(w.alloc (je a 66)).alloc (je #[T A 0] 3):=by
 go_enter func149,ntmps149
 go_wp2
 go_ret;exact⟨I,I⟩
theorem Lx(k:LBy)(d:k.length=32)(w:jh)(j:bH w):
 jq jl 96 #[jn (k.map v8).toArray] w λe w'=>∃v,e=jp v/\w'.ownsRow w 66 32 v 10 (im (gI k 10))/\jk w w w':=by
 obtain⟨b,f,l⟩:=Arr.mk' d;rw[<-f];have s:=O d;have t:=O f;have m:=O l;have u:=O j;have c:=jy w (je b 66);have g:=ao w (je b 66);obtain⟨a,h⟩:=J (w.alloc (je b 66));obtain⟨x,i⟩:=J w.heap.size;rw[<-h]at g c;rw[<-i]at c;have y:=O c;have n:=O g;have z:=O h;have B:=O i;clear f l d j c g h i
 go_enter func96,ntmps96
 go_upto_region 1 with fail
 rw[<-z,<-B];refine ow ?_;refine qb I 66 _ I x I 66 b (0,0) _ y.out qE I (by rw[m.sz];rfl) ?_
 go_wp2_with fail
 refine(Ld b m.sz a).mono ?_;rintro e c ⟨rfl,d⟩;have i:c.heap[a.heap.size]?=ja (je (k.map v8).toArray 66 (0,0)):=by
  rw[d,<-t];exact(xV _ _ _ ar).trans (jy a _)
 have l:jA c (a.heap.size+1) 3 (T A (0:jb)):=by
  have h:=Boxed.new (a.alloc (je b 66)) 3 (T A (0:jb));rw[j8]at h;rw[d];exact h
 have o:jk a a c:=by rw[d];exact((jK _ a).alloc (ju _) _).alloc ar _
 have C:a.heap.size+1<c.heap.size:=by rw[d];simp
 have g:=n.size;have f:=n.trans (o.mono g);have p:=LZ k s w u (a.heap.size+1) a.heap.size Y g Y c f l i;have q:=Rc (λ_ _=>rfl) p (cT f.size) (by rintro j (rfl|rfl)<;>omega) (λys h=>⟨by omega,h.2⟩) w.heap.size (cT f.size) (by rintro j (rfl|rfl)<;>omega);have j:=O q;have r:=O f;clear i l o C g f p q d
 go_wp2_with fail
 refine j.mono ?_;rintro e o ⟨v,xs,rfl,d,f,i⟩;have l:o.ownsRow w 66 32 v 10 (im (gI k 10)):=by
  have h:=f;rw[d,F5]at h;refine⟨h.1,?_⟩
  rcases h.2 with p|⟨g,q,C,e,D,E⟩
  ·exact .inl p
  exact .inr ⟨g,q,C,e,jL r.size D,E⟩
 have g:=O l;have h:=O (r.trans i);clear f l i j d
 go_wp2_with fail
 go_ret;exact⟨_,I,g,h⟩
def beK(n:jb):jb->LBy
 |0=>[]
 |k+1=>beK n k++[o1 8 (n/2^(56-8*k))]
def be8(n:jb):LBy:=beK n 8
theorem vZ(n k:jb):(beK n k).length=k:=by induction k with
 |zero=>rfl
 |succ k a=>simp[beK,a]
def dE(l:jd jb):LBy:=(l.map be8).flatten
theorem tp(l:jd jb):(dE l).length=8*l.length:=by
 unfold dE
 induction l with
 |nil=>rfl
 |cons a l b=>
  have h:(be8 a).length=8:=vZ a 8;rw[qK,xW,jH,b,j5,h];omega
theorem vA(l:jd jb)(a:jb):dE (l++[a])=dE l++be8 a:=by unfold dE;simp
def nZ(a:LBy)(msg:LBy)(nums:jd jb):jb:=oV a (dE nums++msg)
theorem AK(s:ByteArray)(d:s.size<=1000)(msg:LBy)(vm:jj)(f:msg.length<=100000)(nums:jd jb)(E:jj)(F:nums.length<=1000)(g:∀x∈nums,x<9223372036854775808)(w:jh)(t:bD w vm msg)(hn:df w E (nums.map xj))(h:bH w):
 jq jl 82 #[.string s,vm,E] w λe w'=>e=jp (T A (nZ (bZ s) msg nums:jb))/\jk w w w':=by
 obtain⟨p,c,rfl,H,a⟩:=hn;rw[jC]at H a⊢;obtain⟨n,l⟩:=J nums.length;rw[<-l]at H F a⊢;have q:=O l;have K:=O a;have aa:=O g;have M:=O t;have Y6:=O f;obtain⟨P,Q,rfl,WX,-,-⟩:=t;have ad:=O d;have R:=O h;obtain⟨S,b⟩:=J msg.length;rw[<-b]at M WX⊢;have ay:=O b;clear l a g f d h b
 go_enter func82,ntmps82
 go_wp2_with fail
 go_loopw [7,10,13] (λj b a wr=>∃(i:jb) (u:jj),j=u/\a=T A i/\i<=n/\jf (wr.ownsRow w 5 1 u (8*i) ((dE (nums.take i)).map v8))/\jf (jk w w wr)) (λ_ _ a _=>n-(jv a).toNat)
 case atStart=>exact⟨0,_,I,I,j6 _,O (nn _ _ _ _),O (jK _ _)⟩
 obtain⟨i,u,rfl,rfl,hi,U,f⟩:=hrel
 by_cases V:i<n
 ·have hd:=aw ((i:N)<(n:N))
  have UL:=aw (i<n);obtain⟨g,o,rfl,k⟩:=K Y;have a:i<nums.length:=by rw[<-q];exact V
  have m:(nums.map xj).getD i 0=((nums[i]:jb):N):=by simp[jQ,a]
  obtain⟨y,d⟩:=J (nums[i]);have a1:y<9223372036854775808:=by rw[d];exact aa _ (qL a)
  have h:=k i V;rw[m,<-d]at h;have c1:wr.cell? ⟨g,o+i,jc⟩=ja (T A (y:jb)):=(dY (f.block g (gh h))).trans h;have YK:jf (dE (nums.take (i+1))=dE (nums.take i)++be8 y):=O (by
   rw[qv a,vA,d])
  have v:=f.size;have a2:(0:N)<=(y:N):=Y;have a3:rn.wrap (y:N)=(y:N):=by rw[rv];omega
  clear m d h k a K
  go_wp2_with fail
  go_loopw [7,10] (λj b wr2=>∃(k:jb) (x:jj) (a:N),j=x/\b=T A a/\ -8<=a/\a<=56/\jf (a=56-8*(k:N))/\jf (wr2.ownsRow w 5 1 x (8*i+k) ((dE (nums.take i)++beK y k).map v8))/\jf (jk w w wr2)) (λ_ b _=>(jv b+8).toNat)
  case atStart=>exact⟨0,_,_,I,I,by omega,by omega,O rfl,O (by rw[beK,ob];exact U),f⟩
  obtain⟨k,x,a,rfl,rfl,a4,a5,r,z,B⟩:=hrel
  by_cases W:0<=a
  ·obtain⟨m,rfl⟩:=qg W
   have hd2:decide ((0:N)<=(m:N))=jm:=by simp
   have t:m<=56:=Y;have C:k<8:=aJ r;have d:beK y (k+1)=beK y k++[o1 8 (y/2^m)]:=by rw[beK,show 56-8*k=m by have:=r.out;omega]
   obtain⟨b,h⟩:=J (o1 8 (y/2^m));rw[<-h]at d;have a6:jr.wrap ((y:N)/2^m)=(b.toNat:N):=by
    rw[h,r4,r5];have e:(y:N)/2^m=((y/2^m:jb):N):=by simp
    rw[e];omega
   have au:=O d;have D:=B.size;have hd3:decide ((m:N)<0)=ji:=by simp
   clear h d W
   go_wp2_with (at_builtin;refine Hid.out ?_)
   refine O ?_;refine j3 I λ_ h=>oM _ _ I w.heap.size _ _ _ I (cL z (ao wr _)) _ 1 [T .u8 b.toNat] I (rQ wr (T .u8 b.toNat)) (by simp[oj]) Y (jL D (ao wr _).size) λX w5 d=>h _ _ ?_
   have j:=O (B.trans (((ao wr _).mono D).trans (d.below (cL z (ao wr _)) (jL D (ao wr _).size))));have ax:=O d.own;clear h d
   go_wp2_with fail
   refine⟨⟨k+1,_,_,I,I,by omega,by omega,O (aJ r),?_,j⟩,?_⟩
   ·exact O (by rw[au,<-n0,qe];exact ax)
   simp only[jv];omega
  have hd2:=az ((0:N)<=a);have C:k=8:=aJ r;have b:=z.out;rw[C]at b;have m:=O b;clear b C
  go_wp2_with fail
  refine⟨⟨i+1,_,I,by go_num,by omega,O ?_,B⟩,?_⟩
  ·rw[YK];exact m
  simp only[jv];omega
 have hd:=az ((i:N)<(n:N));have UL:=az (i<n);have a:i=n:=Y;have b:=U.out;rw[a,jU (by rw[<-q];exact ju _)]at b;have m:=O b;have v:=f.size;have g:bD wr (jg P S Q) msg:=M.below f;have r:=O g.row;clear b a g
 go_wp2_with (at_builtin;refine Hid.out ?_)
 refine O ?_;have x:=tp nums;have l:nums.length<=1000:=by rw[<-q];exact F
 have y:=Y6.out;refine j3 I λ_ h=>oM _ _ I w.heap.size _ _ _ I m (jg P S Q) msg.length (msg.map v8) I r (iu _) Y v λX w5 d=>h _ _ ?_
 have j:=O (f.trans ((d.below m v)));have a:=d.own;rw[<-qe]at a;have b:8*n+msg.length=(dE nums++msg).length:=by rw[jH,x,<-q]
 rw[b]at a;have g:=bD.of_own a;have k:=Ij s (aJ ad) X _ (by rw[jH];omega) w5 g (R.below j).num (R.below j).start;have o:=O k;clear h d a b g k
 go_wp2_with fail
 refine o.mono ?_;rintro e d ⟨rfl,a⟩;have b:=ah j a;clear a o
 go_wp2_with fail
 go_ret;exact⟨I,b⟩
theorem fS{P:jX}{fn:Func}{p c:Tmp}{a:jI}(h:fn.results= #[.cell p a,.tmp c])(tmps:jD jj)(w:jh)(g:jb)(t:jI)(b:jD jj)(e:jb×jb)(d:TypeDesc)
 (f:tmps.getD p jN=jz (ja ⟨g,0,jc⟩)) (i:w.heap[g]?=ja (je b t e))
 (j:P.underlying a=ja d) (k:(match d with| .struct _ | .array _ _=>jm|_=>ji)=jm) (l:(P.info? a).map (·.size)=ja b.size):
 (results fn tmps).run P w=.ok (jE #[jn b,tmps.getD c jN]) w:=by
 rw[results_cell_tmp h,f];simp[asAddr,run_loadVar_row w g t a b e d i j k l]
def k6(x:N):Prop:=1<=x/\x<2305843009213688669
instance(x:N):Decidable (k6 x):=by unfold k6;infer_instance
theorem vW(a k:jb):aY a k<4611686018427377339:=by
 have h:aY a k<PN:=qM _ (by rw[fq];decide)
 rwa [fq]at h
theorem Ar(x:N)(w:jh):
 jq jl 105 #[T A x] w λe w'=>e=jp (.bool (decide (k6 x)))/\w=w':=by
 obtain⟨r,a⟩:=J (decide (k6 x));rw[<-a]
 by_cases b:1<=x
 ·have c:=aw (1<=x)
  obtain rfl:r=decide (x<2305843009213688669):=by rw[a];simp[k6,b]
  clear a
  go_enter func105,ntmps105
  go_wp2
  go_ret;exact⟨I,I⟩
 have c:=az (1<=x);obtain rfl:r=ji:=by rw[a];simp[k6,b]
 clear a
 go_enter func105,ntmps105
 go_wp2
 go_ret;exact⟨I,I⟩
theorem G3(x:jb)(f:1<=x)(b:x<2305843009213688669)(w:jh):
 jq jl 106 #[T A x] w λe w'=>e=jp (T A (aY 4 x:jb))/\jk w w w':=by
 have c:=O (ww x b)
 go_enter func106,ntmps106
 go_wp2_with fail
 refine(c _).mono ?_;rintro e g ⟨rfl,a⟩;have d:=O a;clear a
 go_wp2_with fail
 go_ret;exact⟨I,d⟩
theorem Ac(x:jb)(c:1<=x)(d:x<2305843009213688669)(w:jh):
 jq jl 49 #[T A x] w λe w'=>e=jp (jE #[T A (aY 4 x:jb),T A 0])/\jk w w w':=by
 have a:=O (Ar (x:N));have b:k6 (x:N):=⟨by omega,by omega⟩;rw[jS b]at a;have f:=O (G3 x c d);clear b
 go_enter func49,ntmps49
 go_wp2_with fail
 refine(a _).mono ?_;rintro e h ⟨rfl,rfl⟩
 go_wp2_with fail
 refine(f _).mono ?_;rintro e i ⟨rfl,b⟩;have g:=O b;clear b
 go_wp2_with fail
 go_ret2;exact⟨I,g⟩
theorem Jd(x:N)(h:¬k6 x)(w:jh):
 jq jl 49 #[T A x] w λe w'=>e=jp (jE #[T A 0,T A 50])/\w=w':=by
 have a:=O (Ar x);rw[decide_eq_false h]at a;clear h
 go_enter func49,ntmps49
 go_wp2_with fail
 refine(a _).mono ?_;rintro e b ⟨rfl,rfl⟩
 go_wp2_with fail
 go_ret2;exact⟨I,I⟩
def iT(x:jb)(msg:LBy):jb:=nZ (bZ ⟨#[110,111,110,99,101]⟩) msg [x]
def ko(x:jb)(msg:LBy):jb:=aY 4 (iT x msg)
def rH(r p:jb)(msg:LBy):jb:=nZ (bZ ⟨#[115,105,103,110]⟩) msg [r,p]
def kE(x:jb)(msg:LBy):jb:=(iT x msg+rH (ko x msg) (aY 4 x) msg*x%QN)%QN
theorem wX(t m l):nZ t m l<2305843009213688669:=(zG _ _).2
theorem R3(x:jb)(P:1<=x)(Q:x<2305843009213688669)(msg:LBy)(vm:jj)(u:msg.length<=100000)(w:jh)(R:bD w vm msg)(y:bH w):
 jq jl 104 #[T A x,vm] w λe w'=>e=jp (jE #[jn #[T A (ko x msg:jb),T A (kE x msg:jb)],T A 0])/\jk w w w':=by
 obtain⟨b,a⟩:=J (ko x msg);obtain⟨g,c⟩:=J (iT x msg);obtain⟨r,h⟩:=J (rH b (aY 4 x) msg);obtain⟨k,j⟩:=J (r*x%QN);have o:kE x msg=(g+k)%QN:=by rw[j,h,a,c];rfl
 have S:jf (g<2305843009213688669):=O (by rw[c];exact wX _ _ _);have ax:jf (r<2305843009213688669):=O (by rw[h];exact wX _ _ _);have ay:jf (k<2305843009213688669):=O (by rw[j];exact qM _ L);have Zv:jf (b<4611686018427377339):=O (by rw[a];exact vW _ _);have a1:jf (nZ (bZ ⟨#[115,105,103,110]⟩) msg [b,aY 4 x]=r):=O h.symm;have a2:jf (nZ (bZ ⟨#[110,111,110,99,101]⟩) msg [x]=g):=O c.symm;have a3:jf (r*x%QN=k):=O j.symm;have a4:jf (aY 4 g=b):=O (by rw[c,a];rfl);rw[o,<-a];have a5:=O Q;have U7:=O P;have D:=O R;have U:=O u;have V:=O y;obtain⟨W,X,rfl,WX,-,-⟩:=R;obtain⟨ml,m⟩:=J msg.length;rw[<-m]at D WX⊢;have ba:=O m;have n:=Ar (x:N);have z:k6 (x:N):=⟨by omega,by omega⟩;rw[jS z]at n;have HV:=O n;have EG:∀args w,(p6 105 args).run jl w=.ok (.enter 105 args) w:=λ_ _=>rfl
 have bb:∀args w,(p6 106 args).run jl w=.ok (.enter 106 args) w:=λ_ _=>rfl
 have l:=jy w (je #[T A 0,T A 0] 46);have q:=ao w (je #[T A 0,T A 0] 46);obtain⟨p,s⟩:=J (w.alloc (je #[T A 0,T A 0] 46));obtain⟨d,t⟩:=J w.heap.size;rw[<-s]at l q;rw[<-t]at l;have C:=O l;have f:=O q;have VA:=O s;have B:=O t;clear a c h j o u y m n z l q s t
 go_enter func104,ntmps104
 go_wp2_with fail
 rw[<-VA,<-B];refine(HV _).mono ?_;rintro e w1 ⟨rfl,rfl⟩
 go_wp2_with fail
 have l:=AK ⟨#[110,111,110,99,101]⟩ L msg (jg W ml X) U [x] _ ar (by
  intro z s;simp only[jT,qN,or_false]at s;rw[s];omega) (p.alloc (je #[T A (x:jb)] 3)) ((D.below f).below (ao p _)) (oh p (x:jb)) ((V.below f).below (ao p _))
 rw[a2]at l;refine l.mono ?_;clear l;rintro e w2 ⟨rfl,a⟩;replace a:=(ao p (je #[T A (x:jb)] 3)).trans (a.mono (ao p _).size);have t:=ae C a;have m:=ah f a;clear a C f
 go_wp2_with fail
 refine(ww g S w2).mono ?_;rintro e w3 ⟨rfl,a⟩;rw[a4];have u:=ae t a;have C:=ah m a;clear a t m;obtain⟨⟨u3,E⟩,F,n,j⟩:=kp (i:=0) (T A (b:jb)) u L;obtain⟨H,c⟩:=J (w3.setCell ⟨d,0,jc⟩ (T A (b:jb)));have a6:=O c;rw[<-c]at n j;have q:jf (H.heap[d]?=ja (je #[T A (b:jb),T A 0] 46 (0,0))):=O n;have y:=O (C.trans (j.below (by rw[B];exact ju _)));have bc:=O j;have K:=ai (i:=0) q I;clear n c j u
 go_upto_region 7 with fail
 rw[<-a6];clear E F;refine qc ?_;refine dj (λc=>c.cell? ⟨d,0,jc⟩=ja (T A (b:jb))) (.t 0 (.t 1 (.t 2 (.t 3 (.t 7 (.o 4 (.o 5 (.o 6 (.o 8 (.t 9 (.t 10 (.t 11 (.t 12 (.t 13 .done)))))))))))))) af af af L (λ_ _ _ _ h=>h) K ?_;obtain⟨y0,h⟩:=J H.drew;have a:=bV H;rw[<-h]at a⊢;have M:=O (aD K a);have U0:=ae q a;have f:=ah y a;clear a h K q y;iterate 2 refine aO ?_
 (refine aS (v:=?_) I aj (λc h=>?_) ?_;rotate_left;(have h:=h;go_simp;with_reducible rfl);refine G ?_)
 iterate 2 refine aO ?_
 refine aF I (λh c=>?_);go_simp;refine(G3 x P Q y0).mono ?_;rintro e y1 ⟨rfl,a⟩;have K:=O (aD M a);have UQ:=ae U0 a;have Up:=ah f a;clear a M U0 f;refine c _ _ K.out λ_=>?_
 clear c;refine G ?_;refine aF I (λh c=>?_);go_simp;have a:=ao y1 (je #[T A (b:jb),T A (aY 4 x:jb)] 3);have f:=mw y1 (b:jb) (aY 4 x:jb);obtain⟨y2,aa⟩:=J (y1.alloc (je #[T A (b:jb),T A (aY 4 x:jb)] 3));obtain⟨gi,ad⟩:=J y1.heap.size;rw[<-aa]at a f⊢;rw[<-ad]at f⊢;have M:=O (aD K a);have t:=ae UQ a;have m:=ah Up a;have au:=O f;clear a K UQ Up aa ad f;refine c _ _ M.out λ_=>?_
 clear c;refine G ?_;refine aF I (λh c=>?_);go_simp;have l:=AK ⟨#[115,105,103,110]⟩ L msg (jg W ml X) U [b,aY 4 x] _ ar (by
  intro z s;simp only[jT,qN,or_false]at s
  rcases s with rfl|rfl
  ·have:=Zv.out;omega
  have:=vW 4 x;omega) y2 (D.below m) au (V.below m)
 rw[a1]at l;refine l.mono ?_;clear l;rintro e s ⟨rfl,a⟩;have f:=O (aD M a);have u:=ae t a;have C:=ah m a;clear a M t m au;refine c _ _ f.out λ_=>?_
 clear c;refine G ?_;refine aF I (λh c=>?_);go_simp;have h:=Jc r x s ax a5;rw[a3]at h;refine h.mono ?_;clear h;rintro e t ⟨rfl,a⟩;have l:=O (aD f a);have q:=ae u a;have y:=ah C a;clear a f u C;refine c _ _ l.out λ_=>?_
 clear c;refine G ?_;iterate 5 refine aO ?_
 refine jV ?_
 go_wp2_with fail
 have h:=KU (g:jb) (k:jb) t ⟨by omega,by have:=S.out;omega⟩ ⟨by omega,by have:=ay.out;omega⟩;rw[show((g:N)+(k:N))%2305843009213688669=(((g+k)%QN:jb):N)from by unfold QN;omega]at h;obtain⟨f,o⟩:=J ((g+k)%QN);rw[<-o]at h;refine h.mono ?_;clear h;rintro e u ⟨rfl,a⟩;have m:=ae q a;have K:=ah y a;have M:=O o;clear a q y l o;obtain⟨⟨u3,E⟩,F,n,j⟩:=kp (i:=1) (T A (f:jb)) m ar;obtain⟨a,h⟩:=J (u.setCell ⟨d,1,jc⟩ (T A (f:jb)));have o:=O h;rw[<-h]at n j;have l:jf (a.heap[d]?=ja (je #[T A (b:jb),T A (f:jb)] 46 (0,0))):=O n;have q:=O (K.trans (j.below (by rw[B];exact ju _)));clear n h j m
 go_upto_region 9 with fail
 rw[<-o];clear E F;refine ow ?_;refine qb I 46 _ I d I 46 #[T A (b:jb),T A (f:jb)] (0,0) _ l.out underlying46 I I ?_;refine j3 I λ_ h=>?_
 go_simp;refine h _ _ ?_;clear h;refine j3 I λ_ c=>j4 46 _ _ I d #[T A (b:jb),T A (f:jb)] I I 46 _ l.out I I (by simp[oj]) (c _ _ ?_)
 have h:(a.setRow d #[T A (b:jb),T A (f:jb)]).heap[d]?=ja (je #[T A (b:jb),T A (f:jb)] 46 (0,0)):=jR _ _ _ _ _ _ l.out;have j:jk w w (a.setRow d #[T A (b:jb),T A (f:jb)]):=jZ q.out (by rw[B];exact ju _) _;generalize a.setRow d #[T A (b:jb),T A (f:jb)]=z at h j⊢;have m:=O h;have n:=O j;clear h j c
 go_wp2_with fail
 refine bodyPost_ret_by (fS I _ _ d 46 #[T A (b:jb),T A (f:jb)] (0,0) _ I m underlying46 I I) I ⟨by rw[M];rfl,n⟩
section
open Go Go.RowKit
theorem A9{α β:Type}{f:α->jP β}{g:α->β}:∀(l:jd α),(∀i∈l,f i=ja (g i))->l.mapM f=ja (l.map g)
 |[],_=>by simp
 |a::l,h=>by
  rw[List.mapM_cons,h a ar,A9 l (λi b=>h i (by simp[b]))]
  rfl
theorem IV{u F:jI}{k:IntKind}(f:P.underlying u=ja (.array b F))(he:P.underlying F=ja (.int k))(h:P.cellsOf u=b)(j:P.cellsOf F=1)(n:jd N)(d:n.length=b)(m:∀c∈n,(Lit.int k c).wf=jm):
 P.keyLits 2 u (n.map (jo k))=ja (n.map (Lit.int k)):=by
 have o:∀i∈qI b,P.keyLits 1 F (((n.map (jo k)).drop (i*1)).take 1)=ja [Lit.int k (n.getD i 0)]:=λi c=>by
  have a:i<n.length:=by rw[d];exact r6.1 c
  have l:((n.map (jo k)).drop (i*1)).take 1=[jo k n[i]]:=by
   rw[Nat.mul_one,<-List.map_drop,<-List.map_take,xX a,List.take_succ_cons,xT,qK,List.map_nil]
  have p:n.getD i 0=n[i]:=by simp[jQ,a]
  rw[l,p];unfold Program.keyLits;rw[he];simp[m _ (qL a)]
 unfold Program.keyLits;rw[f];simp only[jC,d,h,j,if_true];rw[A9 (g:=λi=>[Lit.int k (n.getD i 0)]) _ o];simp only[xk,Option.some.injEq];have p:∀(l:jd jb),(l.map λi=>[Lit.int k (n.getD i 0)]).flatten=l.map λi=>Lit.int k (n.getD i 0):=λl=>by
  induction l with
  |nil=>rfl
  |cons a l q=>rw[qK,xW,q];rfl
 rw[p]
 apply List.ext_getElem?
 intro i;rw[j9,j9]
 by_cases c:i<b
 ·rw[List.getElem?_range c,ms Y]
  have:i<n.length:=Y;simp[jQ,this]
 rw[xY (by simp;omega),xY Y]
 rfl
theorem Hc{t e:jI}{n:jb}{k:IntKind}(d:P.underlying t=ja (.array n e))(he:P.underlying e=ja (.int k))(f:P.cellsOf t=n)(g:P.cellsOf e=1)(o:P.keyTypeAt 2 t=jm)(xs ys:jd N)(i:xs.length=n)(j:ys.length=n)
 (p:∀c∈xs,(Lit.int k c).wf=jm) (q:∀c∈ys,(Lit.int k c).wf=jm) (w:jh):
 (Op.equalIn 10000 t (.agg (xs.map (jo k)).toArray) (.agg (ys.map (jo k)).toArray)).run P w=.ok (decide (xs=ys)) w:=by
 have m:∀l:jd N,l.length=n->(xl (l.map (jo k)).toArray).formed P t=jm:=λl s=>by
  unfold Value.formed;rw[d];simp[f,s]
 obtain⟨r,u,c⟩:=run_equalIn_deep 9998 2 t o w 2 2 (.agg (xs.map (jo k)).toArray) (.agg (ys.map (jo k)).toArray) _ _ (m xs i) (m ys j) (by show P.keyLits 2 t (xs.map (jo k)).toArray.toList=_;rw[xZ];exact IV d he f g xs i p) (by show P.keyLits 2 t (ys.map (jo k)).toArray.toList=_;rw[xZ];exact IV d he f g ys j q);rw[u]
 congr 1
 have v:xs.map (Lit.int k)=ys.map (Lit.int k)↔xs=ys:=by
  constructor
  ·intro h
   exact(yl (λa b h=>by injection h)).1 h
  intro h;rw[h]
 rw[v]at c
 by_cases h:xs=ys
 ·rw[c.2 h];simp[h]
 have:r=ji:=by cases r with
  |false=>rfl
  |true=>exact jB (c.1 I) h
 rw[this];simp[h]
end
def mD(p r s:N)(msg:LBy):Prop:=bP p/\bP r/\InQ s/\aY 4 s.toNat=r.toNat*aY p.toNat (rH r.toNat p.toNat msg)%PN
theorem RY(a b:jb):(((a:N)==(b:N))=jm↔a=b):=by rw[beq_iff_eq];omega
theorem Gk(n:N):cS n=0\/cS n=40:=by
 by_cases h:bP n
 ·exact .inl (gF h)
 exact .inr (k7 h)
theorem N4(n:N):lQ n=0\/lQ n=1:=by unfold lQ;split<;>simp
theorem eq3(a b c:N)(f:a=0\/a=40)(g:b=0\/b=40)(i:c=0\/c=1)(z:jh):
 (Op.equalIn 10000 149 (jn #[T A a,T A b,T A c]) (jn #[T A 0,T A 0,T A 0])).run jl z=.ok (decide (a=0/\b=0/\c=0)) z:=by
 have h:=Hc (P:=jl) (t:=149) (e:=51) (n:=3) (k:=.i64) xD underlying51 af af af [a,b,c] [0,0,0] I I (by
  intro x d;simp only[jT,qN,or_false]at d;exact WalkArith.wf_i64 Y) L z
 simpa using h
theorem H7{p r s:N}{msg:LBy}{a b c:N}(d:a=cS p)(f:b=cS r)(i:c=lQ s):(a=0/\b=0/\c=0)↔(bP p/\bP r/\InQ s):=by
 have e:∀n,cS n=0↔bP n:=λn=>⟨λh=>by
  by_cases g:bP n
  ·exact g
  rw[k7 g]at h;exact jB h L,gF⟩
 have q:lQ s=0↔InQ s:=by unfold lQ;split<;>simp_all
 rw[d,f,i,e,e,q]
theorem Rh{b:jD j0}{c:Exit->Act->jh->Prop}{t:bE}{E:Act}(r:bE){F:jb->Act}{d:jb->jh->Prop}(e:∀x w,d x w->eE P b c S r (F x) w)(h:(∀x w,d x w->eE P b c S r (F x) w)->eE P b c S t E w):eE P b c S t E w:=h e
theorem N8(p r u:N)(msg:LBy)(vm:jj)(k:msg.length<=100000)(w:jh)(hm:bD w vm msg)(l:bH w):
 jq jl 32 #[T A p,vm,jn #[T A r,T A u]] w λe w'=>∃b,e=jp (.bool b)/\jf (b=jm↔mD p r u msg)/\jk w w w':=by
 obtain⟨m,a⟩:=J (cS p);obtain⟨n,c⟩:=J (cS r);obtain⟨o,f⟩:=J (lQ u);have KA:=gD p;have KB:=gD r;have W:=Oo u;rw[<-a]at KA;rw[<-c]at KB;rw[<-f]at W;have aa:=O a;have ad:=O c;have au:=O f;have HM:=O hm;have Y6:=O k;have HT:=O l;obtain⟨pm,cm,rfl,WX,-,-⟩:=hm;obtain⟨ml,q⟩:=J msg.length;rw[<-q]at HM WX⊢;have d:=jy w (je #[T A r,T A u] 46);have g:=ao w (je #[T A r,T A u] 46);obtain⟨W1,h⟩:=J (w.alloc (je #[T A r,T A u] 46));obtain⟨F,x⟩:=J w.heap.size;rw[<-h]at d g;rw[<-x]at d;have j:=O d;have X:=O g;have VA:=O h;have HG:=O x;clear a c f k l q d g h x
 go_enter func32,ntmps32
 have ax:=O (eq3 m n o (by rw[aa];exact Gk p) (by rw[ad];exact Gk r) (by rw[au];exact N4 u))
 go_upto_region 1 with fail
 rw[<-VA,<-HG];refine qc ?_;refine dj (λf=>f.heap[F]?=ja (je #[T A r,T A u] 46 (0,0))) (.t 0 (.t 2 (.t 3 (.t 5 (.t 6 (.w 1 9 (.w 4 9 (.w 7 9 (.t 8 (.o 9 (.o 10 .done))) (.o 7 (.t 8 (.o 10 .done)))) (.o 4 (.o 7 (.t 8 (.o 10 .done))))) (.o 1 (.o 4 (.o 7 (.t 8 (.o 10 .done))))))))))) af af af L (λ_ _ _ _ h=>h) j ?_;obtain⟨V,c⟩:=J W1.drew;have a:=bV W1;rw[<-c]at a⊢;have UN:=ae j a;have X:=ah X a;clear a c j;iterate 2 refine aO ?_
 (refine aS (v:=?_) I aj (λf c=>?_) ?_;rotate_left;(have c0:=ai (i:=0) c I;have c1:=ai (i:=1) c I;go_simp;with_reducible rfl);refine G ?_)
 refine aO ?_
 (refine aS (v:=?_) I aj (λf c=>?_) ?_;rotate_left;(have c0:=ai (i:=0) c I;have c1:=ai (i:=1) c I;go_simp;with_reducible rfl);refine G ?_)
 apply Rh (.o 10 .done)
 rotate_left
 ·intro R
  refine iX ?_ ?_
  ·refine aF I (λl c=>?_)
   go_simp;refine(KA V).mono ?_;rintro e x1 ⟨rfl,a⟩;have S:=ah X a;have H:=ae UN a;clear a;refine c _ _ H.out λ_=>?_
   clear c;refine G ?_;refine iX ?_ ?_
   ·refine aF I (λl c=>?_)
    go_simp;refine(KB x1).mono ?_;rintro e x2 ⟨rfl,a⟩;have y:=ah S a;have j:=ae H a;clear S H;clear a;refine c _ _ j.out λ_=>?_
    clear c;refine G ?_;refine iX ?_ ?_
    ·refine aF I (λl c=>?_)
     go_simp;refine(W x2).mono ?_;rintro e q ⟨rfl,a⟩;have s:=ah y a;have f:=ae j a;clear y j;clear a;refine c _ _ f.out λ_=>?_
     clear c;refine G ?_;refine aO ?_;refine aF I (λl c=>?_);go_simp;have a:=ao q (je #[T A 0,T A 0,T A 0] 149);have d:=jy q (je #[T A 0,T A 0,T A 0] 149);obtain⟨t,z⟩:=J (q.alloc (je #[T A 0,T A 0,T A 0] 149));have B:F<q.heap.size:=(jG.1 f).1;have C:w.heap.size<=q.heap.size:=s.size;rw[<-z]at a d⊢;obtain⟨D,g⟩:=J q.heap.size;rw[<-g]at d⊢;have E:=O g;clear g;have P:=ah s a;have k:=ae f a;clear s f;have K:=O d;have M:jf (F<D):=O (by rw[E];exact B);have Q:jf (w.heap.size<=D):=O (by rw[E];exact C);clear B C;clear d z a;refine c _ _ k.out λ_=>?_
     clear c;refine G ?_;have x:=(And.intro P (And.intro k (And.intro K (And.intro M Q))));exact R D t x
    refine aF I (λl c=>?_);go_simp;have a:=ao x2 (je #[T A 0,T A 0,T A 0] 149);have d:=jy x2 (je #[T A 0,T A 0,T A 0] 149);obtain⟨q,z⟩:=J (x2.alloc (je #[T A 0,T A 0,T A 0] 149));have B:F<x2.heap.size:=(jG.1 j).1;have C:w.heap.size<=x2.heap.size:=y.size;rw[<-z]at a d⊢;obtain⟨D,g⟩:=J x2.heap.size;rw[<-g]at d⊢;have E:=O g;clear g;have s:=ah y a;have f:=ae j a;clear y j;have U:=O d;have M:jf (F<D):=O (by rw[E];exact B);have Q:jf (w.heap.size<=D):=O (by rw[E];exact C);clear B C;clear d z a;refine c _ _ f.out λ_=>?_
    clear c;refine G ?_;refine aF I (λl c=>?_);go_simp;refine(W q).mono ?_;rintro e t ⟨rfl,a⟩;have P:=ah s a;have k:=ae f a;have K:=ae U a;clear s f U;clear a;refine c _ _ k.out λ_=>?_
    clear c;refine G ?_;refine aO ?_;have x:=(And.intro P (And.intro k (And.intro K (And.intro M Q))));exact R D t x
   refine aF I (λl c=>?_);go_simp;have a:=ao x1 (je #[T A 0,T A 0,T A 0] 149);have d:=jy x1 (je #[T A 0,T A 0,T A 0] 149);obtain⟨x2,z⟩:=J (x1.alloc (je #[T A 0,T A 0,T A 0] 149));have B:F<x1.heap.size:=(jG.1 H).1;have C:w.heap.size<=x1.heap.size:=S.size;rw[<-z]at a d⊢;obtain⟨D,g⟩:=J x1.heap.size;rw[<-g]at d⊢;have E:=O g;clear g;have y:=ah S a;have j:=ae H a;clear S H;have Yu:=O d;have M:jf (F<D):=O (by rw[E];exact B);have Q:jf (w.heap.size<=D):=O (by rw[E];exact C);clear B C;clear d z a;refine c _ _ j.out λ_=>?_
   clear c;refine G ?_;refine aF I (λl c=>?_);go_simp;refine(KB x2).mono ?_;rintro e q ⟨rfl,a⟩;have s:=ah y a;have f:=ae j a;have U:=ae Yu a;clear y j Yu;clear a;refine c _ _ f.out λ_=>?_
   clear c;refine G ?_;refine aF I (λl c=>?_);go_simp;refine(W q).mono ?_;rintro e t ⟨rfl,a⟩;have P:=ah s a;have k:=ae f a;have K:=ae U a;clear s f U;clear a;refine c _ _ k.out λ_=>?_
   clear c;refine G ?_;refine aO ?_;have x:=(And.intro P (And.intro k (And.intro K (And.intro M Q))));exact R D t x
  refine aF I (λl c=>?_);go_simp;have a:=ao V (je #[T A 0,T A 0,T A 0] 149);have d:=jy V (je #[T A 0,T A 0,T A 0] 149);obtain⟨x1,z⟩:=J (V.alloc (je #[T A 0,T A 0,T A 0] 149));have B:F<V.heap.size:=(jG.1 UN).1;have C:w.heap.size<=V.heap.size:=X.size;rw[<-z]at a d⊢;obtain⟨D,g⟩:=J V.heap.size;rw[<-g]at d⊢;have E:=O g;clear g;have S:=ah X a;have H:=ae UN a;have g:=O d;have M:jf (F<D):=O (by rw[E];exact B);have Q:jf (w.heap.size<=D):=O (by rw[E];exact C);clear B C;clear d z a;refine c _ _ H.out λ_=>?_
  clear c;refine G ?_;refine aF I (λl c=>?_);go_simp;refine(KA x1).mono ?_;rintro e x2 ⟨rfl,a⟩;have y:=ah S a;have j:=ae H a;have Yu:=ae g a;clear S H g;clear a;refine c _ _ j.out λ_=>?_
  clear c;refine G ?_;refine aF I (λl c=>?_);go_simp;refine(KB x2).mono ?_;rintro e q ⟨rfl,a⟩;have s:=ah y a;have f:=ae j a;have U:=ae Yu a;clear y j Yu;clear a;refine c _ _ f.out λ_=>?_
  clear c;refine G ?_;refine aF I (λl c=>?_);go_simp;refine(W q).mono ?_;rintro e t ⟨rfl,a⟩;have P:=ah s a;have k:=ae f a;have K:=ae U a;clear s f U;clear a;refine c _ _ k.out λ_=>?_
  clear c;refine G ?_;refine aO ?_;have x:=(And.intro P (And.intro k (And.intro K (And.intro M Q))));exact R D t x
 clear X UN;rintro D t ⟨P,k,K,M,Q⟩;refine aF I (λl c=>?_);rw[jt aj];refine j4 149 _ _ I D #[T A m,T A n,T A o] I I 149 _ K.out af aj (by simp[oj]) (c _ _ ((jY _ _ _ _ (xm M)).trans k) λ_=>?_);clear c;have c:(t.setRow D #[T A m,T A n,T A o]).heap[D]?=ja (je #[T A m,T A n,T A o] 149 (0,0)):=jR _ _ _ _ _ _ K.out;have f:(t.setRow D #[T A m,T A n,T A o]).heap[F]?=ja (je #[T A r,T A u] 46 (0,0)):=(jY _ _ _ _ (xm M)).trans k;have g:jk w w (t.setRow D #[T A m,T A n,T A o]):=jZ P Q _;generalize t.setRow D #[T A m,T A n,T A o]=z at c f g⊢;have C:=O c;have E:=O f;have H:=O g;clear c f g;refine G ?_;refine jV ?_;have eq3:=ax.out;clear ax KA KB W
 by_cases g:m=0/\n=0/\o=0
 ·have hd:decide (m=0/\n=0/\o=0)=jm:=jS g
  obtain⟨l,q,s⟩:=(H7 (msg:=msg) aa ad au).1 g;clear g
  go_upto_region 2 with fail
  refine ow ?_;refine qb I 149 _ I D I 149 #[T A m,T A n,T A o] (0,0) _ C.out xD I af ?_;clear C;obtain⟨c,rfl⟩:=qg (show 0<=p by have:=l.1;omega);obtain⟨f,rfl⟩:=qg (show 0<=r by have:=q.1;omega);obtain⟨y,rfl⟩:=qg s.1;have S:y<2305843009213688669:=by have:=s.2;omega
  have U:f<9223372036854775808:=by have:=q.2.1;omega
  have W:c<9223372036854775808:=by have:=l.2.1;omega
  have HP:=O l;have HR:=O q;have ax:=O S;have ay:=O U;have a1:=O W;obtain⟨j,B⟩:=J (rH f c msg);have a2:jf (nZ (bZ ⟨#[115,105,103,110]⟩) msg [f,c]=j):=O B.symm;have a3:jf (j<2305843009213688669):=O (by rw[B];exact wX _ _ _);have ZN:jf (∀b:jF,(b=jm↔aY 4 y=f*aY c j%PN)->(b=jm↔mD (c:jb) (f:jb) (y:jb) msg)):=O (λb h=>by
   rw[h];unfold mD;simp only[Int.toNat_natCast,<-B];exact⟨λh=>⟨l,q,s,h⟩,λh=>h.2.2.2⟩)
  clear l q s S U W B;have c1:=ai (i:=1) E I
  go_wp2_with fail
  refine(ww y ax z).mono ?_;rintro e l ⟨rfl,a⟩;have B:=ae E a;have s:=ah H a;clear c1 a E H;have c0:=ai (i:=0) B I
  go_wp2_with fail
  have R:=AK ⟨#[115,105,103,110]⟩ L msg (jg pm ml cm) Y6 [f,c] _ ar (by
   intro q S;simp only[jT,qN,or_false]at S
   rcases S with rfl|rfl
   ·exact ay
   exact a1) (l.alloc (je #[T A (f:jb),T A (c:jb)] 3)) ((HM.below s).below (ao l _)) (mw l (f:jb) (c:jb)) ((HT.below s).below (ao l _))
  rw[a2]at R;refine R.mono ?_;clear R;rintro e U ⟨rfl,a⟩;replace a:=(ao l (je #[T A (f:jb),T A (c:jb)] 3)).trans (a.mono (ao l _).size);have q:=ae B a;have S:=ah s a;clear c0 a B s
  go_wp2_with fail
  refine(AY c j HP a3 U).mono ?_;rintro e W ⟨rfl,a⟩;have s:=ae q a;have B:=ah S a;clear a q S;have c0:=ai (i:=0) s I
  go_wp2_with fail
  refine(Ph f (aY c j) HR (o7 HP j) W).mono ?_;rintro e S ⟨rfl,a⟩;have q:=ah B a;clear a s B c0
  go_wp2_with fail
  go_ret;exact⟨_,I,O (ZN _ (RY _ _)),q⟩
 have hd:decide (m=0/\n=0/\o=0)=ji:=decide_eq_false g;have c:jf (¬mD p r u msg):=O (λh=>g ((H7 (msg:=msg) aa ad au).2 ⟨h.1,h.2.1,h.2.2.1⟩));clear g
 go_upto_region 2 with fail
 refine ow ?_;refine qb I 149 _ I D I 149 #[T A m,T A n,T A o] (0,0) _ C.out xD I af ?_
 go_wp2_with fail
 go_ret;exact⟨ji,I,O ⟨λh=>jB h L,λh=>jB h c⟩,H⟩
structure Ec(F:jb)(x:jb)(b:jb):Prop where
 enter:∀args w,(p6 F args).run jl w=.ok (.enter F args) w
 call:∀(a:jb) (w:jh),bP a->jA w b 3 (T A (x:jb))->jq jl F #[T A a,jz (ja ⟨b,0,jc⟩)] w λe w'=>e=jp (jE #[T A (aY a x:jb),T A 0])/\jk w w w'
theorem Sg(x f:jb)(b:x<2305843009213688669):Ec 153 x f:=by
 refine⟨λ_ _=>rfl,λa w c d=>?_⟩;have g:=O (AY a x c b);have h:=d.cell;clear c b d
 go_enter func153,ntmps153
 go_wp2_with fail
 refine(g _).mono ?_;rintro e d ⟨rfl,b⟩;have c:=O b;clear b
 go_wp2_with fail
 go_ret2;exact⟨I,c⟩
def nY(p a v:jb):LBy:=dp (bZ ⟨#[119,114,97,112]⟩) (dE [p,a,v])
theorem zA(p u v):(nY p u v).length=32:=iP _ _
theorem zl(l:LBy)(m:jb)(b:BitVec 8):((l++jW (m+1) 0#8).set l.length b)=(l++[b])++jW m 0#8:=by
 rw[List.set_append_right _ _ (ju _),Nat.sub_self,List.replicate_succ,List.set_cons_zero,n0]
 rfl
theorem O3{W:jh}{D:jb}{l:LBy}{n:jb}{t:jI}(h:W.heap[D]?=ja (je (l.map v8).toArray t (0,0)))(a:l.length=n):bD W (jg (ja ⟨D,0,jc⟩) n n) l:=by
 refine⟨_,n,by rw[a],by rw[a];exact ju _,(λh=>by cases h),λ_=>⟨D,0,I,λj b=>ai h ?_⟩⟩;rw[jM];simp[jQ,b]
theorem Lm(F x M:jb)(l:Ec F x M)(p a e:jb)(t:p<9223372036854775808)(r:a<9223372036854775808)(he:bP e)(w:jh)(c:jA w M 3 (T A (x:jb)))(u:bH w):
 jq jl 155 #[jn #[T A p,.func (.func F) #[] #[jz (ja ⟨M,0,jc⟩)]],T A a,T A e] w λe' w'=>e'=jp (jn ((nY p a (aY e x)).map v8).toArray)/\jk w w w':=by
 obtain⟨aa,y,z⟩:=Arr.mk' (zA p a (aY e x));rw[<-y];have S:=O z;have au:=O u;have K:=l.enter;have B:=O l.call;have HE:=O he;have hv:=vW e x;obtain⟨v,m⟩:=J (aY e x);rw[<-m]at hv;have ZN:=O m;have HP:=O t;have HU:=O r;have HV:jf (v<9223372036854775808):=O Y;have f:=jy w (je #[T A p,.func (.func F) #[] #[jz (ja ⟨M,0,jc⟩)]] 238);have b:=ao w (je #[T A p,.func (.func F) #[] #[jz (ja ⟨M,0,jc⟩)]] 238);obtain⟨W0,g⟩:=J (w.alloc (je #[T A p,.func (.func F) #[] #[jz (ja ⟨M,0,jc⟩)]] 238));rw[<-g]at f b;have h:=jy W0 (je a8 66);have d:=ao W0 (je a8 66);obtain⟨W1,o⟩:=J (W0.alloc (je a8 66));obtain⟨q,j⟩:=J w.heap.size;rw[<-o]at h d;have C:W0.heap.size=q+1:=by rw[g,j];simp
 rw[C]at h;rw[<-j]at f;have k:=ae f d;have D:=O h;have E:=O (b.trans (d.mono b.size));have H:jf (jA W1 M 3 (T A (x:jb))):=O (((b.trans (d.mono b.size)).block _ c.lt).trans c);have U:=O j;have bd:=O g;have VA:=O o;have s:=ai (i:=0) k I;have P:=ai (i:=1) k I;clear y z u l he m t r f b g h d o C j c
 go_enter func155,ntmps155
 go_upto_region 1 with fail
 rw[<-bd,<-VA,<-U]
 go_wp2_with fail
 refine(B e W1 HE H).mono ?_;rintro e2 z1 ⟨rfl,b⟩;rw[<-ZN];have j:=ae k b;have g:=ae D b;have l:=ah E b;clear b s P k D E H B K;have d:=jy z1 (je #[jo jr 0,jo jr 0,jo jr 0,jo jr 0,jo jr 0,jo jr 0,jo jr 0,jo jr 0,jo jr 0,jo jr 0,jo jr 0,jo jr 0,jo jr 0,jo jr 0,jo jr 0,jo jr 0,jo jr 0,jo jr 0,jo jr 0,jo jr 0,jo jr 0,jo jr 0,jo jr 0,jo jr 0] 297);have b:=ao z1 (je #[jo jr 0,jo jr 0,jo jr 0,jo jr 0,jo jr 0,jo jr 0,jo jr 0,jo jr 0,jo jr 0,jo jr 0,jo jr 0,jo jr 0,jo jr 0,jo jr 0,jo jr 0,jo jr 0,jo jr 0,jo jr 0,jo jr 0,jo jr 0,jo jr 0,jo jr 0,jo jr 0,jo jr 0] 297);obtain⟨W2,h⟩:=J (z1.alloc (je #[jo jr 0,jo jr 0,jo jr 0,jo jr 0,jo jr 0,jo jr 0,jo jr 0,jo jr 0,jo jr 0,jo jr 0,jo jr 0,jo jr 0,jo jr 0,jo jr 0,jo jr 0,jo jr 0,jo jr 0,jo jr 0,jo jr 0,jo jr 0,jo jr 0,jo jr 0,jo jr 0,jo jr 0] 297));obtain⟨D,f⟩:=J z1.heap.size;rw[<-h]at d b;rw[<-f]at d;have YD:jf (W2.heap[D]?=ja (je (([]++jW 24 0#8).map v8).toArray 297 (0,0))):=O d;have UP:=ae g b;have Ut:=ah l b;have Q:jf (q+1<D):=O (by rw[f];exact(jG.1 g).1);have s:=ai (i:=0) (av j b) I;have bf:=O h;have HD:=O f;clear d b h f j g l
 go_upto_region 3 with fail
 rw[<-bf,<-HD]
 go_wp2_with fail
 have ax:∀W:jh,(Instr.index 298 (jn #[T A p,T A a,T A v]) (T A 0)).run jl W=.ok (T A p) W:=λW=>by
  have r:=xE;unfold Instr.index;simp[asIntOf,wx r,part]
 have ay:∀W:jh,(Instr.index 298 (jn #[T A p,T A a,T A v]) (T A 1)).run jl W=.ok (T A a) W:=λW=>by
  have r:=xE;unfold Instr.index;simp[asIntOf,wx r,part]
 have a1:∀W:jh,(Instr.index 298 (jn #[T A p,T A a,T A v]) (T A 2)).run jl W=.ok (T A v) W:=λW=>by
  have r:=xE;unfold Instr.index;simp[asIntOf,wx r,part]
 clear s
 go_loopw [25] (λb wr=>∃i:jb,b=T A i/\i<=3/\jf (wr.heap[D]?=ja (je ((dE ([p,a,v].take i)++jW (24-8*i) 0#8).map v8).toArray 297 (0,0)))/\jf (wr.heap[q+1]?=ja (je a8 66 (0,0)))/\jf (jk w w wr)) (λb _=>(3-jv b).toNat)
 case atStart=>exact⟨0,I,by omega,O YD,UP,Ut⟩
 obtain⟨i,rfl,hi,Vb,ad,R⟩:=hrel
 rcases(show i=0\/i=1\/i=2\/i=3 by omega)with rfl|rfl|rfl|rfl
 ·have a2:=HP.out
  have a3:rn.wrap (p:N)=(p:N):=by rw[rv];omega
  have a4:(0:N)<=(p:N):=Y;have a5:=ax
  go_wp2_with fail
  go_loopw [29] (λg wr2=>∃k:jb,g=T A k/\k<=8/\jf (wr2.heap[D]?=ja (je (((dE ([p,a,v].take 0)++beK p k)++jW (24-0-k) 0#8).map v8).toArray 297 (0,0)))/\jf (wr2.heap[q+1]?=ja (je a8 66 (0,0)))/\jf (jk w w wr2)) (λg _=>(8-jv g).toNat)
  case atStart=>exact⟨0,I,by omega,O (by rw[beK,ob];exact Vb),ad,R⟩
  obtain⟨k,rfl,a6,d,s,t⟩:=hrel
  by_cases Ye:k<8
  ·have V:=aw ((k:N)<8)
   obtain⟨m,u⟩:∃m:jb,m=56-8*k:=⟨_,I⟩;have YP:(56:N)-8*(k:N)=(m:N):=Y;have ba:m<=56:=Y;have hd3:decide ((m:N)<0)=ji:=by simp
   have j:beK p (k+1)=beK p k++[o1 8 (p/2^m)]:=by rw[beK,u]
   obtain⟨b,c⟩:=J (o1 8 (p/2^m));rw[<-c]at j;have bb:jr.wrap ((p:N)/2^m)=(b.toNat:N):=by
    rw[c,r4,r5];have e:(p:N)/2^m=((p/2^m:jb):N):=by simp
    rw[e];omega
   obtain⟨P,f⟩:=J (dE ([p,a,v].take 0)++beK p k);have l:P.length=k:=by rw[f,jH,tp,vZ];simp
   have y:dE ([p,a,v].take 0)++beK p (k+1)=P++[b]:=by rw[j,<-n0,f]
   rw[<-f]at d;have z:24-0-k=(24-0-(k+1))+1:=Y;rw[z]at d;obtain⟨⟨u3,bc⟩,Zq,B,C⟩:=kp (i:=k) (v8 b) d (by simp[l]);have E:(wr.setCell ⟨D,k,jc⟩ (v8 b)).heap[D]?=ja (je (((P++[b])++jW (24-0-(k+1)) 0#8).map v8).toArray 297 (0,0)):=by
    rw[B,xn,<-xo,<-l,zl]
   have H:=O E;have o:=O C;have X:=O y;clear j c f l y z B E C u;unfold v8 at H o
   go_wp2_with fail
   refine⟨⟨k+1,by go_num,by omega,O (by rw[X];exact H),O ((o.block _ (aJ Q)).trans s),O (t.trans (o.below (ee Q U)))⟩,by simp only[jv];omega⟩
  have K:k=8:=Y;have V:=az ((k:N)<8);have h:=d.out;rw[K,show dE ([p,a,v].take 0)++beK p 8=dE ([p,a,v].take (0+1))from(vA ([p,a,v].take 0) p).symm]at h;have Y9:=O h;clear h K
  go_wp2_with fail
  refine⟨⟨0+1,by go_num,by omega,Y9,s,t⟩,by simp only[jv];omega⟩
 ·have a2:=HU.out
  have a3:rn.wrap (a:N)=(a:N):=by rw[rv];omega
  have a4:(0:N)<=(a:N):=Y;have a5:=ay
  go_wp2_with fail
  go_loopw [29] (λg wr2=>∃k:jb,g=T A k/\k<=8/\jf (wr2.heap[D]?=ja (je (((dE ([p,a,v].take 1)++beK a k)++jW (24-8-k) 0#8).map v8).toArray 297 (0,0)))/\jf (wr2.heap[q+1]?=ja (je a8 66 (0,0)))/\jf (jk w w wr2)) (λg _=>(8-jv g).toNat)
  case atStart=>exact⟨0,I,by omega,O (by rw[beK,ob];exact Vb),ad,R⟩
  obtain⟨k,rfl,a6,d,s,t⟩:=hrel
  by_cases Ye:k<8
  ·have V:=aw ((k:N)<8)
   obtain⟨m,u⟩:∃m:jb,m=56-8*k:=⟨_,I⟩;have YP:(56:N)-8*(k:N)=(m:N):=Y;have ba:m<=56:=Y;have hd3:decide ((m:N)<0)=ji:=by simp
   have j:beK a (k+1)=beK a k++[o1 8 (a/2^m)]:=by rw[beK,u]
   obtain⟨b,c⟩:=J (o1 8 (a/2^m));rw[<-c]at j;have bb:jr.wrap ((a:N)/2^m)=(b.toNat:N):=by
    rw[c,r4,r5];have e:(a:N)/2^m=((a/2^m:jb):N):=by simp
    rw[e];omega
   obtain⟨P,f⟩:=J (dE ([p,a,v].take 1)++beK a k);have l:P.length=8+k:=by rw[f,jH,tp,vZ];simp
   have y:dE ([p,a,v].take 1)++beK a (k+1)=P++[b]:=by rw[j,<-n0,f]
   rw[<-f]at d;have z:24-8-k=(24-8-(k+1))+1:=Y;rw[z]at d;obtain⟨⟨u3,bc⟩,Zq,B,C⟩:=kp (i:=8+k) (v8 b) d (by simp[l]);have E:(wr.setCell ⟨D,8+k,jc⟩ (v8 b)).heap[D]?=ja (je (((P++[b])++jW (24-8-(k+1)) 0#8).map v8).toArray 297 (0,0)):=by
    rw[B,xn,<-xo,<-l,zl]
   have H:=O E;have o:=O C;have X:=O y;clear j c f l y z B E C u;unfold v8 at H o
   go_wp2_with fail
   refine⟨⟨k+1,by go_num,by omega,O (by rw[X];exact H),O ((o.block _ (aJ Q)).trans s),O (t.trans (o.below (ee Q U)))⟩,by simp only[jv];omega⟩
  have K:k=8:=Y;have V:=az ((k:N)<8);have h:=d.out;rw[K,show dE ([p,a,v].take 1)++beK a 8=dE ([p,a,v].take (1+1))from(vA ([p,a,v].take 1) a).symm]at h;have Y9:=O h;clear h K
  go_wp2_with fail
  refine⟨⟨1+1,by go_num,by omega,Y9,s,t⟩,by simp only[jv];omega⟩
 ·have a2:=HV.out
  have a3:rn.wrap (v:N)=(v:N):=by rw[rv];omega
  have a4:(0:N)<=(v:N):=Y;have a5:=a1
  go_wp2_with fail
  go_loopw [29] (λg wr2=>∃k:jb,g=T A k/\k<=8/\jf (wr2.heap[D]?=ja (je (((dE ([p,a,v].take 2)++beK v k)++jW (24-16-k) 0#8).map v8).toArray 297 (0,0)))/\jf (wr2.heap[q+1]?=ja (je a8 66 (0,0)))/\jf (jk w w wr2)) (λg _=>(8-jv g).toNat)
  case atStart=>exact⟨0,I,by omega,O (by rw[beK,ob];exact Vb),ad,R⟩
  obtain⟨k,rfl,a6,d,s,t⟩:=hrel
  by_cases Ye:k<8
  ·have V:=aw ((k:N)<8)
   obtain⟨m,u⟩:∃m:jb,m=56-8*k:=⟨_,I⟩;have YP:(56:N)-8*(k:N)=(m:N):=Y;have ba:m<=56:=Y;have hd3:decide ((m:N)<0)=ji:=by simp
   have j:beK v (k+1)=beK v k++[o1 8 (v/2^m)]:=by rw[beK,u]
   obtain⟨b,c⟩:=J (o1 8 (v/2^m));rw[<-c]at j;have bb:jr.wrap ((v:N)/2^m)=(b.toNat:N):=by
    rw[c,r4,r5];have e:(v:N)/2^m=((v/2^m:jb):N):=by simp
    rw[e];omega
   obtain⟨P,f⟩:=J (dE ([p,a,v].take 2)++beK v k);have l:P.length=16+k:=by rw[f,jH,tp,vZ];simp
   have y:dE ([p,a,v].take 2)++beK v (k+1)=P++[b]:=by rw[j,<-n0,f]
   rw[<-f]at d;have z:24-16-k=(24-16-(k+1))+1:=Y;rw[z]at d;obtain⟨⟨u3,bc⟩,Zq,B,C⟩:=kp (i:=16+k) (v8 b) d (by simp[l]);have E:(wr.setCell ⟨D,16+k,jc⟩ (v8 b)).heap[D]?=ja (je (((P++[b])++jW (24-16-(k+1)) 0#8).map v8).toArray 297 (0,0)):=by
    rw[B,xn,<-xo,<-l,zl]
   have H:=O E;have o:=O C;have X:=O y;clear j c f l y z B E C u;unfold v8 at H o
   go_wp2_with fail
   refine⟨⟨k+1,by go_num,by omega,O (by rw[X];exact H),O ((o.block _ (aJ Q)).trans s),O (t.trans (o.below (ee Q U)))⟩,by simp only[jv];omega⟩
  have K:k=8:=Y;have V:=az ((k:N)<8);have h:=d.out;rw[K,show dE ([p,a,v].take 2)++beK v 8=dE ([p,a,v].take (2+1))from(vA ([p,a,v].take 2) v).symm]at h;have Y9:=O h;clear h K
  go_wp2_with fail
  refine⟨⟨2+1,by go_num,by omega,Y9,s,t⟩,by simp only[jv];omega⟩
 have b:=tp [p,a,v];have d:=Vb.out;rw[show dE ([p,a,v].take 3)++jW (24-8*3) 0#8=dE [p,a,v]from ob _]at d;have f:=sj ⟨#[119,114,97,112]⟩ L _ (dE [p,a,v]) (by rw[b];simp) wr (O3 (n:=24) d (by rw[b];rfl)) (au.below R).num (au.below R).start;rw[show((dp (bZ ⟨#[119,114,97,112]⟩) (dE [p,a,v])).map v8).toArray=aa from by rw[ZN];exact S.eq.symm]at f;have g:=O f;clear b d f ax ay a1
 go_wp2_with fail
 refine g.mono ?_;rintro e' f ⟨rfl,b⟩;have d:=ae ad b;have h:=ah R b;clear b g
 go_wp2_with (refine j3 I λ_ b=>j4 66 _ _ I (q+1) aa I I 66 _ d.out (by rw[S.sz];rfl) (by rw[S.sz];rfl) S.one (b _ _ ?_))
 have b:(f.setRow (q+1) aa).heap[q+1]?=ja (je aa 66 (0,0)):=jR _ _ _ _ _ _ d.out;refine qj (results_cell_row I _ _ (q+1) 66 _ (0,0) _ I b qE I (by rw[S.sz];rfl)) I ?_;exact⟨I,jZ h.out (by rw[U];exact Nat.le_succ _) _⟩
def mB(a:N)(n:jb):Prop:=bP a/\16<=n/\n<=65552
noncomputable def mF(a:N)(n:jb):N:=by classical exact if mB a n then 0 else 90
theorem FC(h:mB d b):mF d b=0:=by unfold mF;rw[jt h]
theorem uT(h:¬mB d b):mF d b=90:=by unfold mF;rw[jw h]
theorem Gd(a:N)(p:jP j7)(n c:jb)(u:n<4611686018427387904)(w:jh):
 jq jl 71 #[jn #[T A a,jg p n c]] w λe w'=>e=jp (T A (mF a n))/\jk w w w':=by
 have j:=jy w (je #[T A a,jg p n c] 90);have l:=ao w (je #[T A a,jg p n c] 90);have k:=O (gD a);obtain⟨d,b⟩:=J (cS a);rw[<-b]at k;have o:jf (d=0->bP a):=O (λh=>by
  by_cases g:bP a
  ·exact g
  rw[b,k7 g]at h;exact jB h L)
 have q:jf (d≠0->¬bP a):=O (λh g=>h (by rw[b,gF g]));have s:=ai (i:=0) j I;have t:=ai (i:=1) j I;have m:=O l;obtain⟨r,g⟩:=J (mF a n);rw[<-g];have f:=O g;clear b g j l
 go_enter func71,ntmps71
 go_wp2_with fail
 refine(k _).mono ?_;rintro e v ⟨rfl,b⟩;have g:=ah m b;clear b k s t m
 by_cases b:d=0
 ·have k:decide (d=0)=jm:=by simp[b]
  have j:=o b;subst b
  by_cases m:n<16
  ·have l:=aw ((n:N)<16)
   obtain rfl:r=90:=by rw[f];exact uT (λh=>by have:=h.2.1;omega)
   go_wp2_with fail
   go_ret;exact⟨I,g⟩
  have l:=az ((n:N)<16)
  by_cases s:65552<n
  ·have hd2:=aw ((65552:N)<(n:N))
   obtain rfl:r=90:=by rw[f];exact uT (λh=>by have:=h.2.2;omega)
   go_wp2_with fail
   go_ret;exact⟨I,g⟩
  have hd2:=az ((65552:N)<(n:N));obtain rfl:r=0:=by rw[f];exact FC ⟨j,by omega,by omega⟩
  clear j
  go_wp2_with fail
  go_ret;exact⟨I,g⟩
 have k:decide (d=0)=ji:=by simp[b]
 obtain rfl:r=90:=by rw[f];exact uT (λh=>q b h.1)
 have h:(d !=0)=jm:=ak b;have j:=O b;clear b
 go_wp2_with fail
 go_ret;exact⟨I,g⟩
def sl:LBy:=jW 12 0#8
def gm(seed:LBy):jb:=uV seed ⟨#[119,114,97,112]⟩
def gs(a:jb)(seed b body:LBy):LBy:=oN (nY a (aY 4 (gm seed)) (aY a (gm seed))) sl b body
theorem Hl(b:jb)(s:bP b)(seed m body:LBy)(t:seed.length=32)(E:m.length<=70000)(F:body.length<=65536)(H K:jj)(w:jh)(M:bD w H m)(P:bD w K body)(Q:lx w):
 jq jl 100 #[T A b,jn (seed.map v8).toArray,H,K] w λe w'=>∃c,e=jp (jE #[jn #[T A (aY 4 (gm seed):jb),c],T A 0])/\w'.ownsRow w 5 1 c (body.length+16) ((gs b seed m body).map v8)/\jk w w w':=by
 obtain⟨o,u,R⟩:=Arr.mk' t;rw[<-u];have Yx:=O u;have UU:=O R;have ZX:=O t;have n:=O Q;have U:=O s;have v:=O (gD b);rw[gF s]at v;have ad:=O E;have au:=O F;have V:=O M;have W:=O P;obtain⟨r,x⟩:=J (gm seed);have y:=O x;have X:jf (r<2305843009213688669):=O (by rw[x];exact(zG _ _).2);obtain⟨d,a⟩:=J (aY 4 (gm seed));have aa:=O a;have ax:jf (d<4611686018427377339):=O (by rw[a];exact vW _ _);rw[<-a];have f:=jy w (je o 66);have g:=ao w (je o 66);obtain⟨p,h⟩:=J (w.alloc (je o 66));rw[<-h]at f g;have i:=jy p (je #[T A 0,jg jc 0 0] 90);have k:=ao p (je #[T A 0,jg jc 0 0] 90);obtain⟨W1,z⟩:=J (p.alloc (je #[T A 0,jg jc 0 0] 90));obtain⟨j,l⟩:=J w.heap.size;rw[<-z]at i k;have S:p.heap.size=j+1:=by rw[h,l];simp
 rw[S]at i;rw[<-l]at f;have HK:=ae f k;have HR:=O i;have Up:=O (g.trans (k.mono g.size));have HG:=O l;have ay:=O h;have VA:=O z;obtain⟨ph,ch,rfl,-,-,-⟩:=M;obtain⟨B,C,rfl,-,-,-⟩:=P;obtain⟨hl,D⟩:=J m.length;obtain⟨bl,q⟩:=J body.length;rw[<-D]at V⊢;rw[<-q]at W;clear u R t Q s E F x a f g h i k z S l;have a4:=O D;have a5:=O q;rw[show(Value.slice B body.length C)=jg B bl C from by rw[q]];clear D q
 go_enter func100,ntmps100
 go_wp2_with fail
 rw[<-ay,<-VA,<-HG];refine(v W1).mono ?_;rintro e R ⟨rfl,a⟩;have h:=ae HK a;have i:=ae HR a;have f:=ah Up a;clear a HK HR Up v
 go_upto_region 3 with fail
 refine ow ?_;refine qb I 66 _ I j I 66 o (0,0) _ h.out qE I (by rw[UU.sz];rfl) ?_
 go_wp2_with fail
 have g:=GY seed ZX ⟨#[119,114,97,112]⟩ L R (bH.below ⟨n.num,n.start⟩ f);rw[<-Yx,show uV seed ⟨#[119,114,97,112]⟩=r from y.symm]at g;refine g.mono ?_;clear g;rintro e q ⟨rfl,a⟩;have l:=ae i a;have s:=ah f a;clear a h i f
 go_wp2_with fail
 obtain⟨x,h⟩:=J (q.alloc (je #[T A (r:jb)] 3));obtain⟨f,i⟩:=J q.heap.size;have t:jA x f 3 (T A (r:jb)):=by rw[h,i];exact Boxed.new q _ _
 have a:=ao q (je #[T A (r:jb)] 3);rw[<-h]at a⊢;rw[<-i];have u:=ae l a;have v:=ah s a;have k:=O t;clear a h i t l s;have g:=ww r X x;rw[show aY 4 r=d from by rw[y,aa]]at g;refine g.mono ?_;clear g;rintro e i ⟨rfl,a⟩;have z:=ae u a;have D:=ah v a;have h:jf (jA i f 3 (T A (r:jb))):=O ((a.block _ k.lt).trans k);clear a u v k;obtain⟨S,g⟩:=J (#[jo .i64 b,.func (.func 153) #[] #[jz (ja ⟨f,0,jc⟩)]]);have HS:=O g;have k:S.all (·.oneCell')=jm:=by rw[g];simp[oj]
 have l:S.size=2:=by rw[g];rfl
 have a6:=O k;have ba:=O l;clear g k l
 go_upto_region 6 with(refine j3 I λ_ t=>j4 238 _ _ I i.heap.size #[T A b,.func (.func 153) #[] #[jz (ja ⟨f,0,jc⟩)]] I I 238 #[T A 0,.nilFunc] (jy i _) af aj (by simp[oj]) (t _ _ ?_))
 obtain⟨s,g⟩:=J ((i.alloc (je #[T A 0,.nilFunc] 238)).setRow i.heap.size #[T A b,.func (.func 153) #[] #[jz (ja ⟨f,0,jc⟩)]]);obtain⟨E,k⟩:=J i.heap.size;have u:s.heap[E]?=ja (je #[T A b,.func (.func 153) #[] #[jz (ja ⟨f,0,jc⟩)]] 238 (0,0)):=by rw[g,k];exact jR _ _ _ _ _ _ (jy i _)
 have a:jk i i s:=by rw[g];exact jZ (ao i _) (ju _) _
 rw[<-g,<-k];have v:=ae z a;have l:=ah D a;have F:jf (jA s f 3 (T A (r:jb))):=O ((a.block _ h.lt).trans h);have Q:=O u;clear a g k u z D h;refine ow ?_;refine qb I 238 _ I E I 238 #[T A b,.func (.func 153) #[] #[jz (ja ⟨f,0,jc⟩)]] (0,0) _ Q.out underlying238 I af ?_
 go_wp2_with fail
 obtain⟨bb,g,k⟩:=Arr.mk' (zA b d (aY b r));have h:=Lm _ r f (Sg r f X) b d b (cT U.2.1) (aJ ax) U s F (bH.below ⟨n.num,n.start⟩ l);rw[<-g]at h;have D:=O g;refine h.mono ?_;clear h g k;rintro e w7 ⟨rfl,a⟩;have h:=ae v a;have g:=ah l a;clear a v l F Q
 go_wp2_with fail
 have k:=Nx (nY b d (aY b r)) sl m body (jg ph hl ch) (jg B bl C) w7 (zA _ _ _) I ad au (V.below g) (W.below g) (n.below g);rw[<-D]at k;refine k.mono ?_;clear k;rintro e u ⟨cv,rfl,v,a⟩;have z:=ae h a;have F:=O v;have Q:=O g.size;have a1:=O h;have Wv:=ah g a;obtain⟨k,l,rfl⟩:=cK v;clear a h g v
 go_upto_region 9 with fail
 go_wp2_with (refine j3 I λ_ t=>j4 90 _ _ I (j+1) #[T A d,jg k (body.length+16) l] I I 90 _ z.out af aj (by simp[oj]) (t _ _ ?_))
 have a:(u.setRow (j+1) #[T A d,jg k (body.length+16) l]).heap[j+1]?=ja (je #[T A d,jg k (body.length+16) l] 90 (0,0)):=jR _ _ _ _ _ _ z.out;have t:jk w w (u.setRow (j+1) #[T A d,jg k (body.length+16) l]):=jZ Wv.out (by rw[HG];exact Nat.le_succ _) _;have v:(u.setRow (j+1) #[T A d,jg k (body.length+16) l]).ownsRow w.heap.size 5 1 (jg k (body.length+16) l) (body.length+16) ((gs b seed m body).map v8):=by
  have h:=F.out;rw[aa,y]at h;refine⟨h.1,?_⟩
  rcases h.2 with hn|⟨g,a2,Uw,e,hb,hg,a3⟩
  ·exact .inl hn
  refine .inr ⟨g,a2,Uw,e,jL Q hb,(jY _ _ _ _ ?_).trans hg,a3⟩;have:=(jG.1 a1).1;omega
 exact bodyPost_ret_by (fS I _ _ (j+1) 90 #[T A d,jg k (body.length+16) l] (0,0) _ I a underlying90 I af) I ⟨_,I,v,t⟩
def fI(x:N):Prop:=0<=x/\x<512
def kf(x:N):Prop:=0<=x/\x<16
instance(x:N):Decidable (fI x):=by unfold fI;infer_instance
instance(x:N):Decidable (kf x):=by unfold kf;infer_instance
theorem Be(x:N)(w:jh):
 jq jl 69 #[T A x] w λe w'=>e=jp (.bool (decide (fI x)))/\w=w':=by
 obtain⟨r,a⟩:=J (decide (fI x));rw[<-a]
 by_cases b:0<=x
 ·have c:=aw (0<=x)
  obtain rfl:r=decide (x<512):=by rw[a];simp[fI,b]
  clear a
  go_enter func69,ntmps69
  go_wp2
  go_ret;exact⟨I,I⟩
 have c:=az (0<=x);obtain rfl:r=ji:=by rw[a];simp[fI,b]
 clear a
 go_enter func69,ntmps69
 go_wp2
 go_ret;exact⟨I,I⟩
theorem EO(x:N)(w:jh):
 jq jl 62 #[T A x] w λe w'=>e=jp (.bool (decide (kf x)))/\w=w':=by
 obtain⟨r,a⟩:=J (decide (kf x));rw[<-a]
 by_cases b:0<=x
 ·have c:=aw (0<=x)
  obtain rfl:r=decide (x<16):=by rw[a];simp[kf,b]
  clear a
  go_enter func62,ntmps62
  go_wp2
  go_ret;exact⟨I,I⟩
 have c:=az (0<=x);obtain rfl:r=ji:=by rw[a];simp[kf,b]
 clear a
 go_enter func62,ntmps62
 go_wp2
 go_ret;exact⟨I,I⟩
def cC(x y:N):N:=if x<y then -1 else if y<x then 1 else 0
theorem B4(x:N)(w:jh):
 jq jl 95 #[T A x] w λe w'=>e=jp (.bool ji)/\w=w':=by
 go_enter func95,ntmps95
 go_wp2
 go_ret;exact⟨by simp,I⟩
theorem tL(x y:N)(w:jh):
 jq jl 44 #[T A x,T A y] w λe w'=>e=jp (T A (cC x y))/\w=w':=by
 have d:=O (B4 x);have f:=O (B4 y);obtain⟨r,a⟩:=J (cC x y);rw[<-a];have b:=O a;clear a
 go_enter func44,ntmps44
 go_wp2_with fail
 refine(d _).mono ?_;rintro e g ⟨rfl,rfl⟩
 go_wp2_with fail
 refine(f _).mono ?_;rintro e g ⟨rfl,rfl⟩
 by_cases a:x<y
 ·have h:=aw (x<y)
  obtain rfl:r= -1:=by rw[b,cC,jt a]
  go_wp2_with fail
  go_ret;exact⟨I,I⟩
 have h:=az (x<y)
 by_cases c:y<x
 ·have hd2:=aw (y<x)
  obtain rfl:r=1:=by rw[b,cC,jw a,jt c]
  go_wp2_with fail
  go_ret;exact⟨I,I⟩
 have hd2:=az (y<x);obtain rfl:r=0:=by rw[b,cC,jw a,jw c]
 go_wp2_with fail
 go_ret;exact⟨I,I⟩
def aK.cells(m:aK):jd jj:=[T A m.dev,T A m.since,T A m.ver]
theorem C1(m:aK)(d:N)(w:jh):
 jq jl 132 #[jn m.cells.toArray,T A d] w λe w'=>e=jp (T A (cC m.dev d))/\jk w w w':=by
 obtain⟨md,b,c⟩:=m;unfold aK.cells;have a:=ao w (je #[T A md,T A b,T A c] 107);have f:=O (tL md d);have g:=O a;clear a
 go_enter func132,ntmps132
 go_wp2_with fail
 refine(f _).mono ?_;rintro e a ⟨rfl,rfl⟩
 go_wp2_with fail
 go_ret;exact⟨I,g⟩
def nX(w:jh)(v:jj)(l:jd aK):Prop:=aG (λ_=>True) w v 3 l.length (l.flatMap aK.cells)
def da:aK:=⟨0,0,0⟩
theorem nX.below{v:jj}{l:jd aK}(h:nX w v l)(a:jk w w w'):nX w' v l:=by
 obtain⟨b,p,c,d,f,i,k⟩:=h;refine⟨b,p,c,d,f,i,λm=>?_⟩;obtain⟨g,o,e,-,n⟩:=k m;exact⟨g,o,e,trivial,λj q r=>aD (n j q r) a⟩
def mu(l:jd aK):Prop:=∀i j,i<j->j<l.length->(l.getD i da).dev<(l.getD j da).dev
theorem nX.cells{v:jj}{l:jd aK}(h:nX w v l):∃p c,v=jg p l.length c/\l.length<=c/\(0<l.length->∃g o,p=ja ⟨g,o,jc⟩/\∀i,i<l.length->w.cell? ⟨g,o+i*3,jc⟩=ja (T A (l.getD i da).dev)/\w.cell? ⟨g,o+i*3+1,jc⟩=ja (T A (l.getD i da).since)/\w.cell? ⟨g,o+i*3+2,jc⟩=ja (T A (l.getD i da).ver)):=by
 obtain⟨s,p,c,d,f,t,j⟩:=h;refine⟨p,c,d,f,λk=>?_⟩;obtain⟨g,o,e,-,a⟩:=j k;refine⟨g,o,e,λi m=>?_⟩;have b:l[i]?=ja (l.getD i da):=by simp[jQ,m]
 have n:=a (i*3+0) _ ((flat_get aK.cells 3 (λ_=>rfl) l i 0 (l.getD i da) b L).trans I);have q:=a (i*3+1) _ ((flat_get aK.cells 3 (λ_=>rfl) l i 1 (l.getD i da) b L).trans I);have r:=a (i*3+2) _ ((flat_get aK.cells 3 (λ_=>rfl) l i 2 (l.getD i da) b L).trans I);exact⟨n,q,r⟩
theorem CN{x y:jj}(b:a=x)(c:m=y):Ending.returned (jE #[a,m])=jp (jE #[x,y]):=by rw[b,c]
theorem ft{l:jd j}(d:j)(h:b<l.length):l.getD b d=l[b]:=by simp[jQ,h]
def lY(l:jd aK)(d:N):jb:=l.countP λm=>decide (m.dev<d)
def cG(l:jd aK)(d:N):jF:=l.any λm=>m.dev==d
theorem yM{l:jd aK}(h:mu l){i j:jb}(a:i<=j)(b:j<l.length):(l.getD i da).dev<=(l.getD j da).dev:=by
 rcases Nat.eq_or_lt_of_le a with rfl|c
 ·exact Int.le_refl _
 exact Int.le_of_lt (h i j c b)
theorem AE(d:N):∀(l:jd aK) (i:jb),i<=l.length->(∀t,t<i->(l.getD t da).dev<d)->(∀t,i<=t->t<l.length->d<=(l.getD t da).dev)->lY l d=i
 |[],i,b,_,_=>by simp at b;simp[lY,b]
 |a::r,0,_,_,c=>by
  unfold lY;rw[List.countP_eq_zero];intro x f;obtain⟨t,e,rfl⟩:=qk f;have:=c t (j6 _) e;rw[ft _ e]at this;simp;omega
 |a::r,i+1,b,f,c=>by
  have h:a.dev<d:=by simpa using f 0 (Nat.succ_pos _)
  have g:=AE d r i (ak b) (λt e=>by simpa using f (t+1) Y) (λt j e=>by simpa using c (t+1) Y (ak e));unfold lY at g⊢;rw[List.countP_cons_of_pos (ak h),g]
theorem L1{l:jd aK}(h:∀t,t<l.length->(l.getD t da).dev<d):cG l d=ji:=by
 unfold cG;rw[ql];intro x b;obtain⟨t,a,rfl⟩:=qk b;have:=h t a;rw[ft _ a]at this;simp;omega
theorem JY(x y:N):(cC x y==0)=decide (x=y):=by
 unfold cC
 by_cases a:x<y
 ·rw[jt a];simp;omega
 rw[jw a]
 by_cases b:y<x
 ·rw[jt b];simp;omega
 rw[jw b];simp;omega
theorem Ov{l:jd aK}{i:jb}(f:mu l)(e:i<l.length)(h:∀t,t<i->(l.getD t da).dev<d)(j:d<=(l.getD i da).dev):cG l d=(cC (l.getD i da).dev d==0):=by
 rw[JY]
 by_cases he:(l.getD i da).dev=d
 ·rw[jS he]
  unfold cG;refine r7.2 ⟨l.getD i da,?_,by simpa using he⟩;rw[ft _ e];exact qL e
 rw[decide_eq_false he];unfold cG;rw[ql];intro x c;obtain⟨t,b,rfl⟩:=qk c;have c:l[t].dev≠d->¬((l[t].dev==d)=jm):=λh=>by simpa using h
 apply c
 rcases Nat.lt_trichotomy t i with a|a|a
 ·have:=h t a;rw[ft _ b]at this;omega
 ·subst a;rw[ft _ b]at he;exact he
 have g:=f i t a b;rw[ft _ b]at g;omega
theorem SQ(l:jd aK)(f:mu l)(v:jj)(d:N)(w:jh)(h:nX w v l)(U:l.length<=1000000):
 jq jl 131 #[v,T A d,.func (.func 132) #[] #[]] w λe w'=>e=jp (jE #[T A (lY l d:jb),.bool (cG l d)])/\jk w w w':=by
 obtain⟨p,c,rfl,u,s⟩:=h.cells;have R:=O s;have M:=O f;obtain⟨n,b⟩:=J l.length;have a:=O b;rw[<-b]at U u⊢;clear s f h b;have EG:∀args w,(p6 132 args).run jl w=.ok (.enter 132 args) w:=λ_ _=>rfl
 go_enter func131,ntmps131
 go_wp2_with fail
 go_loopw [9,10] (λs9 b wr=>∃i j:jb,s9=T A i/\b=T A j/\i<=j/\j<=n/\jf ((∀t,t<i->(l.getD t da).dev<d)/\∀t,j<=t->t<n->d<=(l.getD t da).dev)/\jf (jk w w wr)) (λs9 b _=>(jv b-jv s9).toNat)
 case atStart=>exact⟨0,n,I,I,j6 _,ju _,O ⟨λt P=>jB P Y,λt z F=>jB z Y⟩,O (jK _ _)⟩
 obtain⟨i,j,rfl,rfl,aa,V,x,b⟩:=hrel
 by_cases ad:i<j
 ·have W:=aw ((i:N)<(j:N))
  obtain⟨m,q⟩:∃m:jb,m=(i+j)/2:=⟨_,I⟩;have au:i<=m:=Y;have YQ:m<j:=Y;have e1:((i:N)+(j:N))/2=(m:N):=Y;obtain⟨g,o,rfl,s⟩:=R.out (by rw[<-a];omega);obtain⟨f,h,k⟩:=s m (by rw[<-a];omega);replace f:=aD f b;replace h:=aD h b;replace k:=aD k b;have r:=O (C1 (l.getD m da) d);obtain⟨md,B,C,y⟩:∃md B C,l.getD m da=⟨md,B,C⟩:=⟨_,_,_,I⟩;rw[y]at f h k r;have X:=O y;unfold aK.cells at r;clear s q y
  go_wp2_with fail
  refine(r wr).mono ?_;rintro e w1 ⟨rfl,D⟩;have H:=ah b D;clear D r f h k;obtain⟨q,E⟩:=J (cC md d);rw[<-E];have S:=O x;have K:(l.getD m da).dev=md:=by rw[X]
  by_cases u:md<d
  ·obtain rfl:q= -1:=by rw[E,cC,jt u]
   have Q:jf ((∀t,t<m+1->(l.getD t da).dev<d)/\∀t,j<=t->t<n->d<=(l.getD t da).dev):=O ⟨λt P=>Int.lt_of_le_of_lt (yM M (show t<=m by omega) (by rw[<-a];omega)) (by rw[K];exact u),S.2⟩;clear E u K
   go_wp2_with fail
   exact⟨⟨m+1,j,by go_num,rfl,by omega,by omega,Q,H⟩,by simp only[jv];omega⟩
  have ax:0<=q:=by rw[E,cC,jw u];split<;>omega
  have hd3:=az (q<0);have Q:jf ((∀t,t<i->(l.getD t da).dev<d)/\∀t,m<=t->t<n->d<=(l.getD t da).dev):=O ⟨S.1,λt z F=>Int.le_trans (show d<=(l.getD m da).dev by rw[K];omega) (yM M z (by rw[<-a];exact F))⟩;clear E u K
  go_wp2_with fail
  exact⟨⟨i,m,I,by go_num,by omega,by omega,Q,H⟩,by simp only[jv];omega⟩
 obtain rfl:i=j:=Y;have W:decide ((i:N)<(i:N))=ji:=by simp
 have q:lY l d=i:=AE d l i (by rw[<-a];exact V) x.1 (λt z F=>x.2 t z (by rw[a];exact F))
 by_cases E:i<n
 ·have hd2:=aw ((i:N)<(n:N))
  obtain⟨g,o,rfl,s⟩:=R.out (by rw[<-a];omega);obtain⟨f,h,k⟩:=s i (by rw[<-a];omega);replace f:=aD f b;replace h:=aD h b;replace k:=aD k b;have r:=O (C1 (l.getD i da) d);have m:=Ov (l:=l) (d:=d) (i:=i) M.out (by rw[<-a];exact E) x.1 (x.2 i (ju _) E);obtain⟨md,B,C,y⟩:∃md B C,l.getD i da=⟨md,B,C⟩:=⟨_,_,_,I⟩;rw[y]at f h k r m;have K:jf (cG l d=(cC md d==0)):=O m;have Q:=O q;unfold aK.cells at r;clear s y m q
  go_wp2_with fail
  refine(r wr).mono ?_;rintro e w1 ⟨rfl,D⟩;have H:=ah b D;clear D r f h k
  go_wp2_with fail
  go_ret2;exact⟨CN (js (λn:jb=>jo .i64 (n:N)) Q.symm) (js qw K.symm),H⟩
 have hd2:=az ((i:N)<(n:N));have m:cG l d=ji:=L1 (λt P=>x.1 t (by rw[a]at E;omega));have K:=O m;have Q:=O q;clear m q
 go_wp2_with fail
 go_ret2;exact⟨CN (js (λn:jb=>jo .i64 (n:N)) Q.symm) (js qw K.symm),b⟩
section
variable{a b e f:jb}{W w:jh}
open Go.RowKit Go.Maps Go.Sort
theorem ei{P:jX}{b:jD j0}{c:Exit->Act->jh->Prop}{a:Act}{w:jh}{d:jd j0}{o:j0}{v:jj}(e:Region.wanted o (yielded b a.tmps)=jm)
 (h:(execOp a.eval o).run P w=.ok (.value v) w) (f:wpList P b c d (a.put o.dst v) w):wpList P b c (o::d) a w:=
 wpList_step λK k=>by
  rw[jt e];unfold Oper.wp;rw[h];exact k _ _ f
theorem iB{a b:jF}(h:a=b):Ending.returned (.bool a)=jp (.bool b):=by rw[h]
theorem S6(n m:N):(n !=m)=decide (n≠m):=by by_cases h:n=m<;>simp[h]
theorem yT{d b:jj}(h:d=b):Ending.returned d=jp b:=by rw[h]
structure EK(α:Type) where
 cells:α->jd jj
 k:jb
 t:jI
 pos:0<k
 len:∀x,(cells x).length=k
 one:∀x,∀v∈cells x,v.oneCell'=jm
section
variable {α:Type} (E:EK α)
def EK.flat(l:jd α):jd jj:=l.flatMap E.cells
theorem EK.flat_length(l:jd α):(E.flat l).length=l.length*E.k:=by
 unfold EK.flat;exact Go.Proofs.YtngkfaggaccpoaaGreatDoor.flat_length E.cells E.k E.len l
theorem EK.flat_append(l m:jd α):E.flat (l++m)=E.flat l++E.flat m:=by unfold EK.flat;exact List.flatMap_append
theorem EK.flat_one(x:α):E.flat [x]=E.cells x:=by simp[EK.flat]
theorem EK.flat_cons(x:α)(l:jd α):E.flat (x::l)=E.cells x++E.flat l:=by simp[EK.flat]
theorem EK.flat_get(l:jd α)(j i:jb)(x:α)(h:l[j]?=ja x)(a:i<E.k):(E.flat l)[j*E.k+i]?=(E.cells x)[i]?:=
 Go.Proofs.YtngkfaggaccpoaaGreatDoor.flat_get E.cells E.k E.len l j i x h a
theorem EK.flat_take(l:jd α)(i:jb):E.flat (l.take i)=(E.flat l).take (i*E.k):=by
 rcases qn i l.length with h|h
 ·have a:(E.flat (l.take i)).length=i*E.k:=by rw[E.flat_length,mz,qh (xq h)]
  have:=List.take_left' (l₂:=E.flat (l.drop i)) a;rw[<-E.flat_append,xr]at this;exact this.symm
 rw[jU h,jU (by rw[E.flat_length];exact qo _ h)]
theorem EK.flat_drop(l:jd α)(i:jb):E.flat (l.drop i)=(E.flat l).drop (i*E.k):=by
 rcases qn i l.length with h|h
 ·have a:(E.flat (l.take i)).length=i*E.k:=by rw[E.flat_length,mz,qh (xq h)]
  have:=List.drop_left' (l₂:=E.flat (l.drop i)) a;rw[<-E.flat_append,xr]at this;exact this.symm
 rw[xh h,xh (by rw[E.flat_length];exact qo _ h)]
 rfl
theorem EK.flat_one'(l:jd α):∀a∈E.flat l,a.oneCell'=jm:=by
 intro a b;unfold EK.flat at b;obtain⟨x,-,c⟩:=yn.1 b;exact E.one x a c
theorem EK.flat_set{d:jd α}{e:α}(i:a<d.length):E.flat (d.set a e)=(E.flat d).take (a*E.k)++E.cells e++(E.flat d).drop (a*E.k+E.k):=by
 rw[List.set_eq_take_append_cons_drop,jt i,E.flat_append,E.flat_cons,E.flat_take,E.flat_drop,show(a+1)*E.k=a*E.k+E.k by rw[Nat.add_mul];omega,n0]
def EK.At(w:jh)(v:jj)(l:jd α):Prop:=cE w v E.k l.length (E.flat l)
variable {E}
theorem EK.At.below{w':jh}{v:jj}{l:jd α}(h:E.At w v l)(a:jk w w w'):E.At w' v l:=cE.below h a
theorem EK.At.of_own{B:jb}{v:jj}{l:jd α}(h:w.ownsRow B E.t E.k v l.length (E.flat l)):E.At w v l:=cE.of_own h
theorem EK.At.of_sl{D:jb->Prop}{v:jj}{l:jd α}(h:aG D w v E.k l.length (E.flat l)):E.At w v l:=h.row
theorem EK.At.form{d:jj}{l:jd α}(h:E.At w d l):∃p c,d=jg p l.length c/\l.length<=c/\(p=jc->c=0):=by
 obtain⟨_,p,c,e,a,b,_⟩:=h;exact⟨p,c,e,a,b⟩
theorem EK.At.nil:E.At w (jg jc 0 0) []:=⟨by simp[EK.flat],jc,0,I,ju _,λ_=>rfl,λh=>jB h (Nat.lt_irrefl _)⟩
theorem EK.At.cells{p:jP j7}{n c:jb}{l:jd α}(h:E.At w (jg p n c) l):n=l.length/\n<=c/\(0<n->∃g o,p=ja ⟨g,o,jc⟩/\∀j x,l[j]?=ja x->∀i a,(E.cells x)[i]?=ja a->w.cell? ⟨g,o+j*E.k+i,jc⟩=ja a):=by
 obtain⟨_,v,y,e,d,z,f⟩:=h;injection e with k m q
 subst k;subst m;subst q;refine⟨I,d,λr=>?_⟩;obtain⟨g,o,e,s⟩:=f r;refine⟨g,o,e,λj x t i a b=>?_⟩;have u:i<E.k:=by rw[<-E.len x];exact(o8.1 b).1
 rw[Nat.add_assoc];exact s (j*E.k+i) a ((E.flat_get l j i x t u).trans b)
theorem dN{l:jd α}{j:jb}(h:j<l.length):∃x,l[j]?=ja x/\l.take (j+1)=l.take j++[x]:=
 ⟨l[j],ms h,qv h⟩
variable (E)
structure dx(a:jb)(w W:jh)(g n c:jb)(d:jd α):Prop where
 own:W.ownsRow a E.t E.k (jg (ja ⟨g,0,jc⟩) n c) n (E.flat d)
 len:n=d.length
 bel:jk a w W
 sz:a<=w.heap.size
variable {E}
theorem dx.later{g:jh}{d:jd α}(h:dx E a w W b e f d)(n:jk W W g):dx E a w g b e f d:=
 ⟨cL h.own n,h.len,h.bel.trans (n.mono (jL h.sz (cT h.bel.size))),h.sz⟩
theorem dx.lt{d:jd α}(h:dx E a w W b e f d):a<=b/\b<W.heap.size:=h.own.lt b I
theorem dx.cap{d:jd α}(h:dx E a w W b e f d):e<=f:=by
 rcases h.own.2 with⟨n,_⟩|⟨g',i,j,n,k,l,g,_⟩
 ·cases n
 injection n with m o c
 subst c;exact g
theorem dx.at{g n c:jb}{d:jd α}(h:dx E a w W g n c d):E.At W (jg (ja ⟨g,0,jc⟩) n c) d:=EK.At.of_own (by rw[<-h.len];exact h.own)
theorem iR{g:jb}(h:jk a w W)(c:a<=g)(b:jD jj):jk a w (W.setRow g b):=
 h.trans ⟨rfl,rfl,rfl,by simp[qW],λk d=>jY _ _ _ _ Y⟩
theorem dx.store{P:jX}{i:jb}{d:jd α}(h:dx E a w W b e f d)(r:i<e)(n:α)(m:jI)(s:(P.info? m).map (·.size)=ja E.k):
 ∃j,(storeVar m ⟨b,0+i*E.k,jc⟩ (jn (E.cells n).toArray)).run P W=.ok () j/\dx E a w j b e f (d.set i n)/\(∀k,k≠b->j.heap[k]?=W.heap[k]?)/\W.heap.size<=j.heap.size:=by
 obtain⟨R,z⟩:=h.own
 rcases z with⟨o,_⟩|⟨g',S,q,o,t,u,v,B,x,C⟩
 ·cases o
 injection o with c U D
 injection c with c
 injection c with c
 subst c;subst D;have V:i*E.k+E.k<=e*E.k:=by rw[<-Nat.succ_mul];exact qo _ r
 have F:e*E.k<=f*E.k:=qo _ v;have X:e*E.k<=q.size:=by rw[x];exact F
 have g:(E.cells n).length=E.k:=E.len n;have y:(storeCells ⟨b,i*E.k,jc⟩ (E.cells n) 0).run P W=.ok () (W.setRow b (q.toList.take (i*E.k)++E.cells n++q.toList.drop (i*E.k+(E.cells n).length)).toArray):=
  run_storeCells_at (P:=P) b (i*E.k) E.t (E.cells n) 0 q W u (by rw[g];omega) (E.one n)
 have p:q.toList.length=f*E.k:=by rw[qf];exact x
 rw[g]at y;refine⟨W.setRow b (q.toList.take (i*E.k)++E.cells n++q.toList.drop (i*E.k+E.k)).toArray,?_,⟨⟨by rw[E.flat_length,r8,<-h.len],.inr ⟨b,f,(q.toList.take (i*E.k)++E.cells n++q.toList.drop (i*E.k+E.k)).toArray,I,t,jR _ _ _ _ _ _ u,v,B,?_,?_⟩⟩,by rw[r8];exact h.len,iR h.bel t _,h.sz⟩,λk H=>jY _ _ _ _ H,by simp[qW]⟩
 ·cases hq:P.info? m with
  |none=>simp[hq]at s
  |some K=>
   have M:K.size=E.k:=by simpa [hq]using s
   rw[jM];have Q:(xl (E.cells n).toArray).cells=(E.cells n).toArray:=I;simp[storeVar,sizeOf,typeInfo,hq,Q,M,g,y]
 ·simp only[jJ,jH,mz,AC,p,g]
  omega
 rw[E.flat_set (by rw[<-h.len];exact r),<-C];show List.take (e*E.k) (q.toList.take (i*E.k)++E.cells n++q.toList.drop (i*E.k+E.k))=_;rw[xt,qh Y,List.take_append,jU (l:=q.toList.take (i*E.k)++E.cells n) (by simp only[jH,mz,p,g];omega),List.drop_take];simp only[jH,mz,p,g];rw[qh Y]
theorem C7{P:jX}{f:j0}{a:Act}{w:jh}{K:Act->jh->Prop}{m:Exit->Act->jh->Prop}(j:jI)(x y:qT)(o:f.op=.store j x y)
 {l:jb} {W:jh} {g n c i:jb} {d:jd α} (h:dx E l W w g n c d) (p:i<n) (e:α) (q:(P.info? j).map (·.size)=ja E.k)
 (r:a.eval x=jz (ja ⟨g,0+i*E.k,jc⟩)) (s:a.eval y=jn (E.cells e).toArray)
 (t:∀b,dx E l W b g n c (d.set i e)->(∀k,k≠g->b.heap[k]?=w.heap[k]?)->w.heap.size<=b.heap.size->K (a.put f.dst jN) b):f.wp P a w K m:=by
 obtain⟨b,k,u,v,z⟩:=h.store p e j q;unfold Oper.wp execOp;simp only[o,r,s,Instr.storeAt,Instr.sureAddr,Sem.run_bind,Sem.run_pure,Result.andThen_ok,k];exact t b u v z
theorem dx.clear{P:jX}{q:jb}{g n c i:jb}{d:jd α}(h:dx E q w W g n c d)(B:i<n)(t e:jI)(C:P.underlying t=ja (.slice e))(z:α)(D:∀w,(zeroValue e).run P w=.ok (jn (E.cells z).toArray) w):
 ∃r,(∀s,(Builtin.clear_ #[t] s #[jg (ja ⟨g,0+i*E.k,jc⟩) (n-i) (c-i)]).run P W=.ok (jE #[]) r)/\dx E q w r g i c (d.take i):=by
 obtain⟨U,F⟩:=h.own
 rcases F with⟨o,_⟩|⟨g',V,a,o,u,x,H,K,f,M⟩
 ·cases o
 injection o with b X Q
 injection b with b
 injection b with b
 subst b;subst Q;have y:a.toList.length=c*E.k:=by rw[qf];exact f
 have p:(Builtin.zeroCells (E.cells z).toArray (n-i)).toList.length=(n-i)*E.k:=by
  rw[qf,size_zeroCells,jJ,E.len]
 obtain⟨Z,k⟩:=J ((Builtin.zeroCells (E.cells z).toArray (n-i)).toList);have R:∀v∈Z,v.oneCell'=jm:=by
  intro v l;rw[k]at l;unfold Builtin.zeroCells at l;rw[Array.toList_map]at l;obtain⟨j,-,rfl⟩:=jO.1 l;have f:j%(E.cells z).toArray.size<(E.cells z).toArray.size:=qM _ (by rw[jJ,E.len];exact E.pos);rw[getElem!_pos (E.cells z).toArray _ f];exact E.one z _ ar
 rw[<-k]at p;have aa:(n-i)*E.k=n*E.k-i*E.k:=Nat.sub_mul n i E.k;have ad:n*E.k<=c*E.k:=qo _ H;have au:i*E.k<=n*E.k:=qo _ (xq B);have j:(storeCells ⟨g,i*E.k,jc⟩ Z 0).run P W=.ok () (W.setRow g (a.toList.take (i*E.k)++Z++a.toList.drop (i*E.k+Z.length)).toArray):=
  run_storeCells_at (P:=P) g (i*E.k) E.t Z 0 a W x (by rw[p,f];omega) R
 refine⟨W.setRow g (a.toList.take (i*E.k)++Z++a.toList.drop (i*E.k+Z.length)).toArray,?_,⟨⟨by rw[E.flat_length,mz,<-h.len,qh Y],.inr ⟨g,c,(a.toList.take (i*E.k)++Z++a.toList.drop (i*E.k+Z.length)).toArray,I,u,jR _ _ _ _ _ _ x,by omega,K,?_,?_⟩⟩,by rw[mz,<-h.len,qh Y],iR h.bel u _,h.sz⟩⟩
 ·obtain⟨m,l⟩:∃m,n-i=m+1:=⟨n-i-1,by omega⟩
  have S:(xl (E.cells z).toArray).cells=(E.cells z).toArray:=I;intro s;rw[jM];rw[l]at k⊢;simp[Builtin.clear_,wx C,D,S,<-k,j]
 ·simp only[jJ,jH,mz,AC,y,p]
  omega
 show List.take (i*E.k) (a.toList.take (i*E.k)++Z++a.toList.drop (i*E.k+Z.length))=_;rw[E.flat_take,<-M,xt,n0,List.take_append_of_le_length (by simp only[mz,y];omega),xt,Nat.min_self,qh Y]
end
theorem eh{p q:Prop}(k:q)(h:q->p:=by intro k;refine ei (v:=?_) (by rfl) ?_ ?_;rotate_left;(go_simp;with_reducible rfl);refine G ?_;exact k):p:=h k
end
section
variable{p:aK->jF}{d:ap->jF}{a:jD jj}{F b:jb}{t:jh->Prop}
open Go.RowKit Go.Maps Go.Sort
theorem Dn{P:jX}(t e:jI)(k:jb)(b:P.underlying t=ja (.slice e))(d:∀w,(sizeOf e).run P w=.ok k w)(g o n c l:jb)(f:l<=n)(i:n<=c):
 ∃a,(0<n-l->a=⟨g,o+l*k,jc⟩)/\∀W,(Instr.sliceAt t (jg (ja ⟨g,o,jc⟩) n c) (ja (T A (l:N))) jc jc).run P W=.ok (jg (ja a) (n-l) (c-l)) W:=by
 have he:P.elem t=e:=by simp[Program.elem,b]
 refine⟨if c=l then⟨g,o,jc⟩else⟨g,o+l*k,jc⟩,λh=>by rw[jw Y],λW=>?_⟩;rw[run_sliceAt_slice W t _ _ _ _ (by rw[he];exact b),run_slice_l W t _ n c (by rw[he];exact b) .i64 _ Y Y,he];simp[d,Result.andThen,sliced,Addr.add]
 by_cases h:c=l
 ·simp[h]
 simp[h]
theorem Fi{P:jX}(t e:jI)(k:jb)(a:P.underlying t=ja (.slice e))(b:∀w,(sizeOf e).run P w=.ok k w)(g o n c h:jb)(d:h<=c)(W:jh):
 (Instr.sliceAt t (jg (ja ⟨g,o,jc⟩) n c) jc (ja (T A (h:N))) jc).run P W=.ok (jg (ja ⟨g,o,jc⟩) h c) W:=by
 have he:P.elem t=e:=by simp[Program.elem,a]
 rw[run_sliceAt_slice W t _ _ _ _ (by rw[he];exact a),run_slice_h W t _ n c (by rw[he];exact a) .i64 _ Y Y,he];simp[b,Result.andThen,sliced,Addr.add]
section
variable {α:Type}
structure fV(E:EK α)(F:jb)(caps:jD jj)(a:jb)(b:jh->Prop)(p:α->jF):Prop where
 enter:∀args w,(p6 F args).run jl w=.ok (.enter F args) w
 keep:∀w w',a<=w.heap.size->b w->jk a w w'->b w'
 call:∀x w,a<=w.heap.size->b w->jq jl F (#[jn (E.cells x).toArray]++caps) w λe w'=>e=jp (.bool (p x))/\jk w w w'
def mX(p:α->jF)(l:jd α)(r:N):Prop:=(r= -1/\∀x∈l,p x=ji)\/∃(k:jb) (x:α),r=k/\l[k]?=ja x/\p x=jm/\∀y∈l.take k,p y=ji
theorem mX.any{p:α->jF}{l:jd α}{r:N}(h:mX p l r):decide (0<=r)=l.any p:=by
 rcases h with⟨rfl,h⟩|⟨k,x,rfl,a,b,d⟩
 ·have:l.any p=ji:=by rw[ql];intro x c;rw[h x c];simp
  rw[this];decide
 have:l.any p=jm:=r7.2 ⟨x,j1 a,b⟩;rw[this];simp
theorem wH{p:α->jF}{l:jd α}(h:∀x∈l,p x=ji):l.filter (λx=> !p x)=l:=
 List.filter_eq_self.2 λx a=>by rw[h x a];rfl
end
def Ed:ap:=⟨0,0,0,0,0⟩
def EM:EK aK:=⟨aK.cells,3,107,by decide,λ_=>rfl,λx v a=>by simp[aK.cells]at a;rcases a with rfl|rfl|rfl<;>rfl⟩
def EC:EK ap:=⟨ap.cells,5,62,by decide,λ_=>rfl,λx v a=>by simp[ap.cells]at a;rcases a with rfl|rfl|rfl|rfl|rfl<;>rfl⟩
theorem L6:(jl.info? 107).map (·.size)=ja 3:=by kernel_rfl
theorem O4:(jl.info? 62).map (·.size)=ja 5:=by kernel_rfl
theorem Cs:(jl.info? 107).map (λi=>(i.zero,i.size,i.bytes))=ja (ja (jn #[T A 0,T A 0,T A 0]),3,24):=by kernel_rfl
theorem QZ:(jl.info? 62).map (λi=>(i.zero,i.size,i.bytes))=ja (ja (jn #[T A 0,T A 0,T A 0,T A 0,T A 0]),5,40):=by kernel_rfl
theorem ov{P:jX}{t:jI}{z:jj}(h:(P.info? t).map (λi=>(i.zero,i.size,i.bytes))=ja (ja z,F,b)):∃i,P.info? t=ja i/\i.zero=ja z/\i.size=F/\i.bytes=b:=by
 cases hi:P.info? t with
 |none=>rw[hi]at h;cases h
 |some i=>
  rw[hi]at h;simp only[xk,Option.some.injEq,Prod.mk.injEq]at h;exact⟨i,I,h.1,h.2.1,h.2.2⟩
theorem zW(caps:fV EM F a b t p)(l:jd aK)(v:jj)(w:jh)(h:EM.At w v l)(d:t w)(g:b<=w.heap.size)(K:l.length<=1000000):
 jq jl 92 #[v,.func (.func F) #[] a] w λe w'=>∃r,e=jp (T A r)/\mX p l r/\jk w w w':=by
 obtain⟨q,c,rfl,M,-⟩:=h.form;have u:=O h;have EG:=caps.enter;have z:=O caps;have P:=O d;have f:=O g;obtain⟨n,s⟩:=J l.length;have B:=O s;rw[<-s]at K M u⊢;clear h s caps d g
 go_enter func92,ntmps92
 go_wp2_with fail
 go_loopw [8] (λi wr=>∃k:jb,i=T A k/\k<=n/\jf (∀y∈l.take k,p y=ji)/\jf (jk w w wr)) (λi _=>n-(jv i).toNat)
 case atStart=>exact⟨0,I,j6 _,O ar,O (jK _ _)⟩
 obtain⟨k,rfl,hk,i,caps⟩:=hrel
 by_cases Q:k<n
 ·have R:=aw ((k:N)<(n:N))
  have S:=aw (k<n);obtain⟨e,he,x⟩:=dN (l:=l) (j:=k) (by rw[<-B];exact Q);obtain⟨g,o,rfl,d⟩:=(u.cells).2.2 Y;have s:=O (z.call e wr (jL f caps.size) (z.keep _ _ f.out P (caps.mono f)));obtain⟨r,m⟩:=J (p e);rw[<-m]at s;have C:=O m;have U:=O x;have V:=O he;obtain⟨D,E,H⟩:=e;have W:wr.cell? ⟨g,o+k*3,jc⟩=ja (T A D):=aD (d k _ he 0 _ I) caps;have X:wr.cell? ⟨g,o+k*3+1,jc⟩=ja (T A E):=aD (d k _ he 1 _ I) caps;have c2:wr.cell? ⟨g,o+k*3+2,jc⟩=ja (T A H):=aD (d k _ he 2 _ I) caps;replace s:jf (jq jl F (#[jn #[T A D,T A E,T A H]]++a) wr λe w'=>e=jp (.bool r)/\jk wr wr w'):=s;clear d he x m
  go_wp2_with fail
  refine(s).mono ?_;rintro x w1 ⟨rfl,d⟩;have m:=ah caps d;clear d s W X c2
  rcases r with _|_
  ·go_wp2_with fail
   exact⟨⟨k+1,by go_num,by omega,O (by
    rw[U];intro y s
    rcases pz.1 s with s|s
    ·exact i y s
    rw[qx]at s;rw[s];exact C.symm),m⟩,by simp only[jv];omega⟩
  go_wp2_with fail
  go_ret;exact⟨_,I,.inr ⟨k,_,I,V,C.symm,i⟩,m⟩
 have R:=az ((k:N)<(n:N));have S:=az (k<n);obtain rfl:k=n:=Y
 go_wp2_with fail
 go_ret;exact⟨_,I,.inl ⟨I,by have h:=i.out;rw[jU (by rw[<-B];exact ju _)]at h;exact h⟩,caps⟩
theorem Aq(i:fV EM F a b t p)(l:jd aK)(v:jj)(w:jh)(h:EM.At w v l)(c:t w)(d:b<=w.heap.size)(f:l.length<=1000000):
 jq jl 54 #[v,.func (.func F) #[] a] w λe w'=>e=jp (.bool (l.any p))/\jk w w w':=by
 have g:=O (zW i l v w h c d f);clear h c d f
 go_enter func54,ntmps54
 go_wp2_with fail
 refine(g).mono ?_;rintro x j ⟨r,rfl,c,d⟩;have f:=O c.any;have h:=O d;clear c d g
 go_wp2_with fail
 go_ret;exact⟨iB f,h⟩
theorem PI(l:jd aK)(v:jj)(w:jh)(d:EM.At w v l)(q:l.length<=1000000):
 jq jl 41 #[v] w λe w'=>∃h,e=jp h/\w'.ownsRow w EM.t EM.k h l.length (EM.flat l)/\jk w w w':=by
 obtain⟨p,c,rfl,r,i⟩:=d.form;obtain⟨s,t,u,x,y⟩:=ov Cs;have E:∀(w:jh) (a:jP j7) (n c n' f:jb),(binOp .eql 36 (jg a n c) (jg jc n' f)).run jl w=.ok (.bool a.isNone) w:=λw a n c n' f=>Lib.run_eql_slice_nil w _ _ a n c n' f qF
 rcases p with _|a
 ·have j:=i I
  have b:l.length=0:=Y;have g:l=[]:=AX.1 b;subst g
  go_enter func41,ntmps41
  go_wp2_with fail
  go_ret;exact⟨_,I,nn _ _ _ _,jK _ _⟩
 obtain⟨n,j⟩:=J l.length;have b:=O (d.below (ao w (je #[] EM.t)));have g:=O (Bm (base:=w.heap.size) (size:=EM.k) (e:=EM.t) w #[] 0 (ju _) (by unfold qa;omega) ar);have k:=O (ao w (je #[] EM.t));unfold EK.At at b;rw[<-j]at r q b⊢;clear d j i
 go_enter func41,ntmps41
 go_wp2_with (at_builtin;refine Hid.out ?_)
 refine O ?_;refine j3 I λ_ i=>?_
 refine IJ _ _ 36 I w.heap.size 107 s (jn #[T A 0,T A 0,T A 0]) 3 24 qF t u x y I L _ _ _ I g _ _ _ I b (EM.flat_one' _) (by unfold qa;omega) Y (by rw[j8];omega) ?_;intro z m d o;have B:jf (m.ownsRow w EM.t EM.k z n (EM.flat l)):=O (by rw[jM]at d;exact d);have C:jf (jk w w m):=O (k.grown o (by rw[j8];omega) (λj D=>by have:=(g.lt j D).1;omega));clear d o g k b;refine i _ _ ?_;clear i
 go_wp2_with fail
 go_ret;exact⟨_,I,B,C⟩
theorem N9(caps:fV EM F a b t p)(l:jd aK)(g n c:jb)(w:jh)(h:dx EM b w w g n c l)(d:t w)(hl:n<=1000000):
 jq jl 40 #[jg (ja ⟨g,0,jc⟩) n c,.func (.func F) #[] a] w λe w'=>∃n',e=jp (jg (ja ⟨g,0,jc⟩) n' c)/\dx EM b w w' g n' c (l.filter λx=> !p x):=by
 have i:=O h;have j:=O (zW caps l (jg (ja ⟨g,0,jc⟩) n c) w h.at d h.sz (by rw[<-h.len];exact hl));have a1:=h.cap;have C:=O h.len;have EG:=caps.enter;have HP:=O caps;have a2:=O d;have U8:=O h.sz;clear h caps d
 go_enter func40,ntmps40
 go_wp2_with fail
 refine(j).mono ?_;rintro e w1 ⟨r,rfl,o,f⟩;have au:=O (i.later f);clear f j i
 rcases o with⟨rfl,ax⟩|⟨k,e,rfl,he,d,i⟩
 ·have caps:=O (wH ax)
  clear ax
  go_wp2_with fail
  go_ret;exact⟨_,I,by rw[caps];exact au⟩
 have a3:k<n:=by rw[C];exact(o8.1 he).1
 have a4:jf (l.take k=(l.take (k+1)).filter (λx=> !p x)):=O (by
  obtain⟨m,caps,q⟩:=dN (l:=l) (j:=k) (by rw[<-C];exact a3);rw[he]at caps;injection caps with caps
  subst caps;rw[q,qy,wH i,r9 (by rw[d];simp),qz,ob])
 have bd:decide ((k:N)= -1)=ji:=by simp
 have hd2:((k:N)== -1)=ji:=by simp
 clear he d i
 go_wp2_with fail
 go_loopw [5,6] (λm caps wr=>∃(i j:jb) (d:jd aK),m=T A i/\caps=T A j/\i<j/\j<=n/\jf (d.take i=(l.take j).filter (λx=> !p x))/\jf (d.drop j=l.drop j)/\jf (dx EM b w wr g n c d)) (λ_ caps _=>n-(jv caps).toNat)
 case atStart=>exact⟨k,k+1,l,I,by go_num,by omega,by omega,a4,O rfl,au⟩
 obtain⟨i,j,d,rfl,rfl,a5,hj,B,M,m⟩:=hrel
 by_cases Q:j<n
 case neg=>
  obtain rfl:j=n:=Y;have hd:=decide_eq_false (show ¬((j:N)<(j:N)) by omega);have UL:=decide_eq_false Q;obtain⟨E,s,z⟩:=Dn (P:=jl) 36 107 3 qF sizeOf107 g 0 j c i Y a1;rw[s Y,jM]at z;have H:=Fi (P:=jl) 36 107 3 qF sizeOf107 g 0 j c i Y;obtain⟨v,caps,u⟩:=m.clear (P:=jl) a5 36 107 qF da zeroValue107;rw[jM]at caps;have D:jf (dx EM b w v g i c (l.filter λx=> !p x)):=O (by
   have y:=B.out;rw[jU (l:=l) (by rw[<-C];exact ju _)]at y;rw[<-y];exact u)
  replace caps:∀y,(Builtin.clear_ #[36] y #[jg (ja ⟨g,i*3,jc⟩) (j-i) (c-i)]).run jl wr=.ok (jE #[]) v:=caps;clear u s
  go_wp2_with fail
  go_ret;exact⟨_,I,D⟩
 have hd:=jS (show((j:N)<(n:N)) by omega);have UL:=jS Q;obtain⟨e,he,q⟩:=dN (l:=l) (j:=j) (by rw[<-C];exact Q);have D:d[j]?=ja e:=by
  have h:=js (λz:jd aK=>z[0]?) M;simp only[Bn,sh]at h;rw[h];exact he
 have R:d.drop (j+1)=l.drop (j+1):=by
  have h:=js (List.drop 1) M;rw[sn,sn]at h;exact h
 have a6:i<n:=Y;have ba:=m.len;have z:jf (p e=jm->d.take i=(l.take (j+1)).filter (λx=> !p x)):=O λS=>by
  rw[q,qy,r9 (by rw[S];simp),qz,ob];exact B
 have E:jf (p e=ji->(d.set i e).take (i+1)=(l.take (j+1)).filter (λx=> !p x)):=O λS=>by
  rw[q,qy,CF (by rw[S];rfl),qz,<-B,qv (by rw[r8];omega),D1,xf (ju _)]
 have ay:jf ((d.set i e).drop (j+1)=l.drop (j+1)):=O (by rw[xg Y];exact R);have Yu:=O R;obtain⟨ga,oa,U,H⟩:=(m.at.cells).2.2 Y;injection U with U
 injection U with bb bc
 subst bb;subst bc;have V:=ao wr (je (EM.cells e).toArray 107);have X:=jy wr (je (EM.cells e).toArray 107);obtain⟨r,o⟩:=J (p e);have K:jf (∀W,b<=W.heap.size->t W->jq jl F (#[jn (EM.cells e).toArray]++a) W λx w'=>x=jp (.bool r)/\jk W W w'):=O (by rw[o];exact HP.call e);have HR:=O o;obtain⟨B0,aa⟩:∃y:aK,y=e:=⟨_,I⟩;have ad:=O aa;rw[<-aa]at z E ay HR V X;have HA:=O V;have caps:=O X;obtain⟨s,v,u⟩:=e;have c0:wr.cell? ⟨g,j*3,jc⟩=ja (T A s):=by have h:=H j _ D 0 _ I;rw[jM]at h;exact h
 have c1:wr.cell? ⟨g,j*3+1,jc⟩=ja (T A v):=by have h:=H j _ D 1 _ I;rw[jM]at h;exact h
 have c2:wr.cell? ⟨g,j*3+2,jc⟩=ja (T A u):=by have h:=H j _ D 2 _ I;rw[jM]at h;exact h
 replace K:jf (∀W,b<=W.heap.size->t W->jq jl F (#[jn #[T A s,T A v,T A u]]++a) W λx w'=>x=jp (.bool r)/\jk W W w'):=K;clear he q D R ba B M H o V X aa
 go_upto_region 8 with fail
 obtain⟨B,f⟩:=J wr.heap.size;have M:wr.alloc (je #[T A s,T A v,T A u] 107)=wr.alloc (je (EM.cells B0).toArray 107):=by rw[ad];rfl
 rw[M,<-f];rw[<-f]at caps;obtain⟨H,R⟩:=J (wr.alloc (je (EM.cells B0).toArray 107));rw[<-R]at HA caps⊢;have D:=O (m.later HA);have aa:B<H.heap.size:=(jG.1 caps).1;have ba:g≠B:=by have:=m.lt;omega
 have V:=O (HP.keep _ _ U8.out a2 D.bel);have W:jf (b<=H.heap.size):=O (jL U8 D.bel.size);rw[ad]at caps;replace caps:jf (H.heap[B]?=ja (je #[T A s,T A v,T A u] 107 (0,0))):=caps;have X:=ai (i:=0) caps I;have b1:=ai (i:=1) caps I;have b2:=ai (i:=2) caps I;clear M f R m HA c0 c1 c2
 go_wp2_with fail
 refine(K _ W.out V).mono ?_;rintro x R ⟨rfl,f⟩;have M:=O (D.later f);have m:=O ((f.block B aa).trans caps);clear K D caps f V W X b1 b2
 cases r with
 |true=>
  have caps:=O (z HR.symm);clear z E
  go_wp2_with fail
  exact⟨⟨i,j+1,d,I,by go_num,by omega,by omega,caps,Yu,M⟩,by simp only[jv];omega⟩
 |false=>
  have caps:=O (E HR.symm);clear z E;have X:=ai (i:=0) m I;have b1:=ai (i:=1) m I;have b2:=ai (i:=2) m I;have hd3:=jS (show((i:N)<(n:N)) by omega)
  go_wp2_with (refine j3 I λ_ f=>C7 107 _ _ I M a6 ⟨s,v,u⟩ L6 (by rw[jM];rfl) I λz D E K=>f _ _ ?_)
  have f:jf (dx EM b w z g n c (d.set i B0)):=O (by rw[ad];exact D);exact⟨⟨i+1,j+1,d.set i B0,by go_num,by go_num,by omega,by omega,caps,ay,f⟩,by simp only[jv];omega⟩
theorem AU(caps:fV EC F a b t d)(l:jd ap)(v:jj)(w:jh)(h:EC.At w v l)(p:t w)(g:b<=w.heap.size)(P:l.length<=1000000):
 jq jl 91 #[v,.func (.func F) #[] a] w λe w'=>∃r,e=jp (T A r)/\mX d l r/\jk w w w':=by
 obtain⟨q,c,rfl,Q,-⟩:=h.form;have u:=O h;have EG:=caps.enter;have z:=O caps;have R:=O p;have f:=O g;obtain⟨n,s⟩:=J l.length;have B:=O s;rw[<-s]at P Q u⊢;clear h s caps p g
 go_enter func91,ntmps91
 go_wp2_with fail
 go_loopw [8] (λi wr=>∃k:jb,i=T A k/\k<=n/\jf (∀y∈l.take k,d y=ji)/\jf (jk w w wr)) (λi _=>n-(jv i).toNat)
 case atStart=>exact⟨0,I,j6 _,O ar,O (jK _ _)⟩
 obtain⟨k,rfl,hk,i,caps⟩:=hrel
 by_cases S:k<n
 ·have U:=aw ((k:N)<(n:N))
  have V:=aw (k<n);obtain⟨e,he,x⟩:=dN (l:=l) (j:=k) (by rw[<-B];exact S);obtain⟨g,o,rfl,s⟩:=(u.cells).2.2 Y;have p:=O (z.call e wr (jL f caps.size) (z.keep _ _ f.out R (caps.mono f)));obtain⟨r,m⟩:=J (d e);rw[<-m]at p;have C:=O m;have W:=O x;have X:=O he;obtain⟨D,E,H,K,M⟩:=e;have c0:wr.cell? ⟨g,o+k*5,jc⟩=ja (T A D):=aD (s k _ he 0 _ I) caps;have c1:wr.cell? ⟨g,o+k*5+1,jc⟩=ja (T A E):=aD (s k _ he 1 _ I) caps;have c2:wr.cell? ⟨g,o+k*5+2,jc⟩=ja (T A H):=aD (s k _ he 2 _ I) caps;have c3:wr.cell? ⟨g,o+k*5+3,jc⟩=ja (T A K):=aD (s k _ he 3 _ I) caps;have c4:wr.cell? ⟨g,o+k*5+4,jc⟩=ja (T A M):=aD (s k _ he 4 _ I) caps;replace p:jf (jq jl F (#[jn #[T A D,T A E,T A H,T A K,T A M]]++a) wr λe w'=>e=jp (.bool r)/\jk wr wr w'):=p;clear s he x m
  go_wp2_with fail
  refine(p).mono ?_;rintro x w1 ⟨rfl,s⟩;have m:=ah caps s;clear s p c0 c1 c2 c3 c4
  rcases r with _|_
  ·go_wp2_with fail
   exact⟨⟨k+1,by go_num,by omega,O (by
    rw[W];intro y s
    rcases pz.1 s with s|s
    ·exact i y s
    rw[qx]at s;rw[s];exact C.symm),m⟩,by simp only[jv];omega⟩
  go_wp2_with fail
  go_ret;exact⟨_,I,.inr ⟨k,_,I,X,C.symm,i⟩,m⟩
 have U:=az ((k:N)<(n:N));have V:=az (k<n);obtain rfl:k=n:=Y
 go_wp2_with fail
 go_ret;exact⟨_,I,.inl ⟨I,by have h:=i.out;rw[jU (by rw[<-B];exact ju _)]at h;exact h⟩,caps⟩
theorem Bq(i:fV EC F a b t d)(l:jd ap)(v:jj)(w:jh)(h:EC.At w v l)(c:t w)(p:b<=w.heap.size)(f:l.length<=1000000):
 jq jl 38 #[v,.func (.func F) #[] a] w λe w'=>e=jp (.bool (l.any d))/\jk w w w':=by
 have g:=O (AU i l v w h c p f);clear h c p f
 go_enter func38,ntmps38
 go_wp2_with fail
 refine(g).mono ?_;rintro x j ⟨r,rfl,c,p⟩;have f:=O c.any;have h:=O p;clear c p g
 go_wp2_with fail
 go_ret;exact⟨iB f,h⟩
theorem Iq(l:jd ap)(v:jj)(w:jh)(d:EC.At w v l)(q:l.length<=1000000):
 jq jl 75 #[v] w λe w'=>∃h,e=jp h/\w'.ownsRow w EC.t EC.k h l.length (EC.flat l)/\jk w w w':=by
 obtain⟨p,c,rfl,r,i⟩:=d.form;obtain⟨s,t,u,x,y⟩:=ov QZ;have E:∀(w:jh) (a:jP j7) (n c n' f:jb),(binOp .eql 42 (jg a n c) (jg jc n' f)).run jl w=.ok (.bool a.isNone) w:=λw a n c n' f=>Lib.run_eql_slice_nil w _ _ a n c n' f qG
 rcases p with _|a
 ·have j:=i I
  have b:l.length=0:=Y;have g:l=[]:=AX.1 b;subst g
  go_enter func75,ntmps75
  go_wp2_with fail
  go_ret;exact⟨_,I,nn _ _ _ _,jK _ _⟩
 obtain⟨n,j⟩:=J l.length;have b:=O (d.below (ao w (je #[] EC.t)));have g:=O (Bm (base:=w.heap.size) (size:=EC.k) (e:=EC.t) w #[] 0 (ju _) (by unfold qa;omega) ar);have k:=O (ao w (je #[] EC.t));unfold EK.At at b;rw[<-j]at r q b⊢;clear d j i
 go_enter func75,ntmps75
 go_wp2_with (at_builtin;refine Hid.out ?_)
 refine O ?_;refine j3 I λ_ i=>?_
 refine IJ _ _ 42 I w.heap.size 62 s (jn #[T A 0,T A 0,T A 0,T A 0,T A 0]) 5 40 qG t u x y I L _ _ _ I g _ _ _ I b (EC.flat_one' _) (by unfold qa;omega) Y (by rw[j8];omega) ?_;intro z m d o;have B:jf (m.ownsRow w EC.t EC.k z n (EC.flat l)):=O (by rw[jM]at d;exact d);have C:jf (jk w w m):=O (k.grown o (by rw[j8];omega) (λj D=>by have:=(g.lt j D).1;omega));clear d o g k b;refine i _ _ ?_;clear i
 go_wp2_with fail
 go_ret;exact⟨_,I,B,C⟩
theorem MO(caps:fV EC F a b t d)(l:jd ap)(g n c:jb)(w:jh)(h:dx EC b w w g n c l)(p:t w)(hl:n<=1000000):
 jq jl 74 #[jg (ja ⟨g,0,jc⟩) n c,.func (.func F) #[] a] w λe w'=>∃n',e=jp (jg (ja ⟨g,0,jc⟩) n' c)/\dx EC b w w' g n' c (l.filter λx=> !d x):=by
 have i:=O h;have j:=O (AU caps l (jg (ja ⟨g,0,jc⟩) n c) w h.at p h.sz (by rw[<-h.len];exact hl));have a1:=h.cap;have H:=O h.len;have EG:=caps.enter;have HP:=O caps;have a2:=O p;have U8:=O h.sz;clear h caps p
 go_enter func74,ntmps74
 go_wp2_with fail
 refine(j).mono ?_;rintro e w1 ⟨r,rfl,s,f⟩;have au:=O (i.later f);clear f j i
 rcases s with⟨rfl,ax⟩|⟨k,e,rfl,he,p,i⟩
 ·have caps:=O (wH ax)
  clear ax
  go_wp2_with fail
  go_ret;exact⟨_,I,by rw[caps];exact au⟩
 have a3:k<n:=by rw[H];exact(o8.1 he).1
 have a4:jf (l.take k=(l.take (k+1)).filter (λx=> !d x)):=O (by
  obtain⟨m,caps,E⟩:=dN (l:=l) (j:=k) (by rw[<-H];exact a3);rw[he]at caps;injection caps with caps
  subst caps;rw[E,qy,wH i,r9 (by rw[p];simp),qz,ob])
 have bd:decide ((k:N)= -1)=ji:=by simp
 have hd2:((k:N)== -1)=ji:=by simp
 clear he p i
 go_wp2_with fail
 go_loopw [5,6] (λm caps wr=>∃(i j:jb) (p:jd ap),m=T A i/\caps=T A j/\i<j/\j<=n/\jf (p.take i=(l.take j).filter (λx=> !d x))/\jf (p.drop j=l.drop j)/\jf (dx EC b w wr g n c p)) (λ_ caps _=>n-(jv caps).toNat)
 case atStart=>exact⟨k,k+1,l,I,by go_num,by omega,by omega,a4,O rfl,au⟩
 obtain⟨i,j,p,rfl,rfl,a5,hj,B,R,m⟩:=hrel
 by_cases S:j<n
 case neg=>
  obtain rfl:j=n:=Y;have hd:=decide_eq_false (show ¬((j:N)<(j:N)) by omega);have UL:=decide_eq_false S;obtain⟨C,o,y⟩:=Dn (P:=jl) 42 62 5 qG sizeOf62 g 0 j c i Y a1;rw[o Y,jM]at y;have D:=Fi (P:=jl) 42 62 5 qG sizeOf62 g 0 j c i Y;obtain⟨q,caps,u⟩:=m.clear (P:=jl) a5 42 62 qG Ed zeroValue62;rw[jM]at caps;have z:jf (dx EC b w q g i c (l.filter λx=> !d x)):=O (by
   have v:=B.out;rw[jU (l:=l) (by rw[<-H];exact ju _)]at v;rw[<-v];exact u)
  replace caps:∀v,(Builtin.clear_ #[42] v #[jg (ja ⟨g,i*5,jc⟩) (j-i) (c-i)]).run jl wr=.ok (jE #[]) q:=caps;clear u o
  go_wp2_with fail
  go_ret;exact⟨_,I,z⟩
 have hd:=jS (show((j:N)<(n:N)) by omega);have UL:=jS S;obtain⟨e,he,E⟩:=dN (l:=l) (j:=j) (by rw[<-H];exact S);have o:p[j]?=ja e:=by
  have h:=js (λz:jd ap=>z[0]?) R;simp only[Bn,sh]at h;rw[h];exact he
 have U:p.drop (j+1)=l.drop (j+1):=by
  have h:=js (List.drop 1) R;rw[sn,sn]at h;exact h
 have a6:i<n:=Y;have ba:=m.len;have K:jf (d e=jm->p.take i=(l.take (j+1)).filter (λx=> !d x)):=O λV=>by
  rw[E,qy,r9 (by rw[V];simp),qz,ob];exact B
 have M:jf (d e=ji->(p.set i e).take (i+1)=(l.take (j+1)).filter (λx=> !d x)):=O λV=>by
  rw[E,qy,CF (by rw[V];rfl),qz,<-B,qv (by rw[r8];omega),D1,xf (ju _)]
 have ay:jf ((p.set i e).drop (j+1)=l.drop (j+1)):=O (by rw[xg Y];exact U);have Yu:=O U;obtain⟨ga,oa,X,q⟩:=(m.at.cells).2.2 Y;injection X with X
 injection X with bb bc
 subst bb;subst bc;have hA:=ao wr (je (EC.cells e).toArray 62);have hX:=jy wr (je (EC.cells e).toArray 62);obtain⟨r,s⟩:=J (d e);have Q:jf (∀W,b<=W.heap.size->t W->jq jl F (#[jn (EC.cells e).toArray]++a) W λx w'=>x=jp (.bool r)/\jk W W w'):=O (by rw[s];exact HP.call e);have HR:=O s;obtain⟨B0,aa⟩:∃y:ap,y=e:=⟨_,I⟩;have ad:=O aa;rw[<-aa]at K M ay HR hA hX;have HA:=O hA;have caps:=O hX;obtain⟨u,v,z,C,D⟩:=e;have c0:wr.cell? ⟨g,j*5,jc⟩=ja (T A u):=by have h:=q j _ o 0 _ I;rw[jM]at h;exact h
 have c1:wr.cell? ⟨g,j*5+1,jc⟩=ja (T A v):=by have h:=q j _ o 1 _ I;rw[jM]at h;exact h
 have c2:wr.cell? ⟨g,j*5+2,jc⟩=ja (T A z):=by have h:=q j _ o 2 _ I;rw[jM]at h;exact h
 have c3:wr.cell? ⟨g,j*5+3,jc⟩=ja (T A C):=by have h:=q j _ o 3 _ I;rw[jM]at h;exact h
 have c4:wr.cell? ⟨g,j*5+4,jc⟩=ja (T A D):=by have h:=q j _ o 4 _ I;rw[jM]at h;exact h
 replace Q:jf (∀W,b<=W.heap.size->t W->jq jl F (#[jn #[T A u,T A v,T A z,T A C,T A D]]++a) W λx w'=>x=jp (.bool r)/\jk W W w'):=Q;clear he E o U ba B R q s hA hX aa
 go_upto_region 8 with fail
 obtain⟨B,f⟩:=J wr.heap.size;have R:wr.alloc (je #[T A u,T A v,T A z,T A C,T A D] 62)=wr.alloc (je (EC.cells B0).toArray 62):=by rw[ad];rfl
 rw[R,<-f];rw[<-f]at caps;obtain⟨q,U⟩:=J (wr.alloc (je (EC.cells B0).toArray 62));rw[<-U]at HA caps⊢;have o:=O (m.later HA);have aa:B<q.heap.size:=(jG.1 caps).1;have ba:g≠B:=by have:=m.lt;omega
 have W:=O (HP.keep _ _ U8.out a2 o.bel);have Vi:jf (b<=q.heap.size):=O (jL U8 o.bel.size);rw[ad]at caps;replace caps:jf (q.heap[B]?=ja (je #[T A u,T A v,T A z,T A C,T A D] 62 (0,0))):=caps;have b0:=ai (i:=0) caps I;have b1:=ai (i:=1) caps I;have b2:=ai (i:=2) caps I;have b3:=ai (i:=3) caps I;have b4:=ai (i:=4) caps I;clear R f U m HA c0 c1 c2 c3 c4
 go_wp2_with fail
 refine(Q _ Vi.out W).mono ?_;rintro x U ⟨rfl,m⟩;have R:=O (o.later m);have f:=O ((m.block B aa).trans caps);clear Q o caps m W Vi b0 b1 b2 b3 b4
 cases r with
 |true=>
  have caps:=O (K HR.symm);clear K M
  go_wp2_with fail
  exact⟨⟨i,j+1,p,I,by go_num,by omega,by omega,caps,Yu,R⟩,by simp only[jv];omega⟩
 |false=>
  have caps:=O (M HR.symm);clear K M;have b0:=ai (i:=0) f I;have b1:=ai (i:=1) f I;have b2:=ai (i:=2) f I;have b3:=ai (i:=3) f I;have b4:=ai (i:=4) f I;have hd3:=jS (show((i:N)<(n:N)) by omega)
  go_wp2_with (refine j3 I λ_ m=>C7 62 _ _ I R a6 ⟨u,v,z,C,D⟩ O4 (by rw[jM];rfl) I λo K M Q=>m _ _ ?_)
  have m:jf (dx EC b w o g n c (p.set i B0)):=O (by rw[ad];exact K);exact⟨⟨i+1,j+1,p.set i B0,by go_num,by go_num,by omega,by omega,caps,ay,m⟩,by simp only[jv];omega⟩
end

def Und(n a:N):Prop:=1<=a/\∃j:jb,n/2^j=a
noncomputable def lD(n a:N):jF:=by classical exact decide (Und n a)
theorem ue{B:N}(h:Und d B):lD d B=jm:=by unfold lD;simpa using h
theorem En{B:N}(h:¬Und d B):lD d B=ji:=by unfold lD;simpa using h
theorem zX(n a:N):lD n a=jm↔Und n a:=by unfold lD;simp
theorem rO(h:1<=d):Und d d:=⟨h,0,by simp⟩
theorem Ca:(bG t d).isSome=jm↔∃e∈t,e.1=d:=by
 unfold bG;rw[Option.isSome_map,List.find?_isSome];simp
theorem Cf:∀(k n:jb),1<=n->n<2^k->∀x:jb,(x∈n::(upL k n).map gV↔1<=x/\∃j,n/2^j=x)
 |0,n,d,c,x=>by simp at c;omega
 |k+1,n,d,c,x=>by
  by_cases g:1<n
  ·obtain⟨i,e,h,l⟩:=Ef g c
   obtain rfl:i=k:=Y;have m:=Cf i (n/2) Y l x;rw[h,qK,jT,show gV n=n/2 from I,m];have f:∀j,n/2^(j+1)=n/2/2^j:=λj=>by rw[Nat.pow_succ,qO,E2]
   constructor
   ·rintro(rfl|⟨b,j,a⟩)
    ·exact⟨d,0,by simp⟩
    exact⟨b,j+1,by rw[f];exact a⟩
   rintro⟨b,j,a⟩
   cases j with
   |zero=>exact .inl (ak a.symm)
   |succ j=>exact .inr ⟨b,j,by rw[<-f];exact a⟩
  have e:n=1:=Y;rw[Ft Y];subst e;simp only[List.map_nil,qx]
  constructor
  ·rintro rfl;exact⟨by omega,0,rfl⟩
  rintro⟨b,j,a⟩;have:1/2^j<=1:=Nat.div_le_self _ _;omega
theorem pf(d:N)(b:0<=d)(g:d<512)(x:N):x∈(512+d)::bU d↔Und (512+d) x:=by
 obtain⟨n,rfl⟩:=qg b;have h:=Cf 10 (512+n) Y Y;have e:(512+(n:N))::bU (n:N)=((512+n)::(upL 10 (512+n)).map gV).map λm:jb=>(m:N):=by
  simp[bU,kB]
 rw[e];simp only[jO,h];have c:∀j:jb,(512+(n:N))/2^j=(((512+n)/2^j:jb):N):=λj=>by
  rw[xu];push_cast;rfl
 unfold Und
 constructor
 ·rintro⟨y,⟨f,j,a⟩,rfl⟩
  exact⟨by omega,j,by rw[c,a]⟩
 rintro⟨f,j,a⟩;refine⟨(512+n)/2^j,⟨?_,j,I⟩,by rw[<-c];exact a⟩;rw[c]at a;omega
theorem Fz(a:jd N)(x:N):x∈fN a↔∃d∈a,x∈(512+d)::bU d:=by
 unfold fN;rw[yn]
def om(t:jd (N×N))(a:N):Prop:=∃e∈t,512<=e.1/\Und e.1 a
def rx(t:jd (N×N))(i:jb):Prop:=
 (t.getD i (0,0)).1<1\/1023<(t.getD i (0,0)).1\/(0<i/\(t.getD i (0,0)).1<=(t.getD (i-1) (0,0)).1)\/¬bP (t.getD i (0,0)).2\/¬om t (t.getD i (0,0)).1
theorem N5(h:d∈fN (cr t)):om t d:=by
 obtain⟨a,b,c⟩:=(Fz _ _).1 h;obtain⟨f,g,e,i,j⟩:=(oC _ _).1 b;exact⟨e,i,by omega,by rw[j];exact(pf a f g d).1 c⟩
theorem Ow(a:b<t.length)(h:rx t b):de t=210:=by
 refine nP (U:=fN (cr t)) I a ?_
 rcases h with h|h|h|h|h
 ·exact .inl h
 ·exact .inr (.inl h)
 ·exact .inr (.inr (.inl h))
 ·exact .inr (.inr (.inr (.inl h)))
 exact .inr (.inr (.inr (.inr (λi=>h (N5 i)))))
theorem PS(h:∀i,i<t.length->¬rx t i):de t=0:=by
 refine B2 (U:=fN (cr t)) I (λi d a=>?_);have b:=h i d
 rcases a with a|a|a|a|a
 ·exact b (.inl a)
 ·exact b (.inr (.inl a))
 ·exact b (.inr (.inr (.inl a)))
 ·exact b (.inr (.inr (.inr (.inl a))))
 refine b (.inr (.inr (.inr (.inr ?_))));rintro⟨e,he,m,f⟩;obtain⟨k,c,rfl⟩:=qk he;have g:=h k c;have j:t.getD k (0,0)=t[k]:=by simp[jQ,c]
 have n:¬1023<t[k].1:=λl=>g (.inr (.inl (by rw[j];exact l)))
 refine a ((Fz _ _).2 ⟨t[k].1-512,(oC _ _).2 ⟨by omega,by omega,t[k],he,by omega⟩,?_⟩);refine(pf _ Y Y _).2 ?_;rw[show 512+(t[k].1-512)=t[k].1 by omega];exact f
noncomputable def dL(t:jd (N×N))(d:N):jd (N×N):=t.filter λe=> !lD (512+d) e.1
def eo(z:N×N):jd (N×N)->jd (N×N)
 |[]=>[z]
 |x::r=>if z.1<x.1 then z::x::r else x::eo z r
theorem Hr(z:N×N):∀l,(eo z l).length=l.length+1
 |[]=>rfl
 |x::r=>by
  unfold eo
  split
  ·rfl
  simp[Hr z r]
theorem GM{s t:jd j}{x y:j}(h:s.take b=t.take b)(a:s.take (b+1)=s.take b++[x])(k:t.take (b+1)=t.take b++[y])(c:x=y):s.take (b+1)=t.take (b+1):=by
 rw[a,k,h,c]
theorem zU{s t:jd j}{x y:j}(h:s.take b=t.take b)(k:s.take (b+1)=s.take b++[x])(a:t.take (b+1)=t.take b++[y])(c:x≠y):s≠t:=by
 rintro rfl;rw[k]at a;exact c (ak a)
theorem Lt(s t:jd (N×N))(E v:jj)(w:jh)(Q:bJ w E s)(R:bJ w v t)(S:s.length<=1000000)(U:t.length<=1000000):
 jq jl 46 #[jn #[E],jn #[v]] w λe w'=>e=jp (.bool (decide (s=t)))/\jk w w w':=by
 obtain⟨p,c,rfl,V,-,d,f⟩:=Q;obtain⟨j,l,rfl,W,-,i,k⟩:=R;have b:jk w w ((w.alloc (je #[jg p s.length c] 39)).alloc (je #[jg j t.length l] 39)):=((jK _ w).alloc (ju _) _).alloc ar _;have X:=O d;have aa:=O f;have UH:=O i;have ad:=O k;obtain⟨F,a⟩:=J ((w.alloc (je #[jg p s.length c] 39)).alloc (je #[jg j t.length l] 39));have g:F.cell? ⟨w,0,jc⟩=ja (jg p s.length c):=by rw[a];unfold qA;rw[xV _ _ _ ar,jy];rfl
 have o:F.cell? ⟨w.heap.size+1,0,jc⟩=ja (jg j t.length l):=by
  rw[a];unfold qA;have h:=jy (w.alloc (je #[jg p s.length c] 39)) (je #[jg j t.length l] 39);rw[j8]at h;rw[h];rfl
 clear d f i k
 go_enter func46,ntmps46
 go_upto_region 1 with fail
 rw[<-a]at b⊢;have H:=O b;obtain⟨n,d⟩:=J s.length;obtain⟨m,f⟩:=J t.length;have x:=O d;have y:=O f;rw[<-d]at V S g⊢;rw[<-f]at W U o⊢;clear a b d f
 by_cases z:n=m
 case neg=>
  have a:((n:N)==(m:N))=ji:=by simp;omega
  have hd2:=az ((n:N)=(m:N));have hd3:decide (n=m)=ji:=ak z;have d:jf (decide (s=t)=ji):=O (decide_eq_false (λh=>z (by rw[x,y,h])));clear z
  go_wp2_with fail
  go_ret;exact⟨by rw[d];rfl,H⟩
 subst z
 go_wp2_with fail
 go_loopw [5] (λi wr=>∃k:jb,i=T A k/\k<=n/\jf (s.take k=t.take k)/\jf (jk w w wr)/\wr.cell? ⟨w,0,jc⟩=ja (jg p n c)/\wr.cell? ⟨w.heap.size+1,0,jc⟩=ja (jg j n l)) (λi _=>n-(jv i).toNat)
 case atStart=>exact⟨0,I,j6 _,O I,H,g,o⟩
 obtain⟨k,rfl,hk,B,f,au,ax⟩:=hrel;clear g o
 by_cases K:k<n
 ·have hd:=aw ((k:N)<(n:N))
  have UL:=aw (k<n);obtain⟨g,o,rfl,i⟩:=X.out (by rw[<-x];omega);obtain⟨g2,o2,rfl,u⟩:=UH.out (by rw[<-y];omega);obtain⟨a,q,ay,a1,-,-,-,M,-⟩:=tJ i aa.out (by rw[<-x];exact K) f;obtain⟨b,r,a2,a3,-,-,-,P,-⟩:=tJ u ad.out (by rw[<-y];exact K) f;have C:=O M;have D:=O P;clear i u M P
  by_cases i:a=b
  case neg=>
   have d:jf (decide (s=t)=ji):=O (decide_eq_false (zU B C D (λh=>i (by cases h;rfl))));have M:(a==b)=ji:=ak i;have P:decide (a=b)=ji:=ak i;clear i
   go_upto_region 6 with fail
   go_quiet (fail)
   go_wp2_with fail
   go_ret;exact⟨by rw[d];rfl,f.trans ⟨rfl,rfl,rfl,ju _,λ_ _=>rfl⟩⟩
  subst i
  by_cases u:q=r
  case neg=>
   have d:jf (decide (s=t)=ji):=O (decide_eq_false (zU B C D (λh=>u (by cases h;rfl))));have M:(q==r)=ji:=ak u;have P:decide (q=r)=ji:=ak u;clear u
   go_upto_region 6 with fail
   go_quiet (fail)
   go_wp2_with fail
   go_ret;exact⟨by rw[d];rfl,f.trans ⟨rfl,rfl,rfl,ju _,λ_ _=>rfl⟩⟩
  subst u;have M:=O (GM B C D I)
  go_upto_region 6 with fail
  go_quiet (fail)
  go_wp2_with fail
  exact⟨⟨k+1,by go_num,by omega,M,O (f.trans ⟨rfl,rfl,rfl,ju _,λ_ _=>rfl⟩),au,ax⟩,by simp only[jv];omega⟩
 have hd:=az ((k:N)<(n:N));have UL:=az (k<n);obtain rfl:k=n:=Y;have d:jf (decide (s=t)=jm):=O (jS (by
  have h:=B.out;rw[jU (by rw[<-x];exact ju _),jU (by rw[<-y];exact ju _)]at h;exact h))
 go_wp2_with fail
 go_ret;exact⟨by rw[d];rfl,f⟩
theorem IW{H:jb}(e:∀j,j<r.length->w.cell? ⟨b,o+j,jc⟩=ja (T A (r.getD j 0)))(g:H<r.length)(f:jk w w h):
 ∃a,h.cell? ⟨b,o+H,jc⟩=ja (T A a)/\r.getD H 0=a/\r.take (H+1)=r.take H++[a]:=by
 have c:=e H g;have d:r.getD H 0=r[H]:=by simp[jQ,g]
 exact⟨r[H],by rw[<-d];exact cH c (f.block b (eK c)),d,qv g⟩
theorem oG(w:jh):bJ w (jg jc 0 0) []:=⟨jc,0,I,ju _,λ_=>rfl,λh=>jB h ar,λx h=>by cases h⟩
theorem pX{e:N×N}:∀{l:jd (N×N)},e∈eo z l->e=z\/e∈l
 |[],h=>by left;simpa [eo]using h
 |x::r,h=>by
  unfold eo at h
  split at h
  ·rcases jT.1 h with h|h
   ·exact .inl h
   exact .inr h
  rcases jT.1 h with h|h
  ·exact .inr (h▸qP ..)
  rcases pX h with h|h
  ·exact .inl h
  exact .inr (xw _ h)
noncomputable def kS(t:jd (N×N))(d x:N):jd (N×N):=if gK t d x=0 then eo (512+d,x) (dL t d)else []
noncomputable def kH(t:jd (N×N))(d:N):jd (N×N):=if dI t d jm=0 then dL t d else []
theorem zf(h:∀e∈t,aP e.1/\aP e.2):∀e∈dL t d,aP e.1/\aP e.2:=λe he=>h e (E3.1 he).1

def fa(t:jd (N×N))(d:N)(l:jd N):jb->N->jP N
 |0,y=>if y=512+d then ja (l.getD 0 0)else gL (bG t) ((512+d)::bU d) y
 |k+1,y=>if y=(bU d).getD k 0 then ja (l.getD (k+1) 0)else fa t d l k y
theorem Cl:∀k y,(fa t d r k y).isSome=jm->y∈(512+d)::((qI k).map λj=>(bU d).getD j 0)++t.map (·.1)
 |0,y,h=>by
  unfold fa at h
  split at h
  ·rename_i e;rw[e];simp
  obtain⟨v,a⟩:=E4.1 h;simp only[pz,jT,jO];exact .inr ⟨_,oH (rP a).1,I⟩
 |k+1,y,h=>by
  unfold fa at h
  split at h
  ·rename_i e
   simp only[pz,jT,jO,r6];exact .inl (.inr ⟨k,by omega,e.symm⟩)
  have:=Cl k y h;simp only[pz,jT,jO,r6]at this⊢
  rcases this with(h1|⟨j,h1,h2⟩)|h1
  ·exact .inl (.inl h1)
  ·exact .inl (.inr ⟨j,by omega,h2⟩)
  exact .inr h1
theorem Sd{xs:jd N}(h:k8 (fa t d r b) xs):xs.length<=t.length+b+1:=by
 have a:xs⊆(512+d)::((qI b).map λj=>(bU d).getD j 0)++t.map (·.1):=λy k=>Cl b y (h.2.1 y k).2
 have:=h.1.length_le_of_subset a;simp at this;omega
theorem Cd(b:∀e∈t,aP e.1/\aP e.2)(a:∀j,aP (r.getD j 0)):∀k y v,aP y->fa t d r k y=ja v->aP v
 |0,y,v,_,h=>by
  unfold fa at h
  split at h
  ·cases h;exact a 0
  exact(b _ (oH (rP h).1)).2
 |k+1,y,v,c,h=>by
  unfold fa at h
  split at h
  ·cases h;exact a (k+1)
  exact Cd b a k y v c h
theorem aZ.no_cell{u F:jI}{E:EKind P F j}{f:N->jP j}(h:aZ E u w b o f){α:jb}{v:jj}:w.cell? ⟨b,α,jc⟩≠ja v:=by
 obtain⟨D,⟨c,d,a,_⟩,_⟩:=h;unfold qA;rw[a];simp
noncomputable def fb(t:jd (N×N))(d:N)(l:jd N):N:=by classical exact if dI t d jm=0 then(if l.length=10/\iz l then 0 else 50)else dI t d jm
def MS(t:jd (N×N))(d:N)(l:jd N)(w:jh)(E:N)(e:Ending)(w':jh):Prop:=
 jk w w w'/\(E≠0->e=jp (jE #[jn #[jg jc 0 0],T A E]))/\
 (E=0->∃v xs,e=jp (jE #[jn #[v],T A 0])/\k8 (fa t d l 9) xs/\bJ w' v (dK (fa t d l 9) (xs.mergeSort leI))/\Fr w.heap.size v)
theorem JU(t:jd (N×N))(v:jj)(d:N)(l:jd N)(a3:jj)(w:jh)(b:bJ w v t)(g:t.length<=900000)(i:aP d)(hu:df w a3 l)(k:l.length<=1000000)(m:∀j,aP (l.getD j 0)):
 jq jl 35 #[jn #[v],T A d,a3] w λe w'=>MS t d l w (fb t d l) e w':=by
 have n:∀e∈t,aP e.1/\aP e.2:=by obtain⟨p,c,-,-,-,-,h⟩:=b;exact h
 obtain⟨pl,cl,rfl,ax,o⟩:=hu;have u:jk w w ((w.alloc (je #[v] 39)).alloc (je #[jg jc 0 0] 39)):=((jK _ w).alloc (ju _) _).alloc ar _;have S:=O (An t v d jm ((w.alloc (je #[v] 39)).alloc (je #[jg jc 0 0] 39)) (b.below u) Y i);have C:jA ((w.alloc (je #[v] 39)).alloc (je #[jg jc 0 0] 39)) (w.heap.size+1) 39 (jg jc 0 0):=by
  have h:=jy (w.alloc (je #[v] 39)) (je #[jg jc 0 0] 39);rw[j8]at h;exact h
 have bg:=O n;have X:=O g;have Wc:=O o;have ay:=O m;have Vx:=O k;obtain⟨E,f⟩:=J (dI t d jm);have HE:=O f;rw[<-f]at S;clear b g f n i o m k
 go_enter func35,ntmps35
 go_wp2_with fail
 obtain⟨W0,b⟩:=J ((w.alloc (je #[v] 39)).alloc (je #[jg jc 0 0] 39));rw[<-b]at S C u⊢;clear b;refine S.mono ?_;rintro e g ⟨aa,a1,a2⟩;have m:jA g (w.heap.size+1) 39 (jg jc 0 0):=(aa.block _ C.lt).trans C;have D:=O (u.trans (aa.mono u.size));have UM:=O m;have bw:w.heap.size+1<g.heap.size:=m.lt
 by_cases o:E=0
 ·obtain⟨b,p,c,rfl,i,f,F⟩:=a2 o
  have HM:=O f;have bA:w.heap.size+1<b:=qi C.lt i;have bh:=zd (HE.symm.trans o);have HZ:jf (aP (512+d)):=O (aP.of (x:=512+d) Y);have Yt:E5.wrap (512+d)=512+d:=by rw[IntKind.wrap_i64];omega
  have YD:=O F;have H:jf (∀z,(l.length=10/\iz l->z=0)->(¬(l.length=10/\iz l)->z=50)->fb t d l=z):=O (λz k n=>by
   unfold fb;rw[jt (HE.symm.trans o)]
   by_cases h:l.length=10/\iz l
   ·rw[jt h,k h]
   rw[jw h,n h])
  subst o;obtain⟨d0,d1⟩:=bh;have bi:b<g.heap.size:=f.lt;clear a1 a2 aa u C m S f i F
  by_cases r:l.length=10
  ·obtain⟨f,U,rfl,i⟩:=Wc Y
   have Vq:=O i;have bk:jf (df g (jg (ja ⟨f,U,jc⟩) l.length cl) l):=O ⟨_,cl,I,ax,λ_=>⟨f,U,I,λj K=>cH (i j K) (D.block f (eK (i j K)))⟩⟩;have a4:=O (TH l _ g bk Vx);have V:=O r;rw[r]at a4 ax⊢;clear i r
   go_wp2_with fail
   refine a4.mono ?_;rintro e n ⟨bB,rfl,ad,i⟩;have Wr:jf (jA n (w.heap.size+1) 39 (jg jc 0 0)):=O ((i.block _ Y).trans UM);have VL:=O (HM.below i bi);have bl:=i.size;have W:=ah D i;have bm:=O (i);clear i
   by_cases M:iz l
   ·obtain rfl:=ad.1 M
    have s:=O (H 0 (λ_=>rfl) (λh=>jB ⟨V,M⟩ h));clear ad M;have VV:jf (∀j,j<10->n.cell? ⟨f,U+j,jc⟩=ja (T A (l.getD j 0))):=O λj K=>cH (Vq j (by rw[V];exact K)) (W.block f (eK (Vq j (by rw[V];exact K))))
    have bC:f<w.heap.size:=eK (Vq 0 (by rw[V];omega));have bI:n.cell? ⟨f,U,jc⟩=ja (T A (l.getD 0 0)):=VV 0 Y;have VM:=O (tT d d0 d1);have bn:=O (Ah d d0 d1);have bK:f<n.heap.size:=Y;have q:g.ownsRow W0 3 1 (jg p 9 c) (bU d).length ((bU d).map (jo .i64)):=by rw[VM];exact YD
    obtain⟨p',c',a5,-,i⟩:=pK q;rw[VM]at a5 i
    cases a5
    obtain⟨P,rfl,bM,bo,k⟩:=i Y;have UH:=O k;have a6:P≠b:=λe=>by have h:=k 0 Y;rw[e]at h;exact aZ.no_cell HM h
    clear q i k
    go_wp2_with (at_mapUpdate;refine ox (E:=dS nv) I _ _ _ 154 I nv underlying154 b _ _ I VL (by have:=X.out;unfold qa;omega) (512+d) I HZ (l.getD 0 0) I (ay 0) ?_;intro Q ba ZS;have Wy:=O ba;have ZZ:=O ZS;have Wt:=ZS.grown.size;clear ba ZS)
    have Ut:jf (jk w w Q):=O (W.grown ZZ.grown (cT W.size) (λj e=>by cases e;omega));have bp:jf (aZ (dS nv) 3 Q b (t.length+1+0) (fa t d l 0)):=O Wy;have bN:n.heap.size<=Q.heap.size:=Wt;have bO:g.heap.size<=n.heap.size:=bl
    go_wp2_with fail
    go_loopw [39] (λi wr=>∃j:jb,i=T A j/\j<=9/\jf (aZ (dS nv) 3 wr b (t.length+1+j) (fa t d l j))/\jf (jk w w wr)/\jf (∀k,k<Q.heap.size->k≠b->wr.heap[k]?=Q.heap[k]?)/\Q.heap.size<=wr.heap.size) (λi _=>9-(jv i).toNat)
    case atStart=>exact⟨0,I,j6 _,bp,Ut,O (λ_ _ _=>rfl),ju _⟩
    obtain⟨j,rfl,K,bb,WP,au,bT⟩:=hrel
    by_cases bc:j<9
    ·have bq:=aw ((j:N)<9)
     have cy:wr.cell? ⟨P,j,jc⟩=ja (T A ((bU d).getD j 0)):=cH (cH (cH (UH j bc) (bm.block P bo)) (ZZ.grown.block P Y (ak a6))) (au P Y a6);have cz:wr.cell? ⟨f,U+(j+1),jc⟩=ja (T A (l.getD (j+1) 0)):=cH (cH (VV (j+1) Y) (ZZ.grown.block f Y (by simp;omega))) (au f Y Y);have q:j<(bU d).length:=by rw[VM];exact bc
     have bd:(bU d).getD j 0=(bU d)[j]:=by simp[jQ,q]
     have bf:jf (0<=(bU d).getD j 0/\(bU d).getD j 0<1024):=O (by rw[bd];exact bn _ (qL q));obtain⟨y,R⟩:=J ((bU d).getD j 0);obtain⟨z,i⟩:=J (l.getD (j+1) 0);rw[<-R]at cy bf;rw[<-i]at cz;have br:jf (aP y):=O (aP.of (x:=y) (aJ bf));have bs:jf (aP z):=O (by rw[i];exact ay _);have HY:=O R;have bu:=O i;have b0:P<wr.heap.size:=Y;have b1:f<wr.heap.size:=Y;clear q bd R i
     go_wp2_with (at_mapUpdate;refine ox (E:=dS nv) I _ _ _ 154 I nv underlying154 b _ _ I bb (by have:=X.out;unfold qa;omega) y I br z I bs ?_;intro w5 q i;have bv:=O q;have bd:=O i;have R:=i.grown.size;clear q i)
     refine⟨⟨j+1,by go_num,by omega,O ?_,O (WP.grown bd.grown (cT WP.size) (λj e=>by cases e;omega)),O λk hk R=>(bd.grown.block k Y (ak R)).trans (au k hk R),by omega⟩,by simp only[jv];omega⟩;refine aZ.congr bv (λx _=>?_);show(if x=y then ja z else fa t d l j x)=fa t d l (j+1) x;rw[HY,bu]
     rfl
    have bq:=az ((j:N)<9);obtain rfl:j=9:=Y;have Wk:jf (jA wr (w.heap.size+1) 39 (jg jc 0 0)):=O ((au _ Y Y).trans ((ZZ.grown.block _ Y (by simp;omega)).trans Wr));have br:w.heap.size+1<wr.heap.size:=Y
    go_wp2_with fail
    refine(BA b (t.length+1+9) (fa t d l 9) wr bb (aJ X) (λxs h=>jL (Sd h) (aJ X)) (Cd bg ay 9)).mono ?_;rintro e w4 ⟨v',xs,rfl,bd,⟨F,bf⟩,i⟩;obtain⟨q,k,rfl⟩:=uX F;have y:jf (jA w4 (w.heap.size+1) 39 (jg jc 0 0)):=O ((i.block _ br).trans Wk);have UA:=ah WP i;have Yz:=O bd;have Vb:=O F;have bs:=O bf;have z:=y.cell;have cf:=y.frozen;clear bd F bf i
    go_wp2_with fail
    have Z2:=O (qU w4 (w.heap.size+1) (jg q (dK (fa t d l 9) (xs.mergeSort leI)).length k));have i:=(Boxed.set (jg q (dK (fa t d l 9) (xs.mergeSort leI)).length k) y).cell;refine qj (v:=jE #[jn #[jg q (dK (fa t d l 9) (xs.mergeSort leI)).length k],T A 0]) (by simp[results,xa,go_sem,i]) I ?_;refine⟨UA.grown Z2 (cT UA.size) (λj e=>by cases e;omega),λh=>jB s h,λ_=>⟨_,xs,I,Yz,?_,(Fr.of_own Vb).mono Y⟩⟩;exact zF (B:=wr.heap.size) (ownsRow_setCell_below Vb (a:=⟨w.heap.size+1,0,jc⟩) (by show w.heap.size+1<wr.heap.size;omega) _) bs
   obtain rfl:=ad.2 M;have s:=O (H 50 (λh=>jB h.2 M) (λ_=>rfl));have z:=Wr.cell;have cf:=Wr.frozen;have i:=(Boxed.set (jg jc 0 0) Wr).cell;clear ad M
   go_wp2_with fail
   refine qj (v:=jE #[jn #[jg jc 0 0],T A 50]) (by simp[results,xa,go_sem,i]) I ?_;exact⟨W.grown (qU n (w.heap.size+1) _) (cT W.size) (λj e=>by cases e;omega),λ_=>by rw[s],λh=>jB (s.symm.trans h) L⟩
  obtain⟨n,R⟩:=J l.length;rw[<-R]at ax r⊢;have f:=O R;have k:=az ((n:N)=10);have hd2:=az (n=10);have hd3:((n:N)!=10)=jm:=by simp;omega
  have s:=O (H 50 (λh=>jB (f.trans h.1) r) (λ_=>rfl));have V:=O r;have z:=UM.cell;have cf:=UM.frozen;have i:=(Boxed.set (jg jc 0 0) UM).cell;clear R r
  go_wp2_with fail
  refine qj (v:=jE #[jn #[jg jc 0 0],T A 50]) (by simp[results,xa,go_sem,i]) I ?_;exact⟨D.grown (qU g (w.heap.size+1) _) (cT D.size) (λj e=>by cases e;omega),λ_=>by rw[s],λh=>jB (s.symm.trans h) L⟩
 obtain rfl:=a1 o;have b:=az (E=0);have z:=m.cell;have cf:=m.frozen;have i:=(Boxed.set (jg jc 0 0) m).cell;clear a1 a2 aa u C m S
 go_wp2_with fail
 have H:jf (fb t d l=E):=O (by unfold fb;rw[jw (by rw[<-HE];exact o)];exact HE.symm);refine qj (v:=jE #[jn #[jg jc 0 0],T A E]) (by simp[results,xa,go_sem,i]) I ?_;exact⟨D.grown (qU g (w.heap.size+1) _) (cT D.size) (λj e=>by cases e;omega),λ_=>by rw[H],λh=>jB (H.symm.trans h) o⟩
noncomputable def eI(t:jd (N×N))(d:N)(l:jd N):jb->jd (N×N)
 |0=>dL t d
 |k+1=>eo ((512+d)/2^k,l.getD k 0) (eI t d l k)
noncomputable def gr(t:jd (N×N))(d:N)(l:jd N):jd (N×N):=if fb t d l=0 then eI t d l 10 else []
theorem Ey{k:jb}(a:0<=d)(b:d<512):0<=(512+d)/2^k/\(512+d)/2^k<=1023:=by
 have c:(0:N)<2^k:=by exact_mod_cast Nat.two_pow_pos k
 refine⟨Int.ediv_nonneg Y Y,?_⟩;have:(512+d)/2^k<=512+d:=Int.ediv_le_self _ Y;omega
theorem D6(h:∀e∈t,aP e.1/\aP e.2)(a:∀j,aP (r.getD j 0))(b:0<=d)(c:d<512):∀k,∀e∈eI t d r k,aP e.1/\aP e.2
 |0,e,he=>zf h e he
 |k+1,e,he=>by
  unfold eI at he
  rcases pX he with rfl|he
  ·exact⟨aP.of (by have:=Ey (k:=k) b c;omega),a k⟩
  exact D6 h a b c k e he
def Str(t:jd (N×N)):Prop:=t.Pairwise λa b=>a.1<b.1
def Wf(t:jd (N×N)):Prop:=∀e∈t,aP e.1/\aP e.2
theorem Str.keys(h:Str t):(t.map (·.1)).Pairwise (·<·):=xx.2 h
theorem mq(e:N×N)(t:jd (N×N))(x:N):bG (e::t) x=if e.1=x then ja e.2 else bG t x:=by
 unfold bG;rw[List.find?_cons]
 by_cases h:e.1=x
 ·simp[h]
 have a:(e.1==x)=ji:=ak h;simp[h,a]
theorem IN:∀{t:jd (N×N)},Str t->∀e∈t,bG t e.1=ja e.2
 |[],_,e,he=>by cases he
 |y::t,h,e,he=>by
  rw[mq];have a:=sq.1 h
  rcases jT.1 he with rfl|he
  ·rw[jt I]
  rw[jw (cT (a.1 e he))];exact IN a.2 e he
theorem Ch(h:Str t):(t.map (·.1)).map (λx=>(x,(bG t x).getD 0))=t:=by
 rw[xy];have:∀e∈t,((λx=>(x,(bG t x).getD 0))∘(·.1)) e=id e:=λe he=>by
  simp only[Function.comp,IN h e he,xe,id]
 rw[E6 this,List.map_id]
theorem vM:(bG t d).isSome=jm↔d∈t.map (·.1):=by
 rw[Ca,jO]
theorem Ot{s:jd (N×N)}(b:Str t)(c:Str s)(d:Wf t)(f:Wf s)(h:∀x,aP x->bG t x=bG s x):t=s:=by
 have g:t.map (·.1)=s.map (·.1):=AH b.keys c.keys (λx=>by
  rw[<-vM,<-vM]
  constructor
  ·intro a
   obtain⟨e,he,rfl⟩:=jO.1 (vM.1 a);rw[<-h _ (d e he).1];exact a
  intro a;obtain⟨e,he,rfl⟩:=jO.1 (vM.1 a);rw[h _ (f e he).1];exact a)
 rw[<-Ch b,<-Ch c,<-g];refine E6 λx a=>?_
 obtain⟨e,he,rfl⟩:=jO.1 a;rw[h _ (d e he).1]
def fX(t:jd (N×N)):Prop:=Str t/\∀e∈t,1<=e.1/\e.1<=1023/\bP e.2/\om t e.1
theorem sd(a:b<t.length):t.getD b (0,0)=t[b]:=by simp[jQ,a]
theorem Od(h:∀i,i+1<t.length->(t.getD i (0,0)).1<(t.getD (i+1) (0,0)).1):Str t:=by
 have key:∀j,j<t.length->∀i,i<j->(t.getD i (0,0)).1<(t.getD j (0,0)).1:=by
  intro j
  induction j with
  |zero=>intro _ i a;omega
  |succ j d=>
   intro b i a;have e:=h j b
   rcases GX (HH a)with c|c
   ·have:=d Y i c;omega
   rw[c];exact e
 unfold Str;rw[xz];intro i j a b c;have:=key j b i c
 rwa [sd a,sd b]at this
theorem lO(h:de t=0):fX t:=by
 have c:∀i,i<t.length->¬rx t i:=λi b c=>by rw[Ow b c]at h;exact jB h L
 refine⟨Od (λi b=>?_),λe he=>?_⟩
 ·have:=c (i+1) b
  unfold rx at this;have d:¬(0<i+1/\(t.getD (i+1) (0,0)).1<=(t.getD (i+1-1) (0,0)).1):=λa=>this (.inr (.inr (.inl a)))
  rw[show i+1-1=i by omega]at d;omega
 obtain⟨i,b,rfl⟩:=qk he;have:=c i b;unfold rx at this;rw[sd b]at this;refine⟨?_,?_,?_,?_⟩
 ·exact Classical.byContradiction λa=>this (.inl Y)
 ·exact Classical.byContradiction λa=>this (.inr (.inl Y))
 ·exact Classical.byContradiction λa=>this (.inr (.inr (.inr (.inl a))))
 exact Classical.byContradiction λa=>this (.inr (.inr (.inr (.inr a))))
theorem tv(h:fX t):de t=0:=by
 refine PS (λi b a=>?_);have c:=h.2 t[i] (qL b);unfold rx at a;rw[sd b]at a
 rcases a with a|a|a|a|a
 ·omega
 ·omega
 ·have d:=(xz.1 h.1) (i-1) i Y b Y
  rw[sd Y]at a;omega
 ·exact a c.2.2.1
 exact a c.2.2.2
theorem BD(t:jd (N×N))(d x:N):bG (dL t d) x=if lD (512+d) x=jm then jc else bG t x:=by
 induction t with
 |nil=>simp[dL,bG]
 |cons e t c=>
  unfold dL at c⊢;rw[List.filter_cons]
  by_cases b:lD (512+d) e.1=jm
  ·rw[jw (by simp[b]),c,mq]
   by_cases a:e.1=x
   ·rw[<-a,jt b,jt b]
   rw[jw a]
  rw[jt (by simp[b]),mq,mq,c]
  by_cases a:e.1=x
  ·rw[<-a,jt I,jw b,jt I]
  rw[jw a,jw a]
theorem uU:∀{t:jd (N×N)},(∀e∈t,e.1≠z.1)->∀x,bG (eo z t) x=if x=z.1 then ja z.2 else bG t x
 |[],_,x=>by
  unfold eo;rw[mq]
  by_cases h:x=z.1
  ·rw[jt h.symm,jt h]
  rw[jw (λb=>h b.symm),jw h]
 |e::t,h,x=>by
  unfold eo
  split
  ·rw[mq]
   by_cases a:x=z.1
   ·rw[jt a.symm,jt a]
   rw[jw (λb=>a b.symm),jw a]
  rw[mq,mq,uU (λe he=>h e (xw _ he))];have b:=h e (qP ..)
  by_cases a:e.1=x
  ·rw[jt a,jt a,jw (by rw[<-a];exact b)]
  rw[jw a,jw a]
theorem sA(h:Str t)(d:N):Str (dL t d):=List.Pairwise.filter _ h
theorem vH:∀{t:jd (N×N)},Str t->(∀e∈t,e.1≠z.1)->Str (eo z t)
 |[],_,_=>by unfold eo Str;simp
 |e::t,c,h=>by
  have b:=sq.1 c;have f:=h e (qP ..);unfold eo
  split
  ·rename_i d
   refine sq.2 ⟨λy a=>?_,c⟩
   rcases jT.1 a with rfl|a
   ·exact d
   have:=b.1 y a;omega
  refine sq.2 ⟨λy a=>?_,vH b.2 (λe he=>h e (xw _ he))⟩
  rcases pX a with rfl|a
  ·omega
  exact b.1 y a
theorem H4(h:z∈dL t d):z∈t/\¬Und (512+d) z.1:=by
 unfold dL at h;obtain⟨b,a⟩:=E3.1 h;refine⟨b,λc=>?_⟩;rw[ue c]at a
 cases a
theorem sC{x:N}(a:Und (512+d) x):∀e∈dL t d,e.1≠x:=λe he h=>(H4 he).2 (by rw[h];exact a)
theorem Jy(h:r.Nodup):Str (dK p (r.mergeSort leI)):=by
 have c:(r.mergeSort leI).Pairwise (·<·):=by
  have a:=yg r;have b:(r.mergeSort leI).Nodup:=(qQ r leI).nodup_iff.2 h;exact(a.and b).imp λh=>by have:=h.1;have:=h.2;omega
 unfold Str dK;rw[xx];exact c
theorem Qx(a:jd N)(x:N):bG (dK p a) x=if x∈a then ja ((p x).getD 0)else jc:=by
 induction a with
 |nil=>rfl
 |cons y a b=>
  show bG ((y,(p y).getD 0)::dK p a) x=_;rw[mq,b]
  by_cases h:y=x
  ·subst h;simp
  have:¬x=y:=λc=>h c.symm
  simp[h,this]
theorem Rt(h:k8 p r)(x:N)(b:aP x):bG (dK p (r.mergeSort leI)) x=p x:=by
 rw[Qx]
 by_cases a:x∈r
 ·rw[jt ((uP r x).2 a)]
  obtain⟨v,c⟩:=E4.1 (h.2.1 x a).2;rw[c];rfl
 rw[jw (λc=>a ((uP r x).1 c))]
 cases hf:p x with
 |none=>rfl
 |some v=>exact jB (h.2.2 x b (by rw[hf];rfl)) a
theorem pP(h:bJ w a t):Wf t:=by obtain⟨p,c,-,-,-,-,h⟩:=h;exact h
theorem AJ(h:k8 p r)(b:Wf (dK p (r.mergeSort leI))){t:jd (N×N)}(c:Str t)(d:Wf t)(e:∀x,aP x->p x=bG t x):dK p (r.mergeSort leI)=t:=
 Ot (Jy h.1) c b d (λx a=>by rw[Rt h x a,e x a])
theorem yL(a:0<=d)(b:d<512)(x:N):gL (bG t) ((512+d)::bU d) x=bG (dL t d) x:=by
 rw[BD];unfold gL
 by_cases h:x∈(512+d)::bU d
 ·rw[jt h,jt (ue ((pf d a b x).1 h))]
 rw[jw h,jw (λc=>h ((pf d a b x).2 ((zX _ _).1 c)))]
theorem KQ{B:N}(a:0<=d)(b:d<512)(y:N):iQ t d B y=bG (eo (512+d,B) (dL t d)) y:=by
 rw[uU (sC (rO Y))];unfold iQ
 by_cases h:y=512+d
 ·rw[jt h,jt h]
 rw[jw h,jw h];exact yL a b y
theorem Au{m:jF}(h:dI t d m=0):de t=0/\0<=d/\d<512:=by
 have a:=zd h;refine⟨?_,a.1,a.2⟩;unfold dI at h
 split at h
 ·assumption
 exact h
theorem rT(l:0<=d)(p:d<512){k:jb}(e:k<=9):1<=(512+d)/2^k/\∀j,j<k->(512+d)/2^k<(512+d)/2^j:=by
 obtain⟨n,rfl⟩:=qg l;have h:∀n:Fin 512,∀k:Fin 10,1<=(512+n.val)/2^k.val:=by decide+kernel
 have c:∀j:jb,(512+(n:N))/2^j=(((512+n)/2^j:jb):N):=λj=>by
  rw[xu];push_cast;rfl
 have i:∀k,k<=9->1<=(512+n)/2^k:=λk e=>h ⟨n,by omega⟩ ⟨k,by omega⟩
 have m:∀k,(512+n)/2^(k+1)=(512+n)/2^k/2:=λk=>by rw[Nat.pow_succ,E2]
 have key:∀k,k<=9->∀j,j<k->(512+n)/2^k<(512+n)/2^j:=by
  intro k
  induction k with
  |zero=>intro _ j f;omega
  |succ k o=>
   intro e j f;have a:=i k Y;have b:=m k
   rcases GX (HH f)with g|g
   ·have:=o Y j g;omega
   rw[g];omega
 refine⟨by rw[c];have:=i k e;omega,λj f=>by rw[c,c];have:=key k e j f;omega⟩
theorem A7(a:0<=d)(b:d<512){k:jb}(c:k<=9):Und (512+d) ((512+d)/2^k):=⟨(rT a b c).1,k,I⟩
theorem JZ{B:N}(b:0<=d)(c:d<512)(h:Und (512+d) B):∃k,k<=9/\B=(512+d)/2^k:=by
 obtain⟨e,j,a⟩:=h;refine⟨j,?_,a.symm⟩
 rcases qn 9 j with h|h
 ·have f:(512+d)/2^j=0:=by
   have g:(1024:N)<=2^j:=by
    have:=Nat.pow_le_pow_right (n:=2) L (show 10<=j from h)
    exact_mod_cast this
   exact Int.ediv_eq_zero_of_lt Y Y
  omega
 exact h
theorem L5(a:0<=d)(c:d<512){k:jb}(f:k<9):(bU d).getD k 0=(512+d)/2^(k+1):=by
 obtain⟨n,rfl⟩:=qg a;have h:∀n:Fin 512,∀k:Fin 9,(kB n.val).getD k.val 0=(512+n.val)/2^(k.val+1):=by decide+kernel
 have b:=h ⟨n,by omega⟩ ⟨k,f⟩;have g:=tT (n:N) a c;have e:bU (n:N)=(kB n).map λm:jb=>(m:N):=by simp[bU]
 have i:k<(kB n).length:=by rw[e,jC]at g;omega
 rw[e];simp only[jQ,j9,ms i,xk,xe]at b⊢;rw[b,xu];push_cast;rfl
theorem AA:∀{k:jb} {e:N×N},e∈eI t d r k->e∈dL t d\/∃j,j<k/\e=((512+d)/2^j,r.getD j 0)
 |0,e,h=>.inl h
 |k+1,e,h=>by
  unfold eI at h
  rcases pX h with rfl|h
  ·exact .inr ⟨k,Nat.lt_succ_self _,I⟩
  rcases AA h with h|⟨j,a,h⟩
  ·exact .inl h
  exact .inr ⟨j,Nat.lt_succ_of_lt a,h⟩
theorem Eg(a:0<=d)(b:d<512){k:jb}(c:k<=9):∀e∈eI t d r k,e.1≠(512+d)/2^k:=by
 intro e he
 rcases AA he with h|⟨j,f,rfl⟩
 ·exact sC (A7 a b c) e h
 have:=(rT a b c).2 j f;show(512+d)/2^j≠_;omega
theorem Bw(a:Str t)(b:0<=d)(c:d<512):∀{k:jb},k<=10->Str (eI t d r k)
 |0,_=>sA a d
 |k+1,e=>vH (Bw a b c Y) (Eg b c Y)
theorem uh(a:0<=d)(b:d<512){k:jb}(c:k<=9)(x:N):bG (eI t d r (k+1)) x=if x=(512+d)/2^k then ja (r.getD k 0)else bG (eI t d r k) x:=
 uU (Eg a b c) x
theorem IS(a:0<=d)(b:d<512)(x:N):∀k,k<=9->fa t d r k x=bG (eI t d r (k+1)) x
 |0,c=>by
  rw[uh a b c];unfold fa;simp only[Int.pow_zero,Int.ediv_one]
  by_cases h:x=512+d
  ·rw[jt h,jt h]
  rw[jw h,jw h];exact yL a b x
 |k+1,c=>by
  rw[uh a b c];unfold fa;rw[L5 a b Y,IS a b x k Y]
theorem SK(t:jd (N×N))(v:jj)(d x:N)(w:jh)(b:bJ w v t)(r:t.length<=800000)(i:aP d)(c:aP x):
 jq jl 90 #[jn #[v],T A d,T A x] w λe w'=>∃a,e=jp (jE #[jn #[a],T A (gK t d x)])/\bJ w' a (kS t d x)/\jk w w w':=by
 refine(TM t v d x w b Y i c).mono ?_;rintro e w' ⟨f,j,k⟩
 by_cases h:gK t d x=0
 ·obtain⟨a,xs,rfl,l,g⟩:=k h
  have m:dI t d ji=0:=by
   unfold gK at h
   split at h
   ·assumption
   exact h
  obtain⟨n,o,p⟩:=Au m;have q:=lO n;refine⟨a,by rw[h],?_,f⟩;unfold kS;rw[jt h,<-AJ l (pP g) (vH (sA q.1 d) (sC (rO Y))) (λe he=>?_) (λy _=>KQ o p y)]
  ·exact g
  rcases pX he with rfl|he
  ·exact⟨aP.of (by show -9223372036854775808<=512+d/\512+d<=9223372036854775807;omega),c⟩
  exact zf (pP b) e he
 refine⟨_,j h,?_,f⟩;unfold kS;rw[jw h];exact oG _
theorem PV(t:jd (N×N))(v:jj)(d:N)(w:jh)(b:bJ w v t)(p:t.length<=800000)(g:aP d):
 jq jl 89 #[jn #[v],T A d] w λe w'=>∃a,e=jp (jE #[jn #[a],T A (dI t d jm)])/\bJ w' a (kH t d)/\jk w w w':=by
 refine(J7 t v d w b Y g).mono ?_;rintro e w' ⟨c,i,j⟩
 by_cases h:dI t d jm=0
 ·obtain⟨a,xs,rfl,k,f⟩:=j h
  obtain⟨l,m,n⟩:=Au h;have o:=lO l;refine⟨a,by rw[h],?_,c⟩;unfold kH;rw[jt h,<-AJ k (pP f) (sA o.1 d) (zf (pP b)) (λy _=>yL m n y)];exact f
 refine⟨_,i h,?_,c⟩;unfold kH;rw[jw h];exact oG _
theorem Pf(t:jd (N×N))(v:jj)(d:N)(l:jd N)(a:jj)(w:jh)(f:bJ w v t)(B:t.length<=800000)(k:aP d)(m:df w a l)(n:l.length<=1000000)(g:∀j,aP (l.getD j 0)):
 jq jl 35 #[jn #[v],T A d,a] w λe w'=>∃x,e=jp (jE #[jn #[x],T A (fb t d l)])/\(bJ w' x (gr t d l)/\Fr w.heap.size x)/\jk w w w':=by
 refine(JU t v d l a w f Y k m n g).mono ?_;rintro e w' ⟨i,o,p⟩
 by_cases h:fb t d l=0
 ·obtain⟨a,xs,rfl,q,j,r⟩:=p h
  have s:dI t d jm=0:=by
   unfold fb at h
   split at h
   ·assumption
   exact h
  obtain⟨u,b,c⟩:=Au s;have z:=lO u;refine⟨a,by rw[h],⟨?_,r⟩,i⟩;unfold gr;rw[jt h,<-AJ q (pP j) (Bw z.1 b c (ju 10)) (D6 (pP f) g b c 10) (λy _=>IS b c y 9 Y)];exact j
 refine⟨_,o h,⟨?_,Fr.nil _⟩,i⟩;unfold gr;rw[jw h];exact oG _
structure dD(g:Grp):Prop where
 fol:kf g.folder
 ep:0<=g.epoch/\g.epoch<=1099511627776
 tree:de g.tree=0
 zero:g.epoch=0->g.mem=[]/\g.last=jW 32 0#8
 dev:g.mem.map aK.dev=cr g.tree
 ok:∀m∈g.mem,1<=m.since/\m.since<=g.epoch/\bP m.ver
def oO(x:ap):Prop:=fI x.d/\((x.k=1/\bP x.p/\bP x.v/\x.c=0)\/(x.k=2/\x.p=0/\x.v=0/\0<=x.c/\x.c<=1048576)\/(x.k=3/\bP x.p/\bP x.v/\0<=x.c/\x.c<=1048576))
structure eX(l:jd ap):Prop where
 each:∀x∈l,oO x
 once:(l.map ap.d).Nodup
 len:l.length<=64
structure gN(g:Grp)(a:N)(l:jd ap):Prop where
 own:cG g.mem a=decide (0<g.epoch)
 first:g.epoch=0->∃x r,l=x::r/\x.d=a
 each:∀x∈l,cG g.mem x.d=decide (x.k≠1)/\(cG g.mem a=jm->x.d≠a)
noncomputable def ij(t:jd (N×N))(x:ap):jd (N×N):=if x.k=2 then kH t x.d else kS t x.d x.p
noncomputable def aX(t:jd (N×N))(l:jd ap):jd (N×N):=l.foldl ij t
theorem Rf(t:jd (N×N))(l:jd ap)(x:ap):aX t (l++[x])=ij (aX t l) x:=by unfold aX;rw[List.foldl_append];rfl
theorem OA(t:jd (N×N))(x:ap):(ij t x).length<=t.length+1:=by
 have a:∀d,(dL t d).length<=t.length:=λd=>H0 _ _
 unfold ij
 split
 ·unfold kH
  split
  ·have:=a x.d;omega
  simp
 unfold kS
 split
 ·have:=Hr (512+x.d,x.p) (dL t x.d);have:=a x.d;omega
 simp
theorem wM(t:jd (N×N)):∀l:jd ap,(aX t l).length<=t.length+l.length:=by
 intro l
 induction l generalizing t with
 |nil=>simp[aX]
 |cons x l a=>
  have b:=a (ij t x);have c:=OA t x;show(aX (ij t x) l).length<=_;simp only[j5];omega
def kX(a:N)(x:ap):jF:=decide (x.k=2)||decide (x.d=a)
def fj(l:jd ap):jd ap:=l.mergeSort λx y=>decide (x.d<=y.d)
def dw(a:N)(l:jd ap):jd ap:=fj (l.filter λx=> !kX a x)
def ib(a:N):jd N:=(nL a.toNat).map λn:jb=>(n:N)
noncomputable def fz(t:jd (N×N))(l:jd N)(k:jb):jd (N×N):=(l.zipIdx k).flatMap λx=>(ff t x.1).map λn=>((x.2:N),n)
noncomputable def et(t:jd (N×N))(a:N):jd (N×N):=fz t (ib a) 1
def dT(g:Grp)(a:N)(l:jd ap):N:=match g.mem.find? (λm=>m.dev==a)with
 |some m=>m.ver
 |none=>match l with|x::_=>x.v|[]=>0
structure mH(c:Cmt):Prop where
 fol:kf c.folder
 ep:1<=c.epoch/\c.epoch<=1099511627776
 aut:fI c.author
 chg:eX c.chg
 plen:c.path.length=10
 blen:c.box.length<=1024
 wlen:c.wel.length<=512
 path:∀p∈c.path,bP p
 box:∀b∈c.box,1<=b.node/\b.node<1024/\1<=b.lev/\b.lev<=9/\mB b.u b.body.length
 wel:∀x∈c.wel,fI x.dev/\mB x.u x.body.length
 inc:∀i,0<i->i<c.wel.length->((c.wel.map Wl.dev).getD (i-1) 0)<((c.wel.map Wl.dev).getD i 0)
noncomputable def gW(c:Cmt):N:=by classical exact if mH c then 0 else 220
theorem uq(h:mH y):gW y=0:=by unfold gW;rw[jt h]
theorem fl(h:¬mH y):gW y=220:=by unfold gW;rw[jw h]
noncomputable def du(g:Grp)(a:N)(l:jd ap):N:=by classical exact if dD g then(if eX l/\gN g a l then 0 else 221)else 1
noncomputable def dV(g:Grp)(a:N)(l:jd ap):jd (N×N):=if du g a l=0 then et (aX g.tree l) a else []
theorem lB:du e d f=0↔dD e/\eX f/\gN e d f:=by
 unfold du
 by_cases h:dD e
 ·rw[jt h]
  by_cases b:eX f/\gN e d f
  ·rw[jt b];exact⟨λ_=>⟨h,b⟩,λ_=>rfl⟩
  rw[jw b];exact⟨λg=>jB g L,λg=>jB g.2 b⟩
 rw[jw h];exact⟨λg=>jB g L,λg=>jB g.1 h⟩
def aB(g:Grp)(vm vt:jj):jd jj:=T A g.folder::T A g.epoch::(g.last.map v8++[vm,vt])
structure bL(w:jh)(g:Grp)(vm vt:jj):Prop where
 mem:EM.At w vm g.mem
 tree:bJ w vt g.tree
 llen:g.last.length=32
theorem bL.below{g:Grp}(h:bL w g vm vt)(a:jk w w w'):bL w' g vm vt:=⟨h.mem.below a,h.tree.below a,h.llen⟩
theorem eH(h:e.last.length=32):(aB e a m).length=36:=by unfold aB;simp[h]
structure dG(w:jh)(b:jb)(g:Grp)(vm vt:jj):Prop where
 blk:w.heap[b]?=ja (je (aB g vm vt).toArray 41 (0,0))
 llen:g.last.length=32
theorem dG.new(w:jh){g:Grp}{vm vt:jj}(h:g.last.length=32):dG (w.alloc (je (aB g vm vt).toArray 41)) w.heap.size g vm vt:=⟨jy w _,h⟩
theorem dG.lt(h:dG w b e a m):b<w.heap.size:=(jG.1 h.blk).1
theorem dG.keep{g:Grp}(h:dG w b g vm vt)(a:w'.heap[b]?=w.heap[b]?):dG w' b g vm vt:=⟨a.trans h.blk,h.llen⟩
theorem dG.below{g:Grp}(h:dG w b g vm vt)(a:jk w w w'):dG w' b g vm vt:=h.keep (a.block b h.lt)
theorem dG.get(h:dG w b e a m){i:jb}{v:jj}(vm:(aB e a m)[i]?=ja v):w.cell? ⟨b,i,jc⟩=ja v:=
 ai h.blk (ak vm)
theorem lP{g:Grp}(h:g.last.length=32):(aB g vm vt)[0]?=ja (T A g.folder)/\(aB g vm vt)[1]?=ja (T A g.epoch)/\(aB g vm vt)[34]?=ja vm/\(aB g vm vt)[35]?=ja vt:=by
 have a:(g.last.map v8).length=32:=by rw[jC];exact h
 unfold aB;refine⟨I,I,?_,?_⟩
 ·show(g.last.map v8++[vm,vt])[32]?=_
  rw[xA Y,a];rfl
 show(g.last.map v8++[vm,vt])[33]?=_;rw[xA Y,a];rfl
theorem dG.at{g:Grp}(h:dG w b g vm vt):w.cell? ⟨b,0,jc⟩=ja (T A g.folder)/\w.cell? ⟨b,1,jc⟩=ja (T A g.epoch)/\w.cell? ⟨b,34,jc⟩=ja vm/\w.cell? ⟨b,35,jc⟩=ja vt:=
 have e:=lP (vm:=vm) (vt:=vt) h.llen
 ⟨h.get e.1,h.get e.2.1,h.get e.2.2.1,h.get e.2.2.2⟩
theorem dG.last{g:Grp}(h:dG w b g vm vt):w.rangeAt b 2 (g.last.map v8):=by
 intro j v a;have c:=(o8.1 a).1;refine h.get ?_;unfold aB;rw[show 2+j=j+1+1 by omega,H1,H1,sv c];exact a
theorem EK.At.mems{l:jd aK}(h:EM.At w a l):nX w a l:=by
 obtain⟨v,p,c,b,d,f,i⟩:=h;refine⟨v,p,c,b,d,f,λj=>?_⟩;obtain⟨g,o,e,k⟩:=i j;exact⟨g,o,e,trivial,k⟩
theorem rA{g:Grp}(h:g.last.length=32):(jl.info? 41).map (·.size)=ja (aB g vm vt).toArray.size:=by
 rw[jJ,eH h];kernel_rfl
theorem yN(g:Grp)(vm vt:jj)(d:N)(w:jh)(a:EM.At w vm g.mem)(i:mu g.mem)(q:g.mem.length<=1000000)(r:g.last.length=32):
 jq jl 84 #[jn (aB g vm vt).toArray,T A d] w λe w'=>e=jp (jE #[T A (lY g.mem d:jb),.bool (cG g.mem d)])/\jk w w w':=by
 have j:=dG.new w (vm:=vm) (vt:=vt) r;have b:=ao w (je (aB g vm vt).toArray 41);have f:=O (SQ g.mem i vm d _ (a.mems.below b) q);have h:=O b;obtain⟨k,l,m,n⟩:=j.at;obtain⟨p,c,rfl,-,-⟩:=a.form;obtain⟨s,o⟩:=J ((aB g (jg p g.mem.length c) vt).toArray);rw[<-o]at k l m n f h⊢;clear j b a i o
 go_enter func84,ntmps84
 go_wp2_with fail
 refine(f).mono ?_;rintro e i ⟨rfl,a⟩;have b:=ah h a;clear a f k l m n h
 go_wp2_with fail
 go_ret2;exact⟨I,b⟩
noncomputable def gg(ep:N)(m:aK):jF:=decide (m.since<1)||decide (ep<m.since)||decide (cS m.ver≠0)
theorem O8(g:Grp)(vm vt:jj)(b:jb)(m:aK)(w:jh)(l:dG w b g vm vt):
 jq jl 64 #[jn m.cells.toArray,jz (ja ⟨b,0,jc⟩)] w λe w'=>e=jp (.bool (gg g.epoch m))/\jk w w w':=by
 obtain⟨md,a,f⟩:=m;obtain⟨r,c⟩:=J (gg g.epoch ⟨md,a,f⟩);rw[<-c];have i:=O c;unfold aK.cells;have d:=ao w (je #[T A md,T A a,T A f] 107);obtain⟨-,n,-,-⟩:=(l.below d).at;have h:=O d;have j:=O (gD f);obtain⟨p,k⟩:=J (cS f);rw[<-k]at j;have q:=O k;obtain⟨ep,he⟩:=J g.epoch;rw[<-he]at n;have o:=O he;clear c d l k he
 by_cases c:a<1
 ·have k:decide (a<1)=jm:=ak c
  obtain rfl:r=jm:=by rw[i];unfold gg;simp[c]
  go_enter func64,ntmps64
  go_wp2_with fail
  go_ret;exact⟨I,h⟩
 have k:decide (a<1)=ji:=ak c
 by_cases d:ep<a
 ·have hd2:decide (ep<a)=jm:=ak d
  obtain rfl:r=jm:=by rw[i];unfold gg;rw[<-o];simp[d]
  go_enter func64,ntmps64
  go_wp2_with fail
  go_ret;exact⟨I,h⟩
 have hd2:decide (ep<a)=ji:=ak d;have l:jf (r=decide (p≠0)):=O (by rw[i];unfold gg;rw[<-o,<-q];simp[c,d]);clear c d
 go_enter func64,ntmps64
 go_wp2_with fail
 refine(j _).mono ?_;rintro e s ⟨rfl,c⟩;have d:=ah h c;clear c j h n
 go_wp2_with fail
 go_ret;exact⟨iB (by rw[l];exact S6 _ _),d⟩
theorem LK(m:aK)(d:N)(w:jh):
 jq jl 66 #[jn m.cells.toArray,T A d] w λe w'=>e=jp (.bool (m.dev==d))/\jk w w w':=by
 obtain⟨md,a,b⟩:=m;unfold aK.cells;have c:=O (ao w (je #[T A md,T A a,T A b] 107))
 go_enter func66,ntmps66
 go_wp2_with fail
 go_ret;exact⟨I,c⟩
theorem Dd(g:Grp)(vm vt:jj)(b a:jb)(c:b<a):fV EM 64 #[jz (ja ⟨b,0,jc⟩)] a (λW=>dG W b g vm vt) (gg g.epoch) where
 enter _ _:=I
 keep w w' hn h hB:=h.keep (hB.block b c)
 call x w hn h:=O8 g vm vt b x w h
theorem MB(a:N)(b:jb)(x:ap)(w:jh)(k:jA w b 3 (T A a)):
 jq jl 76 #[jn x.cells.toArray,jz (ja ⟨b,0,jc⟩)] w λe w'=>e=jp (.bool (kX a x))/\jk w w w':=by
 obtain⟨c,f,g,h,i⟩:=x;obtain⟨r,d⟩:=J (kX a ⟨c,f,g,h,i⟩);rw[<-d];have l:=O d;unfold ap.cells;have j:=ao w (je #[T A c,T A f,T A g,T A h,T A i] 62);have n:(w.alloc (je #[T A c,T A f,T A g,T A h,T A i] 62)).cell? ⟨b,0,jc⟩=ja (T A a):=aD k.cell j;have m:=O j;clear d j k
 by_cases d:c=2
 ·subst d
  obtain rfl:r=jm:=by rw[l];unfold kX;simp
  go_enter func76,ntmps76
  go_wp2_with fail
  go_ret;exact⟨I,m⟩
 have k:(c==2)=ji:=ak d;have o:decide (c=2)=ji:=ak d;have j:jf (r=(f==a)):=O (by rw[l];unfold kX;simp[d];rfl);clear d
 go_enter func76,ntmps76
 go_wp2_with fail
 go_ret;exact⟨iB j.symm,m⟩
theorem SE(a:N)(b c:jb)(d:b<c):fV EC 76 #[jz (ja ⟨b,0,jc⟩)] c (λW=>jA W b 3 (T A a)) (kX a) where
 enter _ _:=I
 keep w w' hn h hB:=(hB.block b d).trans h
 call x w hn h:=MB a b x w h
theorem uQ{P:jX}{b:jD j0}{c:Exit->Act->jh->Prop}{E:Act}{w:jh}{d:jd j0}{o:j0}(e:Region.wanted o (yielded b E.tmps)=jm)
 (h:∀K:Act->jh->Prop,(∀E w,wpList P b c d E w->K E w)->o.wp P E w K c):wpList P b c (o::d) E w:=
 wpList_step λK f=>by rw[jt e];exact h K f
theorem Nh(n m:N):(n==m)=decide (n=m):=by by_cases h:n=m<;>simp[h]
theorem TQ{l:jd aK}(c:l.length=r.length)(h:∀t,t<l.length->(l.getD t da).dev=r.getD t 0):l.map aK.dev=r:=by
 refine List.ext_getElem (by rw[jC];exact c) λi a d=>?_
 have b:i<l.length:=by rw[jC]at a;exact a
 have:=h i b;rw[ft _ b,ft _ d]at this;rw[sx];exact this
theorem Q3{l:jd aK}(a:b<l.length)(h:(l.getD b da).dev≠r.getD b 0):¬l.map aK.dev=r:=λe=>by
 apply h
 rw[<-e,ft _ a,ft _ (by rw[jC];exact a),sx]
theorem wB(l:jd aK)(r:jd N)(v M:jj)(w:jh)(h:EM.At w v l)(hu:df w M r)(hl:l.length<=1000000)(hr:r.length<=1000000):
 jq jl 67 #[v,M,.func (.func 66) #[] #[]] w λe w'=>e=jp (.bool (decide (l.map aK.dev=r)))/\jk w w w':=by
 obtain⟨C,a⟩:=J (decide (l.map aK.dev=r));rw[<-a];have D:=O a;obtain⟨p,c,rfl,hc,-⟩:=h.form;obtain⟨q,d,rfl,hd,g⟩:=hu;have P:=O h;have HV:=O g;obtain⟨n,b⟩:=J l.length;obtain⟨m,f⟩:=J r.length;have s:=O b;have z:=O f;rw[<-b]at hl hc P⊢;rw[<-f]at hr hd⊢;have EG:∀args w,(p6 66 args).run jl w=.ok (.enter 66 args) w:=λ_ _=>rfl
 clear h g b f a
 by_cases f:n=m
 ·have aa:((n:N)!=(m:N))=ji:=by simp[f]
  have Uz:((n:N)==(m:N))=jm:=by simp[f]
  have B:=O f;clear f
  go_enter func67,ntmps67
  go_wp2_with fail
  go_loopw [17] (λi wr=>∃k:jb,i=T A k/\k<=n/\jf (∀t,t<k->(l.getD t da).dev=r.getD t 0)/\jf (jk w w wr)) (λi _=>n-(jv i).toNat)
  case atStart=>exact⟨0,I,j6 _,O (λt Q=>jB Q Y),O (jK _ _)⟩
  obtain⟨k,rfl,hk,R,b⟩:=hrel
  by_cases E:k<n
  ·have ad:=aw ((k:N)<(n:N))
   have au:=aw (k<n);have ax:k<m:=aJ B;have hd2:=aw ((k:N)<(m:N));have ay:=aw (k<m);obtain⟨e,he,-⟩:=dN (l:=l) (j:=k) (by rw[<-s];exact E);obtain⟨g,o,rfl,h⟩:=(P.cells).2.2 Y;obtain⟨S,U,rfl,V⟩:=HV.out (by rw[<-z,<-B];omega);have x:=V k (by rw[<-z,<-B];exact E);have X:l.getD k da=e:=by simp[jQ,he]
   have HE:=O X;obtain⟨y,F⟩:=J (r.getD k 0);rw[<-F]at x;have HY:=O F;obtain⟨a,i,u⟩:=e;have c0:wr.cell? ⟨g,o+k*3,jc⟩=ja (T A a):=aD (h k _ he 0 _ I) b;have c1:wr.cell? ⟨g,o+k*3+1,jc⟩=ja (T A i):=aD (h k _ he 1 _ I) b;have c2:wr.cell? ⟨g,o+k*3+2,jc⟩=ja (T A u):=aD (h k _ he 2 _ I) b;have H:=ao wr (je #[T A a,T A i,T A u] 107);have c3:wr.cell? ⟨S,U+k,jc⟩=ja (T A y):=aD x b;have c4:(wr.alloc (je #[T A a,T A i,T A u] 107)).cell? ⟨S,U+k,jc⟩=ja (T A y):=aD c3 H;have HC:jf (∀W,jq jl 66 #[jn #[T A a,T A i,T A u],T A y] W λe w'=>e=jp (.bool (a==y))/\jk W W w'):=O (LK ⟨a,i,u⟩ y);have K:=O H;clear h V x X F he H
   go_wp2_with fail
   refine(HC _).mono ?_;rintro x W ⟨rfl,h⟩;have F:=O (b.trans ((K.trans (h.mono K.size)).mono b.size));clear h HC c0 c1 c2 c3 c4 K
   by_cases h:a=y
   ·have K:(a==y)=jm:=ak h
    have V:jf (∀t,t<k+1->(l.getD t da).dev=r.getD t 0):=O (λt Q=>by
     rcases qn t k with H|H
     ·exact R t H
     obtain rfl:t=k:=Y;rw[HE,<-HY];exact h)
    clear h
    go_wp2_with fail
    exact⟨⟨k+1,by go_num,by omega,V,F⟩,by simp only[jv];omega⟩
   have K:(a==y)=ji:=ak h;obtain rfl:C=ji:=by
    rw[D,decide_eq_false_iff_not];exact Q3 (by rw[<-s];exact E) (by rw[HE,<-HY];exact h)
   clear h
   go_wp2_with fail
   go_ret;exact⟨I,F⟩
  have ad:=az ((k:N)<(n:N));have au:=az (k<n);obtain rfl:k=n:=Y;obtain rfl:C=jm:=by
   rw[D,decide_eq_true_iff];exact TQ (by rw[<-s,<-z];exact B) (by rw[<-s];exact R)
  go_wp2_with fail
  go_ret;exact⟨I,b⟩
 have aa:((n:N)!=(m:N))=jm:=by simp;omega
 have Uz:((n:N)==(m:N))=ji:=by simp;omega
 obtain rfl:C=ji:=by
  rw[D,decide_eq_false_iff_not];intro e;have:=js List.length e;rw[jC,<-s,<-z]at this;exact f this
 clear f
 go_enter func67,ntmps67
 go_wp2_with fail
 go_ret;exact⟨I,jK _ _⟩
theorem pC(a b:LBy)(f:a.length=32)(g:b.length=32)(z:jh):
 (Op.equalIn 10000 23 (jn (a.map v8).toArray) (jn (b.map v8).toArray)).run jl z=.ok (decide (a=b)) z:=by
 have h:=Hc (P:=jl) (t:=23) (e:=5) (n:=32) (k:=.u8) underlying23 xd af af af (a.map λb=>(b.toNat:N)) (b.map λb=>(b.toNat:N)) (by rw[jC];exact f) (by rw[jC];exact g)
  (by
   intro c d;obtain⟨y,-,rfl⟩:=jO.1 d;have:=y.isLt;exact WalkArith.wf_u8 Y) (by
    intro c d;obtain⟨y,-,rfl⟩:=jO.1 d;have:=y.isLt;exact WalkArith.wf_u8 Y) z
 have e:∀l:LBy,(l.map λb=>(b.toNat:N)).map (jo .u8)=l.map v8:=λl=>by rw[xy];rfl
 rw[e,e]at h;rw[h]
 congr 1
 have c:(a.map λb=>(b.toNat:N))=(b.map λb=>(b.toNat:N))↔a=b:=by
  refine yl λx y d=>?_
  have:x.toNat=y.toNat:=xj.inj d;exact BitVec.eq_of_toNat_eq this
 simp only[c]
theorem mU(h:w.ownsRow b 3 1 a r.length (r.map (jo .i64))):df w a r:=by
 obtain⟨m,p,c,B,d,n,f⟩:=cE.of_own h;refine⟨p,c,B,d,λi=>?_⟩;obtain⟨g,o,e,k⟩:=f i;refine⟨g,o,e,λj v=>k j _ ?_⟩;rw[j9,ms v];simp[jQ,v]
theorem eu(w':df w a r)(v:jk w w h):df h a r:=by
 obtain⟨p,c,b,d,f⟩:=w';refine⟨p,c,b,d,λi=>?_⟩;obtain⟨g,o,e,k⟩:=f i;exact⟨g,o,e,λj m=>aD (k j m) v⟩
noncomputable def fH(g:Grp):jF:=by classical exact decide (dD g)
theorem kj(h:¬dD e):fH e=ji:=by unfold fH;simpa using h
theorem Eu(h:dD e):fH e=jm:=by unfold fH;simpa using h
theorem EA{m:aK}:gg d m=ji↔1<=m.since/\m.since<=d/\bP m.ver:=by
 unfold gg;have e:(cS m.ver=0)↔bP m.ver:=⟨λh=>by
  by_cases g:bP m.ver
  ·exact g
  rw[k7 g]at h;exact jB h L,gF⟩
 simp only[Bool.or_eq_false_iff,decide_eq_false_iff_not,Int.not_lt,ne_eq,Classical.not_not,e];exact⟨λh=>⟨h.1.1,h.1.2,h.2⟩,λh=>⟨⟨h.1,h.2.1⟩,h.2.2⟩⟩
theorem Cj(g:kf e.folder)(f:0<=e.epoch/\e.epoch<=1099511627776)(h:de e.tree=0)(i:e.epoch=0->e.mem=[]/\e.last=jW 32 0#8):
 fH e=(decide (e.mem.map aK.dev=cr e.tree)&& !(e.mem.any (gg e.epoch))):=by
 by_cases a:dD e
 ·rw[Eu a]
  have b:decide (e.mem.map aK.dev=cr e.tree)=jm:=jS a.dev;have c:e.mem.any (gg e.epoch)=ji:=by
   rw[ql];intro m d;rw[EA.2 (a.ok m d)];simp
  rw[b,c];rfl
 rw[kj a]
 by_cases b:e.mem.map aK.dev=cr e.tree
 ·have c:e.mem.any (gg e.epoch)=jm:=by
   cases hx:e.mem.any (gg e.epoch)with
   |true=>rfl
   |false=>
    exfalso
    apply a
    rw[ql]at hx;exact⟨g,f,h,i,b,λm d=>EA.1 (by simpa using hx m d)⟩
  rw[c];simp
 simp[b]
theorem Gh(t:jd (N×N)):(cr t).length<=512:=by
 have e:=pJ t;have c:=λd=>(oC t d).1
 have f:((cr t).map Int.toNat).Nodup:=by
  have g:((cr t).map Int.toNat).Pairwise (·<·):=xx.2 (e.imp_of_mem λ{a b} h i j=>by have:=(c a h).1;have:=(c b i).1;omega);exact g.imp λh=>xm h
 have:=List.Nodup.length_le_of_subset f (l₂:=qI 512) (λx a=>by
  obtain⟨d,b,rfl⟩:=jO.1 a;have g:=c d b;rw[r6];omega)
 simpa using this
theorem BU(g:Grp)(vm vt:jj)(w:jh)(h:bL w g vm vt)(F:g.mem.length<=1000000)(k:g.tree.length<=1000000):
 jq jl 24 #[jn (aB g vm vt).toArray] w λe w'=>e=jp (.bool (fH g))/\jk w w w':=by
 obtain⟨r,o⟩:=J (fH g);rw[<-o];have M:=O o;obtain⟨fo,p⟩:=J (decide (kf g.folder));have ax:=O p;have c:=dG.new w (vm:=vm) (vt:=vt) h.llen;have a:=ao w (je (aB g vm vt).toArray 41);have d:=h.below a;obtain⟨pm,cm,rfl,H,-⟩:=h.mem.form;obtain⟨t,q⟩:=J g.mem.length;rw[<-q]at c a d H⊢;have a2:=O q;obtain⟨aa,f⟩:=J ((aB g (jg pm t cm) vt).toArray);obtain⟨m,P,R,n⟩:=c.at;have i:=c.blk;have s:=lP (g:=g) (vm:=jg pm t cm) (vt:=vt) h.llen;have j:=c.last;have u:jf (aa[34]?=ja (jg pm t cm)):=O (by rw[f];simpa using s.2.2.1);have y:jf (aa[35]?=ja vt):=O (by rw[f];simpa using s.2.2.2);rw[<-f]at m P R n i a d j⊢;obtain⟨b,v⟩:=J w.heap.size;rw[<-v]at m P R n i j;obtain⟨W1,z⟩:=J (w.alloc (je aa 41));rw[<-z]at m P R n i a d j;have VA:=O z;have a5:=O v;have Yx:=O f;have K:=O i;have B:=O d;have l:=O a;have Vx:=O h.llen;have Wx:=O k;have Y6:=O F;have Q:=O j;have au:jf ((cr g.tree).length<=1000000):=O (jL (Gh _) L);obtain⟨ck,C⟩:=J (de g.tree);have U:jf (∀W,bJ W vt g.tree->jq jl 63 #[jn #[vt]] W λe w'=>e=jp (T A ck)/\jk W W w'):=O (by rw[C];exact λW x=>wY g.tree vt W x k);have VV:=O C;obtain⟨ep,D⟩:=J g.epoch;rw[<-D]at P;have S:=O D;obtain⟨fd,E⟩:=J g.folder;have V:jf (∀e x,e=g.folder->jq jl 62 #[T A e] x λe w'=>e=jp (.bool fo)/\x=w'):=O (by rw[p];rintro e x rfl;exact EO _ x);rw[<-E]at m;have a6:=O E;clear h o p c a d H q f i s j v z F k C D E
 go_enter func24,ntmps24
 go_upto_region 1 with fail
 rw[<-VA,<-a5]
 go_wp2_with fail
 refine(V fd W1 a6).mono ?_;rintro e w1 ⟨rfl,rfl⟩;clear V
 cases fo with
 |false=>
  obtain rfl:r=ji:=by rw[M];exact kj λh=>by have x:=ax.out;rw[jS h.fol]at x;cases x
  go_wp2_with fail
  go_ret;exact⟨I,l⟩
 |true=>
 by_cases a:ep<0
 ·have ba:decide (ep<0)=jm:=ak a
  obtain rfl:r=ji:=by rw[M];exact kj λh=>by have:=h.ep.1;rw[<-S]at this;omega
  clear a
  go_wp2_with fail
  go_ret;exact⟨I,l⟩
 have ba:decide (ep<0)=ji:=ak a
 by_cases x:1099511627776<ep
 ·have hd2:decide (1099511627776<ep)=jm:=ak x
  obtain rfl:r=ji:=by rw[M];exact kj λh=>by have:=h.ep.2;rw[<-S]at this;omega
  clear a x
  go_wp2_with fail
  go_ret;exact⟨I,l⟩
 have hd2:decide (1099511627776<ep)=ji:=ak x;have a3:=O (show 0<=ep/\ep<=1099511627776 by omega);clear a x
 go_wp2_with fail
 refine(U W1 B.tree).mono ?_;rintro e w1 ⟨rfl,a⟩;have f:=ae K a;have i:=O (B.below a);have k:=ah l a;have bb:jf (w1.rangeAt b 2 (g.last.map v8)):=O (λj v c=>aD (Q j v c) a);replace P:=aD P a;replace R:=aD R a;clear a K B l Q m n U
 by_cases B:ck=0
 case neg=>
  have hd3:(ck==0)=ji:=ak B;have c:decide (ck=0)=ji:=ak B;have d:(ck !=0)=jm:=ak B;obtain rfl:r=ji:=by rw[M];exact kj λh=>B (by rw[VV];exact h.tree)
  clear B
  go_wp2_with fail
  go_ret;exact⟨I,k⟩
 subst B;have a4:jf (0=de g.tree):=VV
 by_cases h4:ep=0
 case pos=>
  subst h4
  by_cases d:0<t
  ·have bc:decide (0<t)=jm:=ak d
   have bd:decide ((0:N)<(t:N))=jm:=ak d;obtain rfl:r=ji:=by rw[M];exact kj λh=>by have:=(h.zero S.symm).1;have e:=a2.out;rw[this]at e;simp at e;omega
   clear d
   go_wp2_with fail
   go_ret;exact⟨I,k⟩
  have bc:decide (0<t)=ji:=ak d;have bd:decide ((0:N)<(t:N))=ji:=ak d;obtain⟨bf,c⟩:=J ((g.last.map v8).toArray);have bg:=O c;obtain⟨Q,p⟩:=J (decide (g.last=jW 32 0#8));have C:=O p;have j:∀z,(Op.equalIn 10000 23 (jn bf) (jn a8)).run jl z=.ok Q z:=by
   rw[c,p];exact λz=>pC g.last (jW 32 0#8) Vx I z
  clear c p
  go_upto_region 3 with fail
  refine ow ?_;iterate 10 refine eh ?_
  refine uQ aj λ_ c=>wp_load_mid 23 _ I b 2 I (g.last.map v8) _ bb.out underlying23 I (by rw[jC,Vx];kernel_rfl) (c _ _ ?_)
  rw[<-bg];refine G ?_;refine eh ?_
  rcases Q with _|_
  ·obtain rfl:r=ji:=by rw[M];exact kj λh=>by have x:=(h.zero S.symm).2;have B:=C.out;rw[jS x]at B;cases B
   go_wp2_with fail
   go_ret;exact⟨I,k⟩
  have U:jf (r=(decide (g.mem.map aK.dev=cr g.tree)&& !(g.mem.any (gg g.epoch)))):=O (by
   rw[M];exact Cj (qd ax.symm) (by rw[<-S];exact a3) a4.symm (λe=>⟨sy (by rw[<-a2];simpa using d),qd C.symm⟩))
  clear C d;obtain⟨Q,p⟩:=J (decide (g.mem.map aK.dev=cr g.tree));obtain⟨wr,V⟩:=J (g.mem.any (gg g.epoch));rw[<-p,<-V]at U;have C:jf (decide (g.mem.map aK.dev=cr g.tree)=Q):=O p.symm;have ay:=O V;clear p V
  go_upto_region 7 with fail
  clear P R j;refine qc ?_;refine dj (λn=>n.heap[b]?=ja (je aa 41 (0,0))) (.t 0 (.t 1 (.t 2 (.t 3 (.t 5 (.o 4 (.o 6 (.t 7 (.t 8 (.t 9 (.t 10 (.o 11 (.t 12 (.t 13 (.t 14 .done))))))))))))))) af af af L (λ_ _ _ _ h=>h) f ?_;obtain⟨x0,ad⟩:=J w1.drew;have a:=bV w1;rw[<-ad]at a⊢;have D:=ae f a;have o:=O (i.below a);have l:=ah k a;clear a ad f i k
  cases Q with
  |true=>
   refine aO ?_
   (refine aS (v:=?_) I aj (λn d=>?_) ?_;rotate_left;(have E:=ai d u;have F:=ai d y;go_simp;with_reducible rfl);refine G ?_)
   refine aO ?_
   (refine aS (v:=?_) I aj (λn d=>?_) ?_;rotate_left;(have E:=ai d u;have F:=ai d y;go_simp;with_reducible rfl);refine G ?_)
   refine aO ?_;refine aF I (λq c=>?_);go_simp;refine(tF g.tree vt x0 o.tree Wx).mono ?_;rintro e x1 ⟨a1,rfl,m,a⟩;have s:=O (mU m);obtain⟨pu,cu,rfl,W,X⟩:=mU m;clear m W X;have k:=ah l a;have f:=ae D a;have i:=O (o.below a);clear l D o;clear a;refine c _ _ f.out λ_=>?_
   clear c;refine G ?_;refine aF I (λq c=>?_);go_simp;refine(wB g.mem (cr g.tree) _ _ x1 i.mem s Y6 au).mono ?_;rintro e x2 ⟨rfl,a⟩;rw[C];have H:=ah k a;have j:=ae f a;have K:=O (i.below a);clear k f i s;clear a;refine c _ _ j.out λ_=>?_
   clear c;refine G ?_;iterate 2 refine aO ?_
   (refine aS (v:=?_) I aj (λn d=>?_) ?_;rotate_left;(have E:=ai d u;have F:=ai d y;go_simp;with_reducible rfl);refine G ?_)
   refine aO ?_;refine aF I (λq c=>?_);rw[jt aj];go_simp;refine(Aq (Dd g (jg pm t cm) vt b x2.heap.size (jG.1 j).1) g.mem _ x2 K.mem ⟨by rw[j,Yx],Vx⟩ (ju _) Y6).mono ?_;rintro e x3 ⟨rfl,a⟩;rw[<-ay];have Ut:=ah H a;have Zi:=ae j a;have bh:=O (K.below a);clear H j K;clear a;refine c _ _ Zi.out λ_=>?_
   clear c;refine G ?_;iterate 3 refine aO ?_
   refine jV ?_
   go_wp2_with fail
   go_ret;exact⟨by rw[U];rfl,Ut⟩
  |false=>
   refine aO ?_
   (refine aS (v:=?_) I aj (λn d=>?_) ?_;rotate_left;(have E:=ai d u;have F:=ai d y;go_simp;with_reducible rfl);refine G ?_)
   refine aO ?_
   (refine aS (v:=?_) I aj (λn d=>?_) ?_;rotate_left;(have E:=ai d u;have F:=ai d y;go_simp;with_reducible rfl);refine G ?_)
   refine aO ?_;refine aF I (λq c=>?_);go_simp;refine(tF g.tree vt x0 o.tree Wx).mono ?_;rintro e x1 ⟨a1,rfl,m,a⟩;have s:=O (mU m);obtain⟨pu,cu,rfl,W,X⟩:=mU m;clear m W X;have k:=ah l a;have f:=ae D a;have i:=O (o.below a);clear l D o;clear a;refine c _ _ f.out λ_=>?_
   clear c;refine G ?_;refine aF I (λq c=>?_);go_simp;refine(wB g.mem (cr g.tree) _ _ x1 i.mem s Y6 au).mono ?_;rintro e x2 ⟨rfl,a⟩;rw[C];have H:=ah k a;have j:=ae f a;have K:=O (i.below a);clear k f i s;clear a;refine c _ _ j.out λ_=>?_
   clear c;refine G ?_;refine aO ?_;iterate 3 refine io ?_
   refine aF I (λq c=>?_);rw[jw (vi.1 aj)];refine c _ _ j.out λ_=>?_
   clear c;refine G ?_;refine io ?_;iterate 2 refine aO ?_
   refine jV ?_
   go_wp2_with fail
   go_ret;exact⟨by rw[U];rfl,H⟩
 have z:decide (ep=0)=ji:=ak h4;have bc:(ep==0)=ji:=ak h4;have U:jf (r=(decide (g.mem.map aK.dev=cr g.tree)&& !(g.mem.any (gg g.epoch)))):=O (by rw[M];exact Cj (qd ax.symm) (by rw[<-S];exact a3) a4.symm (λe=>jB (S.trans e) h4));clear h4;obtain⟨Q,p⟩:=J (decide (g.mem.map aK.dev=cr g.tree));obtain⟨wr,V⟩:=J (g.mem.any (gg g.epoch));rw[<-p,<-V]at U;have C:jf (decide (g.mem.map aK.dev=cr g.tree)=Q):=O p.symm;have ay:=O V;clear p V
 go_upto_region 7 with fail
 clear P R;refine qc ?_;refine dj (λn=>n.heap[b]?=ja (je aa 41 (0,0))) (.t 0 (.t 1 (.t 2 (.t 3 (.t 5 (.o 4 (.o 6 (.t 7 (.t 8 (.t 9 (.t 10 (.o 11 (.t 12 (.t 13 (.t 14 .done))))))))))))))) af af af L (λ_ _ _ _ h=>h) f ?_;obtain⟨x0,ad⟩:=J w1.drew;have a:=bV w1;rw[<-ad]at a⊢;have D:=ae f a;have o:=O (i.below a);have l:=ah k a;clear a ad f i k
 cases Q with
 |true=>
  refine aO ?_
  (refine aS (v:=?_) I aj (λn d=>?_) ?_;rotate_left;(have E:=ai d u;have F:=ai d y;go_simp;with_reducible rfl);refine G ?_)
  refine aO ?_
  (refine aS (v:=?_) I aj (λn d=>?_) ?_;rotate_left;(have E:=ai d u;have F:=ai d y;go_simp;with_reducible rfl);refine G ?_)
  refine aO ?_;refine aF I (λq c=>?_);go_simp;refine(tF g.tree vt x0 o.tree Wx).mono ?_;rintro e x1 ⟨a1,rfl,m,a⟩;have s:=O (mU m);obtain⟨pu,cu,rfl,W,X⟩:=mU m;clear m W X;have k:=ah l a;have f:=ae D a;have i:=O (o.below a);clear l D o;clear a;refine c _ _ f.out λ_=>?_
  clear c;refine G ?_;refine aF I (λq c=>?_);go_simp;refine(wB g.mem (cr g.tree) _ _ x1 i.mem s Y6 au).mono ?_;rintro e x2 ⟨rfl,a⟩;rw[C];have H:=ah k a;have j:=ae f a;have K:=O (i.below a);clear k f i s;clear a;refine c _ _ j.out λ_=>?_
  clear c;refine G ?_;iterate 2 refine aO ?_
  (refine aS (v:=?_) I aj (λn d=>?_) ?_;rotate_left;(have E:=ai d u;have F:=ai d y;go_simp;with_reducible rfl);refine G ?_)
  refine aO ?_;refine aF I (λq c=>?_);rw[jt aj];go_simp;refine(Aq (Dd g (jg pm t cm) vt b x2.heap.size (jG.1 j).1) g.mem _ x2 K.mem ⟨by rw[j,Yx],Vx⟩ (ju _) Y6).mono ?_;rintro e x3 ⟨rfl,a⟩;rw[<-ay];have Ut:=ah H a;have Zi:=ae j a;have bh:=O (K.below a);clear H j K;clear a;refine c _ _ Zi.out λ_=>?_
  clear c;refine G ?_;iterate 3 refine aO ?_
  refine jV ?_
  go_wp2_with fail
  go_ret;exact⟨by rw[U];rfl,Ut⟩
 |false=>
  refine aO ?_
  (refine aS (v:=?_) I aj (λn d=>?_) ?_;rotate_left;(have E:=ai d u;have F:=ai d y;go_simp;with_reducible rfl);refine G ?_)
  refine aO ?_
  (refine aS (v:=?_) I aj (λn d=>?_) ?_;rotate_left;(have E:=ai d u;have F:=ai d y;go_simp;with_reducible rfl);refine G ?_)
  refine aO ?_;refine aF I (λq c=>?_);go_simp;refine(tF g.tree vt x0 o.tree Wx).mono ?_;rintro e x1 ⟨a1,rfl,m,a⟩;have s:=O (mU m);obtain⟨pu,cu,rfl,W,X⟩:=mU m;clear m W X;have k:=ah l a;have f:=ae D a;have i:=O (o.below a);clear l D o;clear a;refine c _ _ f.out λ_=>?_
  clear c;refine G ?_;refine aF I (λq c=>?_);go_simp;refine(wB g.mem (cr g.tree) _ _ x1 i.mem s Y6 au).mono ?_;rintro e x2 ⟨rfl,a⟩;rw[C];have H:=ah k a;have j:=ae f a;have K:=O (i.below a);clear k f i s;clear a;refine c _ _ j.out λ_=>?_
  clear c;refine G ?_;refine aO ?_;iterate 3 refine io ?_
  refine aF I (λq c=>?_);rw[jw (vi.1 aj)];refine c _ _ j.out λ_=>?_
  clear c;refine G ?_;refine io ?_;iterate 2 refine aO ?_
  refine jV ?_
  go_wp2_with fail
  go_ret;exact⟨by rw[U];rfl,H⟩
def mo(g:Grp)(a:N)(x:ap):jF:=(cG g.mem x.d==decide (x.k=1))||(cG g.mem a&&decide (x.d=a))
noncomputable def lK(g:Grp)(a:N)(l:jd ap):jF:=by classical exact decide (gN g a l)
theorem tH:lK e d f=jm↔gN e d f:=by unfold lK;simp
theorem tK(h:¬gN e d f):lK e d f=ji:=by unfold lK;simpa using h
theorem EW(c:cG e.mem d=decide (0<e.epoch))(a:e.epoch=0->∃x r,f=x::r/\x.d=d):lK e d f= !(f.any (mo e d)):=by
 have g:∀x:ap,mo e d x=ji↔(cG e.mem x.d=decide (x.k≠1)/\(cG e.mem d=jm->x.d≠d)):=λx=>by
  unfold mo
  cases cG e.mem x.d<;>cases cG e.mem d<;>by_cases b:x.k=1<;>by_cases l:x.d=d<;>simp[b,l]
 rw[qB,tH,Bool.not_eq_true',ql]
 constructor
 ·intro h x b
  rw[(g x).2 (h.each x b)];simp
 intro h;exact⟨c,a,λx b=>(g x).1 (by simpa using h x b)⟩
theorem Kb(g:Grp)(vm vt:jj)(a:N)(f:jF)(s t u:jb)(x:ap)(w:jh)(k:dG w s g vm vt)(K:EM.At w vm g.mem)(M:mu g.mem)(P:g.mem.length<=1000000)
 (v:jA w t 4 (.bool f)) (y:jA w u 3 (T A a)) (Q:f=cG g.mem a):
 jq jl 123 #[jn x.cells.toArray,jz (ja ⟨s,0,jc⟩),jz (ja ⟨t,0,jc⟩),jz (ja ⟨u,0,jc⟩)] w λe w'=>e=jp (.bool (mo g a x))/\jk w w w':=by
 obtain⟨c,b,l,m,n⟩:=x;obtain⟨r,o⟩:=J (mo g a ⟨c,b,l,m,n⟩);rw[<-o];have HR:=O o;unfold ap.cells;have d:=ao w (je #[T A c,T A b,T A l,T A m,T A n] 62);have p:=jy w (je #[T A c,T A b,T A l,T A m,T A n] 62);have j:=O (yN g vm vt b _ (K.below d) M P k.llen);have q:=(k.below d).blk;have z:=rA (vm:=vm) (vt:=vt) k.llen;obtain⟨aa,R⟩:=J ((aB g vm vt).toArray);rw[<-R]at j q z;obtain⟨W0,C⟩:=J (w.alloc (je #[T A c,T A b,T A l,T A m,T A n] 62));obtain⟨B,D⟩:=J w.heap.size;rw[<-C]at j q d p;rw[<-D]at p;have S:=O q;have U8:=O z;have U:=O d;have E:=O p;have V:=O ((d.block _ v.lt).trans v);have W:=O ((d.block _ y.lt).trans y);have ad:=O C;have au:=O D;obtain⟨F,H⟩:=J (cG g.mem b);rw[<-H]at j;have h:jf (r=((F==decide (c=1))||(f&&decide (b=a)))):=O (by rw[o,H,Q];rfl);have X:=ai (i:=1) E I;clear d p q z R C D o H k K M P v y Q
 go_enter func123,ntmps123
 go_upto_region 1 with fail
 rw[<-ad,<-au];refine ow ?_;refine qb I 41 _ I s I 41 aa (0,0) _ S.out qs I U8 ?_
 go_wp2_with fail
 refine(j).mono ?_;rintro e p ⟨rfl,k⟩;have q:=ae E k;have v:jf (jA p t 4 (.bool f)):=ae V k;have y:jf (jA p u 3 (T A a)):=ae W k;have d:=ah U k;clear k j E V W U S X;have z:=ai (i:=0) q I;have X:=ai (i:=1) q I;have C:=v.cell;have D:=y.cell
 by_cases j:c=1
 case pos=>
  subst j
  cases F with
  |true=>
   obtain rfl:r=jm:=by rw[h];simp
   go_wp2_with fail
   go_ret;exact⟨I,d⟩
  |false=>
   cases f with
   |true=>
    have k:jf (r=(b==a)):=O (by rw[h];simp;rfl)
    go_wp2_with fail
    go_ret;exact⟨iB k.symm,d⟩
   |false=>
    obtain rfl:r=ji:=by rw[h];simp
    go_wp2_with fail
    go_ret;exact⟨I,d⟩
 have E:(c==1)=ji:=ak j;have o:decide (c=1)=ji:=ak j;clear j
 rcases F with _|_
 ·obtain rfl:r=jm:=by rw[h,o];simp
  go_wp2_with fail
  go_ret;exact⟨I,d⟩
 cases f with
 |true=>
  have k:jf (r=(b==a)):=O (by rw[h,o];simp;rfl)
  go_wp2_with fail
  go_ret;exact⟨iB k.symm,d⟩
 |false=>
  obtain rfl:r=ji:=by rw[h,o];simp
  go_wp2_with fail
  go_ret;exact⟨I,d⟩
theorem QQ(g:Grp)(vm vt:jj)(a:N)(c:jF)(d e f:jb)(b:jh)(k:dG b d g vm vt)(l:EM.At b vm g.mem)(m:mu g.mem)(n:g.mem.length<=1000000)
 (i:jA b e 4 (.bool c)) (j:jA b f 3 (T A a)) (o:c=cG g.mem a):
 fV EC 123 #[jz (ja ⟨d,0,jc⟩),jz (ja ⟨e,0,jc⟩),jz (ja ⟨f,0,jc⟩)] b.heap.size (λW=>jk b b W) (mo g a) where
 enter _ _:=I
 keep w w' hn h hB:=h.trans hB
 call x w hn h:=Kb g vm vt a c d e f x w (k.below h) (l.below h) m n ((h.block _ i.lt).trans i) ((h.block _ j.lt).trans j) o
theorem uz(h:dD e):mu e.mem:=by
 intro i j c a;have b:=pJ e.tree;rw[<-h.dev]at b;have:=(xz.1 b) i j (by rw[jC];omega) (by rw[jC];exact a) c;rw[sx,sx]at this;rw[ft _ Y,ft _ a];exact this
theorem O9(g:Grp)(vm vt vl:jj)(a:N)(l:jd ap)(w:jh)(h:bL w g vm vt)(f:dD g)(z:g.mem.length<=1000000)(E:EC.At w vl l)(hl:l.length<=1000000):
 jq jl 72 #[jn (aB g vm vt).toArray,T A a,vl] w λe w'=>e=jp (.bool (lK g a l))/\jk w w w':=by
 obtain⟨r,F⟩:=J (lK g a l);rw[<-F];have k:=O F;have j:=ao w (je (aB g vm vt).toArray 41);have H:=dG.new w (vm:=vm) (vt:=vt) h.llen;obtain⟨B,b⟩:=J (w.alloc (je (aB g vm vt).toArray 41));rw[<-b]at j H;have m:=ao B (je #[T A a] 3);have d:=Boxed.new B 3 (T A a);have K:=H.below m;obtain⟨W2,M⟩:=J (B.alloc (je #[T A a] 3));rw[<-M]at m d K;have o:=j.trans (m.mono j.size);have s:=h.below o;have P:=E.below o;have x:=O (yN g vm vt a W2 s.mem (uz f) z s.llen);have Q:=rA (vm:=vm) (vt:=vt) h.llen;have u:=K.blk;obtain⟨ad,R⟩:=J ((aB g vm vt).toArray);rw[<-R]at b x Q u⊢;obtain⟨C,y⟩:=J w.heap.size;obtain⟨p,S⟩:=J B.heap.size;rw[<-y]at u;rw[<-S]at d;obtain⟨pl,cl,rfl,VB,-⟩:=E.form;obtain⟨n,U⟩:=J l.length;obtain⟨q,V⟩:=J (cG g.mem a);obtain⟨ep,D⟩:=J g.epoch;have au:=O f.ep.1;have ax:=O (uz f);rw[<-V]at x;rw[<-U]at VB P⊢;have ay:=O b;have a1:=O M;have a2:=O y;have YS:jf (p=C+1):=O (by rw[S,y,b];simp);have Yx:=O R;have U8:=O Q;have W:=O u;have X:=O d;have Ur:=O o;have WV:=O s;have UH:=O P;have YC:=O U;have t:=O V;have c:=O D;have a3:=O hl;have Wi:=O z;have a5:jf (p<W2.heap.size):=O d.lt;clear F j H b m d K M o s P Q u R y S U V D E hl z h f
 go_enter func72,ntmps72
 go_upto_region 1 with fail
 rw[<-ay,<-a2,<-a1,<-YS];refine ow ?_;refine qb I 41 _ I C I 41 ad (0,0) _ W.out qs I U8 ?_;have P:=X.cell
 go_wp2_with fail
 refine(x).mono ?_;rintro e u ⟨rfl,b⟩;have j:=ae W b;have m:jf (jA u p 3 (T A a)):=ae X b;have y:=O (WV.below b);have z:=O (UH.below b);have E:=ah Ur b;clear b x W X WV UH Ur P
 go_upto_region 2 with fail
 have b:=ao u (je #[.bool q] 4);have d:=Boxed.new u 4 (.bool q);obtain⟨f,x⟩:=J (u.alloc (je #[.bool q] 4));obtain⟨Q,F⟩:=J u.heap.size;rw[<-x]at b d⊢;rw[<-F]at d⊢;have R:=ae j b;have S:jf (jA f p 3 (T A a)):=ae m b;have U:=O (y.below b);have V:=O (z.below b);have s:=ah E b;have W:=O d;clear b x F d j m y z E;have P:=W.cell;have c1:=S.cell;have c2:=ai (i:=1) (v:=T A ep) R.out (by rw[Yx,c];rfl);have X:jf (∀z:jh,(∃m,z=f.drewN m)->jq jl 38 #[jg pl n cl,.func (.func 123) #[] #[jz (ja ⟨C,0,jc⟩),jz (ja ⟨Q,0,jc⟩),jz (ja ⟨p,0,jc⟩)]] z λe w'=>e=jp (.bool (l.any (mo g a)))/\jk w w w'):=O (by
  rintro z ⟨m,rfl⟩;have b:jk f f (f.drewN m):=(jK _ _).trans ⟨I,I,I,ju _,λ_ _=>rfl⟩;refine(Bq (QQ g vm vt a q C Q p (f.drewN m) ⟨by rw[av R b,Yx],U.llen⟩ (U.mem.below b) ax Wi (av W b) (av S b) t) l _ _ (V.below b) (jK _ _) (ju _) a3).mono ?_;rintro e w' ⟨rfl,o⟩;exact⟨I,s.trans ((b.trans (o.mono b.size)).mono s.size)⟩)
 by_cases b:0<ep
 case pos=>
  have m:decide (0<ep)=jm:=ak b;have hd2:(ep==0)=ji:=by simp;omega
  have j:=O b;clear b
  rcases q with _|_
  ·obtain rfl:r=ji:=by
    rw[k];exact tK λh=>by have d:=h.own;rw[<-t,<-c,m]at d;cases d
   go_quiet (fail)
   go_wp2_with fail
   go_ret;exact⟨I,s.trans ⟨I,I,I,ju _,λ_ _=>rfl⟩⟩
  have E:jf (r= !(l.any (mo g a))):=O (by rw[k];exact EW (by rw[<-t,<-c,m]) (λe=>jB (c.trans e) (aJ j)))
  go_quiet (fail)
  go_wp2_with fail
  refine(X _ ⟨_,I⟩).mono ?_;rintro e w5 ⟨rfl,y⟩;have F:=O y;clear y
  go_wp2_with fail
  go_ret;exact⟨iB E.symm,F⟩
 have m:decide (0<ep)=ji:=ak b;have D:ep=0:=by have:=au.out;rw[<-c]at this;omega
 subst D;clear b
 cases q with
 |true=>
  obtain rfl:r=ji:=by
   rw[k];exact tK λh=>by have d:=h.own;rw[<-t,<-c,m]at d;cases d
  go_quiet (fail)
  go_wp2_with fail
  go_ret;exact⟨I,s.trans ⟨I,I,I,ju _,λ_ _=>rfl⟩⟩
 |false=>
 by_cases d:n=0
 case pos=>
  subst d;obtain rfl:r=ji:=by
   rw[k];exact tK λh=>by
    obtain⟨x,r,b,-⟩:=h.first c.symm;have j:=YC.out;rw[b]at j;simp at j
  go_quiet (fail)
  go_wp2_with fail
  go_ret;exact⟨I,s.trans ⟨I,I,I,ju _,λ_ _=>rfl⟩⟩
 have hd3:((n:N)==0)=ji:=by simp;omega
 have a4:0<n:=Y;obtain⟨g0,o0,rfl,aa⟩:=(V.cells).2.2 a4;obtain⟨x,H,K⟩:∃x H,l=x::H:=by
  rcases l with _|⟨x,r⟩
  ·have:=YC.out;simp at this;omega
  exact⟨x,r,I⟩
 have c3:f.cell? ⟨g0,o0+1,jc⟩=ja (T A x.d):=by
  have h:=aa 0 x (by rw[K];rfl) 1 _ I;rw[Nat.zero_mul,sh]at h;exact h
 obtain⟨z,M⟩:=J x.d;rw[<-M]at c3;have Zn:=O K;have Zz:=O M;clear aa K M d
 by_cases b:z=a
 case neg=>
  have K:(z==a)=ji:=ak b;have M:(z !=a)=jm:=ak b;obtain rfl:r=ji:=by
   rw[k];exact tK λh=>by
    obtain⟨x2,r2,j,h5⟩:=h.first c.symm;rw[Zn]at j;injection j with j _
    subst j;exact b (Zz.trans h5)
  clear b
  go_quiet (fail)
  go_wp2_with fail
  go_ret;exact⟨I,s.trans ⟨I,I,I,ju _,λ_ _=>rfl⟩⟩
 have K:(z==a)=jm:=ak b;have M:(z !=a)=ji:=ak b;have E:jf (r= !(l.any (mo g a))):=O (by rw[k];exact EW (by rw[<-t,<-c,m]) (λe=>⟨x,H,Zn,by rw[<-Zz];exact b⟩));clear b
 go_quiet (fail)
 go_wp2_with fail
 refine(X _ ⟨_,I⟩).mono ?_;rintro e w5 ⟨rfl,y⟩;have F:=O y;clear y
 go_wp2_with fail
 go_ret;exact⟨iB E.symm,F⟩
def oo(x:ap):Prop:=(x.k=1/\bP x.p/\bP x.v/\x.c=0)\/(x.k=2/\x.p=0/\x.v=0/\0<=x.c/\x.c<=1048576)\/(x.k=3/\bP x.p/\bP x.v/\0<=x.c/\x.c<=1048576)
noncomputable def lW(x:ap):jF:=by classical exact decide (oo x)
noncomputable def tz(x:ap):jF:=decide (cS x.p=0)&&decide (cS x.v=0)
def sk(x:ap):jF:=decide (0<=x.c)&&decide (x.c<=1048576)
theorem zh:cS d=0↔bP d:=⟨λh=>by
 by_cases g:bP d
 ·exact g
 rw[k7 g]at h;exact jB h L,gF⟩
theorem Fg:tz x=jm↔bP x.p/\bP x.v:=by unfold tz;simp[zh]
theorem FI:sk x=jm↔0<=x.c/\x.c<=1048576:=by unfold sk;simp
theorem rJ:lW x=jm↔oo x:=by unfold lW;simp
theorem SF(h:x.k=1):lW x=(tz x&&(x.c==0)):=by
 rw[qB,wq,Fg,beq_iff_eq,rJ];unfold oo;simp[h,and_assoc]
theorem Ua(h:x.k=2):lW x=((x.p==0)&&(x.v==0)&&sk x):=by
 rw[qB,wq,wq,FI,beq_iff_eq,beq_iff_eq,rJ];unfold oo;simp[h,and_assoc]
theorem KS(h:x.k=3):lW x=(tz x&&sk x):=by
 rw[qB,wq,Fg,FI,rJ];unfold oo;simp[h,and_assoc]
theorem Mo(a:x.k≠1)(b:x.k≠2)(c:x.k≠3):lW x=ji:=by
 have h:¬oo x:=by unfold oo;simp[a,b,c]
 cases hb:lW x with
 |false=>rfl
 |true=>exact jB (rJ.1 hb) h
noncomputable def iH(l:jd ap):jF:=by classical exact decide (eX l)
theorem oA:iH f=jm↔eX f:=by unfold iH;simp
theorem Fb(h:¬eX f):iH f=ji:=by unfold iH;simpa using h
structure mg(l:jd ap):Prop where
 each:∀x∈l,oO x
 once:(l.map ap.d).Nodup
theorem mg.nil:mg []:=⟨(λx h=>by cases h),by simp⟩
theorem mg.snoc(h:mg f)(l:fI x.d)(g:lW x=jm)(i:x.d∉f.map ap.d):mg (f++[x]):=by
 refine⟨λy c=>?_,?_⟩
 ·rcases pz.1 c with c|c
  ·exact h.each y c
  rw[qx]at c;subst c;refine⟨l,?_⟩;exact rJ.1 g
 rw[qe,H5];refine⟨h.once,by simp,λa j b d=>?_⟩;simp at d;subst d;exact λe=>i (e▸j)
theorem yw(a:f[b]?=ja x)(h:¬fI x.d\/lW x=ji\/x.d∈(f.take b).map ap.d):iH f=ji:=by
 refine Fb λk=>?_
 have c:=k.each x (j1 a)
 rcases h with h|h|h
 ·exact h c.1
 ·rw[rJ.2 c.2]at h;cases h
 have l:f=f.take b++f.drop b:=(xr b f).symm;have g:x∈f.drop b:=by
  obtain⟨d,e⟩:=o8.1 a;rw[xX d,e];exact qP ..
 have d:=k.once;rw[l,qe,H5]at d;exact d.2.2 _ h _ (jO.2 ⟨x,g,I⟩) I
theorem OR(h:mg f):iH f=decide (f.length<=64):=by
 rw[qB,oA,decide_eq_true_iff];exact⟨λh=>h.len,λa=>⟨h.each,h.once,a⟩⟩
theorem Qi(a:jd N)(y:N):(ef a y).getD ji=decide (y∈a):=by
 unfold ef
 split<;>simp_all
theorem Am(l:jd ap)(v:jj)(w:jh)(h:EC.At w v l)(hl:l.length<=1000000):
 jq jl 70 #[v] w λe w'=>e=jp (.bool (iH l))/\jk w w w':=by
 obtain⟨W,a⟩:=J (iH l);rw[<-a];have X:=O a;obtain⟨p,c,rfl,hc,-⟩:=h.form;have HU:=O h;obtain⟨n,b⟩:=J l.length;have HN:=O b;rw[<-b]at hl hc HU⊢;have d:=aZ.made (ik qH) 3 w;have f:=ao w (.map #[] 0);have ad:=O d;have Uq:=O f;have g:=@run_makeMap jl;clear h b a d f
 go_enter func70,ntmps70
 go_wp2_with fail
 clear g;obtain⟨M,a⟩:=J w.heap.size;have ay:=O a;rw[<-a]at ad⊢;obtain⟨W0,b⟩:=J (w.alloc (.map #[] 0));rw[<-b]at ad Uq⊢;clear a b
 go_loopw [12] (λi wr=>∃k:jb,i=T A k/\k<=n/\jf (aZ (ik qH) 3 wr M k (ef ((l.take k).map ap.d)))/\jf (mg (l.take k))/\jf (jk w w wr)) (λi _=>n-(jv i).toNat)
 case atStart=>exact⟨0,I,j6 _,O (ad.congr (λx _=>by simp[ef])),O (ak mg.nil),Uq⟩
 obtain⟨k,rfl,hk,z,HP,a⟩:=hrel
 by_cases a1:k<n
 case neg=>
  have y:=az ((k:N)<(n:N));have a2:=az (k<n);obtain rfl:k=n:=Y;have b:jf (W=decide (k<=64)):=O (by
   have h:=HP.out;rw[jU (by rw[<-HN];exact ju _)]at h;rw[X,OR h,<-HN])
  go_wp2_with fail
  go_ret;exact⟨iB (by rw[b,qB,decide_eq_true_iff,decide_eq_true_iff];omega),a⟩
 have y:=aw ((k:N)<(n:N));have a2:=aw (k<n);obtain⟨e,he,K⟩:=dN (l:=l) (j:=k) (by rw[<-HN];exact a1);obtain⟨g,o,rfl,b⟩:=(HU.cells).2.2 Y;have HE:=O he;have Vu:=O K;have Q:=O (SF (x:=e));have R:=O (Ua (x:=e));have D:=O (KS (x:=e));have aa:=O (Mo (x:=e));obtain⟨S,B⟩:=J (tz e);obtain⟨F,C⟩:=J (sk e);obtain⟨s,H⟩:=J (lW e);have au:=O B;have Va:=O C;have ax:=O H;rw[<-B]at Q D;rw[<-C]at R D;rw[<-H]at aa Q R D;obtain⟨d,f,ep,u,r⟩:=e;have c0:wr.cell? ⟨g,o+k*5,jc⟩=ja (T A d):=aD (b k _ he 0 _ I) a;have c1:wr.cell? ⟨g,o+k*5+1,jc⟩=ja (T A f):=aD (b k _ he 1 _ I) a;have U:wr.cell? ⟨g,o+k*5+2,jc⟩=ja (T A ep):=aD (b k _ he 2 _ I) a;have c3:wr.cell? ⟨g,o+k*5+3,jc⟩=ja (T A u):=aD (b k _ he 3 _ I) a;have c4:wr.cell? ⟨g,o+k*5+4,jc⟩=ja (T A r):=aD (b k _ he 4 _ I) a;have V:=ao wr (je #[T A d,T A f,T A ep,T A u,T A r] 62);have hX:=jy wr (je #[T A d,T A f,T A ep,T A u,T A r] 62);have m:=O V;have q:=O hX;dsimp only at aa Q R D;clear b he K B C H V hX
 go_upto_region 5 with fail
 obtain⟨B,b⟩:=J wr.heap.size;rw[<-b]at q⊢;obtain⟨W1,C⟩:=J (wr.alloc (je #[T A d,T A f,T A ep,T A u,T A r] 62));rw[<-C]at m q⊢;have K:=O (z.below m z.lt);have Up:=O (a.trans (m.mono a.size));have a4:=O b;clear b C c0 c1 U c3 c4 z a m
 go_cut [6] (λv b=>v=.bool S/\jf (jk W1 W1 b))
 case first=>
  have b2:=ai (i:=2) q I;have b3:=ai (i:=3) q I;have V:=O (gD ep);have U2:=O (gD u);have C:jf (S=(decide (cS ep=0)&&decide (cS u=0))):=O au;obtain⟨U,a⟩:=J (cS ep);obtain⟨c3,m⟩:=J (cS u);rw[<-a]at V C;rw[<-m]at U2 C;clear a m
  go_wp2_with fail
  refine(V _).mono ?_;rintro e w2 ⟨rfl,a⟩;replace b3:=aD b3 a;have z:=O a;clear a b2
  by_cases m:U=0
  ·subst m
   go_wp2_with fail
   refine(U2 _).mono ?_;rintro e w3 ⟨rfl,a⟩;have H:=ah z a;clear a
   go_wp2_with fail
   go_meet
   exact⟨by rw[C,<-Nh];rfl,H⟩
  have hd2:(U==0)=ji:=ak m;have a3:decide (U=0)=ji:=ak m;obtain rfl:S=ji:=by rw[C,a3];rfl
  clear m
  go_wp2_with fail
  go_meet
  exact⟨I,z⟩
 obtain⟨rfl,z⟩:=hcut;have V:=O (av q z);have VL:=O (K.below z K.lt);have H:=O (Up.trans (z.mono Up.size));clear q K Up z;have b4:=ai (i:=4) V I
 go_upto_region 6 with fail
 go_cut [7] (λv b=>v=.bool F/\wc=b)
 case first=>
  have a:jf (F=(decide (0<=r)&&decide (r<=1048576))):=O Va
  by_cases q:0<=r
  ·have y:decide (0<=r)=jm:=ak q
   have C:jf (F=decide (r<=1048576)):=O (by rw[a,y];rfl)
   go_wp2_with fail
   go_meet
   exact⟨js qw C.symm,I⟩
  have y:decide (0<=r)=ji:=ak q;obtain rfl:F=ji:=by rw[a,y];rfl
  clear q
  go_wp2_with fail
  go_meet
  exact⟨I,I⟩
 obtain⟨rfl,rfl⟩:=hcut;have b0:=ai (i:=0) V I;have b2:=ai (i:=2) V I;have b3:=ai (i:=3) V I
 go_upto_block 2 with fail
 go_cut [8] (λv b=>v=.bool s/\wc=b)
 case first=>
  by_cases q:d=1
  ·have y:(d==1)=jm:=ak q
   have a:=Q q;clear q
   rcases S with _|_
   ·obtain rfl:s=ji:=by rw[a];rfl
    clear a
    go_wp2_with fail
    go_meet
    exact⟨I,I⟩
   have C:jf (s=(r==0)):=O (by rw[a];rfl);clear a
   go_wp2_with fail
   go_meet
   exact⟨js qw C.symm,I⟩
  have y:(d==1)=ji:=ak q
  by_cases m:d=2
  ·have hd2:(d==2)=jm:=ak m
   have a:=R m;clear q m
   by_cases b:ep=0
   ·have hd3:(ep==0)=jm:=ak b
    by_cases K:u=0
    ·have a3:(u==0)=jm:=ak K
     have C:jf (s=F):=O (by rw[a,b,K];simp);clear a b K
     go_wp2_with fail
     go_meet
     exact⟨js qw C.symm,I⟩
    have a3:(u==0)=ji:=ak K;obtain rfl:s=ji:=by rw[a];simp[K]
    clear a b K
    go_wp2_with fail
    go_meet
    exact⟨I,I⟩
   have hd3:(ep==0)=ji:=ak b;obtain rfl:s=ji:=by rw[a];simp[b]
   clear a b
   go_wp2_with fail
   go_meet
   exact⟨I,I⟩
  have hd2:(d==2)=ji:=ak m
  by_cases b:d=3
  ·have hd3:(d==3)=jm:=ak b
   have a:=D b;clear q m b
   rcases S with _|_
   ·obtain rfl:s=ji:=by rw[a];rfl
    clear a
    go_wp2_with fail
    go_meet
    exact⟨I,I⟩
   have C:jf (s=F):=O (by rw[a];rfl);clear a
   go_wp2_with fail
   go_meet
   exact⟨js qw C.symm,I⟩
  have hd3:(d==3)=ji:=ak b;obtain rfl:s=ji:=aa q m b;clear q m b
  go_wp2_with fail
  go_meet
  exact⟨I,I⟩
 obtain⟨rfl,rfl⟩:=hcut;clear b0 b2 b3 b4 aa Q R D au Va;have b1:=ai (i:=1) V I
 cases s with
 |false=>
  obtain rfl:W=ji:=by rw[X];exact yw HE (.inr (.inl ax.symm))
  go_wp2_with fail
  go_ret;exact⟨I,H⟩
 |true=>
 have a:=O (Be f);obtain⟨Q,b⟩:=J (decide (fI f));rw[<-b]at a;have q:=O b;clear b
 go_wp2_with fail
 refine(a _).mono ?_;rintro e w4 ⟨rfl,rfl⟩;clear a
 cases Q with
 |false=>
  obtain rfl:W=ji:=by rw[X];exact yw HE (.inl (by have h:=q.symm;simpa using h))
  go_wp2_with fail
  go_ret;exact⟨I,H⟩
 |true=>
 have a:fI f:=qd q.symm;have b:aP f:=aP.of (by unfold fI at a;omega);have R:=O a;have C:=VL.look (P:=jl) nv (t:=196) underlying196 (Bh _) b ji;obtain⟨D,m⟩:=J (decide (f∈(l.take k).map ap.d));have a3:(Instr.lookup 196 (.map (ja M)) (T A f) ji).run jl wc=.ok (.bool D) wc:=by
  rw[C,m,<-Qi];rfl
 have K:=O m;have aa:=O b;clear a b C m
 cases D with
 |true=>
  obtain rfl:W=ji:=by rw[X];exact yw HE (.inr (.inr (qd K.symm)))
  go_wp2_with fail
  go_ret;exact⟨I,H⟩
 |false=>
 have C:jf (mg (l.take (k+1))):=O (by
  rw[Vu];exact HP.snoc R ax.symm (of_decide_eq_false K.symm))
 have HS:jf ((l.take (k+1)).map ap.d=(l.take k).map ap.d++[f]):=O (by rw[Vu,qe];rfl);have a5:k<1000001:=Y;have au:jf (M<wc.heap.size):=O VL.lt;have a:jf (w.heap.size<=M):=O (by rw[ay];exact ju _)
 go_wp2_with (at_mapUpdate;refine ox (E:=ik qH) I _ _ _ 196 I nv underlying196 M _ _ I VL (by unfold qa;omega) f I aa jm I trivial ?_;intro w3 b m;have Wy:=O b;have ZZ:=O m;clear b m)
 exact⟨⟨k+1,by go_num,by omega,O (by
  have h:=Wy.out;rw[zk]at h;rw[HS];exact h),C,O (H.grown ZZ.grown (ee au a) (λj e=>by cases e;exact a))⟩,by simp only[jv];omega⟩
theorem gP(h:bJ w a t):∃p n c,a=jg p n c:=by
 obtain⟨p,c,v,-⟩:=h;exact⟨p,_,c,v⟩
theorem Af(h:bP d):aP d:=aP.of (by have:=h.1;have:=h.2.1;omega)
theorem bJ.setRow{v:jj}{p:jP j7}{n c:jb}{l:jI}{m:jb×jb}{f:jD jj}(h:bJ w v t)(q:w.heap[b]?=ja (je #[jg p n c] l m)):bJ (w.setRow b f) v t:=by
 have key:∀(g o:jb) (x:N),w.cell? ⟨g,o,jc⟩=ja (T A x)->(w.setRow b f).cell? ⟨g,o,jc⟩=ja (T A x):=λg o x d=>by
  by_cases e:g=b
  ·subst e
   exfalso
   unfold qA at d;rw[q]at d
   rcases o with _ |o<;>simp at d
  rw[<-d];exact dY (a:=⟨g,o,jc⟩) (jY _ _ _ _ e)
 obtain⟨p,c,r,s,u,y,z⟩:=h;refine⟨p,c,r,s,u,λB=>?_,z⟩;obtain⟨g,o,e,i⟩:=y B;exact⟨g,o,e,λj k=>⟨key _ _ _ (i j k).1,key _ _ _ (i j k).2⟩⟩
theorem ri:(jl.info? 39).map (·.size)=ja 1:=by kernel_rfl
theorem yC(g:Grp)(vm vt vl:jj)(l:jd ap)(w:jh)(h:bL w g vm vt)(u:eX l)(z:g.tree.length<=700000)(v:EC.At w vl l):
 jq jl 36 #[jn (aB g vm vt).toArray,vl] w λe w'=>∃M,e=jp (jn #[M])/\bJ w' M (aX g.tree l)/\jk w w w':=by
 obtain⟨f,q,b,rfl⟩:=gP h.tree;obtain⟨r,x⟩:=J ((aB g vm (jg f q b)).toArray);have B:r[35]?=ja (jg f q b):=by rw[x];simpa using(lP (vm:=vm) (vt:=jg f q b) h.llen).2.2.2
 rw[<-x];have au:=O B;obtain⟨x0,c⟩:=J ((((w.alloc (je r 41)).alloc (je #[jg jc 0 0] 39)).alloc (je #[jg f q b] 39)));obtain⟨d,k⟩:=J w.heap.size;have a:=jy w (je r 41);have m:=ao w (je r 41);have i:=jy (w.alloc (je r 41)) (je #[jg jc 0 0] 39);have o:=ao (w.alloc (je r 41)) (je #[jg jc 0 0] 39);have p:=jy ((w.alloc (je r 41)).alloc (je #[jg jc 0 0] 39)) (je #[jg f q b] 39);have s:=ao ((w.alloc (je r 41)).alloc (je #[jg jc 0 0] 39)) (je #[jg f q b] 39);replace a:=av a o;replace a:=av a s;rw[j8]at i;replace i:=av i s;rw[j8,j8]at p;have t:=((m).trans (o.mono (m).size)).trans (s.mono ((m).trans (o.mono (m).size)).size);rw[<-c]at t;rw[<-c,<-k]at a;rw[<-c,<-k]at i;rw[<-c,<-k]at p;have a5:=O a;have U0:=O i;have ax:=O p;have Uq:=O t;have HW:=O c;have P:=O k;obtain⟨pl,cl,rfl,VB,-⟩:=v.form;obtain⟨n,y⟩:=J l.length;have C:=u.len;have a6:n<=64:=Y;have ay:jf (bJ x0 (jg f q b) g.tree):=O (h.tree.below t);have UN:jf (EC.At w (jg pl l.length cl) l):=O v;rw[<-y]at UN VB⊢;have YC:=O y;have HF:=O u;have Wx:=O z;clear t c k a m i o p s x y C u z v h B
 go_enter func36,ntmps36
 have a:((w.alloc (je r 41)).alloc (je #[jg jc 0 0] 39)).cell? ⟨w,35,jc⟩=ja (jg f q b):=ai (av (jy w _) (ao _ _)) au
 go_upto_region 2 with fail
 clear a;rw[<-HW,<-P]
 go_wp2_with fail
 go_loopw [12] (λi wr=>∃(k:jb) (p:jP j7) (m c:jb),i=T A k/\k<=n/\jf (wr.heap[d+1+1]?=ja (je #[jg p m c] 39 (0,0)))/\jf (wr.heap[d+1]?=ja (je #[jg jc 0 0] 39 (0,0)))/\jf (bJ wr (jg p m c) (aX g.tree (l.take k)))/\jf (jk w w wr)) (λi _=>n-(jv i).toNat)
 case atStart=>exact⟨0,f,q,b,I,j6 _,ax,U0,ay,Uq⟩
 obtain⟨k,p,m,c,rfl,hk,C,v,x,s⟩:=hrel
 by_cases a1:k<n
 case neg=>
  have a2:=az ((k:N)<(n:N));have a3:=az (k<n);obtain rfl:k=n:=Y;have b:=ai (i:=0) C I;have a:jf (bJ wr (jg p m c) (aX g.tree l)):=O (by have h:=x.out;rw[jU (by rw[<-YC];exact ju _)]at h;exact h);have t:d+1≠d+1+1:=Y
  go_wp2_with (refine j3 I λ_ y=>j4 39 _ _ I (d+1) #[jg p m c] I I 39 _ v.out ri aj (by simp[oj]) (y _ _ ?_))
  have o:(wr.setRow (d+1) #[jg p m c]).heap[d+1]?=ja (je #[jg p m c] 39 (0,0)):=jR _ _ _ _ _ _ v.out;refine qj (results_cell_row I _ _ (d+1) 39 _ (0,0) _ I o underlying39 I ri) I ?_;exact⟨_,I,a.setRow v,jZ s.out (by rw[P];omega) _⟩
 have a2:=aw ((k:N)<(n:N));have a3:=aw (k<n);obtain⟨e,he,D⟩:=dN (l:=l) (j:=k) (by rw[<-YC];exact a1);obtain⟨z,o,rfl,a⟩:=(UN.cells).2.2 Y;have B:=HF.each e (j1 he);have X:jf (aP e.d):=O (aP.of (by have:=B.1;unfold fI at this;omega));have ad:jf (e.k≠2->aP e.p):=O (λt=>by
  rcases B.2 with h|h|h
  ·exact Af h.2.1
  ·exact jB h.1 t
  exact Af h.2.1)
 have Wd:jf (aX g.tree (l.take (k+1))=ij (aX g.tree (l.take k)) e):=O (by rw[D,Rf]);have Yv:jf ((aX g.tree (l.take k)).length<=800000):=O (by have:=wM g.tree (l.take k);have:=Wx.out;have:=qC k l;omega);generalize aX g.tree (l.take k)=Q at Wd Yv x;obtain⟨u,t,ep,R,S⟩:=e;have H:wr.cell? ⟨z,o+k*5,jc⟩=ja (T A u):=aD (a k _ he 0 _ I) s;have K:wr.cell? ⟨z,o+k*5+1,jc⟩=ja (T A t):=aD (a k _ he 1 _ I) s;have c2:wr.cell? ⟨z,o+k*5+2,jc⟩=ja (T A ep):=aD (a k _ he 2 _ I) s;have c3:wr.cell? ⟨z,o+k*5+3,jc⟩=ja (T A R):=aD (a k _ he 3 _ I) s;have c4:wr.cell? ⟨z,o+k*5+4,jc⟩=ja (T A S):=aD (a k _ he 4 _ I) s;dsimp only at X ad;clear a he D B
 go_upto_region 5 with fail
 obtain⟨y1,a⟩:=J wr;rw[<-a]at C v x s H K c2 c3 c4⊢;clear a;have a:=ao y1 (je #[T A u,T A t,T A ep,T A R,T A S] 62);have D:=jy y1 (je #[T A u,T A t,T A ep,T A R,T A S] 62);obtain⟨y2,hx⟩:=J (y1.alloc (je #[T A u,T A t,T A ep,T A R,T A S] 62));rw[<-hx]at a D⊢;obtain⟨E,F⟩:=J y1.heap.size;rw[<-F]at D⊢;have ba:=O F;have B:=ae C a;have U:=ae v a;have V:=O (x.below a);have W:=ah s a;clear C v x s;have x:=O D;clear D hx a F;have b0:=ai (i:=0) x I;have b1:=ai (i:=1) x I;have b2:=ai (i:=2) x I;have t0:=ai (i:=0) B I;clear H K c2 c3 c4
 by_cases s:u=2
 ·have hd2:(u==2)=jm:=ak s
  have aa:jf (aX g.tree (l.take (k+1))=kH Q t):=O (by rw[Wd];exact jt s);clear s
  go_wp2_with fail
  refine(PV Q (jg p m c) t y2 V Yv X).mono ?_;rintro e y3 ⟨M,rfl,C,a⟩;have D:=O C;clear C b0 b1 b2 t0;have v:=ae B a;have Vh:=ae U a;have Ut:=ah W a;clear B U V W x;clear a;obtain⟨F,H,K,rfl⟩:=gP D
  go_wp2_with (refine j3 I λ_ y=>j4 39 _ _ I (d+1+1) #[jg F H K] I I 39 _ v.out ri aj (by simp[oj]) (y _ _ ?_))
  exact⟨⟨k+1,F,H,K,by go_num,by omega,O (jR _ _ _ _ _ _ v.out),O ((jY _ _ _ _ Y).trans Vh),O (by rw[aa];exact D.setRow v),O (jZ Ut.out (by rw[P];omega) _)⟩,by simp only[jv];omega⟩
 have hd2:(u==2)=ji:=ak s;have aa:jf (aX g.tree (l.take (k+1))=kS Q t ep):=O (by rw[Wd];exact jw s);have a4:=O (ad s);clear s
 go_wp2_with fail
 refine(SK Q (jg p m c) t ep y2 V Yv X a4).mono ?_;rintro e y3 ⟨M,rfl,C,a⟩;have D:=O C;clear C b0 b1 b2 t0;have v:=ae B a;have Vh:=ae U a;have Ut:=ah W a;clear B U V W x;clear a;obtain⟨F,H,K,rfl⟩:=gP D
 go_wp2_with (refine j3 I λ_ y=>j4 39 _ _ I (d+1+1) #[jg F H K] I I 39 _ v.out ri aj (by simp[oj]) (y _ _ ?_))
 exact⟨⟨k+1,F,H,K,by go_num,by omega,O (jR _ _ _ _ _ _ v.out),O ((jY _ _ _ _ Y).trans Vh),O (by rw[aa];exact D.setRow v),O (jZ Ut.out (by rw[P];omega) _)⟩,by simp only[jv];omega⟩
section
open Go.Shelf
def Tryzx.laysM_ren:Go.Shelf.Ren:=⟨fun|6=>42|15=>94|14=>93|28=>146|29=>147|20=>138|21=>139|22=>140|23=>141|24=>142|25=>143|26=>144|27=>145|46=>192|47=>193|48=>194|49=>195|50=>196|57=>244|n=>n,fun|22=>36|24=>107|25=>115|3=>3|39=>165|0=>0|53=>226|55=>199|4=>4|46=>220|45=>219|50=>49|5=>5|9=>9|66=>286|70=>290|76=>335|77=>336|n=>n,fun|n=>n⟩
theorem Tryzx.laysM:Go.Proofs.SlLaysF0.n6 jl Tryzx.laysM_ren:={
 mixed:=by kernel_rfl
 f6:=⟨Tryz.f42.name,by decide,func42.trans (js ja af)⟩
 f14:=⟨Tryz.f93.name,by decide,func93.trans (js ja af)⟩
 f15:=func94.trans (js ja af)
 f20:=⟨Tryz.f138.name,by decide,func138.trans (js ja af)⟩
 f21:=⟨Tryz.f139.name,by decide,func139.trans (js ja af)⟩
 f22:=⟨Tryz.f140.name,by decide,func140.trans (js ja af)⟩
 f23:=⟨Tryz.f141.name,by decide,func141.trans (js ja af)⟩
 f24:=⟨Tryz.f142.name,by decide,func142.trans (js ja af)⟩
 f25:=⟨Tryz.f143.name,by decide,func143.trans (js ja af)⟩
 f26:=⟨Tryz.f144.name,by decide,func144.trans (js ja af)⟩
 f27:=⟨Tryz.f145.name,by decide,func145.trans (js ja af)⟩
 f28:=func146.trans (js ja af)
 f29:=func147.trans (js ja af)
 f46:=⟨Tryz.f192.name,by decide,func192.trans (js ja af)⟩
 f47:=func193.trans (js ja af)
 f48:=func194.trans (js ja af)
 f49:=⟨Tryz.f195.name,by decide,func195.trans (js ja af)⟩
 f50:=⟨Tryz.f196.name,by decide,func196.trans (js ja af)⟩
 f57:=⟨Tryz.f244.name,by decide,func244.trans (js ja af)⟩
 t0:=xG
 a0:=isAgg0
 z0:=sizeOf0
 v0:=zeroValue0
 t3:=nv
 a3:=isAgg3
 z3:=sizeOf3
 v3:=zeroValue3
 t4:=qH
 a4:=isAgg4
 z4:=sizeOf4
 v4:=zeroValue4
 t5:=xd
 a5:=isAgg5
 z5:=sizeOf5
 v5:=zeroValue5
 t9:=xH
 a9:=isAgg9
 z9:=sizeOf9
 v9:=zeroValue9
 t22:=qF
 a22:=isAgg36
 z22:=sizeOf36
 v22:=zeroValue36
 t25:=underlying115
 a25:=isAgg115
 z25:=sizeOf115
 v25:=zeroValue115
 t39:=xI
 a39:=isAgg165
 z39:=sizeOf165
 v39:=zeroValue165
 t45:=xJ
 a45:=isAgg219
 z45:=sizeOf219
 v45:=zeroValue219
 t46:=xK
 a46:=isAgg220
 z46:=sizeOf220
 v46:=zeroValue220
 t50:=xL
 a50:=isAgg49
 z50:=sizeOf49
 v50:=zeroValue49
 t53:=xM
 a53:=isAgg226
 z53:=sizeOf226
 v53:=zeroValue226
 t55:=xN
 a55:=isAgg199
 z55:=sizeOf199
 v55:=zeroValue199
 t66:=xO
 a66:=isAgg286
 z66:=sizeOf286
 v66:=zeroValue286
 t70:=xP
 a70:=isAgg290
 z70:=sizeOf290
 v70:=zeroValue290
 t76:=xQ
 a76:=isAgg335
 z76:=sizeOf335
 v76:=zeroValue335
 t77:=xR
 a77:=isAgg336
 z77:=sizeOf336
 v77:=zeroValue336}
theorem Tryzx.sortFunc_noneM(p:jP j7)(a:jb)(b:jj)(w:jh):
 jq jl 42 #[jg p 0 a,b] w λe w'=>e=jp (jE #[])/\w'=w:=AnyF.slices_SortFunc_none Tryzx.laysM p a b w
def Tryzx.laysC_ren:Go.Shelf.Ren:=⟨fun|6=>77|15=>94|14=>127|28=>146|29=>147|20=>179|21=>180|22=>181|23=>182|24=>183|25=>184|26=>185|27=>186|46=>239|47=>193|48=>194|49=>240|50=>241|57=>262|n=>n,fun|22=>42|24=>62|25=>148|3=>3|39=>165|0=>0|53=>226|55=>199|4=>4|46=>220|45=>219|50=>49|5=>5|9=>9|66=>286|70=>290|76=>335|77=>336|n=>n,fun|n=>n⟩
theorem Tryzx.laysC:Go.Proofs.SlLaysF0.n6 jl Tryzx.laysC_ren:={
 mixed:=by kernel_rfl
 f6:=⟨Tryz.f77.name,by decide,func77.trans (js ja af)⟩
 f14:=⟨Tryz.f127.name,by decide,func127.trans (js ja af)⟩
 f15:=func94.trans (js ja af)
 f20:=⟨Tryz.f179.name,by decide,func179.trans (js ja af)⟩
 f21:=⟨Tryz.f180.name,by decide,func180.trans (js ja af)⟩
 f22:=⟨Tryz.f181.name,by decide,func181.trans (js ja af)⟩
 f23:=⟨Tryz.f182.name,by decide,func182.trans (js ja af)⟩
 f24:=⟨Tryz.f183.name,by decide,func183.trans (js ja af)⟩
 f25:=⟨Tryz.f184.name,by decide,func184.trans (js ja af)⟩
 f26:=⟨Tryz.f185.name,by decide,func185.trans (js ja af)⟩
 f27:=⟨Tryz.f186.name,by decide,func186.trans (js ja af)⟩
 f28:=func146.trans (js ja af)
 f29:=func147.trans (js ja af)
 f46:=⟨Tryz.f239.name,by decide,func239.trans (js ja af)⟩
 f47:=func193.trans (js ja af)
 f48:=func194.trans (js ja af)
 f49:=⟨Tryz.f240.name,by decide,func240.trans (js ja af)⟩
 f50:=⟨Tryz.f241.name,by decide,func241.trans (js ja af)⟩
 f57:=⟨Tryz.f262.name,by decide,func262.trans (js ja af)⟩
 t0:=xG
 a0:=isAgg0
 z0:=sizeOf0
 v0:=zeroValue0
 t3:=nv
 a3:=isAgg3
 z3:=sizeOf3
 v3:=zeroValue3
 t4:=qH
 a4:=isAgg4
 z4:=sizeOf4
 v4:=zeroValue4
 t5:=xd
 a5:=isAgg5
 z5:=sizeOf5
 v5:=zeroValue5
 t9:=xH
 a9:=isAgg9
 z9:=sizeOf9
 v9:=zeroValue9
 t22:=qG
 a22:=isAgg42
 z22:=sizeOf42
 v22:=zeroValue42
 t25:=underlying148
 a25:=isAgg148
 z25:=sizeOf148
 v25:=zeroValue148
 t39:=xI
 a39:=isAgg165
 z39:=sizeOf165
 v39:=zeroValue165
 t45:=xJ
 a45:=isAgg219
 z45:=sizeOf219
 v45:=zeroValue219
 t46:=xK
 a46:=isAgg220
 z46:=sizeOf220
 v46:=zeroValue220
 t50:=xL
 a50:=isAgg49
 z50:=sizeOf49
 v50:=zeroValue49
 t53:=xM
 a53:=isAgg226
 z53:=sizeOf226
 v53:=zeroValue226
 t55:=xN
 a55:=isAgg199
 z55:=sizeOf199
 v55:=zeroValue199
 t66:=xO
 a66:=isAgg286
 z66:=sizeOf286
 v66:=zeroValue286
 t70:=xP
 a70:=isAgg290
 z70:=sizeOf290
 v70:=zeroValue290
 t76:=xQ
 a76:=isAgg335
 z76:=sizeOf335
 v76:=zeroValue335
 t77:=xR
 a77:=isAgg336
 z77:=sizeOf336
 v77:=zeroValue336}
theorem Tryzx.sortFunc_noneC(p:jP j7)(a:jb)(b:jj)(w:jh):
 jq jl 77 #[jg p 0 a,b] w λe w'=>e=jp (jE #[])/\w'=w:=AnyF.slices_SortFunc_none Tryzx.laysC p a b w
def Tryzx.laysK_ren:Go.Shelf.Ren:=⟨fun|6=>115|15=>94|14=>166|28=>146|29=>147|20=>215|21=>216|22=>217|23=>218|24=>219|25=>220|26=>221|27=>222|46=>255|47=>193|48=>194|49=>256|50=>257|57=>267|n=>n,fun|22=>127|24=>82|25=>193|3=>3|39=>165|0=>0|53=>226|55=>199|4=>4|46=>220|45=>219|50=>49|5=>5|9=>9|66=>286|70=>290|76=>335|77=>336|n=>n,fun|n=>n⟩
theorem Tryzx.laysK:Go.Proofs.SlLaysF0.n6 jl Tryzx.laysK_ren:={
 mixed:=by kernel_rfl
 f6:=⟨Tryz.f115.name,by decide,func115.trans (js ja af)⟩
 f14:=⟨Tryz.f166.name,by decide,func166.trans (js ja af)⟩
 f15:=func94.trans (js ja af)
 f20:=⟨Tryz.f215.name,by decide,func215.trans (js ja af)⟩
 f21:=⟨Tryz.f216.name,by decide,func216.trans (js ja af)⟩
 f22:=⟨Tryz.f217.name,by decide,func217.trans (js ja af)⟩
 f23:=⟨Tryz.f218.name,by decide,func218.trans (js ja af)⟩
 f24:=⟨Tryz.f219.name,by decide,func219.trans (js ja af)⟩
 f25:=⟨Tryz.f220.name,by decide,func220.trans (js ja af)⟩
 f26:=⟨Tryz.f221.name,by decide,func221.trans (js ja af)⟩
 f27:=⟨Tryz.f222.name,by decide,func222.trans (js ja af)⟩
 f28:=func146.trans (js ja af)
 f29:=func147.trans (js ja af)
 f46:=⟨Tryz.f255.name,by decide,func255.trans (js ja af)⟩
 f47:=func193.trans (js ja af)
 f48:=func194.trans (js ja af)
 f49:=⟨Tryz.f256.name,by decide,func256.trans (js ja af)⟩
 f50:=⟨Tryz.f257.name,by decide,func257.trans (js ja af)⟩
 f57:=⟨Tryz.f267.name,by decide,func267.trans (js ja af)⟩
 t0:=xG
 a0:=isAgg0
 z0:=sizeOf0
 v0:=zeroValue0
 t3:=nv
 a3:=isAgg3
 z3:=sizeOf3
 v3:=zeroValue3
 t4:=qH
 a4:=isAgg4
 z4:=sizeOf4
 v4:=zeroValue4
 t5:=xd
 a5:=isAgg5
 z5:=sizeOf5
 v5:=zeroValue5
 t9:=xH
 a9:=isAgg9
 z9:=sizeOf9
 v9:=zeroValue9
 t22:=underlying127
 a22:=isAgg127
 z22:=sizeOf127
 v22:=zeroValue127
 t25:=underlying193
 a25:=isAgg193
 z25:=sizeOf193
 v25:=zeroValue193
 t39:=xI
 a39:=isAgg165
 z39:=sizeOf165
 v39:=zeroValue165
 t45:=xJ
 a45:=isAgg219
 z45:=sizeOf219
 v45:=zeroValue219
 t46:=xK
 a46:=isAgg220
 z46:=sizeOf220
 v46:=zeroValue220
 t50:=xL
 a50:=isAgg49
 z50:=sizeOf49
 v50:=zeroValue49
 t53:=xM
 a53:=isAgg226
 z53:=sizeOf226
 v53:=zeroValue226
 t55:=xN
 a55:=isAgg199
 z55:=sizeOf199
 v55:=zeroValue199
 t66:=xO
 a66:=isAgg286
 z66:=sizeOf286
 v66:=zeroValue286
 t70:=xP
 a70:=isAgg290
 z70:=sizeOf290
 v70:=zeroValue290
 t76:=xQ
 a76:=isAgg335
 z76:=sizeOf335
 v76:=zeroValue335
 t77:=xR
 a77:=isAgg336
 z77:=sizeOf336
 v77:=zeroValue336}
theorem Tryzx.sortFunc_noneK(p:jP j7)(a:jb)(b:jj)(w:jh):
 jq jl 115 #[jg p 0 a,b] w λe w'=>e=jp (jE #[])/\w'=w:=AnyF.slices_SortFunc_none Tryzx.laysK p a b w
end
section
open Go.RowKit Go.Maps Go.Sort Go.Shelf
section
variable {α:Type} {E:EK α}
theorem Mp{l:jd α}[Inhabited {x//x∈l}](t:jb)(d:t<l.length*E.k):(E.flat l)[t]?=ja ((E.cells (l.attach.toArray[t/E.k]!).1)[t%E.k]!):=by
 have b:t/E.k<l.length:=Ix (by rw[qO];exact d);have a:t%E.k<E.k:=qM _ E.pos;have h:=E.flat_get l (t/E.k) (t%E.k) l[t/E.k] (ms b) a;rw[show t/E.k*E.k+t%E.k=t by rw[qO];exact IA t E.k]at h;have e:(l.attach.toArray[t/E.k]!).1=l[t/E.k]:=by rw[getElem!_pos l.attach.toArray _ (ak b)];simp
 rw[h,e];have c:=E.len l[t/E.k];rw[ms (by rw[c];exact a),getElem!_pos _ _ (by rw[c];exact a)]
theorem dx.holds{j:jb}{w W:jh}{g n c:jb}{l:jd α}[Inhabited {x//x∈l}](h:dx E j w W g n c l):HoldsK (λx:{x//x∈l}=>E.cells x.1) E.k W g 0 l.attach.toArray:=by
 obtain⟨p,k⟩:=h.own
 rcases k with⟨b,_⟩|⟨g',q,r,b,s,e,u,v,y,m⟩
 ·cases b
 injection b with a z o
 injection a with a
 injection a with a
 subst a;subst o;intro t d;rw[size_flatK]at d;have f:t<l.length*E.k:=ak d;have i:=Mp (E:=E) t f;rw[get_flatK _ _ _ _ d];refine⟨?_,by simp[World.frozen?,e]⟩;rw[jM,qA,e];rw[<-m,KC (by rw[h.len];exact f)]at i
 simpa using i
theorem Bo{l:jd α}[Inhabited {x//x∈l}]{W:jh}{g n c:jb}{d:jd {x//x∈l}}(h:HoldsK (λx:{x//x∈l}=>E.cells x.1) E.k W g 0 d.toArray)(p:n=(d.map Subtype.val).length)(q:n<=c):E.At W (jg (ja ⟨g,0,jc⟩) n c) (d.map Subtype.val):=by
 refine⟨E.flat_length _,ja ⟨g,0,jc⟩,c,by rw[p],by omega,(λe=>by cases e),λ_=>⟨g,0,rfl,λj r k=>?_⟩⟩;have b:=(o8.1 k).1;rw[E.flat_length,jC]at b;have f:=(h j (by rw[size_flatK];simpa using b)).1;rw[get_flatK _ _ _ _ (ak b)]at f;have m:j/E.k<d.length:=Ix (by rw[qO];exact b);have i:j%E.k<E.k:=qM _ E.pos;have a:=E.flat_get (d.map Subtype.val) (j/E.k) (j%E.k) (d[j/E.k]).1 (by rw[j9,ms m];rfl) i;rw[show j/E.k*E.k+j%E.k=j by rw[qO];exact IA j E.k,k]at a;have e:d.toArray[j/E.k]! =d[j/E.k]:=by rw[getElem!_pos d.toArray _ (ak m)];simp
 rw[e]at f;have o:=E.len (d[j/E.k]).1;rw[ms (by rw[o];exact i)]at a;injection a with a
 rw[getElem!_pos _ _ (by rw[o];exact i),<-a]at f;exact f
theorem AP{β:Type}[Inhabited β]{enc:β->jd jj}{k a:jb}{w:jh}{g n:jb}{d:jD β}{os:jD Obj}(b:a<=g)(c:a<=w.heap.size):jk a w (sortWorldK enc k w g 0 n d os):=by
 unfold sortWorldK putRowK putRow mapBlock Go.Sort.ahead Go.Sort.grow;refine⟨I,I,I,by simp,λk e=>?_⟩;simp only;rw[Array.getElem?_append_left (by simp;omega),Array.getElem?_modify,jw Y]
theorem FSo{β:Type}(f:β->N):SWO (ltOf λx y:β=>cC (f x) (f y)) where
 irrefl x:=by simp[ltOf,cC]
 trans x y z h1 h2:=by
  simp only[ltOf,decide_eq_true_eq]at*;unfold cC at*
  by_cases a:f x<f y
  ·by_cases b:f y<f z
   ·rw[jt Y];decide
   rw[jw b]at h2;split at h2<;>omega
  rw[jw a]at h1;split at h1<;>omega
 ntrans x y z h1 h2:=by
  simp only[ltOf,decide_eq_false_iff_not]at*;unfold cC at*
  by_cases a:f x<f z
  ·exfalso
   by_cases b:f x<f y
   ·rw[jt b]at h1;exact h1 L
   by_cases c:f y<f z
   ·rw[jt c]at h2;exact h2 L
   omega
  rw[jw a];split<;>omega
theorem GR(x y:N):(!(decide (cC y x<0)))=decide (x<=y):=by
 unfold cC
 by_cases h:y<x
 ·rw[jt h];simp;omega
 rw[jw h];split<;>simp<;>omega
theorem Df{f:α->N}:∀{l:jd α},(l.map f).Nodup->∀x∈l,∀y∈l,f x=f y->x=y
 |[],_,x,g,_,_,_=>by cases g
 |a::l,d,x,g,y,h,e=>by
  rw[qK,List.nodup_cons]at d
  rcases jT.1 g with c|c
  ·rcases jT.1 h with b|b
   ·rw[c,b]
   exact jB (jO.2 ⟨y,b,by rw[<-e,c]⟩) d.1
  rcases jT.1 h with b|b
  ·exact jB (jO.2 ⟨x,c,by rw[e,b]⟩) d.1
  exact Df d.2 x c y b e
theorem Hs(w:jh)(a b:Obj):(w.alloc a).alloc b=grow (w.drewN 0) #[a,b]:=by
 show({({w with heap:=w.heap.push a}:jh)with heap:=(w.heap.push a).push b}:jh)={w with heap:=w.heap++ #[a,b]}
 congr 1
theorem BV{l:jd α}{f:α->N}(g:(l.map f).Nodup){x y:α}(h:x∈l)(i:y∈l)(c:decide (cC (f x) (f y)<0)=ji)(d:decide (cC (f y) (f x)<0)=ji):x=y:=by
 have e:f x=f y:=by
  simp only[decide_eq_false_iff_not]at c d;unfold cC at c d
  by_cases a:f x<f y
  ·rw[jt a]at c;exact jB L c
  by_cases b:f y<f x
  ·rw[jt b]at d;exact jB L d
  omega
 exact Df g x h y i e
end
theorem PM(x y:aK)(w:jh):
 jq jl 43 #[jn (EM.cells x).toArray,jn (EM.cells y).toArray] w λe w'=>e=jp (T A (cC x.dev y.dev))/\∃q os,w'=grow (w.drewN q) os:=by
 obtain⟨a,x1,x2⟩:=x;obtain⟨b,y1,y2⟩:=y;show jq jl 43 #[jn #[T A a,T A x1,T A x2],jn #[T A b,T A y1,T A y2]] w λe w'=>e=jp (T A (cC a b))/\∃q os,w'=grow (w.drewN q) os
 have c:=O (tL a b);have d:jf (∃q os,(w.alloc (je #[T A a,T A x1,T A x2] 107)).alloc (je #[T A b,T A y1,T A y2] 107)=grow (w.drewN q) os):=O ⟨0,#[je #[T A a,T A x1,T A x2] 107,je #[T A b,T A y1,T A y2] 107],Hs _ _ _⟩
 go_enter func43,ntmps43
 go_wp2_with fail
 refine(c _).mono ?_;rintro e f ⟨rfl,rfl⟩
 go_wp2_with fail
 go_ret;exact⟨I,d⟩
def fK(l:jd aK):jd aK:=l.mergeSort λx y=>decide (x.dev<=y.dev)
theorem Js(l:jd aK)(o:(l.map aK.dev).Nodup)(d g n c:jb)(w W:jh)(h:dx EM d w W g n c l)(q:n<=1000000):
 jq jl 42 #[jg (ja ⟨g,0,jc⟩) n c,.func (.func 43) #[] #[]] W λe w'=>e=jp (jE #[])/\EM.At w' (jg (ja ⟨g,0,jc⟩) n c) (fK l)/\jk d W w':=by
 rcases xB n with i|i
 ·subst i
  obtain rfl:l=[]:=sy h.len.symm;refine(Tryzx.sortFunc_noneM _ c _ W).mono ?_;rintro e w' ⟨rfl,rfl⟩;have e:fK []=[]:=by unfold fK;simp
  rw[e];exact⟨I,h.at,jK _ _⟩
 have j:l≠[]:=λe=>by have:=h.len;rw[e]at this;simp at this;omega
 haveI:Inhabited {x//x∈l}:=⟨⟨l.head j,List.head_mem j⟩⟩
 have k:=AnyQ.slices_SortFunc_total (α:={x//x∈l}) Tryzx.laysM 3 isAgg107 sizeOf107 (λx=>EM.cells x.1) (λ_=>rfl) (λx v a=>EM.one x.1 v a) (λx y=>cC x.1.dev y.1.dev) (FSo (λx:{x//x∈l}=>x.1.dev)) 43 #[] g 0 c l.attach.toArray W
  (enters_of func43 af rfl) (λ_ _ _ _ x y=>PM x.1 y.1 _) (h.holds) h.lt.2 (by rw[jJ,qD,<-h.len];omega) (λx y a b=>Subtype.ext (BV o x.2 y.2 a b))
 rw[jJ,qD,<-h.len]at k;refine k.mono ?_;rintro e w' ⟨rfl,m,os,rfl⟩;have p:((l.attach.mergeSort λx y=> !ltOf (λx y:{x//x∈l}=>cC x.1.dev y.1.dev) y x).map Subtype.val)=fK l:=by
  refine(K0 (r:=λx y:{x//x∈l}=> !ltOf (λx y:{x//x∈l}=>cC x.1.dev y.1.dev) y x) (s:=λx y:aK=>decide (x.dev<=y.dev)) (f:=Subtype.val) (λa _ b _=>GR _ _)).trans ?_;rw[Lq]
  rfl
 have a:=holdsK_sortWorldK (λx:{x//x∈l}=>EM.cells x.1) 3 W g 0 m l.attach.toArray (l.attach.mergeSort λx y=> !ltOf (λx y:{x//x∈l}=>cC x.1.dev y.1.dev) y x).toArray os h.lt.2 h.holds (by simp[(qQ _ _).length_eq]);refine⟨I,?_,AP h.lt.1 (cT h.lt)⟩;rw[<-p];exact Bo (E:=EM) a (by rw[jC,(qQ _ _).length_eq,qD];exact h.len) h.cap
theorem OQ(x y:ap)(w:jh):
 jq jl 78 #[jn (EC.cells x).toArray,jn (EC.cells y).toArray] w λe w'=>e=jp (T A (cC x.d y.d))/\∃q os,w'=grow (w.drewN q) os:=by
 obtain⟨a,x1,x2,b,c⟩:=x;obtain⟨d,y1,y2,f,g⟩:=y;show jq jl 78 #[jn #[T A a,T A x1,T A x2,T A b,T A c],jn #[T A d,T A y1,T A y2,T A f,T A g]] w λe w'=>e=jp (T A (cC x1 y1))/\∃q os,w'=grow (w.drewN q) os
 have h:=O (tL x1 y1);have i:jf (∃q os,(w.alloc (je #[T A a,T A x1,T A x2,T A b,T A c] 62)).alloc (je #[T A d,T A y1,T A y2,T A f,T A g] 62)=grow (w.drewN q) os):=O ⟨0,#[je #[T A a,T A x1,T A x2,T A b,T A c] 62,je #[T A d,T A y1,T A y2,T A f,T A g] 62],Hs _ _ _⟩
 go_enter func78,ntmps78
 go_wp2_with fail
 refine(h _).mono ?_;rintro e j ⟨rfl,rfl⟩
 go_wp2_with fail
 go_ret;exact⟨I,i⟩
theorem SC(l:jd ap)(o:(l.map ap.d).Nodup)(d g n c:jb)(w W:jh)(h:dx EC d w W g n c l)(q:n<=1000000):
 jq jl 77 #[jg (ja ⟨g,0,jc⟩) n c,.func (.func 78) #[] #[]] W λe w'=>e=jp (jE #[])/\EC.At w' (jg (ja ⟨g,0,jc⟩) n c) (fj l)/\jk d W w':=by
 rcases xB n with i|i
 ·subst i
  obtain rfl:l=[]:=sy h.len.symm;refine(Tryzx.sortFunc_noneC _ c _ W).mono ?_;rintro e w' ⟨rfl,rfl⟩;have e:fj []=[]:=by unfold fj;simp
  rw[e];exact⟨I,h.at,jK _ _⟩
 have j:l≠[]:=λe=>by have:=h.len;rw[e]at this;simp at this;omega
 haveI:Inhabited {x//x∈l}:=⟨⟨l.head j,List.head_mem j⟩⟩
 have k:=AnyQ.slices_SortFunc_total (α:={x//x∈l}) Tryzx.laysC 5 isAgg62 sizeOf62 (λx=>EC.cells x.1) (λ_=>rfl) (λx v a=>EC.one x.1 v a) (λx y=>cC x.1.d y.1.d) (FSo (λx:{x//x∈l}=>x.1.d)) 78 #[] g 0 c l.attach.toArray W
  (enters_of func78 af rfl) (λ_ _ _ _ x y=>OQ x.1 y.1 _) (h.holds) h.lt.2 (by rw[jJ,qD,<-h.len];omega) (λx y a b=>Subtype.ext (BV o x.2 y.2 a b))
 rw[jJ,qD,<-h.len]at k;refine k.mono ?_;rintro e w' ⟨rfl,m,os,rfl⟩;have p:((l.attach.mergeSort λx y=> !ltOf (λx y:{x//x∈l}=>cC x.1.d y.1.d) y x).map Subtype.val)=fj l:=by
  refine(K0 (r:=λx y:{x//x∈l}=> !ltOf (λx y:{x//x∈l}=>cC x.1.d y.1.d) y x) (s:=λx y:ap=>decide (x.d<=y.d)) (f:=Subtype.val) (λa _ b _=>GR _ _)).trans ?_;rw[Lq]
  rfl
 have a:=holdsK_sortWorldK (λx:{x//x∈l}=>EC.cells x.1) 5 W g 0 m l.attach.toArray (l.attach.mergeSort λx y=> !ltOf (λx y:{x//x∈l}=>cC x.1.d y.1.d) y x).toArray os h.lt.2 h.holds (by simp[(qQ _ _).length_eq]);refine⟨I,?_,AP h.lt.1 (cT h.lt)⟩;rw[<-p];exact Bo (E:=EC) a (by rw[jC,(qQ _ _).length_eq,qD];exact h.len) h.cap
end
theorem wD{E:EK j}{l:jd j}(h:w.ownsRow b E.t E.k a l.length (E.flat l))(e:b<=w.heap.size):(a=jg jc 0 0/\l=[])\/∃g c,a=jg (ja ⟨g,0,jc⟩) l.length c/\dx E b w w g l.length c l:=by
 have f:=h
 rcases h.2 with⟨rfl,v⟩|⟨g,i,k,rfl,m,n,o,p,q,r⟩
 ·refine .inl ⟨I,sy ?_⟩
  first
   |exact v
   |(have d:=h.1;rw[v]at d;exact(xB l.length).elim id λα=>by have:=Nat.mul_pos α E.pos;simp at d;omega)
 exact .inr ⟨g,i,I,f,I,jK _ _,e⟩
theorem J9{p:aK->jF}(c:fV EM b i o S p)(w:jh)(d:S w)(g:o<=w.heap.size):
 jq jl 40 #[jg jc 0 0,.func (.func b) #[] i] w λe w'=>e=jp (jg jc 0 0)/\jk w w w':=by
 have f:=O (zW c [] (jg jc 0 0) w EK.At.nil d g ar);clear c d
 go_enter func40,ntmps40
 go_wp2_with fail
 refine(f).mono ?_;rintro e caps ⟨r,rfl,d,c⟩;have h:=O c;clear c f
 rcases d with⟨rfl,-⟩|⟨k,e,-,he,-⟩
 ·go_wp2_with fail
  go_ret;exact⟨I,h⟩
 simp at he
theorem JJ{F:jb}{caps:jD jj}{a:jb}{f:jh->Prop}{p:aK->jF}(i:fV EM F caps a f p)(l:jd aK)(v:jj)(w:jh)(h:w.ownsRow a EM.t EM.k v l.length (EM.flat l))(j:f w)(b:a<=w.heap.size)(m:l.length<=1000000):
 jq jl 40 #[v,.func (.func F) #[] caps] w λe w'=>∃k,e=jp k/\w'.ownsRow a EM.t EM.k k (l.filter λx=> !p x).length (EM.flat (l.filter λx=> !p x))/\jk a w w':=by
 rcases wD h b with⟨rfl,rfl⟩|⟨g,c,rfl,n⟩
 ·refine(J9 i w j b).mono ?_
  rintro e w' ⟨rfl,d⟩;exact⟨_,I,nn _ _ _ _,d.mono b⟩
 refine(N9 i l g l.length c w n j m).mono ?_;rintro e w' ⟨n',rfl,d⟩;have o:=d.len;subst o;exact⟨_,I,d.own,d.bel⟩
theorem Jz(l:jd aK)(b:(l.map aK.dev).Nodup)(a:jb)(v:jj)(w:jh)(h:w.ownsRow a EM.t EM.k v l.length (EM.flat l))(d:a<=w.heap.size)(f:l.length<=1000000):
 jq jl 42 #[v,.func (.func 43) #[] #[]] w λe w'=>e=jp (jE #[])/\EM.At w' v (fK l)/\jk a w w':=by
 rcases wD h d with⟨rfl,rfl⟩|⟨g,c,rfl,i⟩
 ·refine(Tryzx.sortFunc_noneM jc 0 _ w).mono ?_
  rintro e w' ⟨rfl,rfl⟩;have e:fK []=[]:=by unfold fK;simp
  rw[e];exact⟨I,EK.At.nil,jK _ _⟩
 exact Js l b a g l.length c w w i f
theorem Ma{p:ap->jF}(c:fV EC b i o S p)(w:jh)(d:S w)(g:o<=w.heap.size):
 jq jl 74 #[jg jc 0 0,.func (.func b) #[] i] w λe w'=>e=jp (jg jc 0 0)/\jk w w w':=by
 have f:=O (AU c [] (jg jc 0 0) w EK.At.nil d g ar);clear c d
 go_enter func74,ntmps74
 go_wp2_with fail
 refine(f).mono ?_;rintro e caps ⟨r,rfl,d,c⟩;have h:=O c;clear c f
 rcases d with⟨rfl,-⟩|⟨k,e,-,he,-⟩
 ·go_wp2_with fail
  go_ret;exact⟨I,h⟩
 simp at he
theorem RX{p:ap->jF}(caps:fV EC b i o S p)(l:jd ap)(v:jj)(w:jh)(h:w.ownsRow o EC.t EC.k v l.length (EC.flat l))(j:S w)(F:o<=w.heap.size)(m:l.length<=1000000):
 jq jl 74 #[v,.func (.func b) #[] i] w λe w'=>∃k,e=jp k/\w'.ownsRow o EC.t EC.k k (l.filter λx=> !p x).length (EC.flat (l.filter λx=> !p x))/\jk o w w':=by
 rcases wD h F with⟨rfl,rfl⟩|⟨g,c,rfl,n⟩
 ·refine(Ma caps w j F).mono ?_
  rintro e w' ⟨rfl,d⟩;exact⟨_,I,nn _ _ _ _,d.mono F⟩
 refine(MO caps l g l.length c w n j m).mono ?_;rintro e w' ⟨n',rfl,d⟩;have a:=d.len;subst a;exact⟨_,I,d.own,d.bel⟩
theorem Nt(l:jd ap)(b:(l.map ap.d).Nodup)(a:jb)(v:jj)(w:jh)(h:w.ownsRow a EC.t EC.k v l.length (EC.flat l))(d:a<=w.heap.size)(f:l.length<=1000000):
 jq jl 77 #[v,.func (.func 78) #[] #[]] w λe w'=>e=jp (jE #[])/\EC.At w' v (fj l)/\jk a w w':=by
 rcases wD h d with⟨rfl,rfl⟩|⟨g,c,rfl,i⟩
 ·refine(Tryzx.sortFunc_noneC jc 0 _ w).mono ?_
  rintro e w' ⟨rfl,rfl⟩;have e:fj []=[]:=by unfold fj;simp
  rw[e];exact⟨I,EK.At.nil,jK _ _⟩
 exact SC l b a g l.length c w w i f
theorem zu(a:N)(l:jd ap)(v:jj)(w:jh)(h:EC.At w v l)(r:(l.map ap.d).Nodup)(k:l.length<=1000000):
 jq jl 31 #[T A a,v] w λe w'=>∃d,e=jp d/\EC.At w' d (dw a l)/\jk w w w':=by
 obtain⟨p,c,rfl,-,-⟩:=h.form;have f:=ao w (je #[T A a] 3);have g:=Boxed.new w 3 (T A a);obtain⟨n,s⟩:=J l.length;have i:=h.below f;obtain⟨j,m⟩:=J (w.alloc (je #[T A a] 3));obtain⟨b,o⟩:=J w.heap.size;rw[<-m]at f g i;rw[<-o]at g;rw[<-s]at i⊢;have t:=O (Iq l _ j i k);have y:=O m;have z:=O o;have q:=O g;have u:=O f;have x:=O k;have B:=O r;clear h f g s i m o k r
 go_enter func31,ntmps31
 go_upto_region 1 with fail
 rw[<-y,<-z]
 go_wp2_with fail
 refine(t).mono ?_;rintro e x1 ⟨d,rfl,h,f⟩;have i:=O h;have k:jf (jA x1 b 3 (T A a)):=ae q f;have m:=O f;have g:=O f.size;have s:jf (b<j.heap.size):=O q.lt;clear h f t q
 go_wp2_with fail
 refine(RX (SE a b j.heap.size s) l d x1 i k g x).mono ?_;rintro e x2 ⟨u2,rfl,h,f⟩;have o:=O h;have q:=O (m.trans f);have r:=O (jL g f.size);clear h f i k m g
 go_wp2_with fail
 refine(Nt _ (B.sublist (List.filter_sublist.map _)) j.heap.size u2 x2 o r (jL (H0 _ _) x)).mono ?_;rintro e k ⟨rfl,f,g⟩;have h:=O f;have i:=O (u.trans ((q.trans g).mono u.size));clear f g o q r
 go_wp2_with fail
 go_ret;exact⟨_,I,h,i⟩
section
attribute [local go_sem] Oper.semAt_some
theorem FJ(t:jd (N×N))(x:N):(ff t x).length<=1023:=by
 unfold ff
 split
 ·rename_i h
  have a:1<=x/\x<=1023:=by
   unfold lR at h
   split at h
   ·split at h
    ·cases h
    omega
   exact jB h (by assumption)
  have b:=sZ (bG t) (hgt x.toNat) x.toNat;have c:=(vO (n:=x.toNat) Y Y).2;have d:1*2^hgt x.toNat<=x.toNat*2^hgt x.toNat:=qo _ Y;omega
 simp
theorem Sx(t:jd (N×N)):∀(l:jd N) (x:N) (k:jb),fz t (l++[x]) k=fz t l k++(ff t x).map λn=>(((k+l.length:jb):N),n):=by
 intro l
 induction l with
 |nil=>intro x k;simp[fz]
 |cons y l a=>
  intro x k;have h:=a x (k+1);unfold fz at h⊢;rw[qu,rk,xC,rk,xC,h,n0];simp only[j5];rw[show k+1+l.length=k+(l.length+1) by omega]
theorem Cb(t:jd (N×N)):∀(l:jd N) (k:jb),(fz t l k).length<=1023*l.length:=by
 intro l
 induction l with
 |nil=>intro k;simp[fz]
 |cons y l a=>
  intro k;have h:=a (k+1);unfold fz at h⊢;rw[rk,xC,jH,jC,j5];have b:(ff t (y,k).1).length<=1023:=FJ t y;omega
theorem Aw(b:0<=d)(c:d<512):(ib d).length=9:=by
 unfold ib nL;rw[jC,jC,uE _ Y]
theorem bJ.but{v:jj}{d:jb}{p:jP j7}{n c:jb}{l:jI}{m:jb×jb}(h:bJ w v t)(q:w.heap[d]?=ja (je #[jg p n c] l m))(r:∀k,k<w.heap.size->k≠d->w'.heap[k]?=w.heap[k]?):bJ w' v t:=by
 have key:∀(g o:jb) (x:N),w.cell? ⟨g,o,jc⟩=ja (T A x)->w'.cell? ⟨g,o,jc⟩=ja (T A x):=λg o x b=>by
  by_cases e:g=d
  ·subst e
   exfalso
   unfold qA at b;rw[q]at b
   rcases o with _ |o<;>simp at b
  rw[<-b];exact dY (a:=⟨g,o,jc⟩) (r g (gh b) e)
 obtain⟨p,c,k,s,u,y,z⟩:=h;refine⟨p,c,k,s,u,λB=>?_,z⟩;obtain⟨g,o,e,f⟩:=y B;exact⟨g,o,e,λj i=>⟨key _ _ _ (f j i).1,key _ _ _ (f j i).2⟩⟩
structure mh(w:jh)(a:jb)(Ψ:jb->Prop)(wr:jh):Prop where
 lt:∀k,Ψ k->k<wr.heap.size
 old:∀k,a<=k->k≠a->k<w.heap.size->Ψ k
 kept:∀k,k<w.heap.size->k≠a->wr.heap[k]?=w.heap[k]?
 not:¬Ψ a
 sz:w.heap.size<=wr.heap.size
def oF(Ψ:jb->Prop)(a b:jh)(k:jb):Prop:=Ψ k\/(a.heap.size<=k/\k<b.heap.size)
theorem mh.more{d:jh}(a:mh w b D h)(f:b<w.heap.size)(e:jk h h d):mh w b (oF D h d) d where
 lt k c:=by rcases c with c|c;exact qi (a.lt k c) e.size;exact c.2
 old k h1 h2 h3:=.inl (a.old k h1 h2 h3)
 kept k h1 h2:=(e.block k (qi h1 a.sz)).trans (a.kept k h1 h2)
 not c:=by rcases c with c|c;exact a.not c;have:=a.sz;omega
 sz:=jL a.sz e.size
theorem mh.yield{c:jh}(a:mh w b D h)(d:jk b h c)(f:∀k,D k->c.heap[k]?=h.heap[k]?):mh w b D c where
 lt k h1:=qi (a.lt k h1) d.size
 old:=a.old
 kept k h1 h2:=by
  refine Eq.trans ?_ (a.kept k h1 h2)
  rcases qn k b with e|e
  ·exact d.block k e
  exact f k (a.old k e h2 h1)
 not:=a.not
 sz:=jL a.sz d.size
theorem Iw{d:j->(jb->Prop)->jh->Prop}(h:bY b d){s:j}{Ψ:jb->Prop}{a B0:jh}(e:d s Ψ a)(f:jk a a B0):d s (oF Ψ a B0) B0:=
 h s Ψ (oF Ψ a B0) a B0 e (bQ.ofBelow f (λk c _=>c)) (λk c=>.inl c) (λk c=>by rcases c with c|c;exact .inl c;exact .inr c.1)
theorem aG.more{C:jd jj}(sz:aG D w a b o C)(d:∀k,D k->k<w.heap.size)(e:jk w w h):aG (oF D w h) h a b o C:=
 (sz.keep λk c=>e.block k (d k c)).mono λk c=>.inl c
theorem aG.ofMine{Ψ:jb->Prop}{a b:jh}{v:jj}{sz n:jb}{t:jI}{xs:jd jj}(h:b.ownsRow a t sz v n xs):aG (oF Ψ a b) b v sz n xs:=
 aG.of_own h λg c=>.inr (h.lt g c)
theorem O0(t:jd (N×N))(au:jj)(a:N)(j:0<=a)(D:a<512)(w:jh)(f:jb)(p:jP j7)(n c:jb)(ty:jI)(m:w.heap[f]?=ja (je #[jg p n c] ty (0,0)))(y z:jb)(o:y≠f)(B:z≠f)
 (e:jA w y 3 (T A a)) (q:w.heap[z]?=ja (je #[au] 39 (0,0))) (s:bJ w au t) (C:t.length<=1000000):
 eQ jl 124 #[jz (ja ⟨y,0,jc⟩),jz (ja ⟨z,0,jc⟩)] (λx:N×N=>#[T A x.1,T A x.2]) (λk=>f<=k/\k≠f/\k<w.heap.size) f (λxs=>xs=et t a) (λ_=>True) (λys=>ys.length<=10000) w:=by
 intro l E Jx W g F H K M;have U:=(jG.1 m).1;have u:mh w f (λk=>f<=k/\k≠f/\k<w.heap.size) W:=⟨λk x=>qi x.2.2 g.size,λk a b c=>⟨a,b,c⟩,λk x _=>g.block k x,λx=>x.2.1 I,g.size⟩;have V:=O u;have Wi:=O U;have HG:=O m;have HA:=O e;have HT:=O q;have HN:=O s;have HL:=O C;have YC:=O o;have a4:=O B;have a5:=O e.lt;have Wx:=O (jG.1 q).1;obtain⟨P,Q,R,rfl⟩:=gP s;have HJ:=O F;have ax:=O H;have S:=O K;have X:=O M;have v:=Aw j D;obtain⟨r,rfl⟩:=qg j;have h:=O (K8 r Y);have aa:iv (nL r)=(ib (r:N)).map (jo .i64):=by unfold iv ib;rw[xy];rfl
 rw[aa]at h;have ad:et t (r:N)=fz t (ib (r:N)) 1:=I;rw[ad];generalize ib (r:N)=d at v h⊢;have Vq:=O v;have ca:W.cell? ⟨y,0,jc⟩=ja (T A (r:N)):=by rw[dY (a:=⟨y,0,jc⟩) (u.kept y a5 o)];exact e.cell
 clear m e q s C o B F H K M v u U aa ad j D g;refine(wt (n:=0)).1 ?_;refine callsIn_of_wp func124 I trivial ?_ I;simp only[ntmps124,jJ,j5,qJ,qX,qY,qZ,q7,q8,q9,qt,qu]
 gi_wp2_with fail
 refine⟨trivial,I,(callsIn_wide.2 (h W)).mono ?_⟩;rintro e W1 ⟨v,rfl,j,g⟩;have WS:=O (V.more Wi g);have U3:=O (Iw HJ X g);have m:=aG.ofMine (Ψ:=λk=>f<=k/\k≠f/\k<w.heap.size) j;obtain⟨pc,cc,rfl⟩:=m.form;have Vi:=O m;have a6:=g.size;generalize oF (λk=>f<=k/\k≠f/\k<w.heap.size) W W1=Ψ1 at WS U3 Vi;clear j g m X V h ca
 gi_wp2_with fail
 gi_loopw [19] (λs wr=>W.heap.size<=wr.heap.size/\∃(k:jb) (Ψ:jb->Prop),s=T A k/\k<=9/\jf (mh w f Ψ wr)/\jf (E (fz t (d.take k) 1) Ψ wr)/\jf (aG Ψ wr (jg pc 9 cc) 1 9 (d.map (jo .i64)))) (λs _=>(9-jv s).toNat)
 case atStart=>exact⟨a6,0,Ψ1,I,by omega,WS,U3,Vi⟩
 obtain⟨bd,k,Ψ,rfl,x,g,F,q⟩:=hrel
 by_cases ba:k<9
 case neg=>
  obtain rfl:k=9:=Y;have U:jf (E (fz t d 1) Ψ wr):=O (by have h:=F.out;rw[jU (by rw[Vq];exact ju _)]at h;exact h);clear S ax F
  gi_wp2
  refine bodyPost_end (wv I _ _ _) I ?_;exact⟨⟨_,I⟩,.inl ⟨_,_,I,U⟩⟩
 have hd:=aw ((k:N)<9);have UL:=aw (k<9);have m:k<d.length:=by rw[Vq];exact ba
 have H:=O (Sx t (d.take k) d[k] 1);have YK:jf (d.take (k+1)=d.take k++[d[k]]):=O (qv m);have ay:jf ((d.take k).length=k):=O (by rw[mz];omega);obtain⟨-,_,_,V,-,-,o⟩:=q.out;injection V with X Yd Zq
 subst X;subst Zq;obtain⟨gc,oc,rfl,-,o⟩:=o Y;have B:=o k (T A d[k]) (by rw[j9,ms m];rfl);obtain⟨sb,u⟩:=J (d[k]);rw[<-u]at B H YK;have c1:wr.cell? ⟨z,0,jc⟩=ja (jg P Q R):=by rw[dY (a:=⟨z,0,jc⟩) (g.kept z Wx a4)];exact ai (i:=0) HT I
 have aa:jf (bJ wr (jg P Q R) t):=O (HN.but HG g.kept);have ad:=O (NI t (jg P Q R) sb wr aa HL);clear o u m Yd
 gi_wp2_with fail
 refine⟨trivial,I,(callsIn_wide.2 ad).mono ?_⟩;rintro e W2 ⟨vn,rfl,j,C⟩;have VL:=O (g.more Wi C);have VX:=O (Iw HJ F C);have UO:=O (q.more g.lt C);have Vj:=aG.ofMine (Ψ:=Ψ) j;obtain⟨pn,cn,rfl⟩:=Vj.form;have K:=O Vj;have bf:=C.size;generalize oF Ψ wr W2=Ψ2 at VL VX UO K;have M:=O (FJ t sb);obtain⟨u,a1⟩:=J (ff t sb);rw[<-a1]at K H M⊢;obtain⟨m,hm⟩:=J u.length;rw[<-hm]at K M⊢;have a2:=O hm;have VM:=O (Cb t (d.take k) 1);obtain⟨Us,a3⟩:=J (fz t (d.take k) 1);rw[<-a3]at VX H VM;have bb:jf (m<=1023):=M;have bg:=M.out;clear j C Vj ad aa g F q B c1 hm a1 a3
 gi_wp2_with fail
 gi_loopw [32] (λs C=>W.heap.size<=C.heap.size/\∃(j:jb) (Ψ:jb->Prop),s=T A j/\j<=m/\jf (mh w f Ψ C)/\jf (E (Us++(u.take j).map λn=>((k:N)+1,n)) Ψ C)/\jf (aG Ψ C (jg (ja ⟨gc,oc,jc⟩) 9 cc) 1 9 (d.map (jo .i64)))/\jf (aG Ψ C (jg pn m cn) 1 m (u.map (jo .i64)))) (λs _=>(m-jv s).toNat)
 case atStart=>exact⟨by omega,0,Ψ2,rfl,by omega,VL,O (Q0 VX),UO,K⟩
 obtain⟨bh,j,Ψ,rfl,hj,g,s,q,F⟩:=hrel
 by_cases a1:j<m
 case neg=>
  obtain rfl:j=m:=Y;have hd2:decide ((j:N)<(j:N))=ji:=by simp
  have U:jf (E (fz t (d.take (k+1)) 1) Ψ wr):=O (by
   have h:=s.out;rw[jU (by rw[<-a2];exact ju _)]at h;rw[YK,H,ay,show((1+k:jb):N)=(k:N)+1 by omega];exact h)
  clear S ax s
  gi_wp2_with fail
  exact⟨⟨by omega,k+1,Ψ,by go_num,by omega,g,U,q⟩,by simp only[jv];omega⟩
 have hd2:=aw ((j:N)<(m:N));have bi:=aw (j<m);obtain⟨U,h,C⟩:=dN (l:=u) (j:=j) (by rw[<-a2];exact a1);have a3:jf ((u.take (j+1)).map (λn=>((k:N)+1,n))=(u.take j).map (λn=>((k:N)+1,n))++[((k:N)+1,U)]):=O (by rw[C,qe];rfl);obtain⟨-,_,_,V,-,-,o⟩:=F.out;injection V with X Yd Zq
 subst X;subst Zq;obtain⟨gn,on,rfl,-,o⟩:=o Y;have B:=o j (T A U) (by rw[j9,h];rfl);have aa:=S (Us++(u.take j).map λn=>((k:N)+1,n)) ((k:N)+1,U) Ψ wr s g.lt (by
  rw[jH,jH,jC,mz];have D:=VM.out;rw[ay]at D;have h2:=bb.out;simp only[j5,qJ]
  omega)
 rw[n0,<-a3]at aa;dsimp only at aa;obtain⟨fn,tmps,assign,body,hy,hR⟩:=aa;have HR:=O hR;clear o h C Yd hR
 gi_wp2_with fail
 refine⟨I,HR.mono ?_⟩;rintro e W3 (⟨rfl,Zd,C,h⟩|⟨rfl,ZT,C,h⟩)
 ·have Wy:=O (g.yield C h)
  have VZ:=O (q.keep h);have bc:=O (F.keep h);have ad:=O Zd;have Wt:=C.size;clear Zd C h HR g q F s hy B
  gi_wp2_with fail
  exact⟨⟨by omega,j+1,Ψ,by go_num,by omega,Wy,ad,VZ,bc⟩,by simp only[jv];omega⟩
 have ad:=O ZT;clear ZT C h HR g q F s hy B
 gi_wp2
 refine qj (wv I _ _ _) I ?_;exact⟨⟨_,I⟩,.inr ⟨_,_,trivial,ad⟩⟩
end
section
attribute [local go_sem] Oper.semAt_some
def EB0:EK (N×N):=⟨λx=>[T A x.2,T A x.1,T A 0,jg jc 0 0],4,92,by decide,λ_=>rfl,λx v a=>by simp at a;rcases a with rfl|rfl|rfl|rfl<;>rfl⟩
theorem Hw:(jl.info? 92).map (λi=>(i.zero,i.size,i.bytes))=ja (ja (jn #[T A 0,T A 0,T A 0,jg jc 0 0]),4,48):=by kernel_rfl
theorem OI(b:jj)(a:N)(w:jh):jq jl 73 #[jn #[b],T A a] w λe w'=>e=jp (.func (.func 124) #[] #[jz (ja ⟨w.heap.size+1,0,jc⟩),jz (ja ⟨w,0,jc⟩)])/\w'=(w.alloc (je #[b] 39)).alloc (je #[T A a] 3):=by
 go_enter func73,ntmps73
 go_wp2_with fail
 go_ret;exact⟨I,I⟩
section
variable {P:jX} {F:Fence} {nF:jb}
theorem ER{f:jD j0}{j:jd j0}{o:j0}{a:Act}{w:jh}{k:Exit->Act->jh->Prop}(m:Region.wanted o (yielded f a.tmps)=jm)(b:jI)(x:qT)(i:o.op=.load b x)
 (g:jb) (n:a.eval x=jz (ja ⟨g,0,jc⟩)) (t:jI) (e:jD jj) (l:jb×jb) (d:TypeDesc) (p:w.heap[g]?=ja (je e t l))
 (q:P.underlying b=ja d) (r:(match d with| .struct _ | .array _ _=>jm|_=>ji)=jm) (s:(P.info? b).map (·.size)=ja e.size)
 (h:wpListIn F nF P f k j (a.put o.dst (jn e)) w):wpListIn F nF P f k (o::j) a w:=by
 refine wpListIn_step λy u=>?_
 rw[jt m];unfold Oper.wpIn;refine⟨by simp[Oper.about,i],?_⟩;rw[Oper.semAt_plain F _ _ (by rw[i];intro c v;cases v)];simp only[execOp,i,n,Instr.loadAt,Instr.sureAddr,Sem.run_bind,Sem.run_pure,Result.andThen_ok,run_loadVar_row w g t b e l d p q r s];exact u _ _ h
end
theorem vQ{g:Grp}{a:N}{l:jd ap}(c:dD g)(f:eX l)(d:gN g a l):0<=a/\a<512:=by
 by_cases h:0<g.epoch
 ·have b:=d.own
  rw[jS h]at b;unfold cG at b;obtain⟨m,i,j⟩:=r7.1 b;have k:a∈cr g.tree:=by rw[<-c.dev];exact jO.2 ⟨m,i,by simpa using j⟩
  have e:=(oC g.tree a).1 k;exact⟨e.1,e.2.1⟩
 have he:g.epoch=0:=by have:=c.ep.1;omega
 obtain⟨x,r,rfl,b⟩:=d.first he;have:=(f.each x (qP ..)).1;rw[<-b];exact this
theorem yD(g:Grp)(a:N)(l:jd ap):(fH g=ji/\du g a l=1)\/(fH g=jm/\(iH l=ji\/lK g a l=ji)/\du g a l=221)\/(fH g=jm/\iH l=jm/\lK g a l=jm/\du g a l=0):=by
 unfold du
 by_cases h:dD g
 ·rw[Eu h,jt h]
  by_cases b:eX l/\gN g a l
  ·rw[jt b];exact .inr (.inr ⟨I,oA.2 b.1,tH.2 b.2,I⟩)
  rw[jw b];refine .inr (.inl ⟨I,?_,I⟩)
  by_cases c:eX l
  ·right;exact tK λd=>b ⟨c,d⟩
  left;exact Fb c
 rw[kj h,jw h];exact .inl ⟨I,I⟩
theorem Gn(g:Grp)(vm vt vl:jj)(a:N)(l:jd ap)(w:jh)(h:bL w g vm vt)(j:EC.At w vl l)(k:g.mem.length<=1000000)(C:g.tree.length<=700000)(m:l.length<=1000000):
 jq jl 26 #[jn (aB g vm vt).toArray,T A a,vl] w λe w'=>∃y,e=jp (jE #[y,T A (du g a l)])/\w'.ownsRow w 92 4 y (dV g a l).length (EB0.flat (dV g a l))/\jk w w w':=by
 have D:=yD g a l;have s:=rA (vm:=vm) (vt:=vt) h.llen;obtain⟨o,c⟩:=J ((aB g vm vt).toArray);rw[<-c]at s⊢;have E:=av (jy w (je o 41)) (ao (w.alloc (je o 41)) (je #[jg jc 0 0] 43));have t:=jy (w.alloc (je o 41)) (je #[jg jc 0 0] 43);rw[j8]at t;have i:jk w w ((w.alloc (je o 41)).alloc (je #[jg jc 0 0] 43)):=(ao w _).trans ((ao (w.alloc (je o 41)) (je #[jg jc 0 0] 43)).mono (ao w _).size);have u:=O E;have F:=O t;have H:=O i;have z:=O (h.below i);have B:=O (j.below i);obtain⟨r,cl,rfl,-,-⟩:=j.form;obtain⟨n,v⟩:=J l.length;rw[<-v]at B⊢;have HV:jf (∀W,bL W g vm vt->jq jl 24 #[jn o] W λe w'=>e=jp (.bool (fH g))/\jk W W w'):=O (by rw[c];exact λW d=>BU g vm vt W d k Y);have HP:jf (∀W,dD g->bL W g vm vt->EC.At W (jg r n cl) l->jq jl 72 #[jn o,T A a,jg r n cl] W λe w'=>e=jp (.bool (lK g a l))/\jk W W w'):=O (by rw[c];exact λW f d x=>O9 g vm vt _ a l W d f k x m);have a5:jf (∀W,eX l->bL W g vm vt->EC.At W (jg r n cl) l->jq jl 36 #[jn o,jg r n cl] W λe w'=>∃y,e=jp (jn #[y])/\bJ w' y (aX g.tree l)/\jk W W w'):=O (by rw[c];exact λW q d x=>yC g vm vt _ l W d q C x);have P:=O s;have HL:=O m;have YC:=O v;have Wx:=O C;have Wc:=O D;obtain⟨er,d⟩:=J (du g a l);have Z3:jf (er≠0->dV g a l=[]):=O (λh=>by unfold dV;rw[jw (by rw[<-d];exact h)]);have a6:jf (er=0->dV g a l=et (aX g.tree l) a):=O (λh=>by unfold dV;rw[jt (by rw[<-d];exact h)]);rw[<-d]at Wc⊢;clear D s c E t i h j k C m v d;refine(wt (n:=0)).1 ?_;refine OJ func26 I trivial ?_ I;simp only[ntmps26,jJ,j5,qJ,qX,qY,qZ,q7,q8,q9,qt,qu]
 gi_wp2_with (refine oD I 41 _ I w.heap.size I 41 o (0,0) _ u.out qs I P ?_)
 refine⟨trivial,I,(callsIn_wide.2 (HV _ z.out)).mono ?_⟩;rintro e x1 ⟨rfl,c⟩;have D:=ae u c;have v:=ae F c;have Q:=O (z.below c);have x:=O (B.below c);have E:=ah H c;clear c u F z B H;obtain⟨d,i⟩:=J w.heap.size;rw[<-i]at D v⊢;have F:=O i;clear i
 rcases Wc.out with⟨f,he⟩|⟨f,z,he⟩|⟨f,q,z,he⟩
 ·subst he
  rw[f];have H:jf (dV g a l=[]):=O (Z3 L);have i:jA x1 (d+1) 43 (jg jc 0 0):=v.out;clear f;have V:=i.cell;have X:=i.frozen
  gi_wp2_with fail
  have u:(x1.setCell ⟨d+1,0,jc⟩ (jg jc 0 0)).cell? ⟨d+1,0,jc⟩=ja (jg jc 0 0):=(i.set _).cell;exact⟨jE #[jg jc 0 0,T A 1],by simp[results,qV,go_sem,u],_,I,by rw[H];exact nn _ _ _ _,E.setCell (p:=⟨d+1,0,jc⟩) (by rw[F];show w.heap.size<=w.heap.size+1;omega) _⟩
 ·subst he
  rw[f];have K:dD g:=by
   by_cases M:dD g
   ·exact M
   rw[kj M]at f;cases f
  have R:=O K;have H:jf (dV g a l=[]):=O (Z3 L);clear f K;have ay:=O z;clear z;have aa:=O (Am l (jg r n cl))
  gi_wp2_with fail
  refine⟨trivial,I,(callsIn_wide.2 (aa x1 x HL)).mono ?_⟩;rintro e x2 ⟨rfl,c⟩;have j:=ae D c;have k:=ae v c;have m:=O (Q.below c);have s:=O (x.below c);have t:=ah E c;clear D v Q x E;clear c
  rcases ay.out with q|q
  ·rw[q]
   clear q;have i:jA x2 (d+1) 43 (jg jc 0 0):=k.out;have V:=i.cell;have X:=i.frozen
   gi_wp2_with fail
   refine⟨trivial,?_⟩
   gi_wp2_with fail
   have u:(x2.setCell ⟨d+1,0,jc⟩ (jg jc 0 0)).cell? ⟨d+1,0,jc⟩=ja (jg jc 0 0):=(i.set _).cell;exact⟨jE #[jg jc 0 0,T A 221],by simp[results,qV,go_sem,u],_,I,by rw[H];exact nn _ _ _ _,t.setCell (p:=⟨d+1,0,jc⟩) (by rw[F];show w.heap.size<=w.heap.size+1;omega) _⟩
  by_cases B:iH l=ji
  ·rw[B]
   clear B q;have i:jA x2 (d+1) 43 (jg jc 0 0):=k.out;have V:=i.cell;have X:=i.frozen
   gi_wp2_with fail
   refine⟨trivial,?_⟩
   gi_wp2_with fail
   have u:(x2.setCell ⟨d+1,0,jc⟩ (jg jc 0 0)).cell? ⟨d+1,0,jc⟩=ja (jg jc 0 0):=(i.set _).cell;exact⟨jE #[jg jc 0 0,T A 221],by simp[results,qV,go_sem,u],_,I,by rw[H];exact nn _ _ _ _,t.setCell (p:=⟨d+1,0,jc⟩) (by rw[F];show w.heap.size<=w.heap.size+1;omega) _⟩
  have B:iH l=jm:=ak B;rw[B];have ad:=O q;clear B q
  gi_wp2_with (refine ER aj 41 _ I d I 41 o (0,0) _ j.out qs I P ?_)
  refine⟨trivial,I,(callsIn_wide.2 (HP x2 R m s)).mono ?_⟩;rintro e B ⟨rfl,c⟩;have au:=ae j c;have S:=ae k c;have ax:=O (m.below c);have U2:=O (s.below c);have U:=ah t c;clear j k m s t;clear c;rw[ad];have i:jA B (d+1) 43 (jg jc 0 0):=S.out;have V:=i.cell;have X:=i.frozen
  gi_wp2_with fail
  have u:(B.setCell ⟨d+1,0,jc⟩ (jg jc 0 0)).cell? ⟨d+1,0,jc⟩=ja (jg jc 0 0):=(i.set _).cell;exact⟨jE #[jg jc 0 0,T A 221],by simp[results,qV,go_sem,u],_,I,by rw[H];exact nn _ _ _ _,U.setCell (p:=⟨d+1,0,jc⟩) (by rw[F];show w.heap.size<=w.heap.size+1;omega) _⟩
 subst he;rw[f];have K:dD g:=by
  by_cases M:dD g
  ·exact M
  rw[kj M]at f;cases f
 have R:=O K;have V:=O (oA.1 q);have VM:=O (tH.1 z);have ba:=O q;have ad:=O z;have aa:=O (Am l (jg r n cl));clear f K q z
 gi_wp2_with fail
 refine⟨trivial,I,(callsIn_wide.2 (aa x1 x HL)).mono ?_⟩;rintro e x2 ⟨rfl,c⟩;have j:=ae D c;have k:=ae v c;have m:=O (Q.below c);have s:=O (x.below c);have t:=ah E c;clear D v Q x E;clear c;rw[ba]
 gi_wp2_with (refine ER aj 41 _ I d I 41 o (0,0) _ j.out qs I P ?_)
 refine⟨trivial,I,(callsIn_wide.2 (HP x2 R m s)).mono ?_⟩;rintro e B ⟨rfl,c⟩;have au:=ae j c;have S:=ae k c;have ax:=O (m.below c);have U2:=O (s.below c);have U:=ah t c;clear j k m s t;clear c;rw[ad]
 gi_wp2_with (refine oD I 41 _ I d I 41 o (0,0) _ au.out qs I P ?_)
 refine⟨trivial,I,(callsIn_wide.2 (a5 B V ax U2)).mono ?_⟩;rintro e i ⟨y,rfl,j,c⟩;have k:=O j;have m:=ae S c;have t:=ah U c;clear au S ax U2 U;clear c j;obtain⟨z,E,H,rfl⟩:=gP k
 gi_wp2_with fail
 refine⟨trivial,I,(callsIn_wide.2 (OI _ a i)).mono ?_⟩;rintro e s ⟨rfl,c⟩
 gi_wp2_with fail
 rw[<-c];have j:jk i i s:=by rw[c];exact(ao i _).trans ((ao _ _).mono (ao i _).size)
 have bT:s.heap[i.heap.size]?=ja (je #[jg z E H] 39 (0,0)):=by rw[c];exact av (jy i _) (ao _ _)
 have bA:jA s (i.heap.size+1) 3 (T A a):=by
  have h:=Boxed.new (i.alloc (je #[jg z E H] 39)) 3 (T A a);rw[j8]at h;rw[c];exact h
 have X:jA s (d+1) 43 (jg jc 0 0):=av m j;have bb:=k.below j;have bc:jk w w s:=t.trans (j.mono t.size);have bl:i.heap.size+2<=s.heap.size:=by rw[c];simp
 have bm:d+1<i.heap.size:=(jG.1 m).1;have bd:w.heap.size=d:=F.symm;have ay:=O bd;obtain⟨h0,h1⟩:=vQ R V VM;have C:(aX g.tree l).length<=1000000:=by have:=wM g.tree l;have:=Wx.out;have:=V.len;omega
 have bf:jf (dV g a l=et (aX g.tree l) a):=O (a6 (by trivial));have Z2:jf (d+1<=s.heap.size):=O Y;obtain⟨i0,hi,UJ,bg,bh⟩:=ov Hw;clear c m k j t;refine rm (n:=0) (gf:=124) (lb:=#[jz (ja ⟨i.heap.size+1,0,jc⟩),jz (ja ⟨i,0,jc⟩)]) I (enters_of func124 af I)
  (O0 (aX g.tree l) (jg z E H) a h0 h1 s (d+1) jc 0 0 43 X (i.heap.size+1) i.heap.size Y Y bA bT bb C) Y (λ_=>rfl) (λk c=>c.2.2)
  (λt Ψ W=>gR (d+1) 43 (d+1) 92 4 t.length (EB0.flat t) (λ_=>True) Ψ W/\(jk w w W/\∀k,Ψ k->w.heap.size<=k))
  (λ_ _ _ _=>False)
  ((m5 s.heap.size (d+1) 43 (d+1) 92 4 (λt=>t.length) (λt=>EB0.flat t) (λ_ _=>True)).and (kI _ _ w (ju _) Y))
  (λ_=>fp _ _)
  ⟨⟨_,X,λh=>h.2.1 rfl,nn _ _ _ _,by simp[xU],trivial⟩,bc,λk c=>by omega⟩
  (λx D _ _=>D={tmps:=#[jn o,T A a,jg r n cl,jz (ja ⟨d,0,jc⟩),jN,jN,jz (ja ⟨d+1,0,jc⟩),T A 0,T A x.1,T A x.2,
   jn o,.bool jm,.bool ji,jg r n cl,.bool jm,.bool ji,.bool ji,jn o,T A a,jg r n cl,.bool jm,.bool ji,.bool ji,jn o,jg r n cl,jn #[jg z E H],T A a,
   .func (.func 124) #[] #[jz (ja ⟨i.heap.size+1,0,jc⟩),jz (ja ⟨i,0,jc⟩)],T A x.1,T A x.2,jN,jN,jN,jN,jN,jN,jN],defers:=[]}) (fp _ _)
  ?assign ?body ?done ?stop
 case assign=>
  intro l' t x Ψ j K c _ M
  gi_wp2
  exact M _ _ (jK _ _) c I
 case body=>
  rintro l' t ⟨Q,nd⟩ Ψ D Z ⟨⟨v,f,a1,c,x,-⟩,k,hΨ⟩ rfl j Ys bn bo;have bp:t.length<=10000:=by have:=j;rw[jH]at this;omega
  have hc:=f.cell;have K:=O k;have bq:=k.size;have bi:=O (FD Z [T A nd,T A Q,T A 0,jg jc 0 0] 92);clear k j
  gi_wp2_with (gi_at_builtin;refine Ss _ I _ _ 43 I (d+1) 92 i0 (jn #[T A 0,T A 0,T A 0,jg jc 0 0]) 4 48 underlying43 hi UJ bg bh I L _ _ _ I (c.alloc _) ⟨Z,0,jc⟩ 1 1 [T A nd,T A Q,T A 0,jg jc 0 0] I I bi (by simp[oj]) (by unfold qa;omega) Y (by simp;omega) ?_;intro v' w1 a2 a3 br a4;obtain⟨g',bs,rfl⟩:=ownsRow_succ a2;obtain⟨m,bk⟩:=si (B0:=s.heap.size) f L c Y (ju _) a1 x Ys a2 a3 (by intro j hj;rw[hj]at a4;rcases a4 with h|h;exact .inl h.symm;exact .inr (ak h));have j:jA w1 (d+1) 43 v:=(f.alloc _).kept a3 (by have:=f.not_row (e:=92) L c;exact this);have bu:=j.cell;have bv:=j.frozen)
  obtain⟨v',j,b2,b3,b4,b5⟩:=bk;refine⟨⟨m.1,m.2.1,m.2.2⟩,⟨v',j,b2,?_,b4,trivial⟩,K.trans (m.2.1.mono (by rw[ay];omega)),hΨ⟩;rw[EB0.flat_append,jH];exact b3
 case done=>
  rintro D xs Ψ W hD hS ⟨⟨v,f,a1,c,x,-⟩,k,hΨ⟩ M;have hc:=f.cell;have q:=f.frozen;have K:=O k;clear k;obtain⟨j,k,rfl⟩:=cK c;obtain⟨m,Q⟩:=J xs.length;rw[<-Q]at f c x hc;have a2:=O Q;have a3:=O hS;clear Q hS
  gi_wp2
  refine⟨by simp,.inl ⟨_,_,I,run_takeDeferred (b:=D) (ds:=[]) ?_,?_⟩⟩
  ·exact(KeepsOthers.setCell W _ _).same D _ M I
  have Q:jA (W.setCell ⟨d+1,0,jc⟩ (jg j m k)) (d+1) 43 (jg j m k):=f.set _;have Vf:(W.setCell ⟨d+1,0,jc⟩ (jg j m k)).heap[D]?=ja (.deferred (ja [])):=(KeepsOthers.setCell W _ _).same D _ M I;have a4:(W.setCell ⟨d+1,0,jc⟩ (jg j m k)).ownsRow (d+1) 92 4 (jg j m k) m (EB0.flat xs):=
   c.kept (qU W _ _) (.inr (f.not_row (e:=92) L c).symm)
  have bi:jA ((W.setCell ⟨d+1,0,jc⟩ (jg j m k)).putObj D (.deferred jc)) (d+1) 43 (jg j m k):=
   (World.putObj_heap_other Y).trans Q
  have u:=bi.cell;refine⟨jE #[jg j m k,T A 0],by simp[results,qV,go_sem,u],_,I,?_,?_⟩
  ·have h:=ownsRow_putObj a4 (.deferred jc) Vf I
   rw[ay,bf,<-a3,<-a2];exact uH h Y
  exact(K.setCell (p:=⟨d+1,0,jc⟩) (by show w.heap.size<=d+1;omega) _).trans (iC Y)
 intro D c t Ψ W _ _ h;exact h.elim
end
theorem dW.at{c:Cmt}{q:CQ}(h:dW w b c q):w.cell? ⟨b,0,jc⟩=ja (T A c.folder)/\w.cell? ⟨b,1,jc⟩=ja (T A c.epoch)/\w.cell? ⟨b,34,jc⟩=ja (T A c.author)/\w.cell? ⟨b,35,jc⟩=ja q.vc/\w.cell? ⟨b,36,jc⟩=ja q.vp/\
 w.cell? ⟨b,37,jc⟩=ja q.vb/\w.cell? ⟨b,38,jc⟩=ja q.vw/\w.cell? ⟨b,71,jc⟩=ja (T A c.r)/\w.cell? ⟨b,72,jc⟩=ja (T A c.s):=by
 obtain⟨a,d,e,f,g,i,j,k,l⟩:=iO c q h.plen h.clen;exact⟨h.get a,h.get d,h.get e,h.get f,h.get g,h.get i,h.get j,h.get k,h.get l⟩
theorem dW.new(w:jh){c:Cmt}{q:CQ}(a:c.parent.length=32)(b:c.confirm.length=32):dW (w.alloc (je (aE c q).toArray 48)) w.heap.size c q:=⟨jy w _,a,b⟩
theorem dW.lt{K:CQ}(h:dW w b y K):b<w.heap.size:=(jG.1 h.blk).1
theorem dW.below{c:Cmt}{q:CQ}(h:dW w b c q)(a:jk w w w'):dW w' b c q:=h.keep (a.block b h.lt)
theorem oE{l:jd j}{C:jd jj}{f:j->jj->jd jj}(h:aG D w a b l.length (dU f l C))(d:∀x v,(f x v).length=b){α:jb}{x:j}{v:jj}(e:l[α]?=ja x)(n:C[α]?=ja v):∃g o c,a=jg (ja ⟨g,o,jc⟩) l.length c/\∀i y,(f x v)[i]?=ja y->w.cell? ⟨g,o+α*b+i,jc⟩=ja y:=by
 obtain⟨t,p,c,rfl,u,z,q⟩:=h;have B:=(o8.1 e).1;obtain⟨g,o,rfl,-,r⟩:=q Y;refine⟨g,o,c,I,λi y m=>?_⟩;have s:i<b:=by rw[<-d x v];exact(o8.1 m).1
 rw[Nat.add_assoc];exact r (α*b+i) y ((wT f b d l C α i x v e n s).trans m)
def zM(b:Bx):Prop:=1<=b.node/\b.node<1024/\1<=b.lev/\b.lev<=9/\mB b.u b.body.length
def uG(x:Wl):Prop:=fI x.dev/\mB x.u x.body.length
structure lV(l:jd Wl):Prop where
 each:∀x∈l,uG x
 inc:∀i,0<i->i<l.length->((l.map Wl.dev).getD (i-1) 0)<((l.map Wl.dev).getD i 0)
theorem lV.snoc{l:jd Wl}{x:Wl}(h:lV l)(e:uG x)(f:l=[]\/∃y,l[l.length-1]?=ja y/\y.dev<x.dev):lV (l++[x]):=by
 refine⟨λy a=>?_,λi c g=>?_⟩
 ·rcases pz.1 a with a|a
  ·exact h.each y a
  rw[qx]at a;subst a;exact e
 rw[jH,xi]at g;rw[qe]
 rcases qn i l.length with b|b
 ·have d:=h.inc i c b
  simp only[jQ,sv (show i<(l.map Wl.dev).length by rw[jC];exact b),sv (show i-1<(l.map Wl.dev).length by rw[jC];omega)]at d⊢;exact d
 obtain rfl:i=l.length:=Y
 rcases f with rfl|⟨y,a,d⟩
 ·exact jB c ar
 simp only[jQ,sv (show l.length-1<(l.map Wl.dev).length by rw[jC];omega),xA (show(l.map Wl.dev).length<=l.length by rw[jC];exact ju _),j9,a,jC,Nat.sub_self]
 simpa using d
theorem lV.nil:lV []:=⟨(λx h=>by cases h),λi b a=>jB a ar⟩
theorem pO:mF d b=0↔mB d b:=⟨λh=>by
 by_cases g:mB d b
 ·exact g
 rw[uT g]at h;exact jB h L,FC⟩
theorem OT(c:Cmt)(q:CQ)(w:jh)(a:aW (·<w.heap.size) w c q)(l1:c.chg.length<=1000000)(l2:c.path.length<=1000000)(l3:c.box.length<=1000000)(l4:c.wel.length<=1000000)(l5:∀b∈c.box,b.body.length<4611686018427387904)(l6:∀b∈c.wel,b.body.length<4611686018427387904):
 jq jl 25 #[jn (aE c q).toArray] w λe w'=>e=jp (T A (gW c))/\jk w w w':=by
 obtain⟨r,B⟩:=J (gW c);rw[<-B];have C:=O B;have D:=dW.new w (q:=q) a.plen a.clen;have f:=ao w (je (aE c q).toArray 48);obtain⟨pc,cc,F⟩:=a.chg.form;obtain⟨pp,cp,j⟩:=a.path.form;obtain⟨pb,cb,k⟩:∃p c',q.vb=jg p c.box.length c':=by obtain⟨us,h,-⟩:=a.box;exact h.form
 obtain⟨pw,cw,n⟩:∃p c',q.vw=jg p c.wel.length c':=by obtain⟨us,h,-⟩:=a.wel;exact h.form
 obtain⟨o,t,c2,g,m,s,x,-,-⟩:=D.at;rw[F]at g;rw[j]at m;rw[k]at s;rw[n]at x;have VO:=O (EK.At.of_sl (E:=EC) a.chg);have bA:=O a.path;have YS:=O a.box;have Ya:=O a.wel;have bB:=O l5;have bC:=O l6;rw[F]at VO;obtain⟨nc,u⟩:=J c.chg.length;obtain⟨np,y⟩:=J c.path.length;obtain⟨nb,ba⟩:=J c.box.length;obtain⟨P,bb⟩:=J c.wel.length;rw[<-u]at g VO l1;rw[<-y]at m l2;rw[<-ba]at s l3;rw[<-bb]at x l4;obtain⟨fd,H⟩:=J c.folder;obtain⟨ep,K⟩:=J c.epoch;obtain⟨au,M⟩:=J c.author;rw[<-H]at o;rw[<-K]at t;rw[<-M]at c2;obtain⟨x0,i⟩:=J (w.alloc (je (aE c q).toArray 48));obtain⟨b,S⟩:=J w.heap.size;have z:=D.blk;obtain⟨ad,d⟩:=J ((aE c q).toArray);rw[<-d]at i f z⊢;rw[<-d]at o t c2 g m s x;rw[<-i,<-S]at o t c2 g m s x z;rw[<-i]at f;have HX:=O i;have bI:=O S;have Q:=O z;have R:=O f;have UN:=O (VO.below f);have cj:jf (ad[36]?=ja (jg pp np cp)):=O (by rw[d,y,<-j];simpa using(iO c q a.plen a.clen).2.2.2.2.1);have bK:jf (ad[37]?=ja (jg pb nb cb)):=O (by rw[d,ba,<-k];simpa using(iO c q a.plen a.clen).2.2.2.2.2.1);have aa:jf (ad[38]?=ja (jg pw P cw)):=O (by rw[d,bb,<-n];simpa using(iO c q a.plen a.clen).2.2.2.2.2.2.1);have ck:=O u;have bg:=O y;have Z3:=O ba;have YB:=O bb;have bp:=O H;have WK:=O K;have bq:=O M;have bM:=O j;have bN:=O k;have br:=O n;have U:=O (EO fd);have ay:=O (Be au);obtain⟨fo,V⟩:=J (decide (kf fd));obtain⟨dv,a3⟩:=J (decide (fI au));rw[<-V]at U;rw[<-a3]at ay;have bs:=O V;have bu:=O a3;have W:=O (Am c.chg (jg pc nc cc));obtain⟨fm,X⟩:=J (iH c.chg);rw[<-X]at W;have bv:=O X;have bO:jf (c.chg.length<=1000000):=O (by rw[<-u];exact l1);clear B D f F j k n a u y ba bb H K M i S z d V a3 X l5 l6
 go_enter func25,ntmps25
 go_upto_region 1 with fail
 rw[<-HX,<-bI]
 go_wp2_with fail
 refine(U x0).mono ?_;rintro e x1 ⟨rfl,rfl⟩
 cases fo with
 |false=>
  obtain rfl:r=220:=by rw[C];exact fl λh=>by have h2:=h.fol;rw[<-bp]at h2;have h3:=bs.out;rw[jS h2]at h3;cases h3
  go_wp2_with fail
  go_ret;exact⟨I,R⟩
 |true=>
 by_cases f:ep<1
 ·have bT:decide (ep<1)=jm:=ak f
  obtain rfl:r=220:=by rw[C];exact fl λh=>by have:=h.ep.1;rw[<-WK]at this;omega
  clear f
  go_wp2_with fail
  go_ret;exact⟨I,R⟩
 have bT:decide (ep<1)=ji:=ak f;have bh:=O f;clear f
 by_cases f:1099511627776<ep
 ·have hd2:decide (1099511627776<ep)=jm:=ak f
  obtain rfl:r=220:=by rw[C];exact fl λh=>by have:=h.ep.2;rw[<-WK]at this;omega
  clear f
  go_wp2_with fail
  go_ret;exact⟨I,R⟩
 have hd2:decide (1099511627776<ep)=ji:=ak f;have B:=O f;clear f
 go_wp2_with fail
 refine(ay x0).mono ?_;rintro e x1 ⟨rfl,rfl⟩
 cases dv with
 |false=>
  obtain rfl:r=220:=by rw[C];exact fl λh=>by have h2:=h.aut;rw[<-bq]at h2;have h3:=bu.out;rw[jS h2]at h3;cases h3
  go_wp2_with fail
  go_ret;exact⟨I,R⟩
 |true=>
 go_wp2_with fail
 refine(W x0 UN bO).mono ?_;rintro e x1 ⟨rfl,d⟩;have X:=ae Q d;have H:=ah R d;replace m:=aD m d;replace s:=aD s d;replace x:=aD x d;clear d Q R UN o t c2 g W ay U
 cases fm with
 |false=>
  obtain rfl:r=220:=by rw[C];exact fl λh=>by have h2:=oA.2 h.chg;rw[<-bv]at h2;cases h2
  go_wp2_with fail
  go_ret;exact⟨I,H⟩
 |true=>
 by_cases f:¬np=10
 ·have hd3:((np:N)==10)=ji:=by simp;omega
  have a:((np:N)!=10)=jm:=by simp;omega
  obtain rfl:r=220:=by rw[C];exact fl λh=>f (bg.trans h.plen)
  clear f
  go_wp2_with fail
  go_ret;exact⟨I,H⟩
 have b3:np=10:=Y;clear f;subst b3
 by_cases f:1024<nb
 ·have b4:=aw (1024<(nb:N))
  obtain rfl:r=220:=by rw[C];exact fl λh=>by have:=h.blen;rw[<-Z3]at this;omega
  clear f
  go_wp2_with fail
  go_ret;exact⟨I,H⟩
 have b4:=az (1024<(nb:N));have ba:nb<=1024:=Y;clear f
 by_cases f:512<P
 ·have b5:=aw (512<(P:N))
  obtain rfl:r=220:=by rw[C];exact fl λh=>by have:=h.wlen;rw[<-YB]at this;omega
  clear f
  go_wp2_with fail
  go_ret;exact⟨I,H⟩
 have b5:=az (512<(P:N));have bb:P<=512:=Y;clear f
 go_wp2_with fail
 go_loopw [56] (λi wr=>∃k:jb,i=T A k/\k<=10/\jf (∀j,j<k->bP (c.path.getD j 0))/\jf (wr.heap[b]?=ja (je ad 48 (0,0)))/\jf (jk w w wr)) (λi _=>10-(jv i).toNat)
 case atStart=>exact⟨0,I,j6 _,O (λj hj=>jB hj Y),X,H⟩
 obtain⟨k,rfl,hk,HP,HK,z⟩:=hrel
 by_cases bc:k<10
 case pos=>
  have b6:=aw ((k:N)<10);have U:=aw (k<10);obtain⟨y,K⟩:∃y,c.path[k]?=ja y:=⟨_,ms (by rw[<-bg];exact bc)⟩;obtain⟨-,V,c',F,-,-,D⟩:=bA.out;rw[bM]at F;injection F with e1 e2 e3
  obtain⟨g,o,hg,-,D⟩:=D (by rw[<-bg];omega);rw[hg]at e1;subst e1;have d0:wr.cell? ⟨g,o+k,jc⟩=ja (T A y):=aD (D k (T A y) (by rw[j9,K];rfl)) z;have HY:=O K;have a:=O (gD y);obtain⟨u,t⟩:=J (cS y);rw[<-t]at a;have V8:=O t;clear K D e2 e3 hg t
  go_wp2_with fail
  refine(a _).mono ?_;rintro e W ⟨rfl,d⟩;have S:=ae HK d;have M:=ah z d;clear d a HK z d0
  by_cases n:u=0
  ·have a4:(u !=0)=ji:=ak n
   have a5:(u==0)=jm:=ak n;have a6:jf (∀j,j<k+1->bP (c.path.getD j 0)):=O (λj hj=>by
    rcases qn j k with a|a
    ·exact HP j a
    obtain rfl:j=k:=Y;rw[show c.path.getD j 0=y by simp[jQ,HY.out]];exact zh.1 (V8.symm.trans n))
   clear n
   go_wp2_with fail
   exact⟨⟨k+1,by go_num,by omega,a6,S,M⟩,by simp only[jv];omega⟩
  have a4:(u !=0)=jm:=ak n;have a5:(u==0)=ji:=ak n;obtain rfl:r=220:=by rw[C];exact fl λh=>n (by rw[V8];exact zh.2 (h.path y (j1 HY)))
  clear n
  go_wp2_with fail
  go_ret;exact⟨I,M⟩
 have b6:=az ((k:N)<10);have b7:jf (∀j,j<10->bP (c.path.getD j 0)):=O (λj hj=>HP j Y);have a:=ai HK bK;clear m s x X H HP
 go_wp2_with fail
 go_loopw [67] (λi wz=>∃k:jb,i=T A k/\k<=nb/\jf (∀x∈c.box.take k,zM x)/\jf (wz.heap[b]?=ja (je ad 48 (0,0)))/\jf (jk w w wz)) (λi _=>nb-(jv i).toNat)
 case atStart=>exact⟨0,I,j6 _,O ar,HK,z⟩
 clear a HK z;obtain⟨k,rfl,hk,HP,HK,z⟩:=hrel
 by_cases bc:k<nb
 case pos=>
  have bl:=aw ((k:N)<(nb:N));have bm:=aw (k<nb);obtain⟨x,f,Yh⟩:=dN (l:=c.box) (j:=k) (by rw[<-Z3];exact bc);obtain⟨us,bd,bf⟩:=YS.out;obtain⟨b8,hu,bi⟩:=bf.at (i:=k) (b:=x.body) (by rw[j9,f];rfl);obtain⟨g,o,c',hq,D⟩:=oE bd (λ_ _=>rfl) f hu;rw[bN]at hq;injection hq with e1 e2 e3
  subst e1;subst e3;obtain⟨U,V,rfl⟩:=bi.form;have a1:=bB x (j1 f);have ax:=O f;have YK:=O Yh;obtain⟨m,hm⟩:=J x.body.length;have HM:=O hm;obtain⟨a,s,F,xb⟩:=x;dsimp only at a1 hm D;rw[<-hm]at a1 D;have d0:wr.cell? ⟨g,o+k*4,jc⟩=ja (T A a):=aD (D 0 _ I) z;have d1:wr.cell? ⟨g,o+k*4+1,jc⟩=ja (T A s):=aD (D 1 _ I) z;have d2:wr.cell? ⟨g,o+k*4+2,jc⟩=ja (T A F):=aD (D 2 _ I) z;have M:wr.cell? ⟨g,o+k*4+3,jc⟩=ja (jg U m V):=aD (D 3 _ I) z;have a2:=O (Gd F U m V a1);obtain⟨u,t⟩:=J (mF F m);rw[<-t]at a2;have V8:=O t;clear D bd bf hu bi f Yh e2 hm t a1
  go_upto_region 12 with fail
  obtain⟨y1,Zk⟩:=J wr;have X:jf (y1.heap[b]?=ja (je ad 48 (0,0))):=by rw[Zk];exact HK
  have H:jf (jk w w y1):=by rw[Zk];exact z
  rw[<-Zk]at d0 d1 d2 M⊢;clear Zk HK z;have d:=ao y1 (je #[T A a,T A s,T A F,jg U m V] 92);have Uv:=jy y1 (je #[T A a,T A s,T A F,jg U m V] 92);obtain⟨y2,f⟩:=J (y1.alloc (je #[T A a,T A s,T A F,jg U m V] 92));rw[<-f]at d Uv⊢;obtain⟨E,hg⟩:=J y1.heap.size;rw[<-hg]at Uv⊢;have b9:=O hg;have W:=ae X d;have S:=ah H d;clear X H;have B:=O Uv;clear Uv f d hg;have b0:=ai (i:=0) B I;have b1:=ai (i:=1) B I;have b2:=ai (i:=2) B I;have bk:=ai (i:=3) B I;clear d0 d1 d2 M
  by_cases f:a<1
  ·have g1:decide (a<1)=jm:=ak f
   obtain rfl:r=220:=by rw[C];exact fl λh=>by have M:=h.box _ (j1 ax);exact by have:=M.1;dsimp only at this;omega
   clear f
   go_wp2_with fail
   go_ret;exact⟨I,S⟩
  have g1:decide (a<1)=ji:=ak f;have bn:1<=a:=Y;clear f
  by_cases f:1024<=a
  ·have g2:decide (1024<=a)=jm:=ak f
   obtain rfl:r=220:=by rw[C];exact fl λh=>by have M:=h.box _ (j1 ax);exact by have:=M.2.1;dsimp only at this;omega
   clear f
   go_wp2_with fail
   go_ret;exact⟨I,S⟩
  have g2:decide (1024<=a)=ji:=ak f;have bo:a<1024:=Y;clear f
  by_cases f:s<1
  ·have g3:decide (s<1)=jm:=ak f
   obtain rfl:r=220:=by rw[C];exact fl λh=>by have M:=h.box _ (j1 ax);exact by have:=M.2.2.1;dsimp only at this;omega
   clear f
   go_wp2_with fail
   go_ret;exact⟨I,S⟩
  have g3:decide (s<1)=ji:=ak f;have bw:1<=s:=Y;clear f
  by_cases f:9<s
  ·have g4:decide (9<s)=jm:=ak f
   obtain rfl:r=220:=by rw[C];exact fl λh=>by have M:=h.box _ (j1 ax);exact by have:=M.2.2.2.1;dsimp only at this;omega
   clear f
   go_wp2_with fail
   go_ret;exact⟨I,S⟩
  have g4:decide (9<s)=ji:=ak f;have ca:s<=9:=Y;clear f
  go_wp2_with fail
  refine(a2 y2).mono ?_;rintro e y3 ⟨rfl,d⟩;have YJ:=ae W d;have Ut:=ah S d;clear d a2 W S B b0 b1 b2 bk
  by_cases n:u=0
  ·have a4:(u !=0)=ji:=ak n
   have a5:(u==0)=jm:=ak n;have a6:jf (∀y∈c.box.take (k+1),zM y):=O (λy K=>by
    rw[YK]at K
    rcases pz.1 K with K|K
    ·exact HP y K
    rw[qx]at K;subst K;exact⟨by omega,by omega,by omega,by omega,by rw[<-HM];exact pO.1 (V8.symm.trans n)⟩)
   clear n
   go_wp2_with fail
   exact⟨⟨k+1,by go_num,by omega,a6,YJ,Ut⟩,by simp only[jv];omega⟩
  have a4:(u !=0)=jm:=ak n;have a5:(u==0)=ji:=ak n;obtain rfl:r=220:=by rw[C];exact fl λh=>by have M:=h.box _ (j1 ax);exact n (by rw[V8,HM];exact pO.2 M.2.2.2.2)
  clear n
  go_wp2_with fail
  go_ret;exact⟨I,Ut⟩
 have bl:=az ((k:N)<(nb:N));have bm:=az (k<nb);obtain rfl:k=nb:=Y;have ca:jf (∀x∈c.box,zM x):=O (by have h:=HP.out;rw[jU (by rw[<-Z3];exact ju _)]at h;exact h);have f6:=ai HK aa;clear HP
 go_wp2_with fail
 go_loopw [99] (λi wz=>∃k:jb,i=T A k/\k<=P/\jf (lV (c.wel.take k))/\jf (wz.heap[b]?=ja (je ad 48 (0,0)))/\jf (jk w w wz)) (λi _=>P-(jv i).toNat)
 case atStart=>exact⟨0,I,j6 _,O (ak lV.nil),HK,z⟩
 clear f6 HK z;obtain⟨k,rfl,hk,bk,HK,z⟩:=hrel
 by_cases bc:k<P
 case pos=>
  have bl:=aw ((k:N)<(P:N));have bm:=aw (k<P);obtain⟨x,f,Yh⟩:=dN (l:=c.wel) (j:=k) (by rw[<-YB];exact bc);obtain⟨us,bd,bf⟩:=Ya.out;obtain⟨b8,hu,bi⟩:=bf.at (i:=k) (b:=x.body) (by rw[j9,f];rfl);obtain⟨g,o,c',hq,D⟩:=oE bd (λ_ _=>rfl) f hu;rw[br]at hq;injection hq with e1 e2 e3
  subst e1;subst e3;have cd:jf (∀j y,c.wel[j]?=ja y->w.cell? ⟨g,o+j*3,jc⟩=ja (T A y.dev)):=O (λj y K=>by
   obtain⟨u2,M,-⟩:=bf.at (i:=j) (b:=y.body) (by rw[j9,K];rfl);obtain⟨g2,o2,c2,s,bn⟩:=oE bd (λ_ _=>rfl) K M;rw[br]at s;injection s with a ce cf
   injection a with a
   injection a with bo bw
   subst bo;subst bw;exact bn 0 _ I)
  obtain⟨U,V,rfl⟩:=bi.form;have a1:=bC x (j1 f);have ax:=O f;have YK:=O Yh;obtain⟨m,hm⟩:=J x.body.length;have HM:=O hm;obtain⟨M,F,xb⟩:=x;dsimp only at a1 hm D;rw[<-hm]at a1 D;have d0:wr.cell? ⟨g,o+k*3,jc⟩=ja (T A M):=aD (D 0 _ I) z;have d1:wr.cell? ⟨g,o+k*3+1,jc⟩=ja (T A F):=aD (D 1 _ I) z;have d2:wr.cell? ⟨g,o+k*3+2,jc⟩=ja (jg U m V):=aD (D 2 _ I) z;have a2:=O (Gd F U m V a1);obtain⟨u,t⟩:=J (mF F m);rw[<-t]at a2;have V8:=O t;have ay:=O (Be M);obtain⟨dv,a3⟩:=J (decide (fI M));rw[<-a3]at ay;have bn:=O a3;clear D bd bf hu bi f Yh e2 hm t a1 a3
  go_upto_region 18 with fail
  obtain⟨y1,Zk⟩:=J wr;have X:jf (y1.heap[b]?=ja (je ad 48 (0,0))):=by rw[Zk];exact HK
  have H:jf (jk w w y1):=by rw[Zk];exact z
  rw[<-Zk]at d0 d1 d2⊢;clear Zk HK z;have d:=ao y1 (je #[T A M,T A F,jg U m V] 95);have Uv:=jy y1 (je #[T A M,T A F,jg U m V] 95);obtain⟨y2,f⟩:=J (y1.alloc (je #[T A M,T A F,jg U m V] 95));rw[<-f]at d Uv⊢;obtain⟨E,hg⟩:=J y1.heap.size;rw[<-hg]at Uv⊢;have b9:=O hg;have W:=ae X d;have S:=ah H d;clear X H;have B:=O Uv;clear Uv f d hg;clear d0 d1 d2
  cases dv with
  |false=>
   obtain rfl:r=220:=by rw[C];exact fl λh=>by have h2:=(h.wel _ (j1 ax)).1;have h3:=bn.out;rw[jS h2]at h3;cases h3
   refine qc ?_;refine dj (λs=>s.heap[E]?=ja (je #[T A M,T A F,jg U m V] 95 (0,0))/\s.heap[b]?=ja (je ad 48 (0,0))) (.t 0 (.t 1 (.o 2 (.t 3 (.t 4 (.t 5 (.t 6 (.t 7 (.t 8 (.t 9 (.t 10 (.t 11 (.t 12 (.t 13 (.t 14 (.t 15 (.t 16 (.t 17 (.t 18 (.t 19 (.t 20 (.t 21 (.t 22 (.o 23 (.t 24 (.t 25 .done)))))))))))))))))))))))))) af af af L (λ_ _ _ _ h=>h) ⟨B,W⟩ ?_;obtain⟨z0,UJ⟩:=J y2.drew;have d:=bV y2;rw[<-UJ]at d⊢;have Wz:=ae B d;have Q:=ae W d;have R:=ah S d;clear d UJ B W S;refine aO ?_
   (refine aS (v:=?_) I aj (λs a=>?_) ?_;rotate_left;(have b0:=ai (i:=0) a.1 I;have b1:=ai (i:=1) a.1 I;have b2:=ai (i:=2) a.1 I;have f6:=ai a.2 aa;go_simp;with_reducible rfl);refine G ?_)
   refine aF I (λK' t=>?_);go_simp;refine(ay _).mono ?_;rintro e _ ⟨rfl,rfl⟩;refine t _ _ ⟨Wz,Q⟩ λ_=>?_
   clear t;refine G ?_;iterate 2 refine aO ?_
   iterate 14 refine io ?_
   iterate 2 refine aO ?_
   iterate 2 refine io ?_
   refine aF I (λK' t=>?_);rw[jw (vi.1 aj)];refine t _ _ ⟨Wz,Q⟩ λ_=>?_
   clear t;refine G ?_;refine io ?_;refine aO ?_;refine jV ?_
   go_wp2_with fail
   go_ret;exact⟨I,R⟩
  |true=>
  by_cases WU:k=0
  ·have ce:=az ((0:N)<(k:N))
   have cf:=az (0<k);have a1:=O WU;clear WU;refine qc ?_;refine dj (λs=>s.heap[E]?=ja (je #[T A M,T A F,jg U m V] 95 (0,0))/\s.heap[b]?=ja (je ad 48 (0,0))) (.t 0 (.t 1 (.o 2 (.t 3 (.t 4 (.t 5 (.t 6 (.t 7 (.t 8 (.t 9 (.t 10 (.t 11 (.t 12 (.t 13 (.t 14 (.t 15 (.t 16 (.t 17 (.t 18 (.t 19 (.t 20 (.t 21 (.t 22 (.o 23 (.t 24 (.t 25 .done)))))))))))))))))))))))))) af af af L (λ_ _ _ _ h=>h) ⟨B,W⟩ ?_;obtain⟨z0,UJ⟩:=J y2.drew;have d:=bV y2;rw[<-UJ]at d⊢;have Wz:=ae B d;have Q:=ae W d;have R:=ah S d;clear d UJ B W S;refine aO ?_
   (refine aS (v:=?_) I aj (λs a=>?_) ?_;rotate_left;(have b0:=ai (i:=0) a.1 I;have b1:=ai (i:=1) a.1 I;have b2:=ai (i:=2) a.1 I;have f6:=ai a.2 aa;go_simp;with_reducible rfl);refine G ?_)
   refine aF I (λK' t=>?_);go_simp;refine(ay _).mono ?_;rintro e _ ⟨rfl,rfl⟩;refine t _ _ ⟨Wz,Q⟩ λ_=>?_
   clear t;refine G ?_;iterate 5 refine aO ?_
   iterate 10 refine io ?_
   iterate 4 refine aO ?_
   (refine aS (v:=?_) I aj (λs a=>?_) ?_;rotate_left;(have b0:=ai (i:=0) a.1 I;have b1:=ai (i:=1) a.1 I;have b2:=ai (i:=2) a.1 I;have f6:=ai a.2 aa;go_simp;with_reducible rfl);refine G ?_)
   refine aF I (λK' t=>?_);rw[jt aj];go_simp;refine(a2 z0).mono ?_;rintro e z1 ⟨rfl,d⟩;have bh:=ae Wz d;have X:=ae Q d;have H:=ah R d;clear Wz Q R;clear d;refine t _ _ ⟨bh,X⟩ λ_=>?_
   clear t;refine G ?_;iterate 2 refine aO ?_
   refine jV ?_;clear a2
   by_cases n:u=0
   ·have a4:(u !=0)=ji:=ak n
    have a5:(u==0)=jm:=ak n;have bo:jf (uG ⟨M,F,xb⟩):=O ⟨qd bn.symm,by rw[<-HM];exact pO.1 (V8.symm.trans n)⟩;have a6:jf (lV (c.wel.take (k+1))):=O (by rw[YK];exact bk.snoc bo (by exact .inl (by rw[a1];rfl)));clear n
    go_wp2_with fail
    exact⟨⟨k+1,by go_num,by omega,a6,X,H⟩,by simp only[jv];omega⟩
   have a4:(u !=0)=jm:=ak n;have a5:(u==0)=ji:=ak n;obtain rfl:r=220:=by rw[C];exact fl λh=>n (by rw[V8,HM];exact pO.2 (h.wel _ (j1 ax)).2)
   clear n
   go_wp2_with fail
   go_ret;exact⟨I,H⟩
  have ce:=aw ((0:N)<(k:N));have cf:=aw (0<k);obtain⟨j,hj⟩:=J (k-1);have bd:k=j+1:=Y;have cm:E5.wrap ((k:N)-1)=(j:N):=by rw[bd,show(((j+1:jb):N)-1)=(j:N) by omega];exact IntWalk.i64_in _ Y
  have cn:=aw ((j:N)<(P:N));have cq:=aw (j<P);have cs:decide ((0:N)<=(j:N))=jm:=by simp
  have ct:j<P:=Y;obtain⟨y,K⟩:∃y,c.wel[j]?=ja y:=⟨_,ms (by rw[<-YB];omega)⟩;obtain⟨pd,bi⟩:=J y.dev;have a1:jf (y2.cell? ⟨g,o+j*3,jc⟩=ja (T A pd)):=O (by rw[bi];exact aD (cd j y K) S);have HY:=O K;have bw:=O bi;have bf:=O bd;clear WU hj bd K bi
  by_cases bi:M<=pd
  ·have cg:decide (M<=pd)=jm:=ak bi
   obtain rfl:r=220:=by
    rw[C];refine fl λh=>?_
    have h2:=h.inc k (aJ bf) (by rw[<-YB];exact bc);rw[show k-1=j by have:=bf.out;omega]at h2;rw[show(c.wel.map Wl.dev).getD j 0=pd by rw[bw];simp[jQ,HY.out],show(c.wel.map Wl.dev).getD k 0=M by simp[jQ,ax.out]]at h2;omega
   clear bi;refine qc ?_;refine dj (λs=>s.heap[E]?=ja (je #[T A M,T A F,jg U m V] 95 (0,0))/\s.heap[b]?=ja (je ad 48 (0,0))/\s.cell? ⟨g,o+j*3,jc⟩=ja (T A pd)) (.t 0 (.t 1 (.o 2 (.t 3 (.t 4 (.t 5 (.t 6 (.t 7 (.t 8 (.t 9 (.t 10 (.t 11 (.t 12 (.t 13 (.t 14 (.t 15 (.t 16 (.t 17 (.t 18 (.t 19 (.t 20 (.t 21 (.t 22 (.o 23 (.t 24 (.t 25 .done)))))))))))))))))))))))))) af af af L (λ_ _ _ _ h=>h) ⟨B,W,a1⟩ ?_;obtain⟨z0,UJ⟩:=J y2.drew;have d:=bV y2;rw[<-UJ]at d⊢;have Wz:=ae B d;have Q:=ae W d;have R:=ah S d;have bd:=O (aD a1 d);clear d UJ B W S a1;refine aO ?_
   (refine aS (v:=?_) I aj (λs a=>?_) ?_;rotate_left;(have b0:=ai (i:=0) a.1 I;have b1:=ai (i:=1) a.1 I;have b2:=ai (i:=2) a.1 I;have f6:=ai a.2.1 aa;have p0:=a.2.2;go_simp;with_reducible rfl);refine G ?_)
   refine aF I (λK' t=>?_);go_simp;refine(ay _).mono ?_;rintro e _ ⟨rfl,rfl⟩;refine t _ _ ⟨Wz,Q,bd⟩ λ_=>?_
   clear t;refine G ?_;iterate 6 refine aO ?_
   (refine aS (v:=?_) I aj (λs a=>?_) ?_;rotate_left;(have b0:=ai (i:=0) a.1 I;have b1:=ai (i:=1) a.1 I;have b2:=ai (i:=2) a.1 I;have f6:=ai a.2.1 aa;have p0:=a.2.2;go_simp;with_reducible rfl);refine G ?_)
   iterate 4 refine aO ?_
   (refine aS (v:=?_) I aj (λs a=>?_) ?_;rotate_left;(have b0:=ai (i:=0) a.1 I;have b1:=ai (i:=1) a.1 I;have b2:=ai (i:=2) a.1 I;have f6:=ai a.2.1 aa;have p0:=a.2.2;go_simp;with_reducible rfl);refine G ?_)
   refine aO ?_
   (refine aS (v:=?_) I aj (λs a=>?_) ?_;rotate_left;(have b0:=ai (i:=0) a.1 I;have b1:=ai (i:=1) a.1 I;have b2:=ai (i:=2) a.1 I;have f6:=ai a.2.1 aa;have p0:=a.2.2;go_simp;with_reducible rfl);refine G ?_)
   iterate 4 refine aO ?_
   iterate 2 refine io ?_
   refine aF I (λK' t=>?_);rw[jw (vi.1 aj)];refine t _ _ ⟨Wz,Q,bd⟩ λ_=>?_
   clear t;refine G ?_;refine io ?_;refine aO ?_;refine jV ?_
   go_wp2_with fail
   go_ret;exact⟨I,R⟩
  have cg:decide (M<=pd)=ji:=ak bi;have ci:jf (pd<M):=O Y;clear bi;refine qc ?_;refine dj (λs=>s.heap[E]?=ja (je #[T A M,T A F,jg U m V] 95 (0,0))/\s.heap[b]?=ja (je ad 48 (0,0))/\s.cell? ⟨g,o+j*3,jc⟩=ja (T A pd)) (.t 0 (.t 1 (.o 2 (.t 3 (.t 4 (.t 5 (.t 6 (.t 7 (.t 8 (.t 9 (.t 10 (.t 11 (.t 12 (.t 13 (.t 14 (.t 15 (.t 16 (.t 17 (.t 18 (.t 19 (.t 20 (.t 21 (.t 22 (.o 23 (.t 24 (.t 25 .done)))))))))))))))))))))))))) af af af L (λ_ _ _ _ h=>h) ⟨B,W,a1⟩ ?_;obtain⟨z0,UJ⟩:=J y2.drew;have d:=bV y2;rw[<-UJ]at d⊢;have Wz:=ae B d;have Q:=ae W d;have R:=ah S d;have bd:=O (aD a1 d);clear d UJ B W S a1;refine aO ?_
  (refine aS (v:=?_) I aj (λs a=>?_) ?_;rotate_left;(have b0:=ai (i:=0) a.1 I;have b1:=ai (i:=1) a.1 I;have b2:=ai (i:=2) a.1 I;have f6:=ai a.2.1 aa;have p0:=a.2.2;go_simp;with_reducible rfl);refine G ?_)
  refine aF I (λK' t=>?_);go_simp;refine(ay _).mono ?_;rintro e _ ⟨rfl,rfl⟩;refine t _ _ ⟨Wz,Q,bd⟩ λ_=>?_
  clear t;refine G ?_;iterate 6 refine aO ?_
  (refine aS (v:=?_) I aj (λs a=>?_) ?_;rotate_left;(have b0:=ai (i:=0) a.1 I;have b1:=ai (i:=1) a.1 I;have b2:=ai (i:=2) a.1 I;have f6:=ai a.2.1 aa;have p0:=a.2.2;go_simp;with_reducible rfl);refine G ?_)
  iterate 4 refine aO ?_
  (refine aS (v:=?_) I aj (λs a=>?_) ?_;rotate_left;(have b0:=ai (i:=0) a.1 I;have b1:=ai (i:=1) a.1 I;have b2:=ai (i:=2) a.1 I;have f6:=ai a.2.1 aa;have p0:=a.2.2;go_simp;with_reducible rfl);refine G ?_)
  refine aO ?_
  (refine aS (v:=?_) I aj (λs a=>?_) ?_;rotate_left;(have b0:=ai (i:=0) a.1 I;have b1:=ai (i:=1) a.1 I;have b2:=ai (i:=2) a.1 I;have f6:=ai a.2.1 aa;have p0:=a.2.2;go_simp;with_reducible rfl);refine G ?_)
  iterate 5 refine aO ?_
  (refine aS (v:=?_) I aj (λs a=>?_) ?_;rotate_left;(have b0:=ai (i:=0) a.1 I;have b1:=ai (i:=1) a.1 I;have b2:=ai (i:=2) a.1 I;have f6:=ai a.2.1 aa;have p0:=a.2.2;go_simp;with_reducible rfl);refine G ?_)
  refine aF I (λK' t=>?_);rw[jt aj];go_simp;refine(a2 z0).mono ?_;rintro e z1 ⟨rfl,d⟩;have bh:=ae Wz d;have X:=ae Q d;have H:=ah R d;have a:=O (aD bd d);clear Wz Q R bd;clear d;refine t _ _ ⟨bh,X,a⟩ λ_=>?_
  clear t;refine G ?_;iterate 2 refine aO ?_
  refine jV ?_;clear a2
  by_cases n:u=0
  ·have a4:(u !=0)=ji:=ak n
   have a5:(u==0)=jm:=ak n;have bo:jf (uG ⟨M,F,xb⟩):=O ⟨qd bn.symm,by rw[<-HM];exact pO.1 (V8.symm.trans n)⟩;have a6:jf (lV (c.wel.take (k+1))):=O (by rw[YK];exact bk.snoc bo (by exact .inr ⟨y,by rw[mz,qh (by rw[<-YB];omega),show k-1=j by have:=bf.out;omega,KC (aJ bf)];exact HY,by rw[<-bw];exact ci⟩));clear n
   go_wp2_with fail
   exact⟨⟨k+1,by go_num,by omega,a6,X,H⟩,by simp only[jv];omega⟩
  have a4:(u !=0)=jm:=ak n;have a5:(u==0)=ji:=ak n;obtain rfl:r=220:=by rw[C];exact fl λh=>n (by rw[V8,HM];exact pO.2 (h.wel _ (j1 ax)).2)
  clear n
  go_wp2_with fail
  go_ret;exact⟨I,H⟩
 have bl:=az ((k:N)<(P:N));have bm:=az (k<P);obtain rfl:k=P:=Y;have a:jf (lV c.wel):=O (by have h:=bk.out;rw[jU (by rw[<-YB];exact ju _)]at h;exact h);have g:jf (mH c):=O ⟨by rw[<-bp];exact qd bs.symm,by rw[<-WK];have:=bh.out;have:=B.out;omega,by rw[<-bq];exact qd bu.symm,
  oA.1 bv.symm,bg.symm,by rw[<-Z3];exact ba,by rw[<-YB];exact bb,λp i=>by
   obtain⟨j,hj,rfl⟩:=qk i;have h:=b7 j (by rw[bg];exact hj);rw[ft _ hj]at h;exact h,ca,a.each,a.inc⟩
 obtain rfl:r=0:=by rw[C];exact uq g
 clear bk
 go_wp2_with fail
 go_ret;exact⟨I,z⟩
theorem fU{x:Val}(w':aV (·<w.heap.size) w x a)(d:jk w w h):aV (·<h.heap.size) h x a:=
 aV.mono (λb (c:b<w.heap.size)=>qi c d.size) _ _ (aV.keep (λb c=>d.block b c) _ _ w')
theorem sY(w':df w a r)(v:jk w w h):df h a r:=by
 obtain⟨p,c,b,d,f⟩:=w';refine⟨p,c,b,d,λi=>?_⟩;obtain⟨g,o,e,k⟩:=f i;exact⟨g,o,e,λj m=>aD (k j m) v⟩
def grp:jd Val->jd jj->jd (jd jj)
 |x::xs,a::b=>gU x a::grp xs b
 |_,_=>[]
theorem td:∀(l:jd Val) (a:jd jj),(grp l a).flatten=cR l a
 |[],a=>by cases a<;>simp[grp,cR]
 |x::l,[]=>by simp[grp,cR]
 |x::l,b::a=>by simp[grp,cR,td l a]
theorem AI:∀(l:jd Val) (a:jd jj),a.length=l.length->(grp l a).length=l.length
 |[],a,h=>by cases a<;>simp[grp]
 |x::l,[],h=>by simp at h
 |x::l,b::a,h=>by simp[grp,AI l a (ak h)]
theorem yW:∀{l:jd Val} {a:jd jj},aN D w l a->∀e∈grp l a,∀b∈e,b.oneCell'=jm
 |[],a,h,e,he,b,d=>by cases a<;>simp[grp]at he
 |x::l,a,h,e,he,b,d=>by
  rw[aN]at h;obtain⟨v,i,rfl,f,g⟩:=h;simp only[grp,jT]at he
  rcases he with rfl|he
  ·obtain⟨p,c,rfl⟩:=f.form
   simp only[gU,jT,qN,or_false]at d
   rcases d with rfl|rfl|rfl|rfl<;>rfl
  exact yW g e he b d
theorem tA(s:jb)(a c:jd Val)(k l:jP j7)(m n o p:jb)(w:jh)(C:aV (·<w.heap.size) w (vL a) (jg k m n))(D:aV (·<w.heap.size) w (vL c) (jg l o p))
 (t:w.heap[s]?=ja (je #[jg k m n,jg l o p] 124 (0,0))) (E:a.length+c.length<=1000000):
 jq jl 159 #[jg (ja ⟨s,0,jc⟩) 2 2] w λe w'=>∃v,e=jp v/\aV (·<w'.heap.size) w' (vL (a++c)) v/\jk w w w':=by
 obtain⟨d,u,j⟩:=C.slice;obtain⟨f,x,q⟩:=D.slice;replace j:aN (·<w.heap.size) w a d:=j;replace q:aN (·<w.heap.size) w c f:=q;replace u:aG (·<w.heap.size) w (jg k m n) 4 a.length (cR a d):=u;replace x:aG (·<w.heap.size) w (jg l o p) 4 c.length (cR c f):=x;have y:=AI _ _ j.len;have z:=AI _ _ q.len;have F:sU w (jg k m n) (grp a d):=by unfold sU;rw[y,td];exact u.row
 have H:sU w (jg l o p) (grp c f):=by unfold sU;rw[z,td];exact x.row
 have B:[grp a d,grp c f].flatten=grp a d++grp c f:=by simp
 have K:∀e∈[grp a d,grp c f].flatten,∀r∈e,r.oneCell'=jm:=by
  intro e he r b;rw[B]at he
  rcases pz.1 he with h|h
  ·exact yW j e h r b
  exact yW q e h r b
 refine(Qt s 2 124 [jg k m n,jg l o p] [grp a d,grp c f] I I (by rw[B,jH,y,z];exact E) w t (λi b=>by match i,b with|0,_=>exact F|1,_=>exact H) L K).mono ?_;rintro e w' ⟨M,rfl,i,h⟩;refine⟨M,I,?_,h⟩;rw[B,jH,y,z,List.flatten_append,td,td,<-sM _ _ _ _ j.len,<-jH]at i;rw[vL,aV];refine⟨d++f,aG.of_own i (λg t=>(i.lt g t).2),aN.append ?_ ?_⟩
 ·exact aN.mono (λb (g:b<w.heap.size)=>qi g h.size) _ _ (aN.keep (λb g=>h.block b g) _ _ j)
 exact aN.mono (λb (g:b<w.heap.size)=>qi g h.size) _ _ (aN.keep (λb g=>h.block b g) _ _ q)
theorem O6{E:Act}{o:j0}{x:qT}(e:i.size=73)(f:o.op=.load 48 x)(g:E.eval x=jz (ja ⟨b,0,jc⟩))(c:w.heap[b]?=ja (je i 48 (0,0))):
 (execOp E.eval o).run jl w=.ok (.value (jn i)) w:=by
 have h:=eF (P:=jl) o E 48 x f b 0 g i.toList _ (vP (t:=48) (l:=i.toList) (ak c)) underlying48 I (by rw[qf,e];exact mQ)
 simpa using h
def iW(c:Cmt)(a:ByteArray)(nums:jd N):LBy:=cW a ((aR c).take 4++nums.map vI)
theorem Er(c:Cmt)(q:CQ)(n:ByteArray)(nums:jd N)(v:jj)(w:jh)(j:n.size<=1000)(a:aW (·<w.heap.size) w c q)(hI:df w v nums)(hn:nums.length<=1000)
 (hl:c.chg.length<=1000000/\c.path.length<=1000000/\c.box.length<=1000000/\c.wel.length<=1000000) (k:cZ ((aR c).take 4++nums.map vI)) (l:bH w):
 jq jl 102 #[jn (aE c q).toArray,.string n,v] w λe w'=>∃D,e=jp (jg (ja ⟨D,0,jc⟩) 32 32)/\bD w' (jg (ja ⟨D,0,jc⟩) 32 32) (iW c n nums)/\jk w w w':=by
 obtain⟨l1,l2,l3,l4⟩:=hl;have m:=O a;have UV:=O k;have HT:=O l;have bc:=O j;have o:=O hI;obtain⟨pv,cv,rfl,-,-⟩:=hI;obtain⟨UI,d⟩:=J ((aE c q).toArray);rw[<-d];have bd:=O d;have p:UI.size=73:=by rw[d,jJ,dl c q a.plen a.clen]
 have YU:=O p;have S:=jy w (je UI 48);have f:=ao w (je UI 48);obtain⟨W1,g⟩:=J (w.alloc (je UI 48));obtain⟨b,h⟩:=J w.heap.size;rw[<-g]at f S;rw[<-h]at S;have i:=O f;have r:=O S;have s:=O g;have We:=O h;clear f g h S d p a k l j
 go_enter func102,ntmps102
 go_upto_region 1 with fail
 rw[<-s,<-We];clear s;have Uq:jf (jk w w W1.drew):=O (i.trans ((bV W1).mono i.size));have ba:jf (W1.drew.heap[b]?=ja (je UI 48 (0,0))):=O r;have UN:jf (aW (·<W1.drew.heap.size) W1.drew c q):=O (m.below Uq);have YY:jf (df W1.drew (jg pv nums.length cv) nums):=O (sY o Uq);clear i r m o;refine qc ?_;refine dj (λa=>a.heap[b]?=ja (je UI 48 (0,0))) (.t 0 (.t 1 (.t 4 (.w 2 9 (.t 3 (.w 5 9 (.w 6 9 (.w 7 9 (.w 8 9 (.o 9 (.o 10 .done)) (.o 8 (.o 10 .done))) (.o 7 (.o 8 (.o 10 .done)))) (.o 6 (.o 7 (.o 8 (.o 10 .done))))) (.o 5 (.o 6 (.o 7 (.o 8 (.o 10 .done))))))) (.o 2 (.t 3 (.o 5 (.o 6 (.o 7 (.o 8 (.o 10 .done))))))))))) af af af L (λ_ _ _ _ h=>h) ba ?_;generalize W1.drew=x0 at Uq ba UN YY⊢;refine fk ?_
 (refine aS (v:=jn UI) I aj (λa d=>O6 YU I I d) (G ?_))
 refine fk ?_;refine iX ?_ ?_
 ·refine aF I (λk d=>?_)
  go_simp;rw[bd];refine(tm c q x0 UN l1 l2 l3 l4).mono ?_;rintro e x1 ⟨v,rfl,bb,a⟩;obtain⟨E,o,rfl,VB⟩:∃g o,v=jg (ja ⟨g,0,jc⟩) 11 o/\11<=o:=by
   obtain⟨us,ho,-⟩:=bb;obtain⟨g,c,h1,h2,-⟩:=vu ho L;exact⟨g,c,h1,h2⟩
  have bl:∀W,(Instr.sliceAt 124 (jg (ja ⟨E,0,jc⟩) 11 o) jc (ja (T A 4)) jc).run jl W=.ok (jg (ja ⟨E,0,jc⟩) 4 o) W:=λW=>wn 124 184 4 underlying124 wS E 0 11 o 4 Y W
  have Up:=ah Uq a;have a4:=ae ba a;have WI:=O (sY YY a);clear Uq ba UN YY;clear a;have bf:=O (bb.val 4 L).2;clear bb;rw[<-bd];refine d _ _ a4.out λ_=>?_
  clear d;refine G ?_;refine fk ?_;refine iX ?_ ?_
  ·refine aF I (λk d=>?_)
   go_simp;refine(tE nums _ x1 WI Y).mono ?_;rintro e x2 ⟨bk,rfl,U,a⟩;obtain⟨V,X,rfl⟩:=cK U;have a6:=se (D:=(·<x2.heap.size)) U (λg i=>(U.lt g i).2);have Ur:=ah Up a;have Wr:=ae a4 a;have a5:=O (fU bf a);clear Up a4 WI bf;have bg:=O a6;clear a U a6;refine d _ _ Wr.out λ_=>?_
   clear d;refine G ?_;refine iX ?_ ?_
   ·refine aF I (λk d=>?_)
    go_simp;have a:=ao x2 (je #[jg (ja ⟨E,0,jc⟩) 4 o,jg V nums.length X] 124);have f:=jy x2 (je #[jg (ja ⟨E,0,jc⟩) 4 o,jg V nums.length X] 124);obtain⟨B,l⟩:=J (x2.alloc (je #[jg (ja ⟨E,0,jc⟩) 4 o,jg V nums.length X] 124));rw[<-l]at a f⊢;obtain⟨gl,i⟩:=J x2.heap.size;rw[<-i]at f⊢;have bi:=O i;clear i;have Ut:=ah Ur a;have K:=ae Wr a;have au:=O (fU a5 a);have ax:=O (fU bg a);clear Ur Wr a5 bg;have ZC:=O f;clear f;clear l a;refine d _ _ K.out λ_=>?_
    clear d;refine G ?_;refine iX ?_ ?_
    ·refine aF I (λk d=>?_)
     go_simp;refine(tA gl ((aR c).take 4) (nums.map vI) _ _ _ _ _ _ B au ax ZC.out (by rw[jC];exact jL (qS (qC _ _) hn) L)).mono ?_;rintro e x4 ⟨vc,rfl,F,a⟩;obtain⟨pc,bh,rfl⟩:=F.form;have H:=ah Ut a;have C:=ae K a;clear Ut K au ax ZC;have a1:=O F;clear a F;refine d _ _ C.out λ_=>?_
     clear d;refine G ?_;refine iX ?_ ?_
     ·refine aF I (λk d=>?_)
      go_simp;refine(mK n bc ((aR c).take 4++nums.map vI) _ x4 a1 UV (HT.below H).num (HT.below H).start).mono ?_;rintro e x5 ⟨rfl,a⟩;have r:((cW n ((aR c).take 4++nums.map vI)).map v8).toArray.size=32:=by rw[jJ,jC,eT]
      have s:=eU (cW n ((aR c).take 4++nums.map vI));obtain⟨j,t⟩:=J (((cW n ((aR c).take 4++nums.map vI)).map v8).toArray);rw[<-t]at r s⊢;have Vp:=O t;have M:=O r;have Vm:=O s;clear t r s;have m:=ah H a;have p:=ae C a;clear H C a1;clear a;refine d _ _ p.out λ_=>?_
      clear d;refine G ?_;refine aF I (λk d=>?_);go_simp;have a:=ao x5 (je a8 23);have f:=jy x5 (je a8 23);obtain⟨u,l⟩:=J (x5.alloc (je a8 23));rw[<-l]at a f⊢;obtain⟨D,i⟩:=J x5.heap.size;rw[<-i]at f⊢;have P:=O i;clear i;have Vz:=ah m a;have Q:=ae p a;have R:=O f;have WR:jf (w.heap.size<=D):=O (by rw[P];exact m.size);have ay:jf (b<D):=O (by rw[P];exact(jG.1 p).1);clear f l a;clear m p;refine d _ _ Q.out λ_=>?_
      clear d;refine G ?_;refine aF I (λk d=>?_);rw[jt aj];refine j4 23 _ _ I D j I I 23 _ R.out (by rw[M];rfl) (by rw[M];simp) Vm (d _ _ ((jY _ _ _ _ (aJ ay)).trans Q) λ_=>?_);clear d;have x:(u.setRow D j).heap[D]?=ja (je j 23 (0,0)):=jR _ _ _ _ _ _ R.out;have y:jk w w (u.setRow D j):=jZ Vz WR _;generalize u.setRow D j=z at x y⊢;have Yi:=O x;have Wv:=O y;clear x y;refine G ?_;refine jV ?_
      go_wp2_with fail
      go_ret;have h:=Yi.out;rw[Vp]at h;have S:=nW h (eT _ _);refine⟨D,I,?_,Wv⟩;exact S
     refine aF I (λk d=>?_);go_simp;have a:=ao x4 (je a8 23);have f:=jy x4 (je a8 23);obtain⟨x5,l⟩:=J (x4.alloc (je a8 23));rw[<-l]at a f⊢;obtain⟨D,i⟩:=J x4.heap.size;rw[<-i]at f⊢;have P:=O i;clear i;have m:=ah H a;have p:=ae C a;have aa:=O (fU a1 a);have ad:=O f;have WR:jf (w.heap.size<=D):=O (by rw[P];exact H.size);have ay:jf (b<D):=O (by rw[P];exact(jG.1 C).1);clear f l a;clear H C a1;refine d _ _ p.out λ_=>?_
     clear d;refine G ?_;refine aF I (λk d=>?_);go_simp;refine(mK n bc ((aR c).take 4++nums.map vI) _ x5 aa UV (HT.below m).num (HT.below m).start).mono ?_;rintro e u ⟨rfl,a⟩;have r:((cW n ((aR c).take 4++nums.map vI)).map v8).toArray.size=32:=by rw[jJ,jC,eT]
     have s:=eU (cW n ((aR c).take 4++nums.map vI));obtain⟨j,t⟩:=J (((cW n ((aR c).take 4++nums.map vI)).map v8).toArray);rw[<-t]at r s⊢;have Vp:=O t;have M:=O r;have Vm:=O s;clear t r s;have Vz:=ah m a;have Q:=ae p a;have R:=ae ad a;clear m p aa ad;clear a;refine d _ _ Q.out λ_=>?_
     clear d;refine G ?_;refine aF I (λk d=>?_);rw[jt aj];refine j4 23 _ _ I D j I I 23 _ R.out (by rw[M];rfl) (by rw[M];simp) Vm (d _ _ ((jY _ _ _ _ (aJ ay)).trans Q) λ_=>?_);clear d;have x:(u.setRow D j).heap[D]?=ja (je j 23 (0,0)):=jR _ _ _ _ _ _ R.out;have y:jk w w (u.setRow D j):=jZ Vz WR _;generalize u.setRow D j=z at x y⊢;have Yi:=O x;have Wv:=O y;clear x y;refine G ?_;refine jV ?_
     go_wp2_with fail
     go_ret;have h:=Yi.out;rw[Vp]at h;have S:=nW h (eT _ _);refine⟨D,I,?_,Wv⟩;exact S
    refine aF I (λk d=>?_);go_simp;have a:=ao B (je a8 23);have f:=jy B (je a8 23);obtain⟨x4,l⟩:=J (B.alloc (je a8 23));rw[<-l]at a f⊢;obtain⟨D,i⟩:=J B.heap.size;rw[<-i]at f⊢;have P:=O i;clear i;have H:=ah Ut a;have C:=ae K a;have a1:=O (fU au a);have a2:=O (fU ax a);have a3:=ae ZC a;have Ww:=O f;have WR:jf (w.heap.size<=D):=O (by rw[P];exact Ut.size);have ay:jf (b<D):=O (by rw[P];exact(jG.1 K).1);clear f l a;clear Ut K au ax ZC;refine d _ _ C.out λ_=>?_
    clear d;refine G ?_;refine aF I (λk d=>?_);go_simp;refine(tA gl ((aR c).take 4) (nums.map vI) _ _ _ _ _ _ x4 a1 a2 a3.out (by rw[jC];exact jL (qS (qC _ _) hn) L)).mono ?_;rintro e x5 ⟨vc,rfl,F,a⟩;obtain⟨pc,bh,rfl⟩:=F.form;have m:=ah H a;have p:=ae C a;have ad:=ae Ww a;clear H C a1 a2 a3 Ww;have aa:=O F;clear a F;refine d _ _ p.out λ_=>?_
    clear d;refine G ?_;refine aF I (λk d=>?_);go_simp;refine(mK n bc ((aR c).take 4++nums.map vI) _ x5 aa UV (HT.below m).num (HT.below m).start).mono ?_;rintro e u ⟨rfl,a⟩;have r:((cW n ((aR c).take 4++nums.map vI)).map v8).toArray.size=32:=by rw[jJ,jC,eT]
    have s:=eU (cW n ((aR c).take 4++nums.map vI));obtain⟨j,t⟩:=J (((cW n ((aR c).take 4++nums.map vI)).map v8).toArray);rw[<-t]at r s⊢;have Vp:=O t;have M:=O r;have Vm:=O s;clear t r s;have Vz:=ah m a;have Q:=ae p a;have R:=ae ad a;clear m p ad aa;clear a;refine d _ _ Q.out λ_=>?_
    clear d;refine G ?_;refine aF I (λk d=>?_);rw[jt aj];refine j4 23 _ _ I D j I I 23 _ R.out (by rw[M];rfl) (by rw[M];simp) Vm (d _ _ ((jY _ _ _ _ (aJ ay)).trans Q) λ_=>?_);clear d;have x:(u.setRow D j).heap[D]?=ja (je j 23 (0,0)):=jR _ _ _ _ _ _ R.out;have y:jk w w (u.setRow D j):=jZ Vz WR _;generalize u.setRow D j=z at x y⊢;have Yi:=O x;have Wv:=O y;clear x y;refine G ?_;refine jV ?_
    go_wp2_with fail
    go_ret;have h:=Yi.out;rw[Vp]at h;have S:=nW h (eT _ _);refine⟨D,I,?_,Wv⟩;exact S
   refine aF I (λk d=>?_);go_simp;have a:=ao x2 (je a8 23);have f:=jy x2 (je a8 23);obtain⟨B,l⟩:=J (x2.alloc (je a8 23));rw[<-l]at a f⊢;obtain⟨D,i⟩:=J x2.heap.size;rw[<-i]at f⊢;have P:=O i;clear i;have Ut:=ah Ur a;have K:=ae Wr a;have au:=O (fU a5 a);have ax:=O (fU bg a);have Yj:=O f;have WR:jf (w.heap.size<=D):=O (by rw[P];exact Ur.size);have ay:jf (b<D):=O (by rw[P];exact(jG.1 Wr).1);clear f l a;clear Ur Wr a5 bg;refine d _ _ K.out λ_=>?_
   clear d;refine G ?_;refine aF I (λk d=>?_);go_simp;have a:=ao B (je #[jg (ja ⟨E,0,jc⟩) 4 o,jg V nums.length X] 124);have f:=jy B (je #[jg (ja ⟨E,0,jc⟩) 4 o,jg V nums.length X] 124);obtain⟨x4,l⟩:=J (B.alloc (je #[jg (ja ⟨E,0,jc⟩) 4 o,jg V nums.length X] 124));rw[<-l]at a f⊢;obtain⟨gl,i⟩:=J B.heap.size;rw[<-i]at f⊢;have bi:=O i;clear i;have H:=ah Ut a;have C:=ae K a;have a1:=O (fU au a);have a2:=O (fU ax a);have Ww:=ae Yj a;clear Ut K au ax Yj;have a3:=O f;clear f;clear l a;refine d _ _ C.out λ_=>?_
   clear d;refine G ?_;refine aF I (λk d=>?_);go_simp;refine(tA gl ((aR c).take 4) (nums.map vI) _ _ _ _ _ _ x4 a1 a2 a3.out (by rw[jC];exact jL (qS (qC _ _) hn) L)).mono ?_;rintro e x5 ⟨vc,rfl,F,a⟩;obtain⟨pc,bh,rfl⟩:=F.form;have m:=ah H a;have p:=ae C a;have ad:=ae Ww a;clear H C a1 a2 Ww a3;have aa:=O F;clear a F;refine d _ _ p.out λ_=>?_
   clear d;refine G ?_;refine aF I (λk d=>?_);go_simp;refine(mK n bc ((aR c).take 4++nums.map vI) _ x5 aa UV (HT.below m).num (HT.below m).start).mono ?_;rintro e u ⟨rfl,a⟩;have r:((cW n ((aR c).take 4++nums.map vI)).map v8).toArray.size=32:=by rw[jJ,jC,eT]
   have s:=eU (cW n ((aR c).take 4++nums.map vI));obtain⟨j,t⟩:=J (((cW n ((aR c).take 4++nums.map vI)).map v8).toArray);rw[<-t]at r s⊢;have Vp:=O t;have M:=O r;have Vm:=O s;clear t r s;have Vz:=ah m a;have Q:=ae p a;have R:=ae ad a;clear m p ad aa;clear a;refine d _ _ Q.out λ_=>?_
   clear d;refine G ?_;refine aF I (λk d=>?_);rw[jt aj];refine j4 23 _ _ I D j I I 23 _ R.out (by rw[M];rfl) (by rw[M];simp) Vm (d _ _ ((jY _ _ _ _ (aJ ay)).trans Q) λ_=>?_);clear d;have x:(u.setRow D j).heap[D]?=ja (je j 23 (0,0)):=jR _ _ _ _ _ _ R.out;have y:jk w w (u.setRow D j):=jZ Vz WR _;generalize u.setRow D j=z at x y⊢;have Yi:=O x;have Wv:=O y;clear x y;refine G ?_;refine jV ?_
   go_wp2_with fail
   go_ret;have h:=Yi.out;rw[Vp]at h;have S:=nW h (eT _ _);refine⟨D,I,?_,Wv⟩;exact S
  refine aF I (λk d=>?_);go_simp;have a:=ao x1 (je a8 23);have f:=jy x1 (je a8 23);obtain⟨x2,l⟩:=J (x1.alloc (je a8 23));rw[<-l]at a f⊢;obtain⟨D,i⟩:=J x1.heap.size;rw[<-i]at f⊢;have P:=O i;clear i;have Ur:=ah Up a;have Wr:=ae a4 a;have WV:=O (sY WI a);have a5:=O (fU bf a);have Yu:=O f;have WR:jf (w.heap.size<=D):=O (by rw[P];exact Up.size);have ay:jf (b<D):=O (by rw[P];exact(jG.1 a4).1);clear f l a;clear Up a4 WI bf;refine d _ _ Wr.out λ_=>?_
  clear d;refine G ?_;refine aF I (λk d=>?_);go_simp;refine(tE nums _ x2 WV Y).mono ?_;rintro e B ⟨bk,rfl,U,a⟩;obtain⟨V,X,rfl⟩:=cK U;have a6:=se (D:=(·<B.heap.size)) U (λg i=>(U.lt g i).2);have Ut:=ah Ur a;have K:=ae Wr a;have au:=O (fU a5 a);have Yj:=ae Yu a;clear Ur Wr WV a5 Yu;have ax:=O a6;clear a U a6;refine d _ _ K.out λ_=>?_
  clear d;refine G ?_;refine aF I (λk d=>?_);go_simp;have a:=ao B (je #[jg (ja ⟨E,0,jc⟩) 4 o,jg V nums.length X] 124);have f:=jy B (je #[jg (ja ⟨E,0,jc⟩) 4 o,jg V nums.length X] 124);obtain⟨x4,l⟩:=J (B.alloc (je #[jg (ja ⟨E,0,jc⟩) 4 o,jg V nums.length X] 124));rw[<-l]at a f⊢;obtain⟨gl,i⟩:=J B.heap.size;rw[<-i]at f⊢;have bi:=O i;clear i;have H:=ah Ut a;have C:=ae K a;have a1:=O (fU au a);have Ww:=ae Yj a;have a2:=O (fU ax a);clear Ut K au Yj ax;have a3:=O f;clear f;clear l a;refine d _ _ C.out λ_=>?_
  clear d;refine G ?_;refine aF I (λk d=>?_);go_simp;refine(tA gl ((aR c).take 4) (nums.map vI) _ _ _ _ _ _ x4 a1 a2 a3.out (by rw[jC];exact jL (qS (qC _ _) hn) L)).mono ?_;rintro e x5 ⟨vc,rfl,F,a⟩;obtain⟨pc,bh,rfl⟩:=F.form;have m:=ah H a;have p:=ae C a;have ad:=ae Ww a;clear H C a1 Ww a2 a3;have aa:=O F;clear a F;refine d _ _ p.out λ_=>?_
  clear d;refine G ?_;refine aF I (λk d=>?_);go_simp;refine(mK n bc ((aR c).take 4++nums.map vI) _ x5 aa UV (HT.below m).num (HT.below m).start).mono ?_;rintro e u ⟨rfl,a⟩;have r:((cW n ((aR c).take 4++nums.map vI)).map v8).toArray.size=32:=by rw[jJ,jC,eT]
  have s:=eU (cW n ((aR c).take 4++nums.map vI));obtain⟨j,t⟩:=J (((cW n ((aR c).take 4++nums.map vI)).map v8).toArray);rw[<-t]at r s⊢;have Vp:=O t;have M:=O r;have Vm:=O s;clear t r s;have Vz:=ah m a;have Q:=ae p a;have R:=ae ad a;clear m p ad aa;clear a;refine d _ _ Q.out λ_=>?_
  clear d;refine G ?_;refine aF I (λk d=>?_);rw[jt aj];refine j4 23 _ _ I D j I I 23 _ R.out (by rw[M];rfl) (by rw[M];simp) Vm (d _ _ ((jY _ _ _ _ (aJ ay)).trans Q) λ_=>?_);clear d;have x:(u.setRow D j).heap[D]?=ja (je j 23 (0,0)):=jR _ _ _ _ _ _ R.out;have y:jk w w (u.setRow D j):=jZ Vz WR _;generalize u.setRow D j=z at x y⊢;have Yi:=O x;have Wv:=O y;clear x y;refine G ?_;refine jV ?_
  go_wp2_with fail
  go_ret;have h:=Yi.out;rw[Vp]at h;have S:=nW h (eT _ _);refine⟨D,I,?_,Wv⟩;exact S
 refine aF I (λk d=>?_);go_simp;have a:=ao x0 (je a8 23);have f:=jy x0 (je a8 23);obtain⟨x1,l⟩:=J (x0.alloc (je a8 23));rw[<-l]at a f⊢;obtain⟨D,i⟩:=J x0.heap.size;rw[<-i]at f⊢;have P:=O i;clear i;have Up:=ah Uq a;have a4:=ae ba a;have UK:=O (UN.below a);have WI:=O (sY YY a);have bf:=O f;have WR:jf (w.heap.size<=D):=O (by rw[P];exact Uq.size);have ay:jf (b<D):=O (by rw[P];exact(jG.1 ba).1);clear f l a;clear Uq ba UN YY;refine d _ _ a4.out λ_=>?_
 clear d;refine G ?_;refine aF I (λk d=>?_);go_simp;rw[bd];refine(tm c q x1 UK l1 l2 l3 l4).mono ?_;rintro e x2 ⟨v,rfl,bb,a⟩;obtain⟨E,o,rfl,VB⟩:∃g o,v=jg (ja ⟨g,0,jc⟩) 11 o/\11<=o:=by
  obtain⟨us,ho,-⟩:=bb;obtain⟨g,c,h1,h2,-⟩:=vu ho L;exact⟨g,c,h1,h2⟩
 have bl:∀W,(Instr.sliceAt 124 (jg (ja ⟨E,0,jc⟩) 11 o) jc (ja (T A 4)) jc).run jl W=.ok (jg (ja ⟨E,0,jc⟩) 4 o) W:=λW=>wn 124 184 4 underlying124 wS E 0 11 o 4 Y W
 have Ur:=ah Up a;have Wr:=ae a4 a;have WV:=O (sY WI a);have Yu:=ae bf a;clear Up a4 UK WI bf;clear a;have a5:=O (bb.val 4 L).2;clear bb;rw[<-bd];refine d _ _ Wr.out λ_=>?_
 clear d;refine G ?_;refine fk ?_;refine aF I (λk d=>?_);go_simp;refine(tE nums _ x2 WV Y).mono ?_;rintro e B ⟨bk,rfl,U,a⟩;obtain⟨V,X,rfl⟩:=cK U;have a6:=se (D:=(·<B.heap.size)) U (λg i=>(U.lt g i).2);have Ut:=ah Ur a;have K:=ae Wr a;have Yj:=ae Yu a;have au:=O (fU a5 a);clear Ur Wr WV Yu a5;have ax:=O a6;clear a U a6;refine d _ _ K.out λ_=>?_
 clear d;refine G ?_;refine aF I (λk d=>?_);go_simp;have a:=ao B (je #[jg (ja ⟨E,0,jc⟩) 4 o,jg V nums.length X] 124);have f:=jy B (je #[jg (ja ⟨E,0,jc⟩) 4 o,jg V nums.length X] 124);obtain⟨x4,l⟩:=J (B.alloc (je #[jg (ja ⟨E,0,jc⟩) 4 o,jg V nums.length X] 124));rw[<-l]at a f⊢;obtain⟨gl,i⟩:=J B.heap.size;rw[<-i]at f⊢;have bi:=O i;clear i;have H:=ah Ut a;have C:=ae K a;have Ww:=ae Yj a;have a1:=O (fU au a);have a2:=O (fU ax a);clear Ut K Yj au ax;have a3:=O f;clear f;clear l a;refine d _ _ C.out λ_=>?_
 clear d;refine G ?_;refine aF I (λk d=>?_);go_simp;refine(tA gl ((aR c).take 4) (nums.map vI) _ _ _ _ _ _ x4 a1 a2 a3.out (by rw[jC];exact jL (qS (qC _ _) hn) L)).mono ?_;rintro e x5 ⟨vc,rfl,F,a⟩;obtain⟨pc,bh,rfl⟩:=F.form;have m:=ah H a;have p:=ae C a;have ad:=ae Ww a;clear H C Ww a1 a2 a3;have aa:=O F;clear a F;refine d _ _ p.out λ_=>?_
 clear d;refine G ?_;refine aF I (λk d=>?_);go_simp;refine(mK n bc ((aR c).take 4++nums.map vI) _ x5 aa UV (HT.below m).num (HT.below m).start).mono ?_;rintro e u ⟨rfl,a⟩;have r:((cW n ((aR c).take 4++nums.map vI)).map v8).toArray.size=32:=by rw[jJ,jC,eT]
 have s:=eU (cW n ((aR c).take 4++nums.map vI));obtain⟨j,t⟩:=J (((cW n ((aR c).take 4++nums.map vI)).map v8).toArray);rw[<-t]at r s⊢;have Vp:=O t;have M:=O r;have Vm:=O s;clear t r s;have Vz:=ah m a;have Q:=ae p a;have R:=ae ad a;clear m p ad aa;clear a;refine d _ _ Q.out λ_=>?_
 clear d;refine G ?_;refine aF I (λk d=>?_);rw[jt aj];refine j4 23 _ _ I D j I I 23 _ R.out (by rw[M];rfl) (by rw[M];simp) Vm (d _ _ ((jY _ _ _ _ (aJ ay)).trans Q) λ_=>?_);clear d;have x:(u.setRow D j).heap[D]?=ja (je j 23 (0,0)):=jR _ _ _ _ _ _ R.out;have y:jk w w (u.setRow D j):=jZ Vz WR _;generalize u.setRow D j=z at x y⊢;have Yi:=O x;have Wv:=O y;clear x y;refine G ?_;refine jV ?_
 go_wp2_with fail
 go_ret;have h:=Yi.out;rw[Vp]at h;have S:=nW h (eT _ _);refine⟨D,I,?_,Wv⟩;exact S
theorem Di(b:LBy):b.length<=(enc (vT b)).length:=by
 rw[vT,enc,jw L,jt I];simp only[j5,jH,yO];omega
theorem ry{l:jd Val}{x:Val}(h:x∈l):(enc x).length<=(enc (vL l)).length:=by
 rw[pG];have:=EH h;simp only[j5,jH];omega
theorem cZ.bodies(h:cZ (aR y)):(∀b∈y.box,b.body.length<=800000)/\(∀b∈y.wel,b.body.length<=800000):=by
 have g:=h.len;refine⟨λb a=>?_,λb a=>?_⟩
 ·have d:(enc (vL (y.box.map Bx.val))).length<=(enc (vL (aR y))).length:=ry (by unfold aR;simp)
  have e:(enc b.val).length<=(enc (vL (y.box.map Bx.val))).length:=ry (jO.2 ⟨b,a,I⟩);have f:(enc (vT b.body)).length<=(enc b.val).length:=ry ar;have:=Di b.body;omega
 have d:(enc (vL (y.wel.map Wl.val))).length<=(enc (vL (aR y))).length:=ry (by unfold aR;simp);have e:(enc b.val).length<=(enc (vL (y.wel.map Wl.val))).length:=ry (jO.2 ⟨b,a,I⟩);have f:(enc (vT b.body)).length<=(enc b.val).length:=ry ar;have:=Di b.body;omega
theorem Tw(c:Cmt):(mH c/\gW c=0)\/(¬mH c/\gW c=220):=by
 by_cases h:mH c
 ·exact .inl ⟨h,uq h⟩
 exact .inr ⟨h,fl h⟩
theorem MI(c:Cmt)(q:CQ)(w:jh)(f:aW (·<w.heap.size) w c q)(a:cZ (aR c)):
 jq jl 25 #[jn (aE c q).toArray] w λe w'=>e=jp (T A (gW c))/\jk w w w':=
 OT c q w f a.lens.1 a.lens.2.1 a.lens.2.2.1 a.lens.2.2.2 (λb d=>by have:=a.bodies.1 b d;omega) (λb d=>by have:=a.bodies.2 b d;omega)
theorem L9{l:jd aK}(e:mu l)(h:cG l d=jm):∃m,l[lY l d]?=ja m/\l.find? (λm=>m.dev==d)=ja m:=by
 obtain⟨m,b⟩:∃m,l.find? (λm=>m.dev==d)=ja m:=by
  cases hf:l.find? (λm=>m.dev==d)with
  |some m=>exact⟨m,I⟩
  |none=>
   exfalso
   unfold cG at h;obtain⟨x,a,c⟩:=r7.1 h;exact jB c (by have:=Ls.1 hf x a;simpa using this)
 refine⟨m,?_,b⟩;have g:=List.mem_of_find?_eq_some b;have f:m.dev=d:=by have:=List.find?_some b;simpa using this
 obtain⟨i,a,he⟩:=qk g;have j:lY l d=i:=by
  refine AE d l i Y (λt k=>?_) (λt n c=>?_)
  ·have:=e t i k a
   rw[ft _ a,he,f]at this;exact this
  have:=yM e n c;rw[ft _ a,he,f]at this;exact this
 rw[j,ms a,he]
theorem Gb(g:Grp)(vm vt U:jj)(a:N)(l:jd ap)(w:jh)(h:bL w g vm vt)(s:mu g.mem)(V:g.mem.length<=1000000)(x:EC.At w U l)(i:cG g.mem a=ji->l≠[]):
 jq jl 33 #[jn (aB g vm vt).toArray,T A a,U] w λe w'=>e=jp (T A (dT g a l))/\jk w w w':=by
 have y:=rA (vm:=vm) (vt:=vt) h.llen;have t:=λW hW=>yN g vm vt a W hW s V h.llen
 have z:=dG.new w (vm:=vm) (vt:=vt) h.llen;have j:=z.blk;have f:=ao w (je (aB g vm vt).toArray 41);have k:=z.at.2.2.1;obtain⟨B,C,rfl,WX,-⟩:=h.mem.form;obtain⟨pl,cl,rfl,VB,-⟩:=x.form;have m:=h.mem.below f;have o:=x.below f;obtain⟨D,E⟩:=J ((aB g (jg B g.mem.length C) vt).toArray);rw[<-E]at y t j f k m o⊢;obtain⟨x0,c⟩:=J (w.alloc (je D 41));obtain⟨b,F⟩:=J w.heap.size;rw[<-c]at j f k m o;rw[<-F]at j k;obtain⟨n,H⟩:=J l.length;obtain⟨u,v⟩:=J g.mem.length;rw[<-H]at o VB⊢;rw[<-v]at k m WX V t;have HX:=O c;have ad:=O F;have K:=O j;have X:=O f;have M:=O m;have aa:=O o;have U8:=O y;have P:=O t;have YC:=O i;have a1:=O s;have HN:=O H;have au:=O v;have Vl:=O (λh=>L9 (d:=a) s h);obtain⟨Q,p⟩:=J (cG g.mem a);obtain⟨q,R⟩:=J (lY g.mem a);rw[<-p,<-R]at P;rw[<-p]at YC;rw[<-R,<-p]at Vl;have ax:=O p;have ay:jf (D[34]?=ja (jg B u C)):=O (by rw[E,v];simpa using(lP (vm:=jg B g.mem.length C) (vt:=vt) h.llen).2.2.1);obtain⟨r,S⟩:=J (dT g a l);rw[<-S];have HR:=O S;clear y t z j f m o E c F H v p R h s x i k S
 go_enter func33,ntmps33
 go_upto_region 1 with fail
 rw[<-HX,<-ad];refine ow ?_;refine qb I 41 _ I b I 41 D (0,0) _ K.out qs I U8 ?_
 go_wp2_with fail
 refine(P x0 M).mono ?_;rintro e x1 ⟨rfl,f⟩;have v:=ae K f;have y:=O (M.below f);have z:=O (aa.below f);have s:=ah X f;clear f P K M aa X
 cases Q with
 |true=>
  obtain⟨m,k,t⟩:=Vl I;have E:q<u:=by rw[au];exact(o8.1 k).1
  obtain⟨p,o,rfl,f⟩:=(y.cells).2.2 Y;have F:=ai v ay;have x:x1.cell? ⟨p,o+q*3+2,jc⟩=ja (T A m.ver):=f q m k 2 _ I;have j:r=m.ver:=by rw[HR];unfold dT;rw[t]
  have H:=aw ((q:N)<(u:N));have hd2:=aw (q<u);rw[<-j]at x;clear f k t j
  go_wp2_with fail
  go_ret;exact⟨I,s⟩
 |false=>
  have i:=YC I;obtain⟨x,k,c⟩:∃x k,l=x::k:=by
   rcases l with _|⟨x,r⟩
   ·exact jB I i
   exact⟨x,r,I⟩
  have E:0<n:=by rw[HN,c];simp
  obtain⟨p,o,rfl,f⟩:=(z.cells).2.2 E;have F:x1.cell? ⟨p,o+3,jc⟩=ja (T A x.v):=by
   have h:=f 0 x (by rw[c];rfl) 3 _ I;rw[Nat.zero_mul,sh]at h;exact h
  have t:g.mem.find? (λm=>m.dev==a)=jc:=by
   rw[Ls];intro m Q;have h:=ax.out;unfold cG at h;have:=ql.1 h.symm m Q
   simpa using this
  have j:r=x.v:=by rw[HR];unfold dT;rw[t,c]
  rw[<-j]at F;clear f c t i j
  go_wp2_with fail
  go_ret;exact⟨I,s⟩
end Go.Proofs.YtngkfaggaccpoaaGreatDoor
