/- Contracts of functions that the law reaches, part 4 of 7; no condition. -/
import Derived.Shelf.SlSortCmp.NoneTotal
import Derived.Test.YtjbiancnijgmgaaGreatDoorZJ3
namespace Go.Proofs.YtjbiancnijgmgaaGreatDoor
set_option maxHeartbeats 64000000
set_option maxRecDepth 100000
set_option linter.unusedVariables false
set_option linter.unusedSimpArgs false
set_option linter.unusedSectionVars false
open Go.RowKit
open Go.Proofs.Tryz
open _root_ renaming rfl->I,Int->N,Nat->jb,List->jd,congrArg->js,if_pos->jt,if_neg->jw,absurd->jB,Array->jD,Bool->jF,Option->jP,decide_eq_true->jS,of_decide_eq_true->qb
open Go.Value renaming int->T
open Go.IntKind renaming i64->A
open _root_.Option renaming some->ja,none->jc,getD_some->wx,map_some->xh,isSome_iff_exists->AX
open Go.Obj renaming cells->je
open Go.RowKit renaming Hid->jf,Below->jk
open Go.Value renaming slice->jg,agg->jn,pointer->jz,tuple->jE
open Go renaming World->jh,Value->jj,Calls->jq,Boxed->jA,TypeId->jI,undef->jN,setRow_heap->jR,Program->jX,setRow_other->jY,below_setRow->jZ,Oper->j0,wpList_plain->j3,wp_store_row->j4,Addr->j7,wp_region_lit->ow,callFunc->o8,maxLen->pz,wpList_load_row->p6,wp_region_noPanic->qa,bodyPost_ret->qh,Operand->qQ,grownBy_setCell'->qS,callsIn_wide->vi,results_none->wi,run_underlying->wq,callsIn_of_wp_marks->H1,wpListIn_append_own_at->H5
open _root_.Bool renaming false->ji,true->jm,eq_iff_iff->qz,eq_false_iff->sx,and_eq_true->sy
open Go.Proofs.Tryz renaming prog->jl
open Go.Value renaming int->jo,oneCell'->oj,bool->qu,agg->xi,ownBlock->xR
open Go.Ending renaming returned->jp
open Go.IntKind renaming u8->jr,u64->q9,wrap_u64->rk,wrap_u8->rv,i64->Bm
open _root_.Nat renaming le_refl->ju,le_trans->jL,zero_add->jM,zero_le->j6,min_eq_left->qf,lt_of_lt_of_le->qg,lt_or_ge->qk,mul_le_mul_right->ql,mod_lt->qK,mul_comm->qM,add_le_add->qP,reduceAdd->qV,reduceSub->qW,add_zero->r9,ne_of_lt->xj,le_of_lt->xm,eq_zero_or_pos->xy,div_div_eq_div_mul->zt,lt_or_eq_of_le->CB,le_of_lt_succ->CF,div_lt_of_lt_mul->E4,div_add_mod->E5
open Go.Proofs renaming intOf->jv
open Go.World renaming alloc_heap_new->jy,size_alloc->j8,ownsRow_nil->nn,cell?->qy,setRow->qU,ownsRow_lit->ym
open _root_.List renaming length_map->jC,length_append->jH,size_toArray->jJ,mem_map->jO,getD->jQ,mem_cons->jT,take_of_length_le->jU,replicate->jW,mem_of_getElem?->j1,length_cons->j5,getElem?_map->j9,getElem?_eq_getElem->ms,length_take->mz,append_assoc->n0,append_nil->ob,getElem?_eq_some_iff->o3,mem_append->o5,map_append->qc,getElem_of_mem->qi,any_eq_false->qj,nil_append->qo,cons_append->qs,take_succ_eq_append_getElem->qt,mem_singleton->qv,filter_append->qw,filter_nil->qx,length_take_le->qA,length_attach->qB,range->qG,length_nil->qH,map_cons->qI,getElem_mem->qJ,mem_nil_iff->qL,mem_cons_self->qN,mergeSort_perm->qO,push_toArray->qZ,append_toArray->q7,zipIdx_cons->q8,mem_range->r4,any_eq_true->r6,length_set->r7,filter_cons_of_neg->r8,drop_drop->sh,pairwise_cons->sl,getElem?_append_left->sn,getElem_map->sq,eq_nil_of_length_eq_zero->sv,take_set_of_le->xa,drop_set_of_lt->xd,drop_of_length_le->xe,length_singleton->xf,setIfInBounds_toArray->xk,map_set->xl,take_append_drop->xn,take_take->xo,mem_cons_of_mem->xr,pairwise_map->xt,map_map->xu,pairwise_iff_getElem->xw,getElem?_append_right->xx,flatMap_cons->xz,take_zero->xQ,flatten_cons->xT,drop_eq_getElem_cons->xU,getElem?_eq_none->xV,toList_toArray->xW,map_inj_right->xX,mem_flatMap->xY,length_drop->xZ,length_eq_zero_iff->yl,getElem?_drop->yn,filter_cons_of_pos->yt,getElem_set_self->zm,mem_filter->AC,map_congr_left->Bn,length_filter_le->D1,getElem?_cons_succ->E2,nodup_append->E3,getElem?_take_of_lt->E6,map_mergeSort->GX,attach_map_subtype_val->HH,find?_eq_none->H0
open _root_.Array renaming getElem?_eq_some_iff->jG,length_toList->qd,replicate_succ->qX,replicate_zero->qY
open Go.RowKit.Below renaming refl->jK,heap_setCell->xP,heap_alloc->xS
open Go.NoPanic renaming normal->jV
open Go.Proofs.Tryz renaming underlying3->nv,underlying45->qn,underlying63->qC,underlying40->qD,underlying27->qE,underlying4->qF,results24->qT,results33->wt,underlying5->wv,underlying145->xA,underlying307->xB,underlying0->xC,underlying9->xD,underlying161->xE,underlying216->xG,underlying217->xH,underlying61->xI,underlying223->xJ,underlying196->xK,underlying284->xL,underlying288->xM,underlying333->xN,underlying334->xO
open _root_.BitVec renaming ofNat->o1,toNat_ofNat->rn
open _root_.Int renaming eq_ofNat_of_zero_le->qe,ofNat->xg,natCast_ediv->xq
variable{y:Cmt}{a:Grp}{d:N}{z:N×N}{m:N->jP N}{i:Type}{x:ap}{h:jD jj}{P:jX}{b o:jb}{D:jb->Prop}{t:jd (N×N)}{r:jd N}{e:jd ap}{f w w':jh}{S:jh->Prop}{j u vm vt:jj}
section
attribute [local go_sem] Oper.semAt_some
section
variable {P:jX} {F:Fence} {nF:jb}
theorem As{f:jD j0}{i:jd j0}{o:j0}{a:Act}{w:jh}{j:Exit->Act->jh->Prop}(k:o.guard=jc)(b:jI)(x y:qQ)(d:o.op=.store b x y)
 (g:jb) (cells:jD jj) (l:a.eval x=jz (ja ⟨g,0,jc⟩)) (m:a.eval y=jn cells) (t:jI) (e:jD jj) (n:w.heap[g]?=ja (je e t (0,0))) (p:(P.info? b).map (·.size)=ja cells.size)
 (q:e.size=cells.size) (r:cells.all (·.oneCell')=jm) (h:wpListIn F nF P f j i (a.put o.dst jN) (w.setRow g cells)):wpListIn F nF P f j (o::i) a w:=by
 refine wpListIn_plain k λv s=>?_
 unfold Oper.wpIn;refine⟨by simp[Oper.about,d],?_⟩;rw[Oper.semAt_plain F _ _ (by rw[d];intro c u;cases u)];simp only[execOp,d,l,m,Instr.storeAt,Instr.sureAddr,Sem.run_bind,Sem.run_pure,Result.andThen_ok,run_storeVar_row w g t b e cells n p q r];exact s _ _ h
end
def DJ(k:LBy):LBy:=dZ k ⟨#[112,97,116,104]⟩ []
def aw(k:LBy):jb->LBy
 |0=>k
 |i+1=>DJ (aw k i)
def gH(k:LBy)(n:jb):jd (LBy):=(qG n).map (aw k)
theorem fM(k:LBy)(h:k.length=32):∀i,(aw k i).length=32
 |0=>h
 |i+1=>by
  rw[aw,DJ];exact pH _ _ _
theorem CC(k:LBy)(n:jb):gH k (n+1)=gH k n++[aw k n]:=by unfold gH;rw[List.range_succ,qc];rfl
theorem Ga(k:LBy)(n:jb):(gH k n).length=n:=by unfold gH;simp
def kH(k:LBy):jj:=jn (k.map v8).toArray
theorem bP.setRow{B0:jb}{Ψ:jb->Prop}(a:jh)(g:jb)(b:jD jj)(c:Ψ g):bP B0 Ψ a (a.setRow g b):=
 ⟨rfl,rfl,rfl,by simp[qU],λk _ d=>.inl (jY _ _ _ _ (λe=>d (e▸c)))⟩
theorem bP.setCell{B0:jb}{Ψ:jb->Prop}(a:jh)(p:j7)(v:jj)(b:Ψ p.block):bP B0 Ψ a (a.setCell p v):=
 ⟨rfl,rfl,rfl,by simp[World.setCell],λk _ c=>.inl (xP _ _ _ _ (λe=>c (e▸b)))⟩
theorem L2(c:LBy)(h:c.length=32)(w0:jh)(i:bQ w0)(b a:jb)(j:w0.heap.size<=b)(m:w0.heap.size<=a)(p:b≠a)(w:jh)(e:jk w0 w0 w)
 (f:jA w b 3 (T A (0:jb))) (g:w.heap[a]?=ja (je (c.map v8).toArray 63 (0,0))):
 eR jl 206 #[jz (ja ⟨b,0,jc⟩),jz (ja ⟨a,0,jc⟩)] (λx:LBy=>#[kH x]) (λk=>k=b\/k=a) w0.heap.size (λxs=>xs=gH c 10) (λ_=>True) (λys=>ys.length<=10/\∀x∈ys,x.length=32) w:=by
 intro l Q Jx W d q r s t;have u:jA W b 3 (T A (0:jb)):=(d.block b f.lt).trans f;have v:=(d.block a (jG.1 g).1).trans g;have UB:=O (e.trans (d.mono e.size));have HT:=O i;have o:=O h;have R:=O p;have au:=O j;have ax:=O m;have ay:=O u;have a1:=O v;clear f g e i h p j m u v d;have B:=O q;have a2:=O r;have S:=O s;have U:=O t;clear q r s t;refine(vi (n:=0)).1 ?_;refine callsIn_of_wp func206 I trivial ?_ I;simp only[ntmps206,jJ,j5,qH,qV,qW,qX,qY,qZ,q7,qo,qs]
 gi_wp2_with fail
 gi_loopw [4] (λs wr=>W.heap.size<=wr.heap.size/\∃i:jb,i<=10/\jf (jA wr b 3 (T A (i:jb)))/\jf (wr.heap[a]?=ja (je ((aw c i).map v8).toArray 63 (0,0)))/\jf (jk w0 w0 wr)/\jf (Q (gH c i) (λk=>k=b\/k=a) wr))
  (λs wr=>(10-jv ((wr.cell? ⟨b,0,jc⟩).getD jN)).toNat)
 case atStart=>
  exact⟨ju _,0,by omega,ay,a1,UB,U⟩
 obtain⟨a4,i,hi,f,p,C,q⟩:=hrel;have D:=f.cell;have E:=O D
 by_cases h1:i<10
 ·have hd:=aA ((i:N)<=9)
  obtain⟨r,d,e⟩:=Arr.mk' (fM c o i);obtain⟨s,m,h⟩:=Arr.mk' (fM c o (i+1));have t:=S (gH c i) (aw c i) (λk=>k=b\/k=a) wr q (by
   rintro k (rfl|rfl)
   ·exact f.lt
   exact(jG.1 p).1) (by
   rw[<-CC];refine⟨by rw[Ga];omega,λx g=>?_⟩;unfold gH at g;obtain⟨j,-,rfl⟩:=jO.1 g;exact fM c o j)
  rw[<-CC]at t;unfold kH at t;rw[<-d]at t;obtain⟨fn,tmps,assign,body,V,j⟩:=t;have u:jf (wr.heap[a]?=ja (je r 63 (0,0))):=O (by rw[d];exact p);have F:=O e;have YH:=O d;have g:=O h;have H:=O j;clear d e m h j
  gi_wp2_with (refine oJ I 63 _ I a I 63 r (0,0) _ u.out qC I (by rw[F.sz];rfl) ?_)
  refine⟨I,H.mono ?_⟩;rintro e v (⟨rfl,X,h,j⟩|⟨rfl,ZV,h,j⟩)
  ·have m:jf (jA v b 3 (T A (i:jb))):=O ((j b (.inl I)).trans f)
   have K:=O ((j a (.inr I)).trans u);have M:=O (C.trans h);have y:=O X;have WH:wr.heap.size<=v.heap.size:=h.size;clear D f p C q u H X h j V
   gi_wp2_with (refine oJ I 63 _ I a I 63 r (0,0) _ K.out qC I (by rw[F.sz];rfl) ?_)
   have d:=sK (aw c i) (fM c o i) ⟨#[112,97,116,104]⟩ [] _ v (zW _) (AN _ G) (HT.below M);rw[<-YH]at d;have z:((dZ (aw c i) ⟨#[112,97,116,104]⟩ []).map v8).toArray=s:=g.eq.symm;rw[z]at d;refine⟨trivial,I,(callsIn_wide.2 d).mono ?_⟩;clear d z;rintro e z ⟨rfl,d⟩;have aa:jf (jA z b 3 (T A (i:jb))):=O ((d.block _ m.lt).trans m);have P:=ae K d;have UK:=ah M d;have ad:=O (B.keep y (bP.ofBelow d (λk hk _=>hk)));have a5:v.heap.size<=z.heap.size:=d.size;clear m K M y d
   gi_wp2_with (refine As I 63 _ _ I a s I I 63 r P.out (by rw[g.sz];rfl) (by rw[F.sz,g.sz]) g.one ?_;obtain⟨m,d⟩:∃x,x=z.setRow a s:=⟨_,I⟩;have a6:=O d;rw[<-d];have M:jf (m.heap[a]?=ja (je s 63 (0,0))):=O (by rw[d];exact jR _ _ _ _ _ _ P.out);have K:jf (jA m b 3 (T A (i:jb))):=O (by rw[d];exact(jY _ _ _ _ R.out).trans aa);have a3:jf (Q (gH c (i+1)) (λk=>k=b\/k=a) m):=O (by rw[d];exact B.keep ad (bP.setRow _ _ _ (.inr I)));have UR:jf (jk w0 w0 m):=O (by rw[d];exact jZ UK ax _);have k:z.heap.size<=m.heap.size:=(by rw[d];simp[qU]);have ba:=K.cell;have bb:=K.frozen;clear d P aa ad UK)
   have k:=K.set (T A ((i:N)+1));have x:=k.cell;refine⟨⟨by rw[World.size_setCell];omega,i+1,by omega,O k,O ?_,O ?_,O ?_⟩,?_⟩
   ·rw[<-g.eq];exact(xP _ _ _ _ (Ne.symm R.out)).trans M
   ·exact UR.setCell au.out _
   ·exact B.keep a3 (bP.setCell _ _ _ (.inl I))
   rw[x,E];simp only[wx,jv];omega
  have y:=O ZV;clear D f p C q u H ZV h j V E
  gi_wp2
  refine qh (wi I _ _ _) I ?_;exact⟨⟨_,I⟩,.inr ⟨_,_,trivial,y⟩⟩
 have hd:=az ((i:N)<=9);obtain rfl:i=10:=Y;clear S U a2 E
 gi_wp2
 refine bodyPost_end (wi I _ _ _) I ?_;exact⟨⟨_,I⟩,.inl ⟨_,_,I,q⟩⟩
end
section
variable {P:jX}
theorem K8{α:Type}{g:qQ}{q:jD Tmp}{assign body:Code}{u:Exit->Act->jh->Prop}{a:Act}{w:jh}{n:jb}
 {gf:jb} {lb:jD jj} (E:a.eval g=.func (.func gf) #[] lb) (F:∀args w,(o8 gf args).run P w=.ok (.enter gf args) w)
 {encs:α->jD jj} {y:jb->Prop} {z:jb} {S C V:jd α->Prop} (H:eR P gf lb encs y z S C V w)
 (M:z<=w.heap.size) (Q:∀x,(encs x).size=q.size) (R:∀k,y k->k<w.heap.size)
 (f:jd α->(jb->Prop)->jh->Prop) (m:Code->jd α->(jb->Prop)->jh->Prop) (U:bZ w.heap.size f) (X:∀c,bZ w.heap.size (m c)) (h0:f [] y w)
 (o:α->Act->(jb->Prop)->jh->Prop) (aa:bZ w.heap.size (fun(s:α×Act) Ψ W=>o s.1 s.2 Ψ W))
 (ad:∀(l:jb) (d:jd α) (x:α) (Ψ:jb->Prop) (b:jh) (K:Act->jh->Prop),f d Ψ b->V (d++[x])->(∀k,Ψ k->k<b.heap.size)->
  (∀i e,jk b b e->f d Ψ e->o x i Ψ e->K i e)->
  assign.wpIn (Fence.wide.inRound l) 0 P (Exit.then K (λ_ _ _=>False)) {tmps:=(q.zip (encs x)).foldl (λt (p,v)=>t.setIfInBounds p v) a.tmps,defers:=[]} b)
 (t:∀(l:jb) (d:jd α) (x:α) (Ψ:jb->Prop) (i:Act) (b:jh),f d Ψ b->o x i Ψ b->V (d++[x])->(∀k,Ψ k->k<b.heap.size)->w.heap.size<=b.heap.size->(∃r,b.heap[l]?=ja (.loop r))->
  body.wpIn (Fence.wide.inRound l) 0 P (rj w.heap.size z f m (d++[x]) Ψ b) i b)
 (v:∀(D:jb) (xs:jd α) (Ψ:jb->Prop) (W:jh),w.heap.size<=D->S xs->f xs Ψ W->W.heap[D]?=ja (.deferred (ja []))->u .normal {a with defers:={target:=.collected D,args:=#[]}::a.defers} W)
 (au:∀(D:jb) (c:Code) (d:jd α) (Ψ:jb->Prop) (W:jh),w.heap.size<=D->C d->m c d Ψ W->W.heap[D]?=ja (.deferred (ja []))->c.wpIn Fence.wide n P u {a with defers:={target:=.collected D,args:=#[]}::a.defers} W):
 (Code.rangeFunc g q assign body).wpIn Fence.wide n P u a w:=by
 refine rL E F H.v M Q R f m U (λ_ _ _ _=>trivial) X h0 o aa (λl d x Ψ b K p _ j s e=>ad l d x Ψ b K p j s e) (λl d x Ψ i b p K j s e h h1 k=>?_) (λD xs Ψ W e=>v D xs Ψ W (Nat.le_of_eq e.symm)) (λD c d Ψ W e=>au D c d Ψ W (Nat.le_of_eq e.symm));obtain⟨-,-,j⟩:=j;obtain⟨r,k⟩:=k;exact wpIn_mono (t l d x Ψ i b p K j s Y ⟨r,by rw[h];exact k⟩) λe a B h=>rj.two h1 k h
end
section
attribute [local go_sem] Oper.semAt_some
def ij(l:jd (LBy)):jd jj:=(l.map λk=>k.map v8).flatten
theorem PI(l:jd (LBy))(k:LBy):ij (l++[k])=ij l++k.map v8:=by unfold ij;simp
theorem Jn:(jl.info? 63).map (λi=>(i.zero,i.size,i.bytes))=ja (ja (jn a8),32,32):=by kernel_rfl
def Cs(f:LBy->jb->Act)(x:LBy)(a:Act)(Ψ:jb->Prop)(W:jh):Prop:=∃g,a=f x g/\W.heap[g]?=ja (je (x.map v8).toArray 63 (0,0))/\¬Ψ g
theorem Tv(B0:jb)(f:LBy->jb->Act):bZ B0 (fun(s:LBy×Act) Ψ W=>Cs f s.1 s.2 Ψ W):=by
 rintro s Ψ c l B ⟨g,e,h,d⟩ i m j;have a:¬c g:=λk=>by
  rcases j _ k with b|b
  ·exact d b
  have:=(jG.1 h).1;omega
 exact⟨g,e,i.cells h a,a⟩
theorem Cy:∀(xs:jd jj) (k:jb) (a:jD jj),k+xs.length<=a.size->((xs.zipIdx k).foldl (λa x=>a.setIfInBounds x.2 x.1) a).toList=a.toList.take k++xs++a.toList.drop (k+xs.length)
 |[],k,a,h=>by simp
 |x::xs,k,a,h=>by
  rw[j5]at h;have b:k<a.toList.length:=by rw[qd];omega
  rw[q8,List.foldl_cons,Cy xs (k+1) _ (by rw[Array.size_setIfInBounds];omega),Array.toList_setIfInBounds,List.take_add_one,xa (ju _),List.getElem?_set_self b,xd Y,j5];simp only[Option.toList_some,n0,List.singleton_append,qs,qo];rw[show k+1+xs.length=k+(xs.length+1) by omega]
theorem Ke(X Z:jD jj)(h:X.size=32)(d:Z.size=32):Array.foldl (λa x=>a.setIfInBounds x.2 x.1) Z X.zipIdx 0 32=X:=by
 have b:X.zipIdx.size=32:=by simp[h]
 have c:Array.foldl (λa (x:jj×jb)=>a.setIfInBounds x.2 x.1) Z X.zipIdx 0 32=X.zipIdx.toList.foldl (λa x=>a.setIfInBounds x.2 x.1) Z:=by
  rw[Array.foldl_toList,b]
 rw[c,Array.toList_zipIdx]
 apply Array.ext'
 rw[Cy _ _ _ (by rw[qd];omega)];rw[qd,xQ,qo,xe (by rw[qd];omega),ob]
theorem QT{gf:jb}{lb:jD jj}(a:∀args w,(o8 gf args).run jl w=.ok (.enter gf args) w){p:jb->Prop}{H:jb}{S Sp V:jd (LBy)->Prop}{w:jh}
 (b:eR jl gf lb (λx:LBy=>#[kH x]) p H S Sp V w) (ZR:H<=w.heap.size) (M:∀k,p k->k<w.heap.size) (c:∀ys,V ys->ys.length<=100000/\∀x∈ys,x.length=32) (f:jb) (s:f<=w.heap.size) (au:∀k,p k->f<=k):
 jq jl 205 #[jg jc 0 0,.func (.func gf) #[] lb] w λe w'=>∃v xs,e=jp v/\S xs/\w'.ownsRow w 63 32 v xs.length (ij xs)/\jk f w w':=by
 have ax:=O b;have ay:=O a;have z:=O c;clear b a c;refine(vi (n:=0)).1 ?_;refine H1 func205 I trivial ?_ I;simp only[ntmps205,jJ,j5,qH,qV,qW,qX,qY,qZ,q7,qo,qs]
 gi_wp2_with fail
 obtain⟨d,a⟩:=J (w.alloc (je #[jg jc 0 0] 171));have bN:jA d w.heap.size 171 (jg jc 0 0):=by rw[a];exact Boxed.new w _ _
 have P:jk w w d:=by rw[a];exact(jK _ w).alloc (ju _) _
 have bc:w.heap.size+1<=d.heap.size:=by rw[a];simp
 rw[<-a];clear a;have a1:gP w.heap.size 171 w.heap.size 63 32 ([]:jd (LBy)).length (ij []) (λ_=>True) p d/\(jk f w d/\∀k,p k->f<=k):=by
  refine⟨⟨_,bN,λh=>by have:=M _ h;omega,nn _ _ _ _,by simp[xR],trivial⟩,P.mono s,au⟩
 have Q:bZ d.heap.size (fun(b:jd (LBy)) Ψ W=>gP w.heap.size 171 w.heap.size 63 32 b.length (ij b) (λ_=>True) Ψ W):=ni (β:=jd (LBy)) d.heap.size w.heap.size 171 w.heap.size 63 32 (λb=>b.length) (λb=>ij b) (λ_ _=>True);refine K8 (n:=0) (gf:=gf) (lb:=lb) I ay (ax.later P) Y (λ_=>rfl) (λk o=>by have:=M k o;omega)
  (λb Ψ W=>gP w.heap.size 171 w.heap.size 63 32 b.length (ij b) (λ_=>True) Ψ W/\(jk f w W/\∀k,Ψ k->f<=k))
  (λ_ _ _ _=>False)
  (Q.and (kK _ _ w s Y))
  (λ_=>fq _ _)
  a1
  (Cs (λx g=>{tmps:=#[jg jc 0 0,.func (.func gf) #[] lb,jz (ja ⟨w,0,jc⟩),jN,jg jc 0 0,jz (ja ⟨g,0,jc⟩),.func (.func gf) #[] lb,kH x,jN,jN,jN,jN,jN],defers:=[]})) (Tv _ _)
  ?assign ?body ?done ?stop
 case assign=>
  intro l b x Ψ a K D q E t;have u:=(z _ q).2 x ar;obtain⟨X,c,j⟩:=Arr.mk' u;have i:kH x=jn X:=by unfold kH;rw[c]
  rw[i];have y:=O c;have m:=O j;clear c j i
  gi_wp2_with (refine As I 63 _ _ I a.heap.size X I I 63 _ (jy a _) (by rw[m.sz];rfl) (by rw[m.sz];rfl) m.one ?_)
  obtain⟨B,r⟩:=J ((a.alloc (je a8 63)).setRow a.heap.size X);rw[<-r];have F:B.heap[a.heap.size]?=ja (je X 63 (0,0)):=by rw[r];exact jR _ _ _ _ _ _ (jy a _)
  have C:jk a a B:=by rw[r];exact jZ (ao a _) (ju _) _
  refine t _ _ C ((Q.and (kK _ _ w s Y)).keep D (bP.ofBelow C (λk o _=>o))) ⟨a.heap.size,?_,by rw[<-y];exact F,λh=>jB (E _ h) (Nat.lt_irrefl _)⟩;have i:kH x=jn X:=by unfold kH;rw[y]
  simp only[i]
  rfl
 case body=>
  rintro l b x Ψ bd a ⟨⟨v,k,K,r,R,-⟩,o,U⟩ ⟨g,rfl,B,bf⟩ q YC bg bh;have a2:=(z _ q).1;have u:=(z _ q).2 x ar;rw[jH,xf]at a2;obtain⟨X,c,j⟩:=Arr.mk' u;have i:kH x=jn X:=by unfold kH;rw[c]
  simp only[i];rw[<-c]at B;have y:=O c;have m:=O j;have hc:=k.cell;have C:=O o;have bi:=o.size;obtain⟨i0,hi,UV,a3,a4⟩:=info_parts Jn;have aa:=m.sz;have a5:=Ke X a8 aa I;clear o q c j i
  gi_wp2_with (first|(refine oJ I 63 _ I g I 63 X (0,0) _ B qC I (by rw[m.sz];rfl) ?_)|(gi_at_builtin;refine Hid.out ?_))
  refine O ?_;refine H5 _ I _ _ 171 I w.heap.size 63 i0 (jn a8) 32 32 underlying171 hi UV a3 a4 I G v _ _ I (r.alloc _) ⟨a,0,jc⟩ 1 1 (x.map v8) I (by rw[jC,u]) (IF x a.heap.size (by rw[<-y];exact jy a _)) (im _) (by unfold pz;omega) Y (by simp;omega) ?_;intro v' w1 D E a6 F;obtain⟨g',bk,rfl⟩:=ownsRow_succ D;obtain⟨c,ad⟩:=sB (B0:=d.heap.size) k G r Y (ju _) K R YC D E (by intro j hj;rw[hj]at F;rcases F with h|h;exact .inl h.symm;exact .inr (ak h));have j:jA w1 w.heap.size 171 v:=(k.alloc _).kept E (by have:=k.not_row (e:=63) G r;exact this);have bl:=j.cell;have bm:=j.frozen;have ba:=O c;have bb:=O ad;clear c ad D E a6 F hc a5 aa B
  gi_wp2_with fail
  obtain⟨v',B,D,E,F,b5⟩:=bb.out;have c:=ba.out;refine⟨⟨c.1,c.2.1.mono ZR,c.2.2⟩,⟨v',B,D,?_,F,trivial⟩,C.trans (c.2.1.mono s),U⟩;rw[PI,jH,xf];exact E
 case done=>
  rintro D xs Ψ W c a ⟨⟨v,k,K,r,R,-⟩,o,U⟩ t;have hc:=k.cell;have C:=O o;clear o
  gi_wp2
  refine⟨by simp,.inl ⟨_,_,I,run_takeDeferred t,?_⟩⟩;exact⟨_,results_tmp I _ _ _,_,xs,I,a,ownsRow_putObj r _ t I,C.trans (iy Y)⟩
 intro D c b Ψ W _ _ h;exact h.elim
theorem Rj{h:jD jj}(c:∀args w,(o8 b args).run jl w=.ok (.enter b args) w){gf:jb->Prop}{d:jb}{S l V:jd (LBy)->Prop}{w:jh}
 (f:eR jl b h (λx:LBy=>#[kH x]) gf d S l V w) (g:d<=w.heap.size) (lb:∀k,gf k->k<w.heap.size) (i:∀ys,V ys->ys.length<=100000/\∀x∈ys,x.length=32) (a:jb) (m:a<=w.heap.size) (j:∀k,gf k->a<=k):
 jq jl 149 #[.func (.func b) #[] h] w λe w'=>∃v xs,e=jp v/\S xs/\w'.ownsRow w 63 32 v xs.length (ij xs)/\jk a w w':=by
 have k:=O (QT c f g lb i a m j);clear c f g lb i j
 go_enter func149,ntmps149
 go_wp2_with fail
 refine k.mono ?_;rintro e j ⟨v,xs,rfl,g,c,f⟩;have lb:=O c;have i:=O f;clear c f
 go_wp2
 go_ret;exact⟨v,xs,I,g,lb,i⟩
end
theorem Li(a:jD jj)(b:a.size=32)(w:jh):
 jq jl 150 #[jn a,T A 0] w λe w'=>e=jp (.func (.func 206) #[] #[jz (ja ⟨w.heap.size+1,0,jc⟩),jz (ja ⟨w,0,jc⟩)])/\w'=(w.alloc (je a 63)).alloc (je #[T A 0] 3):=by
 go_enter func150,ntmps150
 go_wp2
 go_ret;exact⟨I,I⟩
theorem LD(k:LBy)(d:k.length=32)(w:jh)(j:bQ w):
 jq jl 97 #[jn (k.map v8).toArray] w λe w'=>∃v,e=jp v/\w'.ownsRow w 63 32 v 10 (ij (gH k 10))/\jk w w w':=by
 obtain⟨b,f,l⟩:=Arr.mk' d;rw[<-f];have s:=O d;have t:=O f;have m:=O l;have u:=O j;have c:=jy w (je b 63);have g:=ao w (je b 63);obtain⟨a,h⟩:=J (w.alloc (je b 63));obtain⟨x,i⟩:=J w.heap.size;rw[<-h]at g c;rw[<-i]at c;have y:=O c;have n:=O g;have z:=O h;have B:=O i;clear f l d j c g h i
 go_enter func97,ntmps97
 go_upto_region 1 with fail
 rw[<-z,<-B];refine ow ?_;refine p6 I 63 _ I x I 63 b (0,0) _ y.out qC I (by rw[m.sz];rfl) ?_
 go_wp2_with fail
 refine(Li b m.sz a).mono ?_;rintro e c ⟨rfl,d⟩;have i:c.heap[a.heap.size]?=ja (je (k.map v8).toArray 63 (0,0)):=by
  rw[d,<-t];exact(xS _ _ _ ar).trans (jy a _)
 have l:jA c (a.heap.size+1) 3 (T A (0:jb)):=by
  have h:=Boxed.new (a.alloc (je b 63)) 3 (T A (0:jb));rw[j8]at h;rw[d];exact h
 have o:jk a a c:=by rw[d];exact((jK _ a).alloc (ju _) _).alloc ar _
 have C:a.heap.size+1<c.heap.size:=by rw[d];simp
 have g:=n.size;have f:=n.trans (o.mono g);have p:=L2 k s w u (a.heap.size+1) a.heap.size Y g Y c f l i;have q:=Rj (λ_ _=>rfl) p (cT f.size) (by rintro j (rfl|rfl)<;>omega) (λys h=>⟨by omega,h.2⟩) w.heap.size (cT f.size) (by rintro j (rfl|rfl)<;>omega);have j:=O q;have r:=O f;clear i l o C g f p q d
 go_wp2_with fail
 refine j.mono ?_;rintro e o ⟨v,xs,rfl,d,f,i⟩;have l:o.ownsRow w 63 32 v 10 (ij (gH k 10)):=by
  have h:=f;rw[d,Ga]at h;refine⟨h.1,?_⟩
  rcases h.2 with p|⟨g,q,C,e,D,E⟩
  ·exact .inl p
  exact .inr ⟨g,q,C,e,jL r.size D,E⟩
 have g:=O l;have h:=O (r.trans i);clear f l i j d
 go_wp2_with fail
 go_ret;exact⟨_,I,g,h⟩
def beK(n:jb):jb->LBy
 |0=>[]
 |k+1=>beK n k++[o1 8 (n/2^(56-8*k))]
def be8(n:jb):LBy:=beK n 8
theorem wm(n k:jb):(beK n k).length=k:=by induction k with
 |zero=>rfl
 |succ k a=>simp[beK,a]
def dB(l:jd jb):LBy:=(l.map be8).flatten
theorem tw(l:jd jb):(dB l).length=8*l.length:=by
 unfold dB
 induction l with
 |nil=>rfl
 |cons a l b=>
  have h:(be8 a).length=8:=wm a 8;rw[qI,xT,jH,b,j5,h];omega
theorem vF(l:jd jb)(a:jb):dB (l++[a])=dB l++be8 a:=by unfold dB;simp
def om(a:LBy)(msg:LBy)(nums:jd jb):jb:=o6 a (dB nums++msg)
theorem AM(s:ByteArray)(d:s.size<=1000)(msg:LBy)(vm:jj)(f:msg.length<=100000)(nums:jd jb)(E:jj)(F:nums.length<=1000)(g:∀x∈nums,x<9223372036854775808)(w:jh)(t:bj w vm msg)(hn:c8 w E (nums.map xg))(h:bQ w):
 jq jl 77 #[.string s,vm,E] w λe w'=>e=jp (T A (om (co s) msg nums:jb))/\jk w w w':=by
 obtain⟨p,c,rfl,H,a⟩:=hn;rw[jC]at H a⊢;obtain⟨n,l⟩:=J nums.length;rw[<-l]at H F a⊢;have q:=O l;have K:=O a;have aa:=O g;have M:=O t;have Zb:=O f;obtain⟨P,Q,rfl,Yi,-,-⟩:=t;have ad:=O d;have R:=O h;obtain⟨S,b⟩:=J msg.length;rw[<-b]at M Yi⊢;have ay:=O b;clear l a g f d h b
 go_enter func77,ntmps77
 go_wp2_with fail
 go_loopw [7,10,13] (λj b a wr=>∃(i:jb) (u:jj),j=u/\a=T A i/\i<=n/\jf (wr.ownsRow w 5 1 u (8*i) ((dB (nums.take i)).map v8))/\jf (jk w w wr)) (λ_ _ a _=>n-(jv a).toNat)
 case atStart=>exact⟨0,_,I,I,j6 _,O (nn _ _ _ _),O (jK _ _)⟩
 obtain⟨i,u,rfl,rfl,hi,U,f⟩:=hrel
 by_cases V:i<n
 ·have hd:=aA ((i:N)<(n:N))
  have UY:=aA (i<n);obtain⟨g,o,rfl,k⟩:=K Y;have a:i<nums.length:=by rw[<-q];exact V
  have m:(nums.map xg).getD i 0=((nums[i]:jb):N):=by simp[jQ,a]
  obtain⟨y,d⟩:=J (nums[i]);have a1:y<9223372036854775808:=by rw[d];exact aa _ (qJ a)
  have h:=k i V;rw[m,<-d]at h;have c1:wr.cell? ⟨g,o+i,jc⟩=ja (T A (y:jb)):=(dY (f.block g (gg h))).trans h;have Za:jf (dB (nums.take (i+1))=dB (nums.take i)++be8 y):=O (by
   rw[qt a,vF,d])
  have v:=f.size;have a2:(0:N)<=(y:N):=Y;have a3:q9.wrap (y:N)=(y:N):=by rw[rk];omega
  clear m d h k a K
  go_wp2_with fail
  go_loopw [7,10] (λj b wr2=>∃(k:jb) (x:jj) (a:N),j=x/\b=T A a/\ -8<=a/\a<=56/\jf (a=56-8*(k:N))/\jf (wr2.ownsRow w 5 1 x (8*i+k) ((dB (nums.take i)++beK y k).map v8))/\jf (jk w w wr2)) (λ_ b _=>(jv b+8).toNat)
  case atStart=>exact⟨0,_,_,I,I,by omega,by omega,O rfl,O (by rw[beK,ob];exact U),f⟩
  obtain⟨k,x,a,rfl,rfl,a4,a5,r,z,B⟩:=hrel
  by_cases W:0<=a
  ·obtain⟨m,rfl⟩:=qe W
   have hd2:decide ((0:N)<=(m:N))=jm:=by simp
   have t:m<=56:=Y;have C:k<8:=aI r;have d:beK y (k+1)=beK y k++[o1 8 (y/2^m)]:=by rw[beK,show 56-8*k=m by have:=r.out;omega]
   obtain⟨b,h⟩:=J (o1 8 (y/2^m));rw[<-h]at d;have a6:jr.wrap ((y:N)/2^m)=(b.toNat:N):=by
    rw[h,rn,rv];have e:(y:N)/2^m=((y/2^m:jb):N):=by simp
    rw[e];omega
   have au:=O d;have D:=B.size;have hd3:decide ((m:N)<0)=ji:=by simp
   clear h d W
   go_wp2_with (at_builtin;refine Hid.out ?_)
   refine O ?_;refine j3 I λ_ h=>oS _ _ I w.heap.size _ _ _ I (cK z (ao wr _)) _ 1 [T .u8 b.toNat] I (rW wr (T .u8 b.toNat)) (by simp[oj]) Y (jL D (ao wr _).size) λX w5 d=>h _ _ ?_
   have j:=O (B.trans (((ao wr _).mono D).trans (d.below (cK z (ao wr _)) (jL D (ao wr _).size))));have ax:=O d.own;clear h d
   go_wp2_with fail
   refine⟨⟨k+1,_,_,I,I,by omega,by omega,O (aI r),?_,j⟩,?_⟩
   ·exact O (by rw[au,<-n0,qc];exact ax)
   simp only[jv];omega
  have hd2:=az ((0:N)<=a);have C:k=8:=aI r;have b:=z.out;rw[C]at b;have m:=O b;clear b C
  go_wp2_with fail
  refine⟨⟨i+1,_,I,by go_num,by omega,O ?_,B⟩,?_⟩
  ·rw[Za];exact m
  simp only[jv];omega
 have hd:=az ((i:N)<(n:N));have UY:=az (i<n);have a:i=n:=Y;have b:=U.out;rw[a,jU (by rw[<-q];exact ju _)]at b;have m:=O b;have v:=f.size;have g:bj wr (jg P S Q) msg:=M.below f;have r:=O g.row;clear b a g
 go_wp2_with (at_builtin;refine Hid.out ?_)
 refine O ?_;have x:=tw nums;have l:nums.length<=1000:=by rw[<-q];exact F
 have y:=Zb.out;refine j3 I λ_ h=>oS _ _ I w.heap.size _ _ _ I m (jg P S Q) msg.length (msg.map v8) I r (im _) Y v λX w5 d=>h _ _ ?_
 have j:=O (f.trans ((d.below m v)));have a:=d.own;rw[<-qc]at a;have b:8*n+msg.length=(dB nums++msg).length:=by rw[jH,x,<-q]
 rw[b]at a;have g:=bj.of_own a;have k:=Ip s (aI ad) X _ (by rw[jH];omega) w5 g (R.below j).num (R.below j).start;have o:=O k;clear h d a b g k
 go_wp2_with fail
 refine o.mono ?_;rintro e d ⟨rfl,a⟩;have b:=ah j a;clear a o
 go_wp2_with fail
 go_ret;exact⟨I,b⟩
theorem fQ{P:jX}{fn:Func}{p u:Tmp}{a:jI}(h:fn.results= #[.cell p a,.tmp u])(tmps:jD jj)(w:jh)(g:jb)(t:jI)(b:jD jj)(c:jb×jb)(d:TypeDesc)
 (e:tmps.getD p jN=jz (ja ⟨g,0,jc⟩)) (f:w.heap[g]?=ja (je b t c))
 (i:P.underlying a=ja d) (j:(match d with| .struct _ | .array _ _=>jm|_=>ji)=jm) (k:(P.info? a).map (·.size)=ja b.size):
 (results fn tmps).run P w=.ok (jE #[jn b,tmps.getD u jN]) w:=by
 rw[results_cell_tmp h,e];simp[asAddr,run_loadVar_row w g t a b c d f i j k]
def k8(x:N):Prop:=1<=x/\x<2305843009213688669
instance(x:N):Decidable (k8 x):=by unfold k8;infer_instance
theorem wg(a k:jb):aY a k<4611686018427377339:=by
 have h:aY a k<PN:=qK _ (by rw[fs];decide)
 rwa [fs]at h
theorem Av(x:N)(w:jh):
 jq jl 106 #[T A x] w λe w'=>e=jp (.bool (decide (k8 x)))/\w=w':=by
 obtain⟨r,a⟩:=J (decide (k8 x));rw[<-a]
 by_cases b:1<=x
 ·have c:=aA (1<=x)
  obtain rfl:r=decide (x<2305843009213688669):=by rw[a];simp[k8,b]
  clear a
  go_enter func106,ntmps106
  go_wp2
  go_ret;exact⟨I,I⟩
 have c:=az (1<=x);obtain rfl:r=ji:=by rw[a];simp[k8,b]
 clear a
 go_enter func106,ntmps106
 go_wp2
 go_ret;exact⟨I,I⟩
theorem G7(x:jb)(f:1<=x)(b:x<2305843009213688669)(w:jh):
 jq jl 107 #[T A x] w λe w'=>e=jp (T A (aY 4 x:jb))/\jk w w w':=by
 have c:=O (wC x b)
 go_enter func107,ntmps107
 go_wp2_with fail
 refine(c _).mono ?_;rintro e g ⟨rfl,a⟩;have d:=O a;clear a
 go_wp2_with fail
 go_ret;exact⟨I,d⟩
theorem Ae(x:jb)(c:1<=x)(d:x<2305843009213688669)(w:jh):
 jq jl 47 #[T A x] w λe w'=>e=jp (jE #[T A (aY 4 x:jb),T A 0])/\jk w w w':=by
 have a:=O (Av (x:N));have b:k8 (x:N):=⟨by omega,by omega⟩;rw[jS b]at a;have f:=O (G7 x c d);clear b
 go_enter func47,ntmps47
 go_wp2_with fail
 refine(a _).mono ?_;rintro e h ⟨rfl,rfl⟩
 go_wp2_with fail
 refine(f _).mono ?_;rintro e i ⟨rfl,b⟩;have g:=O b;clear b
 go_wp2_with fail
 go_ret2;exact⟨I,g⟩
theorem Ji(x:N)(h:¬k8 x)(w:jh):
 jq jl 47 #[T A x] w λe w'=>e=jp (jE #[T A 0,T A 50])/\w=w':=by
 have a:=O (Av x);rw[decide_eq_false h]at a;clear h
 go_enter func47,ntmps47
 go_wp2_with fail
 refine(a _).mono ?_;rintro e b ⟨rfl,rfl⟩
 go_wp2_with fail
 go_ret2;exact⟨I,I⟩
def iS(x:jb)(msg:LBy):jb:=om (co ⟨#[110,111,110,99,101]⟩) msg [x]
def kq(x:jb)(msg:LBy):jb:=aY 4 (iS x msg)
def rN(r p:jb)(msg:LBy):jb:=om (co ⟨#[115,105,103,110]⟩) msg [r,p]
def kG(x:jb)(msg:LBy):jb:=(iS x msg+rN (kq x msg) (aY 4 x) msg*x%QN)%QN
theorem ya(t m l):om t m l<2305843009213688669:=(zL _ _).2
theorem Sb(x:jb)(P:1<=x)(Q:x<2305843009213688669)(msg:LBy)(vm:jj)(u:msg.length<=100000)(w:jh)(R:bj w vm msg)(y:bQ w):
 jq jl 105 #[T A x,vm] w λe w'=>e=jp (jE #[jn #[T A (kq x msg:jb),T A (kG x msg:jb)],T A 0])/\jk w w w':=by
 obtain⟨b,a⟩:=J (kq x msg);obtain⟨g,c⟩:=J (iS x msg);obtain⟨r,h⟩:=J (rN b (aY 4 x) msg);obtain⟨k,j⟩:=J (r*x%QN);have o:kG x msg=(g+k)%QN:=by rw[j,h,a,c];rfl
 have S:jf (g<2305843009213688669):=O (by rw[c];exact ya _ _ _);have ax:jf (r<2305843009213688669):=O (by rw[h];exact ya _ _ _);have ay:jf (k<2305843009213688669):=O (by rw[j];exact qK _ G);have a1:jf (b<4611686018427377339):=O (by rw[a];exact wg _ _);have a2:jf (om (co ⟨#[115,105,103,110]⟩) msg [b,aY 4 x]=r):=O h.symm;have a3:jf (om (co ⟨#[110,111,110,99,101]⟩) msg [x]=g):=O c.symm;have a4:jf (r*x%QN=k):=O j.symm;have a5:jf (aY 4 g=b):=O (by rw[c,a];rfl);rw[o,<-a];have a6:=O Q;have Vf:=O P;have D:=O R;have U:=O u;have V:=O y;obtain⟨W,X,rfl,Yi,-,-⟩:=R;obtain⟨ml,m⟩:=J msg.length;rw[<-m]at D Yi⊢;have bb:=O m;have n:=Av (x:N);have z:k8 (x:N):=⟨by omega,by omega⟩;rw[jS z]at n;have HV:=O n;have EG:∀args w,(o8 106 args).run jl w=.ok (.enter 106 args) w:=λ_ _=>rfl
 have bc:∀args w,(o8 107 args).run jl w=.ok (.enter 107 args) w:=λ_ _=>rfl
 have l:=jy w (je #[T A 0,T A 0] 32);have q:=ao w (je #[T A 0,T A 0] 32);obtain⟨p,s⟩:=J (w.alloc (je #[T A 0,T A 0] 32));obtain⟨d,t⟩:=J w.heap.size;rw[<-s]at l q;rw[<-t]at l;have C:=O l;have f:=O q;have VV:=O s;have B:=O t;clear a c h j o u y m n z l q s t
 go_enter func105,ntmps105
 go_wp2_with fail
 rw[<-VV,<-B];refine(HV _).mono ?_;rintro e w1 ⟨rfl,rfl⟩
 go_wp2_with fail
 have l:=AM ⟨#[110,111,110,99,101]⟩ G msg (jg W ml X) U [x] _ ar (by
  intro z s;simp only[jT,qL,or_false]at s;rw[s];omega) (p.alloc (je #[T A (x:jb)] 3)) ((D.below f).below (ao p _)) (ox p (x:jb)) ((V.below f).below (ao p _))
 rw[a3]at l;refine l.mono ?_;clear l;rintro e w2 ⟨rfl,a⟩;replace a:=(ao p (je #[T A (x:jb)] 3)).trans (a.mono (ao p _).size);have t:=ae C a;have m:=ah f a;clear a C f
 go_wp2_with fail
 refine(wC g S w2).mono ?_;rintro e w3 ⟨rfl,a⟩;rw[a5];have u:=ae t a;have C:=ah m a;clear a t m;obtain⟨⟨u3,E⟩,F,n,j⟩:=kr (i:=0) (T A (b:jb)) u G;obtain⟨H,c⟩:=J (w3.setCell ⟨d,0,jc⟩ (T A (b:jb)));have ba:=O c;rw[<-c]at n j;have q:jf (H.heap[d]?=ja (je #[T A (b:jb),T A 0] 32 (0,0))):=O n;have y:=O (C.trans (j.below (by rw[B];exact ju _)));have bd:=O j;have K:=ai (i:=0) q I;clear n c j u
 go_upto_region 7 with fail
 rw[<-ba];clear E F;refine qa ?_;refine di (λc=>c.cell? ⟨d,0,jc⟩=ja (T A (b:jb))) (.t 0 (.t 1 (.t 2 (.t 3 (.t 7 (.o 4 (.o 5 (.o 6 (.o 8 (.t 9 (.t 10 (.t 11 (.t 12 (.t 13 .done)))))))))))))) af af af G (λ_ _ _ _ h=>h) K ?_;obtain⟨y0,h⟩:=J H.drew;have a:=bV H;rw[<-h]at a⊢;have M:=O (aB K a);have Va:=ae q a;have f:=ah y a;clear a h K q y;iterate 2 refine aQ ?_
 (refine aW (v:=?_) I aj (λc h=>?_) ?_;rotate_left;(have h:=h;go_simp;with_reducible rfl);refine L ?_)
 iterate 2 refine aQ ?_
 refine aE I (λh c=>?_);go_simp;refine(G7 x P Q y0).mono ?_;rintro e y1 ⟨rfl,a⟩;have K:=O (aB M a);have U1:=ae Va a;have UA:=ah f a;clear a M Va f;refine c _ _ K.out λ_=>?_
 clear c;refine L ?_;refine aE I (λh c=>?_);go_simp;have a:=ao y1 (je #[T A (b:jb),T A (aY 4 x:jb)] 3);have f:=mE y1 (b:jb) (aY 4 x:jb);obtain⟨y2,aa⟩:=J (y1.alloc (je #[T A (b:jb),T A (aY 4 x:jb)] 3));obtain⟨gi,ad⟩:=J y1.heap.size;rw[<-aa]at a f⊢;rw[<-ad]at f⊢;have M:=O (aB K a);have t:=ae U1 a;have m:=ah UA a;have au:=O f;clear a K U1 UA aa ad f;refine c _ _ M.out λ_=>?_
 clear c;refine L ?_;refine aE I (λh c=>?_);go_simp;have l:=AM ⟨#[115,105,103,110]⟩ G msg (jg W ml X) U [b,aY 4 x] _ ar (by
  intro z s;simp only[jT,qL,or_false]at s
  rcases s with rfl|rfl
  ·have:=a1.out;omega
  have:=wg 4 x;omega) y2 (D.below m) au (V.below m)
 rw[a2]at l;refine l.mono ?_;clear l;rintro e s ⟨rfl,a⟩;have f:=O (aB M a);have u:=ae t a;have C:=ah m a;clear a M t m au;refine c _ _ f.out λ_=>?_
 clear c;refine L ?_;refine aE I (λh c=>?_);go_simp;have h:=Jh r x s ax a6;rw[a4]at h;refine h.mono ?_;clear h;rintro e t ⟨rfl,a⟩;have l:=O (aB f a);have q:=ae u a;have y:=ah C a;clear a f u C;refine c _ _ l.out λ_=>?_
 clear c;refine L ?_;iterate 5 refine aQ ?_
 refine jV ?_
 go_wp2_with fail
 have h:=KZ (g:jb) (k:jb) t ⟨by omega,by have:=S.out;omega⟩ ⟨by omega,by have:=ay.out;omega⟩;rw[show((g:N)+(k:N))%2305843009213688669=(((g+k)%QN:jb):N)from by unfold QN;omega]at h;obtain⟨f,o⟩:=J ((g+k)%QN);rw[<-o]at h;refine h.mono ?_;clear h;rintro e u ⟨rfl,a⟩;have m:=ae q a;have K:=ah y a;have M:=O o;clear a q y l o;obtain⟨⟨u3,E⟩,F,n,j⟩:=kr (i:=1) (T A (f:jb)) m ar;obtain⟨a,h⟩:=J (u.setCell ⟨d,1,jc⟩ (T A (f:jb)));have o:=O h;rw[<-h]at n j;have l:jf (a.heap[d]?=ja (je #[T A (b:jb),T A (f:jb)] 32 (0,0))):=O n;have q:=O (K.trans (j.below (by rw[B];exact ju _)));clear n h j m
 go_upto_region 9 with fail
 rw[<-o];clear E F;refine ow ?_;refine p6 I 32 _ I d I 32 #[T A (b:jb),T A (f:jb)] (0,0) _ l.out underlying32 I I ?_;refine j3 I λ_ h=>?_
 go_simp;refine h _ _ ?_;clear h;refine j3 I λ_ c=>j4 32 _ _ I d #[T A (b:jb),T A (f:jb)] I I 32 _ l.out I I (by simp[oj]) (c _ _ ?_)
 have h:(a.setRow d #[T A (b:jb),T A (f:jb)]).heap[d]?=ja (je #[T A (b:jb),T A (f:jb)] 32 (0,0)):=jR _ _ _ _ _ _ l.out;have j:jk w w (a.setRow d #[T A (b:jb),T A (f:jb)]):=jZ q.out (by rw[B];exact ju _) _;generalize a.setRow d #[T A (b:jb),T A (f:jb)]=z at h j⊢;have m:=O h;have n:=O j;clear h j c
 go_wp2_with fail
 refine bodyPost_ret_by (fQ I _ _ d 32 #[T A (b:jb),T A (f:jb)] (0,0) _ I m underlying32 I I) I ⟨by rw[M];rfl,n⟩
section
open Go Go.RowKit
theorem Ba{α β:Type}{f:α->jP β}{g:α->β}:∀(l:jd α),(∀i∈l,f i=ja (g i))->l.mapM f=ja (l.map g)
 |[],_=>by simp
 |a::l,h=>by
  rw[List.mapM_cons,h a ar,Ba l (λi b=>h i (by simp[b]))]
  rfl
theorem I4{p F:jI}{k:IntKind}(f:P.underlying p=ja (.array b F))(he:P.underlying F=ja (.int k))(h:P.cellsOf p=b)(j:P.cellsOf F=1)(n:jd N)(d:n.length=b)(m:∀c∈n,(Lit.int k c).wf=jm):
 P.keyLits 2 p (n.map (jo k))=ja (n.map (Lit.int k)):=by
 have o:∀i∈qG b,P.keyLits 1 F (((n.map (jo k)).drop (i*1)).take 1)=ja [Lit.int k (n.getD i 0)]:=λi c=>by
  have a:i<n.length:=by rw[d];exact r4.1 c
  have l:((n.map (jo k)).drop (i*1)).take 1=[jo k n[i]]:=by
   rw[Nat.mul_one,<-List.map_drop,<-List.map_take,xU a,List.take_succ_cons,xQ,qI,List.map_nil]
  have t:n.getD i 0=n[i]:=by simp[jQ,a]
  rw[l,t];unfold Program.keyLits;rw[he];simp[m _ (qJ a)]
 unfold Program.keyLits;rw[f];simp only[jC,d,h,j,if_true];rw[Ba (g:=λi=>[Lit.int k (n.getD i 0)]) _ o];simp only[xh,Option.some.injEq];have t:∀(l:jd jb),(l.map λi=>[Lit.int k (n.getD i 0)]).flatten=l.map λi=>Lit.int k (n.getD i 0):=λl=>by
  induction l with
  |nil=>rfl
  |cons a l q=>rw[qI,xT,q];rfl
 rw[t]
 apply List.ext_getElem?
 intro i;rw[j9,j9]
 by_cases c:i<b
 ·rw[List.getElem?_range c,ms Y]
  have:i<n.length:=Y;simp[jQ,this]
 rw[xV (by simp;omega),xV Y]
 rfl
theorem Hg{t e:jI}{n:jb}{k:IntKind}(d:P.underlying t=ja (.array n e))(he:P.underlying e=ja (.int k))(f:P.cellsOf t=n)(g:P.cellsOf e=1)(o:P.keyTypeAt 2 t=jm)(xs ys:jd N)(i:xs.length=n)(j:ys.length=n)
 (p:∀c∈xs,(Lit.int k c).wf=jm) (q:∀c∈ys,(Lit.int k c).wf=jm) (w:jh):
 (Op.equalIn 10000 t (.agg (xs.map (jo k)).toArray) (.agg (ys.map (jo k)).toArray)).run P w=.ok (decide (xs=ys)) w:=by
 have m:∀l:jd N,l.length=n->(xi (l.map (jo k)).toArray).formed P t=jm:=λl s=>by
  unfold Value.formed;rw[d];simp[f,s]
 obtain⟨r,u,c⟩:=run_equalIn_deep 9998 2 t o w 2 2 (.agg (xs.map (jo k)).toArray) (.agg (ys.map (jo k)).toArray) _ _ (m xs i) (m ys j) (by show P.keyLits 2 t (xs.map (jo k)).toArray.toList=_;rw[xW];exact I4 d he f g xs i p) (by show P.keyLits 2 t (ys.map (jo k)).toArray.toList=_;rw[xW];exact I4 d he f g ys j q);rw[u]
 congr 1
 have v:xs.map (Lit.int k)=ys.map (Lit.int k)↔xs=ys:=by
  constructor
  ·intro h
   exact(xX (λa b h=>by injection h)).1 h
  intro h;rw[h]
 rw[v]at c
 by_cases h:xs=ys
 ·rw[c.2 h];simp[h]
 have:r=ji:=by cases r with
  |false=>rfl
  |true=>exact jB (c.1 I) h
 rw[this];simp[h]
end
def mI(p r s:N)(msg:LBy):Prop:=bL p/\bL r/\InQ s/\aY 4 s.toNat=r.toNat*aY p.toNat (rN r.toNat p.toNat msg)%PN
theorem R8(a b:jb):(((a:N)==(b:N))=jm↔a=b):=by rw[beq_iff_eq];omega
theorem Gq(n:N):cW n=0\/cW n=40:=by
 by_cases h:bL n
 ·exact .inl (gE h)
 exact .inr (lf h)
theorem N9(n:N):lS n=0\/lS n=1:=by unfold lS;split<;>simp
theorem eq3(a b c:N)(f:a=0\/a=40)(g:b=0\/b=40)(i:c=0\/c=1)(z:jh):
 (Op.equalIn 10000 145 (jn #[T A a,T A b,T A c]) (jn #[T A 0,T A 0,T A 0])).run jl z=.ok (decide (a=0/\b=0/\c=0)) z:=by
 have h:=Hg (P:=jl) (t:=145) (e:=46) (n:=3) (k:=.i64) xA underlying46 af af af [a,b,c] [0,0,0] I I (by
  intro x d;simp only[jT,qL,or_false]at d;exact WalkArith.wf_i64 Y) G z
 simpa using h
theorem Ie{p r s:N}{msg:LBy}{a kb b:N}(c:a=cW p)(d:kb=cW r)(f:b=lS s):(a=0/\kb=0/\b=0)↔(bL p/\bL r/\InQ s):=by
 have e:∀n,cW n=0↔bL n:=λn=>⟨λh=>by
  by_cases g:bL n
  ·exact g
  rw[lf g]at h;exact jB h G,gE⟩
 have q:lS s=0↔InQ s:=by unfold lS;split<;>simp_all
 rw[c,d,f,e,e,q]
theorem Rm{b:jD j0}{c:Exit->Act->jh->Prop}{t:bE}{E:Act}(r:bE){F:jb->Act}{d:jb->jh->Prop}(e:∀x w,d x w->eU P b c S r (F x) w)(h:(∀x w,d x w->eU P b c S r (F x) w)->eU P b c S t E w):eU P b c S t E w:=h e
theorem Oe(p r t:N)(msg:LBy)(vm:jj)(k:msg.length<=100000)(w:jh)(hm:bj w vm msg)(l:bQ w):
 jq jl 30 #[T A p,vm,jn #[T A r,T A t]] w λe w'=>∃b,e=jp (.bool b)/\jf (b=jm↔mI p r t msg)/\jk w w w':=by
 obtain⟨m,a⟩:=J (cW p);obtain⟨kb,c⟩:=J (cW r);obtain⟨n,f⟩:=J (lS t);have KA:=gC p;have X:=gC r;have V:=Ox t;rw[<-a]at KA;rw[<-c]at X;rw[<-f]at V;have aa:=O a;have ad:=O c;have au:=O f;have HM:=O hm;have Zb:=O k;have HT:=O l;obtain⟨pm,cm,rfl,Yi,-,-⟩:=hm;obtain⟨ml,o⟩:=J msg.length;rw[<-o]at HM Yi⊢;have d:=jy w (je #[T A r,T A t] 32);have g:=ao w (je #[T A r,T A t] 32);obtain⟨W1,h⟩:=J (w.alloc (je #[T A r,T A t] 32));obtain⟨E,u⟩:=J w.heap.size;rw[<-h]at d g;rw[<-u]at d;have j:=O d;have W:=O g;have VV:=O h;have HG:=O u;clear a c f k l o d g h u
 go_enter func30,ntmps30
 have ax:=O (eq3 m kb n (by rw[aa];exact Gq p) (by rw[ad];exact Gq r) (by rw[au];exact N9 t))
 go_upto_region 1 with fail
 rw[<-VV,<-HG];refine qa ?_;refine di (λf=>f.heap[E]?=ja (je #[T A r,T A t] 32 (0,0))) (.t 0 (.t 2 (.t 3 (.t 5 (.t 6 (.w 1 9 (.w 4 9 (.w 7 9 (.t 8 (.o 9 (.o 10 .done))) (.o 7 (.t 8 (.o 10 .done)))) (.o 4 (.o 7 (.t 8 (.o 10 .done))))) (.o 1 (.o 4 (.o 7 (.t 8 (.o 10 .done))))))))))) af af af G (λ_ _ _ _ h=>h) j ?_;obtain⟨U,c⟩:=J W1.drew;have a:=bV W1;rw[<-c]at a⊢;have U4:=ae j a;have W:=ah W a;clear a c j;iterate 2 refine aQ ?_
 (refine aW (v:=?_) I aj (λf c=>?_) ?_;rotate_left;(have c0:=ai (i:=0) c I;have c1:=ai (i:=1) c I;go_simp;with_reducible rfl);refine L ?_)
 refine aQ ?_
 (refine aW (v:=?_) I aj (λf c=>?_) ?_;rotate_left;(have c0:=ai (i:=0) c I;have c1:=ai (i:=1) c I;go_simp;with_reducible rfl);refine L ?_)
 apply Rm (.o 10 .done)
 rotate_left
 ·intro Q
  refine iA ?_ ?_
  ·refine aE I (λl c=>?_)
   go_simp;refine(KA U).mono ?_;rintro e x1 ⟨rfl,a⟩;have R:=ah W a;have F:=ae U4 a;clear a;refine c _ _ F.out λ_=>?_
   clear c;refine L ?_;refine iA ?_ ?_
   ·refine aE I (λl c=>?_)
    go_simp;refine(X x1).mono ?_;rintro e x2 ⟨rfl,a⟩;have x:=ah R a;have j:=ae F a;clear R F;clear a;refine c _ _ j.out λ_=>?_
    clear c;refine L ?_;refine iA ?_ ?_
    ·refine aE I (λl c=>?_)
     go_simp;refine(V x2).mono ?_;rintro e o ⟨rfl,a⟩;have q:=ah x a;have f:=ae j a;clear x j;clear a;refine c _ _ f.out λ_=>?_
     clear c;refine L ?_;refine aQ ?_;refine aE I (λl c=>?_);go_simp;have a:=ao o (je #[T A 0,T A 0,T A 0] 145);have d:=jy o (je #[T A 0,T A 0,T A 0] 145);obtain⟨s,y⟩:=J (o.alloc (je #[T A 0,T A 0,T A 0] 145));have z:E<o.heap.size:=(jG.1 f).1;have B:w.heap.size<=o.heap.size:=q.size;rw[<-y]at a d⊢;obtain⟨D,g⟩:=J o.heap.size;rw[<-g]at d⊢;have C:=O g;clear g;have M:=ah q a;have k:=ae f a;clear q f;have H:=O d;have K:jf (E<D):=O (by rw[C];exact z);have P:jf (w.heap.size<=D):=O (by rw[C];exact B);clear z B;clear d y a;refine c _ _ k.out λ_=>?_
     clear c;refine L ?_;have u:=(And.intro M (And.intro k (And.intro H (And.intro K P))));exact Q D s u
    refine aE I (λl c=>?_);go_simp;have a:=ao x2 (je #[T A 0,T A 0,T A 0] 145);have d:=jy x2 (je #[T A 0,T A 0,T A 0] 145);obtain⟨o,y⟩:=J (x2.alloc (je #[T A 0,T A 0,T A 0] 145));have z:E<x2.heap.size:=(jG.1 j).1;have B:w.heap.size<=x2.heap.size:=x.size;rw[<-y]at a d⊢;obtain⟨D,g⟩:=J x2.heap.size;rw[<-g]at d⊢;have C:=O g;clear g;have q:=ah x a;have f:=ae j a;clear x j;have S:=O d;have K:jf (E<D):=O (by rw[C];exact z);have P:jf (w.heap.size<=D):=O (by rw[C];exact B);clear z B;clear d y a;refine c _ _ f.out λ_=>?_
    clear c;refine L ?_;refine aE I (λl c=>?_);go_simp;refine(V o).mono ?_;rintro e s ⟨rfl,a⟩;have M:=ah q a;have k:=ae f a;have H:=ae S a;clear q f S;clear a;refine c _ _ k.out λ_=>?_
    clear c;refine L ?_;refine aQ ?_;have u:=(And.intro M (And.intro k (And.intro H (And.intro K P))));exact Q D s u
   refine aE I (λl c=>?_);go_simp;have a:=ao x1 (je #[T A 0,T A 0,T A 0] 145);have d:=jy x1 (je #[T A 0,T A 0,T A 0] 145);obtain⟨x2,y⟩:=J (x1.alloc (je #[T A 0,T A 0,T A 0] 145));have z:E<x1.heap.size:=(jG.1 F).1;have B:w.heap.size<=x1.heap.size:=R.size;rw[<-y]at a d⊢;obtain⟨D,g⟩:=J x1.heap.size;rw[<-g]at d⊢;have C:=O g;clear g;have x:=ah R a;have j:=ae F a;clear R F;have YE:=O d;have K:jf (E<D):=O (by rw[C];exact z);have P:jf (w.heap.size<=D):=O (by rw[C];exact B);clear z B;clear d y a;refine c _ _ j.out λ_=>?_
   clear c;refine L ?_;refine aE I (λl c=>?_);go_simp;refine(X x2).mono ?_;rintro e o ⟨rfl,a⟩;have q:=ah x a;have f:=ae j a;have S:=ae YE a;clear x j YE;clear a;refine c _ _ f.out λ_=>?_
   clear c;refine L ?_;refine aE I (λl c=>?_);go_simp;refine(V o).mono ?_;rintro e s ⟨rfl,a⟩;have M:=ah q a;have k:=ae f a;have H:=ae S a;clear q f S;clear a;refine c _ _ k.out λ_=>?_
   clear c;refine L ?_;refine aQ ?_;have u:=(And.intro M (And.intro k (And.intro H (And.intro K P))));exact Q D s u
  refine aE I (λl c=>?_);go_simp;have a:=ao U (je #[T A 0,T A 0,T A 0] 145);have d:=jy U (je #[T A 0,T A 0,T A 0] 145);obtain⟨x1,y⟩:=J (U.alloc (je #[T A 0,T A 0,T A 0] 145));have z:E<U.heap.size:=(jG.1 U4).1;have B:w.heap.size<=U.heap.size:=W.size;rw[<-y]at a d⊢;obtain⟨D,g⟩:=J U.heap.size;rw[<-g]at d⊢;have C:=O g;clear g;have R:=ah W a;have F:=ae U4 a;have g:=O d;have K:jf (E<D):=O (by rw[C];exact z);have P:jf (w.heap.size<=D):=O (by rw[C];exact B);clear z B;clear d y a;refine c _ _ F.out λ_=>?_
  clear c;refine L ?_;refine aE I (λl c=>?_);go_simp;refine(KA x1).mono ?_;rintro e x2 ⟨rfl,a⟩;have x:=ah R a;have j:=ae F a;have YE:=ae g a;clear R F g;clear a;refine c _ _ j.out λ_=>?_
  clear c;refine L ?_;refine aE I (λl c=>?_);go_simp;refine(X x2).mono ?_;rintro e o ⟨rfl,a⟩;have q:=ah x a;have f:=ae j a;have S:=ae YE a;clear x j YE;clear a;refine c _ _ f.out λ_=>?_
  clear c;refine L ?_;refine aE I (λl c=>?_);go_simp;refine(V o).mono ?_;rintro e s ⟨rfl,a⟩;have M:=ah q a;have k:=ae f a;have H:=ae S a;clear q f S;clear a;refine c _ _ k.out λ_=>?_
  clear c;refine L ?_;refine aQ ?_;have u:=(And.intro M (And.intro k (And.intro H (And.intro K P))));exact Q D s u
 clear W U4;rintro D s ⟨M,k,H,K,P⟩;refine aE I (λl c=>?_);rw[jt aj];refine j4 145 _ _ I D #[T A m,T A kb,T A n] I I 145 _ H.out af aj (by simp[oj]) (c _ _ ((jY _ _ _ _ (xj K)).trans k) λ_=>?_);clear c;have c:(s.setRow D #[T A m,T A kb,T A n]).heap[D]?=ja (je #[T A m,T A kb,T A n] 145 (0,0)):=jR _ _ _ _ _ _ H.out;have f:(s.setRow D #[T A m,T A kb,T A n]).heap[E]?=ja (je #[T A r,T A t] 32 (0,0)):=(jY _ _ _ _ (xj K)).trans k;have g:jk w w (s.setRow D #[T A m,T A kb,T A n]):=jZ M P _;generalize s.setRow D #[T A m,T A kb,T A n]=z at c f g⊢;have B:=O c;have C:=O f;have F:=O g;clear c f g;refine L ?_;refine jV ?_;have eq3:=ax.out;clear ax KA X V
 by_cases g:m=0/\kb=0/\n=0
 ·have hd:decide (m=0/\kb=0/\n=0)=jm:=jS g
  obtain⟨l,o,q⟩:=(Ie (msg:=msg) aa ad au).1 g;clear g
  go_upto_region 2 with fail
  refine ow ?_;refine p6 I 145 _ I D I 145 #[T A m,T A kb,T A n] (0,0) _ B.out xA I af ?_;clear B;obtain⟨c,rfl⟩:=qe (show 0<=p by have:=l.1;omega);obtain⟨f,rfl⟩:=qe (show 0<=r by have:=o.1;omega);obtain⟨x,rfl⟩:=qe q.1;have R:x<2305843009213688669:=by have:=q.2;omega
  have S:f<9223372036854775808:=by have:=o.2.1;omega
  have V:c<9223372036854775808:=by have:=l.2.1;omega
  have X:=O l;have HR:=O o;have ax:=O R;have ay:=O S;have a1:=O V;obtain⟨j,y⟩:=J (rN f c msg);have a2:jf (om (co ⟨#[115,105,103,110]⟩) msg [f,c]=j):=O y.symm;have a3:jf (j<2305843009213688669):=O (by rw[y];exact ya _ _ _);have ZQ:jf (∀b:jF,(b=jm↔aY 4 x=f*aY c j%PN)->(b=jm↔mI (c:jb) (f:jb) (x:jb) msg)):=O (λb h=>by
   rw[h];unfold mI;simp only[Int.toNat_natCast,<-y];exact⟨λh=>⟨l,o,q,h⟩,λh=>h.2.2.2⟩)
  clear l o q R S V y;have c1:=ai (i:=1) C I
  go_wp2_with fail
  refine(wC x ax z).mono ?_;rintro e l ⟨rfl,a⟩;have y:=ae C a;have o:=ah F a;clear c1 a C F;have c0:=ai (i:=0) y I
  go_wp2_with fail
  have Q:=AM ⟨#[115,105,103,110]⟩ G msg (jg pm ml cm) Zb [f,c] _ ar (by
   intro q R;simp only[jT,qL,or_false]at R
   rcases R with rfl|rfl
   ·exact ay
   exact a1) (l.alloc (je #[T A (f:jb),T A (c:jb)] 3)) ((HM.below o).below (ao l _)) (mE l (f:jb) (c:jb)) ((HT.below o).below (ao l _))
  rw[a2]at Q;refine Q.mono ?_;clear Q;rintro e S ⟨rfl,a⟩;replace a:=(ao l (je #[T A (f:jb),T A (c:jb)] 3)).trans (a.mono (ao l _).size);have q:=ae y a;have R:=ah o a;clear c0 a y o
  go_wp2_with fail
  refine(AZ c j X a3 S).mono ?_;rintro e V ⟨rfl,a⟩;have o:=ae q a;have y:=ah R a;clear a q R;have c0:=ai (i:=0) o I
  go_wp2_with fail
  refine(Po f (aY c j) HR (po X j) V).mono ?_;rintro e R ⟨rfl,a⟩;have q:=ah y a;clear a o y c0
  go_wp2_with fail
  go_ret;exact⟨_,I,O (ZQ _ (R8 _ _)),q⟩
 have hd:decide (m=0/\kb=0/\n=0)=ji:=decide_eq_false g;have c:jf (¬mI p r t msg):=O (λh=>g ((Ie (msg:=msg) aa ad au).2 ⟨h.1,h.2.1,h.2.2.1⟩));clear g
 go_upto_region 2 with fail
 refine ow ?_;refine p6 I 145 _ I D I 145 #[T A m,T A kb,T A n] (0,0) _ B.out xA I af ?_
 go_wp2_with fail
 go_ret;exact⟨ji,I,O ⟨λh=>jB h G,λh=>jB h c⟩,F⟩
structure Eg(F:jb)(x:jb)(b:jb):Prop where
 enter:∀args w,(o8 F args).run jl w=.ok (.enter F args) w
 call:∀(a:jb) (w:jh),bL a->jA w b 3 (T A (x:jb))->jq jl F #[T A a,jz (ja ⟨b,0,jc⟩)] w λe w'=>e=jp (jE #[T A (aY a x:jb),T A 0])/\jk w w w'
theorem Su(x f:jb)(b:x<2305843009213688669):Eg 154 x f:=by
 refine⟨λ_ _=>rfl,λa w c d=>?_⟩;have g:=O (AZ a x c b);have h:=d.cell;clear c b d
 go_enter func154,ntmps154
 go_wp2_with fail
 refine(g _).mono ?_;rintro e d ⟨rfl,b⟩;have c:=O b;clear b
 go_wp2_with fail
 go_ret2;exact⟨I,c⟩
def oh(p u v:jb):LBy:=dm (co ⟨#[119,114,97,112]⟩) (dB [p,u,v])
theorem zF(p u v):(oh p u v).length=32:=iN _ _
theorem zq(l:LBy)(m:jb)(b:BitVec 8):((l++jW (m+1) 0#8).set l.length b)=(l++[b])++jW m 0#8:=by
 rw[List.set_append_right _ _ (ju _),Nat.sub_self,List.replicate_succ,List.set_cons_zero,n0]
 rfl
theorem O9{W:jh}{D:jb}{l:LBy}{n:jb}{t:jI}(h:W.heap[D]?=ja (je (l.map v8).toArray t (0,0)))(a:l.length=n):bj W (jg (ja ⟨D,0,jc⟩) n n) l:=by
 refine⟨_,n,by rw[a],by rw[a];exact ju _,(λh=>by cases h),λ_=>⟨D,0,I,λj b=>ai h ?_⟩⟩;rw[jM];simp[jQ,b]
theorem Lu(F x M:jb)(k:Eg F x M)(p u e:jb)(s:p<9223372036854775808)(q:u<9223372036854775808)(he:bL e)(w:jh)(a:jA w M 3 (T A (x:jb)))(t:bQ w):
 jq jl 156 #[jn #[T A p,.func (.func F) #[] #[jz (ja ⟨M,0,jc⟩)]],T A u,T A e] w λe' w'=>e'=jp (jn ((oh p u (aY e x)).map v8).toArray)/\jk w w w':=by
 obtain⟨aa,y,z⟩:=Arr.mk' (zF p u (aY e x));rw[<-y];have S:=O z;have au:=O t;have K:=k.enter;have B:=O k.call;have HE:=O he;have hv:=wg e x;obtain⟨v,l⟩:=J (aY e x);rw[<-l]at hv;have ZQ:=O l;have HP:=O s;have HU:=O q;have HV:jf (v<9223372036854775808):=O Y;have d:=jy w (je #[T A p,.func (.func F) #[] #[jz (ja ⟨M,0,jc⟩)]] 243);have b:=ao w (je #[T A p,.func (.func F) #[] #[jz (ja ⟨M,0,jc⟩)]] 243);obtain⟨W0,f⟩:=J (w.alloc (je #[T A p,.func (.func F) #[] #[jz (ja ⟨M,0,jc⟩)]] 243));rw[<-f]at d b;have g:=jy W0 (je a8 63);have c:=ao W0 (je a8 63);obtain⟨W1,m⟩:=J (W0.alloc (je a8 63));obtain⟨o,h⟩:=J w.heap.size;rw[<-m]at g c;have C:W0.heap.size=o+1:=by rw[f,h];simp
 rw[C]at g;rw[<-h]at d;have j:=ae d c;have D:=O g;have E:=O (b.trans (c.mono b.size));have H:jf (jA W1 M 3 (T A (x:jb))):=O (((b.trans (c.mono b.size)).block _ a.lt).trans a);have U:=O h;have bd:=O f;have VV:=O m;have r:=ai (i:=0) j I;have P:=ai (i:=1) j I;clear y z t k he l s q d b f g c m C h a
 go_enter func156,ntmps156
 go_upto_region 1 with fail
 rw[<-bd,<-VV,<-U]
 go_wp2_with fail
 refine(B e W1 HE H).mono ?_;rintro e2 z1 ⟨rfl,b⟩;rw[<-ZQ];have h:=ae j b;have f:=ae D b;have k:=ah E b;clear b r P j D E H B K;have c:=jy z1 (je #[jo jr 0,jo jr 0,jo jr 0,jo jr 0,jo jr 0,jo jr 0,jo jr 0,jo jr 0,jo jr 0,jo jr 0,jo jr 0,jo jr 0,jo jr 0,jo jr 0,jo jr 0,jo jr 0,jo jr 0,jo jr 0,jo jr 0,jo jr 0,jo jr 0,jo jr 0,jo jr 0,jo jr 0] 306);have b:=ao z1 (je #[jo jr 0,jo jr 0,jo jr 0,jo jr 0,jo jr 0,jo jr 0,jo jr 0,jo jr 0,jo jr 0,jo jr 0,jo jr 0,jo jr 0,jo jr 0,jo jr 0,jo jr 0,jo jr 0,jo jr 0,jo jr 0,jo jr 0,jo jr 0,jo jr 0,jo jr 0,jo jr 0,jo jr 0] 306);obtain⟨W2,g⟩:=J (z1.alloc (je #[jo jr 0,jo jr 0,jo jr 0,jo jr 0,jo jr 0,jo jr 0,jo jr 0,jo jr 0,jo jr 0,jo jr 0,jo jr 0,jo jr 0,jo jr 0,jo jr 0,jo jr 0,jo jr 0,jo jr 0,jo jr 0,jo jr 0,jo jr 0,jo jr 0,jo jr 0,jo jr 0,jo jr 0] 306));obtain⟨D,d⟩:=J z1.heap.size;rw[<-g]at c b;rw[<-d]at c;have YL:jf (W2.heap[D]?=ja (je (([]++jW 24 0#8).map v8).toArray 306 (0,0))):=O c;have UZ:=ae f b;have UE:=ah k b;have Q:jf (o+1<D):=O (by rw[d];exact(jG.1 f).1);have r:=ai (i:=0) (av h b) I;have bf:=O g;have HD:=O d;clear c b g d h f k
 go_upto_region 3 with fail
 rw[<-bf,<-HD]
 go_wp2_with fail
 have ax:∀W:jh,(Instr.index 307 (jn #[T A p,T A u,T A v]) (T A 0)).run jl W=.ok (T A p) W:=λW=>by
  have q:=xB;unfold Instr.index;simp[asIntOf,wq q,part]
 have ay:∀W:jh,(Instr.index 307 (jn #[T A p,T A u,T A v]) (T A 1)).run jl W=.ok (T A u) W:=λW=>by
  have q:=xB;unfold Instr.index;simp[asIntOf,wq q,part]
 have a1:∀W:jh,(Instr.index 307 (jn #[T A p,T A u,T A v]) (T A 2)).run jl W=.ok (T A v) W:=λW=>by
  have q:=xB;unfold Instr.index;simp[asIntOf,wq q,part]
 clear r
 go_loopw [25] (λb wr=>∃i:jb,b=T A i/\i<=3/\jf (wr.heap[D]?=ja (je ((dB ([p,u,v].take i)++jW (24-8*i) 0#8).map v8).toArray 306 (0,0)))/\jf (wr.heap[o+1]?=ja (je a8 63 (0,0)))/\jf (jk w w wr)) (λb _=>(3-jv b).toNat)
 case atStart=>exact⟨0,I,by omega,O YL,UZ,UE⟩
 obtain⟨i,rfl,hi,Vm,ad,R⟩:=hrel
 rcases(show i=0\/i=1\/i=2\/i=3 by omega)with rfl|rfl|rfl|rfl
 ·have a2:=HP.out
  have a3:q9.wrap (p:N)=(p:N):=by rw[rk];omega
  have a4:(0:N)<=(p:N):=Y;have a5:=ax
  go_wp2_with fail
  go_loopw [29] (λf wr2=>∃k:jb,f=T A k/\k<=8/\jf (wr2.heap[D]?=ja (je (((dB ([p,u,v].take 0)++beK p k)++jW (24-0-k) 0#8).map v8).toArray 306 (0,0)))/\jf (wr2.heap[o+1]?=ja (je a8 63 (0,0)))/\jf (jk w w wr2)) (λf _=>(8-jv f).toNat)
  case atStart=>exact⟨0,I,by omega,O (by rw[beK,ob];exact Vm),ad,R⟩
  obtain⟨k,rfl,a6,c,r,s⟩:=hrel
  by_cases ZW:k<8
  ·have V:=aA ((k:N)<8)
   obtain⟨m,t⟩:∃m:jb,m=56-8*k:=⟨_,I⟩;have YU:(56:N)-8*(k:N)=(m:N):=Y;have ba:m<=56:=Y;have hd3:decide ((m:N)<0)=ji:=by simp
   have g:beK p (k+1)=beK p k++[o1 8 (p/2^m)]:=by rw[beK,t]
   obtain⟨b,a⟩:=J (o1 8 (p/2^m));rw[<-a]at g;have bb:jr.wrap ((p:N)/2^m)=(b.toNat:N):=by
    rw[a,rn,rv];have e:(p:N)/2^m=((p/2^m:jb):N):=by simp
    rw[e];omega
   obtain⟨P,d⟩:=J (dB ([p,u,v].take 0)++beK p k);have j:P.length=k:=by rw[d,jH,tw,wm];simp
   have y:dB ([p,u,v].take 0)++beK p (k+1)=P++[b]:=by rw[g,<-n0,d]
   rw[<-d]at c;have z:24-0-k=(24-0-(k+1))+1:=Y;rw[z]at c;obtain⟨⟨u3,bc⟩,Zu,B,C⟩:=kr (i:=k) (v8 b) c (by simp[j]);have E:(wr.setCell ⟨D,k,jc⟩ (v8 b)).heap[D]?=ja (je (((P++[b])++jW (24-0-(k+1)) 0#8).map v8).toArray 306 (0,0)):=by
    rw[B,xk,<-xl,<-j,zq]
   have H:=O E;have l:=O C;have X:=O y;clear g a d j y z B E C t;unfold v8 at H l
   go_wp2_with fail
   refine⟨⟨k+1,by go_num,by omega,O (by rw[X];exact H),O ((l.block _ (aI Q)).trans r),O (s.trans (l.below (ee Q U)))⟩,by simp only[jv];omega⟩
  have K:k=8:=Y;have V:=az ((k:N)<8);have h:=c.out;rw[K,show dB ([p,u,v].take 0)++beK p 8=dB ([p,u,v].take (0+1))from(vF ([p,u,v].take 0) p).symm]at h;have Ze:=O h;clear h K
  go_wp2_with fail
  refine⟨⟨0+1,by go_num,by omega,Ze,r,s⟩,by simp only[jv];omega⟩
 ·have a2:=HU.out
  have a3:q9.wrap (u:N)=(u:N):=by rw[rk];omega
  have a4:(0:N)<=(u:N):=Y;have a5:=ay
  go_wp2_with fail
  go_loopw [29] (λf wr2=>∃k:jb,f=T A k/\k<=8/\jf (wr2.heap[D]?=ja (je (((dB ([p,u,v].take 1)++beK u k)++jW (24-8-k) 0#8).map v8).toArray 306 (0,0)))/\jf (wr2.heap[o+1]?=ja (je a8 63 (0,0)))/\jf (jk w w wr2)) (λf _=>(8-jv f).toNat)
  case atStart=>exact⟨0,I,by omega,O (by rw[beK,ob];exact Vm),ad,R⟩
  obtain⟨k,rfl,a6,c,r,s⟩:=hrel
  by_cases ZW:k<8
  ·have V:=aA ((k:N)<8)
   obtain⟨m,t⟩:∃m:jb,m=56-8*k:=⟨_,I⟩;have YU:(56:N)-8*(k:N)=(m:N):=Y;have ba:m<=56:=Y;have hd3:decide ((m:N)<0)=ji:=by simp
   have g:beK u (k+1)=beK u k++[o1 8 (u/2^m)]:=by rw[beK,t]
   obtain⟨b,a⟩:=J (o1 8 (u/2^m));rw[<-a]at g;have bb:jr.wrap ((u:N)/2^m)=(b.toNat:N):=by
    rw[a,rn,rv];have e:(u:N)/2^m=((u/2^m:jb):N):=by simp
    rw[e];omega
   obtain⟨P,d⟩:=J (dB ([p,u,v].take 1)++beK u k);have j:P.length=8+k:=by rw[d,jH,tw,wm];simp
   have y:dB ([p,u,v].take 1)++beK u (k+1)=P++[b]:=by rw[g,<-n0,d]
   rw[<-d]at c;have z:24-8-k=(24-8-(k+1))+1:=Y;rw[z]at c;obtain⟨⟨u3,bc⟩,Zu,B,C⟩:=kr (i:=8+k) (v8 b) c (by simp[j]);have E:(wr.setCell ⟨D,8+k,jc⟩ (v8 b)).heap[D]?=ja (je (((P++[b])++jW (24-8-(k+1)) 0#8).map v8).toArray 306 (0,0)):=by
    rw[B,xk,<-xl,<-j,zq]
   have H:=O E;have l:=O C;have X:=O y;clear g a d j y z B E C t;unfold v8 at H l
   go_wp2_with fail
   refine⟨⟨k+1,by go_num,by omega,O (by rw[X];exact H),O ((l.block _ (aI Q)).trans r),O (s.trans (l.below (ee Q U)))⟩,by simp only[jv];omega⟩
  have K:k=8:=Y;have V:=az ((k:N)<8);have h:=c.out;rw[K,show dB ([p,u,v].take 1)++beK u 8=dB ([p,u,v].take (1+1))from(vF ([p,u,v].take 1) u).symm]at h;have Ze:=O h;clear h K
  go_wp2_with fail
  refine⟨⟨1+1,by go_num,by omega,Ze,r,s⟩,by simp only[jv];omega⟩
 ·have a2:=HV.out
  have a3:q9.wrap (v:N)=(v:N):=by rw[rk];omega
  have a4:(0:N)<=(v:N):=Y;have a5:=a1
  go_wp2_with fail
  go_loopw [29] (λf wr2=>∃k:jb,f=T A k/\k<=8/\jf (wr2.heap[D]?=ja (je (((dB ([p,u,v].take 2)++beK v k)++jW (24-16-k) 0#8).map v8).toArray 306 (0,0)))/\jf (wr2.heap[o+1]?=ja (je a8 63 (0,0)))/\jf (jk w w wr2)) (λf _=>(8-jv f).toNat)
  case atStart=>exact⟨0,I,by omega,O (by rw[beK,ob];exact Vm),ad,R⟩
  obtain⟨k,rfl,a6,c,r,s⟩:=hrel
  by_cases ZW:k<8
  ·have V:=aA ((k:N)<8)
   obtain⟨m,t⟩:∃m:jb,m=56-8*k:=⟨_,I⟩;have YU:(56:N)-8*(k:N)=(m:N):=Y;have ba:m<=56:=Y;have hd3:decide ((m:N)<0)=ji:=by simp
   have g:beK v (k+1)=beK v k++[o1 8 (v/2^m)]:=by rw[beK,t]
   obtain⟨b,a⟩:=J (o1 8 (v/2^m));rw[<-a]at g;have bb:jr.wrap ((v:N)/2^m)=(b.toNat:N):=by
    rw[a,rn,rv];have e:(v:N)/2^m=((v/2^m:jb):N):=by simp
    rw[e];omega
   obtain⟨P,d⟩:=J (dB ([p,u,v].take 2)++beK v k);have j:P.length=16+k:=by rw[d,jH,tw,wm];simp
   have y:dB ([p,u,v].take 2)++beK v (k+1)=P++[b]:=by rw[g,<-n0,d]
   rw[<-d]at c;have z:24-16-k=(24-16-(k+1))+1:=Y;rw[z]at c;obtain⟨⟨u3,bc⟩,Zu,B,C⟩:=kr (i:=16+k) (v8 b) c (by simp[j]);have E:(wr.setCell ⟨D,16+k,jc⟩ (v8 b)).heap[D]?=ja (je (((P++[b])++jW (24-16-(k+1)) 0#8).map v8).toArray 306 (0,0)):=by
    rw[B,xk,<-xl,<-j,zq]
   have H:=O E;have l:=O C;have X:=O y;clear g a d j y z B E C t;unfold v8 at H l
   go_wp2_with fail
   refine⟨⟨k+1,by go_num,by omega,O (by rw[X];exact H),O ((l.block _ (aI Q)).trans r),O (s.trans (l.below (ee Q U)))⟩,by simp only[jv];omega⟩
  have K:k=8:=Y;have V:=az ((k:N)<8);have h:=c.out;rw[K,show dB ([p,u,v].take 2)++beK v 8=dB ([p,u,v].take (2+1))from(vF ([p,u,v].take 2) v).symm]at h;have Ze:=O h;clear h K
  go_wp2_with fail
  refine⟨⟨2+1,by go_num,by omega,Ze,r,s⟩,by simp only[jv];omega⟩
 have b:=tw [p,u,v];have c:=Vm.out;rw[show dB ([p,u,v].take 3)++jW (24-8*3) 0#8=dB [p,u,v]from ob _]at c;have d:=sC ⟨#[119,114,97,112]⟩ G _ (dB [p,u,v]) (by rw[b];simp) wr (O9 (n:=24) c (by rw[b];rfl)) (au.below R).num (au.below R).start;rw[show((dm (co ⟨#[119,114,97,112]⟩) (dB [p,u,v])).map v8).toArray=aa from by rw[ZQ];exact S.eq.symm]at d;have f:=O d;clear b c d ax ay a1
 go_wp2_with fail
 refine f.mono ?_;rintro e' d ⟨rfl,b⟩;have c:=ae ad b;have g:=ah R b;clear b f
 go_wp2_with (refine j3 I λ_ b=>j4 63 _ _ I (o+1) aa I I 63 _ c.out (by rw[S.sz];rfl) (by rw[S.sz];rfl) S.one (b _ _ ?_))
 have b:(d.setRow (o+1) aa).heap[o+1]?=ja (je aa 63 (0,0)):=jR _ _ _ _ _ _ c.out;refine qh (results_cell_row I _ _ (o+1) 63 _ (0,0) _ I b qC I (by rw[S.sz];rfl)) I ?_;exact⟨I,jZ g.out (by rw[U];exact Nat.le_succ _) _⟩
def mH(u:N)(n:jb):Prop:=bL u/\16<=n/\n<=65552
noncomputable def mK(u:N)(n:jb):N:=by classical exact if mH u n then 0 else 90
theorem FH(h:mH d b):mK d b=0:=by unfold mK;rw[jt h]
theorem uX(h:¬mH d b):mK d b=90:=by unfold mK;rw[jw h]
theorem Gi(u:N)(p:jP j7)(n c:jb)(t:n<4611686018427387904)(w:jh):
 jq jl 66 #[jn #[T A u,jg p n c]] w λe w'=>e=jp (T A (mK u n))/\jk w w w':=by
 have f:=jy w (je #[T A u,jg p n c] 86);have k:=ao w (je #[T A u,jg p n c] 86);have j:=O (gC u);obtain⟨b,a⟩:=J (cW u);rw[<-a]at j;have m:jf (b=0->bL u):=O (λh=>by
  by_cases g:bL u
  ·exact g
  rw[a,lf g]at h;exact jB h G)
 have o:jf (b≠0->¬bL u):=O (λh g=>h (by rw[a,gE g]));have q:=ai (i:=0) f I;have s:=ai (i:=1) f I;have l:=O k;obtain⟨r,g⟩:=J (mK u n);rw[<-g];have d:=O g;clear a g f k
 go_enter func66,ntmps66
 go_wp2_with fail
 refine(j _).mono ?_;rintro e v ⟨rfl,a⟩;have f:=ah l a;clear a j q s l
 by_cases a:b=0
 ·have j:decide (b=0)=jm:=by simp[a]
  have g:=m a;subst a
  by_cases l:n<16
  ·have k:=aA ((n:N)<16)
   obtain rfl:r=90:=by rw[d];exact uX (λh=>by have:=h.2.1;omega)
   go_wp2_with fail
   go_ret;exact⟨I,f⟩
  have k:=az ((n:N)<16)
  by_cases q:65552<n
  ·have hd2:=aA ((65552:N)<(n:N))
   obtain rfl:r=90:=by rw[d];exact uX (λh=>by have:=h.2.2;omega)
   go_wp2_with fail
   go_ret;exact⟨I,f⟩
  have hd2:=az ((65552:N)<(n:N));obtain rfl:r=0:=by rw[d];exact FH ⟨g,by omega,by omega⟩
  clear g
  go_wp2_with fail
  go_ret;exact⟨I,f⟩
 have j:decide (b=0)=ji:=by simp[a]
 obtain rfl:r=90:=by rw[d];exact uX (λh=>o a h.1)
 have g:(b !=0)=jm:=ak a;have h:=O a;clear a
 go_wp2_with fail
 go_ret;exact⟨I,f⟩
def sE:LBy:=jW 12 0#8
def gj(seed:LBy):jb:=va seed ⟨#[119,114,97,112]⟩
def gr(a:jb)(seed b body:LBy):LBy:=oT (oh a (aY 4 (gj seed)) (aY a (gj seed))) sE b body
theorem Hp(b:jb)(q:bL b)(seed l body:LBy)(s:seed.length=32)(E:l.length<=70000)(F:body.length<=65536)(H K:jj)(w:jh)(M:bj w H l)(P:bj w K body)(Q:lz w):
 jq jl 101 #[T A b,jn (seed.map v8).toArray,H,K] w λe w'=>∃c,e=jp (jE #[jn #[T A (aY 4 (gj seed):jb),c],T A 0])/\w'.ownsRow w 5 1 c (body.length+16) ((gr b seed l body).map v8)/\jk w w w':=by
 obtain⟨n,t,R⟩:=Arr.mk' s;rw[<-t];have YH:=O t;have U5:=O R;have Z1:=O s;have m:=O Q;have U:=O q;have v:=O (gC b);rw[gE q]at v;have ad:=O E;have au:=O F;have V:=O M;have W:=O P;obtain⟨r,x⟩:=J (gj seed);have y:=O x;have X:jf (r<2305843009213688669):=O (by rw[x];exact(zL _ _).2);obtain⟨u,a⟩:=J (aY 4 (gj seed));have aa:=O a;have ax:jf (u<4611686018427377339):=O (by rw[a];exact wg _ _);rw[<-a];have d:=jy w (je n 63);have f:=ao w (je n 63);obtain⟨o,g⟩:=J (w.alloc (je n 63));rw[<-g]at d f;have h:=jy o (je #[T A 0,jg jc 0 0] 86);have j:=ao o (je #[T A 0,jg jc 0 0] 86);obtain⟨W1,z⟩:=J (o.alloc (je #[T A 0,jg jc 0 0] 86));obtain⟨i,k⟩:=J w.heap.size;rw[<-z]at h j;have S:o.heap.size=i+1:=by rw[g,k];simp
 rw[S]at h;rw[<-k]at d;have HK:=ae d j;have HR:=O h;have UA:=O (f.trans (j.mono f.size));have HG:=O k;have ay:=O g;have VV:=O z;obtain⟨ph,ch,rfl,-,-,-⟩:=M;obtain⟨B,C,rfl,-,-,-⟩:=P;obtain⟨hl,D⟩:=J l.length;obtain⟨bl,p⟩:=J body.length;rw[<-D]at V⊢;rw[<-p]at W;clear t R s Q q E F x a d f g h j z S k;have a4:=O D;have a5:=O p;rw[show(Value.slice B body.length C)=jg B bl C from by rw[p]];clear D p
 go_enter func101,ntmps101
 go_wp2_with fail
 rw[<-ay,<-VV,<-HG];refine(v W1).mono ?_;rintro e R ⟨rfl,a⟩;have g:=ae HK a;have h:=ae HR a;have d:=ah UA a;clear a HK HR UA v
 go_upto_region 3 with fail
 refine ow ?_;refine p6 I 63 _ I i I 63 n (0,0) _ g.out qC I (by rw[U5.sz];rfl) ?_
 go_wp2_with fail
 have f:=G3 seed Z1 ⟨#[119,114,97,112]⟩ G R (bQ.below ⟨m.num,m.start⟩ d);rw[<-YH,show va seed ⟨#[119,114,97,112]⟩=r from y.symm]at f;refine f.mono ?_;clear f;rintro e p ⟨rfl,a⟩;have k:=ae h a;have q:=ah d a;clear a g h d
 go_wp2_with fail
 obtain⟨x,g⟩:=J (p.alloc (je #[T A (r:jb)] 3));obtain⟨d,h⟩:=J p.heap.size;have s:jA x d 3 (T A (r:jb)):=by rw[g,h];exact Boxed.new p _ _
 have a:=ao p (je #[T A (r:jb)] 3);rw[<-g]at a⊢;rw[<-h];have t:=ae k a;have v:=ah q a;have j:=O s;clear a g h s k q;have f:=wC r X x;rw[show aY 4 r=u from by rw[y,aa]]at f;refine f.mono ?_;clear f;rintro e f ⟨rfl,a⟩;have z:=ae t a;have D:=ah v a;have h:jf (jA f d 3 (T A (r:jb))):=O ((a.block _ j.lt).trans j);clear a t v j;obtain⟨S,g⟩:=J (#[jo .i64 b,.func (.func 154) #[] #[jz (ja ⟨d,0,jc⟩)]]);have HS:=O g;have j:S.all (·.oneCell')=jm:=by rw[g];simp[oj]
 have k:S.size=2:=by rw[g];rfl
 have a6:=O j;have ba:=O k;clear g j k
 go_upto_region 6 with(refine j3 I λ_ s=>j4 243 _ _ I f.heap.size #[T A b,.func (.func 154) #[] #[jz (ja ⟨d,0,jc⟩)]] I I 243 #[T A 0,.nilFunc] (jy f _) af aj (by simp[oj]) (s _ _ ?_))
 obtain⟨q,g⟩:=J ((f.alloc (je #[T A 0,.nilFunc] 243)).setRow f.heap.size #[T A b,.func (.func 154) #[] #[jz (ja ⟨d,0,jc⟩)]]);obtain⟨E,j⟩:=J f.heap.size;have t:q.heap[E]?=ja (je #[T A b,.func (.func 154) #[] #[jz (ja ⟨d,0,jc⟩)]] 243 (0,0)):=by rw[g,j];exact jR _ _ _ _ _ _ (jy f _)
 have a:jk f f q:=by rw[g];exact jZ (ao f _) (ju _) _
 rw[<-g,<-j];have v:=ae z a;have k:=ah D a;have F:jf (jA q d 3 (T A (r:jb))):=O ((a.block _ h.lt).trans h);have Q:=O t;clear a g j t z D h;refine ow ?_;refine p6 I 243 _ I E I 243 #[T A b,.func (.func 154) #[] #[jz (ja ⟨d,0,jc⟩)]] (0,0) _ Q.out underlying243 I af ?_
 go_wp2_with fail
 obtain⟨bb,g,j⟩:=Arr.mk' (zF b u (aY b r));have h:=Lu _ r d (Su r d X) b u b (cT U.2.1) (aI ax) U q F (bQ.below ⟨m.num,m.start⟩ k);rw[<-g]at h;have D:=O g;refine h.mono ?_;clear h g j;rintro e w7 ⟨rfl,a⟩;have h:=ae v a;have g:=ah k a;clear a v k F Q
 go_wp2_with fail
 have j:=NE (oh b u (aY b r)) sE l body (jg ph hl ch) (jg B bl C) w7 (zF _ _ _) I ad au (V.below g) (W.below g) (m.below g);rw[<-D]at j;refine j.mono ?_;clear j;rintro e t ⟨cv,rfl,v,a⟩;have z:=ae h a;have F:=O v;have Q:=O g.size;have a1:=O h;have WJ:=ah g a;obtain⟨j,k,rfl⟩:=cN v;clear a h g v
 go_upto_region 9 with fail
 go_wp2_with (refine j3 I λ_ s=>j4 86 _ _ I (i+1) #[T A u,jg j (body.length+16) k] I I 86 _ z.out af aj (by simp[oj]) (s _ _ ?_))
 have a:(t.setRow (i+1) #[T A u,jg j (body.length+16) k]).heap[i+1]?=ja (je #[T A u,jg j (body.length+16) k] 86 (0,0)):=jR _ _ _ _ _ _ z.out;have s:jk w w (t.setRow (i+1) #[T A u,jg j (body.length+16) k]):=jZ WJ.out (by rw[HG];exact Nat.le_succ _) _;have v:(t.setRow (i+1) #[T A u,jg j (body.length+16) k]).ownsRow w.heap.size 5 1 (jg j (body.length+16) k) (body.length+16) ((gr b seed l body).map v8):=by
  have h:=F.out;rw[aa,y]at h;refine⟨h.1,?_⟩
  rcases h.2 with hn|⟨g,a2,UH,e,hb,hg,a3⟩
  ·exact .inl hn
  refine .inr ⟨g,a2,UH,e,jL Q hb,(jY _ _ _ _ ?_).trans hg,a3⟩;have:=(jG.1 a1).1;omega
 exact bodyPost_ret_by (fQ I _ _ (i+1) 86 #[T A u,jg j (body.length+16) k] (0,0) _ I a underlying86 I af) I ⟨_,I,v,s⟩
def fI(x:N):Prop:=0<=x/\x<512
def kf(x:N):Prop:=0<=x/\x<16
instance(x:N):Decidable (fI x):=by unfold fI;infer_instance
instance(x:N):Decidable (kf x):=by unfold kf;infer_instance
theorem Be(x:N)(w:jh):
 jq jl 64 #[T A x] w λe w'=>e=jp (.bool (decide (fI x)))/\w=w':=by
 obtain⟨r,a⟩:=J (decide (fI x));rw[<-a]
 by_cases b:0<=x
 ·have c:=aA (0<=x)
  obtain rfl:r=decide (x<512):=by rw[a];simp[fI,b]
  clear a
  go_enter func64,ntmps64
  go_wp2
  go_ret;exact⟨I,I⟩
 have c:=az (0<=x);obtain rfl:r=ji:=by rw[a];simp[fI,b]
 clear a
 go_enter func64,ntmps64
 go_wp2
 go_ret;exact⟨I,I⟩
theorem ES(x:N)(w:jh):
 jq jl 57 #[T A x] w λe w'=>e=jp (.bool (decide (kf x)))/\w=w':=by
 obtain⟨r,a⟩:=J (decide (kf x));rw[<-a]
 by_cases b:0<=x
 ·have c:=aA (0<=x)
  obtain rfl:r=decide (x<16):=by rw[a];simp[kf,b]
  clear a
  go_enter func57,ntmps57
  go_wp2
  go_ret;exact⟨I,I⟩
 have c:=az (0<=x);obtain rfl:r=ji:=by rw[a];simp[kf,b]
 clear a
 go_enter func57,ntmps57
 go_wp2
 go_ret;exact⟨I,I⟩
def cE(x y:N):N:=if x<y then -1 else if y<x then 1 else 0
theorem B6(x:N)(w:jh):
 jq jl 90 #[T A x] w λe w'=>e=jp (.bool ji)/\w=w':=by
 go_enter func90,ntmps90
 go_wp2
 go_ret;exact⟨by simp,I⟩
theorem tQ(x y:N)(w:jh):
 jq jl 42 #[T A x,T A y] w λe w'=>e=jp (T A (cE x y))/\w=w':=by
 have d:=O (B6 x);have f:=O (B6 y);obtain⟨r,a⟩:=J (cE x y);rw[<-a];have b:=O a;clear a
 go_enter func42,ntmps42
 go_wp2_with fail
 refine(d _).mono ?_;rintro e g ⟨rfl,rfl⟩
 go_wp2_with fail
 refine(f _).mono ?_;rintro e g ⟨rfl,rfl⟩
 by_cases a:x<y
 ·have h:=aA (x<y)
  obtain rfl:r= -1:=by rw[b,cE,jt a]
  go_wp2_with fail
  go_ret;exact⟨I,I⟩
 have h:=az (x<y)
 by_cases c:y<x
 ·have hd2:=aA (y<x)
  obtain rfl:r=1:=by rw[b,cE,jw a,jt c]
  go_wp2_with fail
  go_ret;exact⟨I,I⟩
 have hd2:=az (y<x);obtain rfl:r=0:=by rw[b,cE,jw a,jw c]
 go_wp2_with fail
 go_ret;exact⟨I,I⟩
def aL.cells(m:aL):jd jj:=[T A m.dev,T A m.since,T A m.ver]
theorem C7(m:aL)(d:N)(w:jh):
 jq jl 129 #[jn m.cells.toArray,T A d] w λe w'=>e=jp (T A (cE m.dev d))/\jk w w w':=by
 obtain⟨md,b,c⟩:=m;unfold aL.cells;have a:=ao w (je #[T A md,T A b,T A c] 103);have f:=O (tQ md d);have g:=O a;clear a
 go_enter func129,ntmps129
 go_wp2_with fail
 refine(f _).mono ?_;rintro e a ⟨rfl,rfl⟩
 go_wp2_with fail
 go_ret;exact⟨I,g⟩
def og(w:jh)(v:jj)(l:jd aL):Prop:=aH (λ_=>True) w v 3 l.length (l.flatMap aL.cells)
def de:aL:=⟨0,0,0⟩
theorem og.below{v:jj}{l:jd aL}(h:og w v l)(a:jk w w w'):og w' v l:=by
 obtain⟨b,p,c,d,f,i,k⟩:=h;refine⟨b,p,c,d,f,i,λm=>?_⟩;obtain⟨g,o,e,-,n⟩:=k m;exact⟨g,o,e,trivial,λj u q=>aB (n j u q) a⟩
def mD(l:jd aL):Prop:=∀i j,i<j->j<l.length->(l.getD i de).dev<(l.getD j de).dev
theorem og.cells{v:jj}{l:jd aL}(h:og w v l):∃p c,v=jg p l.length c/\l.length<=c/\(0<l.length->∃g o,p=ja ⟨g,o,jc⟩/\∀i,i<l.length->w.cell? ⟨g,o+i*3,jc⟩=ja (T A (l.getD i de).dev)/\w.cell? ⟨g,o+i*3+1,jc⟩=ja (T A (l.getD i de).since)/\w.cell? ⟨g,o+i*3+2,jc⟩=ja (T A (l.getD i de).ver)):=by
 obtain⟨q,p,c,d,f,r,j⟩:=h;refine⟨p,c,d,f,λk=>?_⟩;obtain⟨g,o,e,-,a⟩:=j k;refine⟨g,o,e,λi m=>?_⟩;have b:l[i]?=ja (l.getD i de):=by simp[jQ,m]
 have k0:=a (i*3+0) _ ((flat_get aL.cells 3 (λ_=>rfl) l i 0 (l.getD i de) b G).trans I);have n:=a (i*3+1) _ ((flat_get aL.cells 3 (λ_=>rfl) l i 1 (l.getD i de) b G).trans I);have k2:=a (i*3+2) _ ((flat_get aL.cells 3 (λ_=>rfl) l i 2 (l.getD i de) b G).trans I);exact⟨k0,n,k2⟩
theorem CS{x y:jj}(a:u=x)(b:j=y):Ending.returned (jE #[u,j])=jp (jE #[x,y]):=by rw[a,b]
theorem fu{l:jd i}(d:i)(h:b<l.length):l.getD b d=l[b]:=by simp[jQ,h]
def ma(l:jd aL)(d:N):jb:=l.countP λm=>decide (m.dev<d)
def cL(l:jd aL)(d:N):jF:=l.any λm=>m.dev==d
theorem yQ{l:jd aL}(h:mD l){i j:jb}(a:i<=j)(b:j<l.length):(l.getD i de).dev<=(l.getD j de).dev:=by
 rcases Nat.eq_or_lt_of_le a with rfl|c
 ·exact Int.le_refl _
 exact Int.le_of_lt (h i j c b)
theorem AF(d:N):∀(l:jd aL) (i:jb),i<=l.length->(∀t,t<i->(l.getD t de).dev<d)->(∀t,i<=t->t<l.length->d<=(l.getD t de).dev)->ma l d=i
 |[],i,b,_,_=>by simp at b;simp[ma,b]
 |a::r,0,_,_,c=>by
  unfold ma;rw[List.countP_eq_zero];intro x f;obtain⟨t,e,rfl⟩:=qi f;have:=c t (j6 _) e;rw[fu _ e]at this;simp;omega
 |a::r,i+1,b,f,c=>by
  have h:a.dev<d:=by simpa using f 0 (Nat.succ_pos _)
  have g:=AF d r i (ak b) (λt e=>by simpa using f (t+1) Y) (λt j e=>by simpa using c (t+1) Y (ak e));unfold ma at g⊢;rw[List.countP_cons_of_pos (ak h),g]
theorem L4{l:jd aL}(h:∀t,t<l.length->(l.getD t de).dev<d):cL l d=ji:=by
 unfold cL;rw[qj];intro x b;obtain⟨t,a,rfl⟩:=qi b;have:=h t a;rw[fu _ a]at this;simp;omega
theorem J4(x y:N):(cE x y==0)=decide (x=y):=by
 unfold cE
 by_cases a:x<y
 ·rw[jt a];simp;omega
 rw[jw a]
 by_cases b:y<x
 ·rw[jt b];simp;omega
 rw[jw b];simp;omega
theorem OB{l:jd aL}{i:jb}(f:mD l)(e:i<l.length)(h:∀t,t<i->(l.getD t de).dev<d)(j:d<=(l.getD i de).dev):cL l d=(cE (l.getD i de).dev d==0):=by
 rw[J4]
 by_cases he:(l.getD i de).dev=d
 ·rw[jS he]
  unfold cL;refine r6.2 ⟨l.getD i de,?_,by simpa using he⟩;rw[fu _ e];exact qJ e
 rw[decide_eq_false he];unfold cL;rw[qj];intro x c;obtain⟨t,b,rfl⟩:=qi c;have c:l[t].dev≠d->¬((l[t].dev==d)=jm):=λh=>by simpa using h
 apply c
 rcases Nat.lt_trichotomy t i with a|a|a
 ·have:=h t a;rw[fu _ b]at this;omega
 ·subst a;rw[fu _ b]at he;exact he
 have g:=f i t a b;rw[fu _ b]at g;omega
theorem S0(l:jd aL)(f:mD l)(v:jj)(d:N)(w:jh)(h:og w v l)(U:l.length<=1000000):
 jq jl 128 #[v,T A d,.func (.func 129) #[] #[]] w λe w'=>e=jp (jE #[T A (ma l d:jb),.bool (cL l d)])/\jk w w w':=by
 obtain⟨p,c,rfl,u,s⟩:=h.cells;have R:=O s;have M:=O f;obtain⟨n,b⟩:=J l.length;have a:=O b;rw[<-b]at U u⊢;clear s f h b;have EG:∀args w,(o8 129 args).run jl w=.ok (.enter 129 args) w:=λ_ _=>rfl
 go_enter func128,ntmps128
 go_wp2_with fail
 go_loopw [9,10] (λs9 b wr=>∃i j:jb,s9=T A i/\b=T A j/\i<=j/\j<=n/\jf ((∀t,t<i->(l.getD t de).dev<d)/\∀t,j<=t->t<n->d<=(l.getD t de).dev)/\jf (jk w w wr)) (λs9 b _=>(jv b-jv s9).toNat)
 case atStart=>exact⟨0,n,I,I,j6 _,ju _,O ⟨λt P=>jB P Y,λt z F=>jB z Y⟩,O (jK _ _)⟩
 obtain⟨i,j,rfl,rfl,aa,V,x,b⟩:=hrel
 by_cases ad:i<j
 ·have W:=aA ((i:N)<(j:N))
  obtain⟨m,q⟩:∃m:jb,m=(i+j)/2:=⟨_,I⟩;have au:i<=m:=Y;have YO:m<j:=Y;have e1:((i:N)+(j:N))/2=(m:N):=Y;obtain⟨g,o,rfl,s⟩:=R.out (by rw[<-a];omega);obtain⟨f,h,k⟩:=s m (by rw[<-a];omega);replace f:=aB f b;replace h:=aB h b;replace k:=aB k b;have r:=O (C7 (l.getD m de) d);obtain⟨md,B,C,y⟩:∃md B C,l.getD m de=⟨md,B,C⟩:=⟨_,_,_,I⟩;rw[y]at f h k r;have X:=O y;unfold aL.cells at r;clear s q y
  go_wp2_with fail
  refine(r wr).mono ?_;rintro e w1 ⟨rfl,D⟩;have H:=ah b D;clear D r f h k;obtain⟨q,E⟩:=J (cE md d);rw[<-E];have S:=O x;have K:(l.getD m de).dev=md:=by rw[X]
  by_cases u:md<d
  ·obtain rfl:q= -1:=by rw[E,cE,jt u]
   have Q:jf ((∀t,t<m+1->(l.getD t de).dev<d)/\∀t,j<=t->t<n->d<=(l.getD t de).dev):=O ⟨λt P=>Int.lt_of_le_of_lt (yQ M (show t<=m by omega) (by rw[<-a];omega)) (by rw[K];exact u),S.2⟩;clear E u K
   go_wp2_with fail
   exact⟨⟨m+1,j,by go_num,rfl,by omega,by omega,Q,H⟩,by simp only[jv];omega⟩
  have ax:0<=q:=by rw[E,cE,jw u];split<;>omega
  have hd3:=az (q<0);have Q:jf ((∀t,t<i->(l.getD t de).dev<d)/\∀t,m<=t->t<n->d<=(l.getD t de).dev):=O ⟨S.1,λt z F=>Int.le_trans (show d<=(l.getD m de).dev by rw[K];omega) (yQ M z (by rw[<-a];exact F))⟩;clear E u K
  go_wp2_with fail
  exact⟨⟨i,m,I,by go_num,by omega,by omega,Q,H⟩,by simp only[jv];omega⟩
 obtain rfl:i=j:=Y;have W:decide ((i:N)<(i:N))=ji:=by simp
 have q:ma l d=i:=AF d l i (by rw[<-a];exact V) x.1 (λt z F=>x.2 t z (by rw[a];exact F))
 by_cases E:i<n
 ·have hd2:=aA ((i:N)<(n:N))
  obtain⟨g,o,rfl,s⟩:=R.out (by rw[<-a];omega);obtain⟨f,h,k⟩:=s i (by rw[<-a];omega);replace f:=aB f b;replace h:=aB h b;replace k:=aB k b;have r:=O (C7 (l.getD i de) d);have m:=OB (l:=l) (d:=d) (i:=i) M.out (by rw[<-a];exact E) x.1 (x.2 i (ju _) E);obtain⟨md,B,C,y⟩:∃md B C,l.getD i de=⟨md,B,C⟩:=⟨_,_,_,I⟩;rw[y]at f h k r m;have K:jf (cL l d=(cE md d==0)):=O m;have Q:=O q;unfold aL.cells at r;clear s y m q
  go_wp2_with fail
  refine(r wr).mono ?_;rintro e w1 ⟨rfl,D⟩;have H:=ah b D;clear D r f h k
  go_wp2_with fail
  go_ret2;exact⟨CS (js (λn:jb=>jo .i64 (n:N)) Q.symm) (js qu K.symm),H⟩
 have hd2:=az ((i:N)<(n:N));have m:cL l d=ji:=L4 (λt P=>x.1 t (by rw[a]at E;omega));have K:=O m;have Q:=O q;clear m q
 go_wp2_with fail
 go_ret2;exact⟨CS (js (λn:jb=>jo .i64 (n:N)) Q.symm) (js qu K.symm),b⟩
section
variable{a b e f:jb}{W w:jh}
open Go.RowKit Go.Maps Go.Sort
theorem eB{P:jX}{b:jD j0}{c:Exit->Act->jh->Prop}{a:Act}{w:jh}{d:jd j0}{o:j0}{v:jj}(e:Region.wanted o (yielded b a.tmps)=jm)
 (h:(execOp a.eval o).run P w=.ok (.value v) w) (f:wpList P b c d (a.put o.dst v) w):wpList P b c (o::d) a w:=
 wpList_step λK k=>by
  rw[jt e];unfold Oper.wp;rw[h];exact k _ _ f
theorem iu{a b:jF}(h:a=b):Ending.returned (.bool a)=jp (.bool b):=by rw[h]
theorem Tk(n m:N):(n !=m)=decide (n≠m):=by by_cases h:n=m<;>simp[h]
theorem yW{d b:jj}(h:d=b):Ending.returned d=jp b:=by rw[h]
structure EK(α:Type) where
 cells:α->jd jj
 k:jb
 t:jI
 pos:0<k
 len:∀x,(cells x).length=k
 one:∀x,∀v∈cells x,v.oneCell'=jm
section
variable {α:Type} (E:EK α)
def EK.flat(l:jd α):jd jj:=l.flatMap E.cells
theorem EK.flat_length(l:jd α):(E.flat l).length=l.length*E.k:=by
 unfold EK.flat;exact Go.Proofs.YtjbiancnijgmgaaGreatDoor.flat_length E.cells E.k E.len l
theorem EK.flat_append(l m:jd α):E.flat (l++m)=E.flat l++E.flat m:=by unfold EK.flat;exact List.flatMap_append
theorem EK.flat_one(x:α):E.flat [x]=E.cells x:=by simp[EK.flat]
theorem EK.flat_cons(x:α)(l:jd α):E.flat (x::l)=E.cells x++E.flat l:=by simp[EK.flat]
theorem EK.flat_get(l:jd α)(j i:jb)(x:α)(h:l[j]?=ja x)(a:i<E.k):(E.flat l)[j*E.k+i]?=(E.cells x)[i]?:=
 Go.Proofs.YtjbiancnijgmgaaGreatDoor.flat_get E.cells E.k E.len l j i x h a
theorem EK.flat_take(l:jd α)(i:jb):E.flat (l.take i)=(E.flat l).take (i*E.k):=by
 rcases qk i l.length with h|h
 ·have a:(E.flat (l.take i)).length=i*E.k:=by rw[E.flat_length,mz,qf (xm h)]
  have:=List.take_left' (l₂:=E.flat (l.drop i)) a;rw[<-E.flat_append,xn]at this;exact this.symm
 rw[jU h,jU (by rw[E.flat_length];exact ql _ h)]
theorem EK.flat_drop(l:jd α)(i:jb):E.flat (l.drop i)=(E.flat l).drop (i*E.k):=by
 rcases qk i l.length with h|h
 ·have a:(E.flat (l.take i)).length=i*E.k:=by rw[E.flat_length,mz,qf (xm h)]
  have:=List.drop_left' (l₂:=E.flat (l.drop i)) a;rw[<-E.flat_append,xn]at this;exact this.symm
 rw[xe h,xe (by rw[E.flat_length];exact ql _ h)]
 rfl
theorem EK.flat_one'(l:jd α):∀u∈E.flat l,u.oneCell'=jm:=by
 intro u a;unfold EK.flat at a;obtain⟨x,-,b⟩:=xY.1 a;exact E.one x u b
theorem EK.flat_set{d:jd α}{e:α}(i:a<d.length):E.flat (d.set a e)=(E.flat d).take (a*E.k)++E.cells e++(E.flat d).drop (a*E.k+E.k):=by
 rw[List.set_eq_take_append_cons_drop,jt i,E.flat_append,E.flat_cons,E.flat_take,E.flat_drop,show(a+1)*E.k=a*E.k+E.k by rw[Nat.add_mul];omega,n0]
def EK.At(w:jh)(v:jj)(l:jd α):Prop:=cF w v E.k l.length (E.flat l)
variable {E}
theorem EK.At.below{w':jh}{v:jj}{l:jd α}(h:E.At w v l)(a:jk w w w'):E.At w' v l:=cF.below h a
theorem EK.At.of_own{B:jb}{v:jj}{l:jd α}(h:w.ownsRow B E.t E.k v l.length (E.flat l)):E.At w v l:=cF.of_own h
theorem EK.At.of_sl{D:jb->Prop}{v:jj}{l:jd α}(h:aH D w v E.k l.length (E.flat l)):E.At w v l:=h.row
theorem EK.At.form{d:jj}{l:jd α}(h:E.At w d l):∃p c,d=jg p l.length c/\l.length<=c/\(p=jc->c=0):=by
 obtain⟨_,p,c,e,a,b,_⟩:=h;exact⟨p,c,e,a,b⟩
theorem EK.At.nil:E.At w (jg jc 0 0) []:=⟨by simp[EK.flat],jc,0,I,ju _,λ_=>rfl,λh=>jB h (Nat.lt_irrefl _)⟩
theorem EK.At.cells{p:jP j7}{n c:jb}{l:jd α}(h:E.At w (jg p n c) l):n=l.length/\n<=c/\(0<n->∃g o,p=ja ⟨g,o,jc⟩/\∀j x,l[j]?=ja x->∀i u,(E.cells x)[i]?=ja u->w.cell? ⟨g,o+j*E.k+i,jc⟩=ja u):=by
 obtain⟨_,v,y,e,b,z,d⟩:=h;injection e with f k m
 subst f;subst k;subst m;refine⟨I,b,λq=>?_⟩;obtain⟨g,o,e,r⟩:=d q;refine⟨g,o,e,λj x s i u a=>?_⟩;have t:i<E.k:=by rw[<-E.len x];exact(o3.1 a).1
 rw[Nat.add_assoc];exact r (j*E.k+i) u ((E.flat_get l j i x s t).trans a)
theorem dL{l:jd α}{j:jb}(h:j<l.length):∃x,l[j]?=ja x/\l.take (j+1)=l.take j++[x]:=
 ⟨l[j],ms h,qt h⟩
variable (E)
structure du(a:jb)(w W:jh)(g n c:jb)(d:jd α):Prop where
 own:W.ownsRow a E.t E.k (jg (ja ⟨g,0,jc⟩) n c) n (E.flat d)
 len:n=d.length
 bel:jk a w W
 sz:a<=w.heap.size
variable {E}
theorem du.later{g:jh}{d:jd α}(h:du E a w W b e f d)(n:jk W W g):du E a w g b e f d:=
 ⟨cK h.own n,h.len,h.bel.trans (n.mono (jL h.sz (cT h.bel.size))),h.sz⟩
theorem du.lt{d:jd α}(h:du E a w W b e f d):a<=b/\b<W.heap.size:=h.own.lt b I
theorem du.cap{d:jd α}(h:du E a w W b e f d):e<=f:=by
 rcases h.own.2 with⟨n,_⟩|⟨g',i,j,n,k,l,g,_⟩
 ·cases n
 injection n with m o c
 subst c;exact g
theorem du.at{g n c:jb}{d:jd α}(h:du E a w W g n c d):E.At W (jg (ja ⟨g,0,jc⟩) n c) d:=EK.At.of_own (by rw[<-h.len];exact h.own)
theorem iP{g:jb}(h:jk a w W)(c:a<=g)(b:jD jj):jk a w (W.setRow g b):=
 h.trans ⟨rfl,rfl,rfl,by simp[qU],λk d=>jY _ _ _ _ Y⟩
theorem du.store{P:jX}{i:jb}{d:jd α}(h:du E a w W b e f d)(r:i<e)(n:α)(m:jI)(s:(P.info? m).map (·.size)=ja E.k):
 ∃j,(storeVar m ⟨b,0+i*E.k,jc⟩ (jn (E.cells n).toArray)).run P W=.ok () j/\du E a w j b e f (d.set i n)/\(∀k,k≠b->j.heap[k]?=W.heap[k]?)/\W.heap.size<=j.heap.size:=by
 obtain⟨R,z⟩:=h.own
 rcases z with⟨o,_⟩|⟨g',S,q,o,t,u,v,B,x,C⟩
 ·cases o
 injection o with c U D
 injection c with c
 injection c with c
 subst c;subst D;have V:i*E.k+E.k<=e*E.k:=by rw[<-Nat.succ_mul];exact ql _ r
 have F:e*E.k<=f*E.k:=ql _ v;have X:e*E.k<=q.size:=by rw[x];exact F
 have g:(E.cells n).length=E.k:=E.len n;have y:(storeCells ⟨b,i*E.k,jc⟩ (E.cells n) 0).run P W=.ok () (W.setRow b (q.toList.take (i*E.k)++E.cells n++q.toList.drop (i*E.k+(E.cells n).length)).toArray):=
  run_storeCells_at (P:=P) b (i*E.k) E.t (E.cells n) 0 q W u (by rw[g];omega) (E.one n)
 have p:q.toList.length=f*E.k:=by rw[qd];exact x
 rw[g]at y;refine⟨W.setRow b (q.toList.take (i*E.k)++E.cells n++q.toList.drop (i*E.k+E.k)).toArray,?_,⟨⟨by rw[E.flat_length,r7,<-h.len],.inr ⟨b,f,(q.toList.take (i*E.k)++E.cells n++q.toList.drop (i*E.k+E.k)).toArray,I,t,jR _ _ _ _ _ _ u,v,B,?_,?_⟩⟩,by rw[r7];exact h.len,iP h.bel t _,h.sz⟩,λk H=>jY _ _ _ _ H,by simp[qU]⟩
 ·cases hq:P.info? m with
  |none=>simp[hq]at s
  |some K=>
   have M:K.size=E.k:=by simpa [hq]using s
   rw[jM];have Q:(xi (E.cells n).toArray).cells=(E.cells n).toArray:=I;simp[storeVar,sizeOf,typeInfo,hq,Q,M,g,y]
 ·simp only[jJ,jH,mz,xZ,p,g]
  omega
 rw[E.flat_set (by rw[<-h.len];exact r),<-C];show List.take (e*E.k) (q.toList.take (i*E.k)++E.cells n++q.toList.drop (i*E.k+E.k))=_;rw[xo,qf Y,List.take_append,jU (l:=q.toList.take (i*E.k)++E.cells n) (by simp only[jH,mz,p,g];omega),List.drop_take];simp only[jH,mz,p,g];rw[qf Y]
theorem Da{P:jX}{f:j0}{a:Act}{w:jh}{K:Act->jh->Prop}{m:Exit->Act->jh->Prop}(j:jI)(x y:qQ)(o:f.op=.store j x y)
 {l:jb} {W:jh} {g n c i:jb} {d:jd α} (h:du E l W w g n c d) (p:i<n) (e:α) (q:(P.info? j).map (·.size)=ja E.k)
 (r:a.eval x=jz (ja ⟨g,0+i*E.k,jc⟩)) (s:a.eval y=jn (E.cells e).toArray)
 (t:∀b,du E l W b g n c (d.set i e)->(∀k,k≠g->b.heap[k]?=w.heap[k]?)->w.heap.size<=b.heap.size->K (a.put f.dst jN) b):f.wp P a w K m:=by
 obtain⟨b,k,u,v,z⟩:=h.store p e j q;unfold Oper.wp execOp;simp only[o,r,s,Instr.storeAt,Instr.sureAddr,Sem.run_bind,Sem.run_pure,Result.andThen_ok,k];exact t b u v z
theorem du.clear{P:jX}{q:jb}{g n c i:jb}{d:jd α}(h:du E q w W g n c d)(B:i<n)(t e:jI)(C:P.underlying t=ja (.slice e))(z:α)(D:∀w,(zeroValue e).run P w=.ok (jn (E.cells z).toArray) w):
 ∃r,(∀s,(Builtin.clear_ #[t] s #[jg (ja ⟨g,0+i*E.k,jc⟩) (n-i) (c-i)]).run P W=.ok (jE #[]) r)/\du E q w r g i c (d.take i):=by
 obtain⟨U,F⟩:=h.own
 rcases F with⟨o,_⟩|⟨g',V,a,o,u,x,H,K,f,M⟩
 ·cases o
 injection o with b X Q
 injection b with b
 injection b with b
 subst b;subst Q;have y:a.toList.length=c*E.k:=by rw[qd];exact f
 have p:(Builtin.zeroCells (E.cells z).toArray (n-i)).toList.length=(n-i)*E.k:=by
  rw[qd,size_zeroCells,jJ,E.len]
 obtain⟨Z,k⟩:=J ((Builtin.zeroCells (E.cells z).toArray (n-i)).toList);have R:∀v∈Z,v.oneCell'=jm:=by
  intro v l;rw[k]at l;unfold Builtin.zeroCells at l;rw[Array.toList_map]at l;obtain⟨j,-,rfl⟩:=jO.1 l;have f:j%(E.cells z).toArray.size<(E.cells z).toArray.size:=qK _ (by rw[jJ,E.len];exact E.pos);rw[getElem!_pos (E.cells z).toArray _ f];exact E.one z _ ar
 rw[<-k]at p;have aa:(n-i)*E.k=n*E.k-i*E.k:=Nat.sub_mul n i E.k;have ad:n*E.k<=c*E.k:=ql _ H;have au:i*E.k<=n*E.k:=ql _ (xm B);have j:(storeCells ⟨g,i*E.k,jc⟩ Z 0).run P W=.ok () (W.setRow g (a.toList.take (i*E.k)++Z++a.toList.drop (i*E.k+Z.length)).toArray):=
  run_storeCells_at (P:=P) g (i*E.k) E.t Z 0 a W x (by rw[p,f];omega) R
 refine⟨W.setRow g (a.toList.take (i*E.k)++Z++a.toList.drop (i*E.k+Z.length)).toArray,?_,⟨⟨by rw[E.flat_length,mz,<-h.len,qf Y],.inr ⟨g,c,(a.toList.take (i*E.k)++Z++a.toList.drop (i*E.k+Z.length)).toArray,I,u,jR _ _ _ _ _ _ x,by omega,K,?_,?_⟩⟩,by rw[mz,<-h.len,qf Y],iP h.bel u _,h.sz⟩⟩
 ·obtain⟨m,l⟩:∃m,n-i=m+1:=⟨n-i-1,by omega⟩
  have S:(xi (E.cells z).toArray).cells=(E.cells z).toArray:=I;intro s;rw[jM];rw[l]at k⊢;simp[Builtin.clear_,wq C,D,S,<-k,j]
 ·simp only[jJ,jH,mz,xZ,y,p]
  omega
 show List.take (i*E.k) (a.toList.take (i*E.k)++Z++a.toList.drop (i*E.k+Z.length))=_;rw[E.flat_take,<-M,xo,n0,List.take_append_of_le_length (by simp only[mz,y];omega),xo,Nat.min_self,qf Y]
end
theorem eh{p q:Prop}(k:q)(h:q->p:=by intro k;refine eB (v:=?_) (by rfl) ?_ ?_;rotate_left;(go_simp;with_reducible rfl);refine L ?_;exact k):p:=h k
end
section
variable{p:aL->jF}{d:ap->jF}{a:jD jj}{F b:jb}{t:jh->Prop}
open Go.RowKit Go.Maps Go.Sort
theorem Dp{P:jX}(t e:jI)(k:jb)(b:P.underlying t=ja (.slice e))(d:∀w,(sizeOf e).run P w=.ok k w)(g o n c l:jb)(f:l<=n)(i:n<=c):
 ∃a,(0<n-l->a=⟨g,o+l*k,jc⟩)/\∀W,(Instr.sliceAt t (jg (ja ⟨g,o,jc⟩) n c) (ja (T A (l:N))) jc jc).run P W=.ok (jg (ja a) (n-l) (c-l)) W:=by
 have he:P.elem t=e:=by simp[Program.elem,b]
 refine⟨if c=l then⟨g,o,jc⟩else⟨g,o+l*k,jc⟩,λh=>by rw[jw Y],λW=>?_⟩;rw[run_sliceAt_slice W t _ _ _ _ (by rw[he];exact b),run_slice_l W t _ n c (by rw[he];exact b) .i64 _ Y Y,he];simp[d,Result.andThen,sliced,Addr.add]
 by_cases h:c=l
 ·simp[h]
 simp[h]
theorem Fq{P:jX}(t e:jI)(k:jb)(a:P.underlying t=ja (.slice e))(b:∀w,(sizeOf e).run P w=.ok k w)(g o n c h:jb)(d:h<=c)(W:jh):
 (Instr.sliceAt t (jg (ja ⟨g,o,jc⟩) n c) jc (ja (T A (h:N))) jc).run P W=.ok (jg (ja ⟨g,o,jc⟩) h c) W:=by
 have he:P.elem t=e:=by simp[Program.elem,a]
 rw[run_sliceAt_slice W t _ _ _ _ (by rw[he];exact a),run_slice_h W t _ n c (by rw[he];exact a) .i64 _ Y Y,he];simp[b,Result.andThen,sliced,Addr.add]
section
variable {α:Type}
structure fU(E:EK α)(F:jb)(caps:jD jj)(a:jb)(b:jh->Prop)(p:α->jF):Prop where
 enter:∀args w,(o8 F args).run jl w=.ok (.enter F args) w
 keep:∀w w',a<=w.heap.size->b w->jk a w w'->b w'
 call:∀x w,a<=w.heap.size->b w->jq jl F (#[jn (E.cells x).toArray]++caps) w λe w'=>e=jp (.bool (p x))/\jk w w w'
def m9(p:α->jF)(l:jd α)(r:N):Prop:=(r= -1/\∀x∈l,p x=ji)\/∃(k:jb) (x:α),r=k/\l[k]?=ja x/\p x=jm/\∀y∈l.take k,p y=ji
theorem m9.any{p:α->jF}{l:jd α}{r:N}(h:m9 p l r):decide (0<=r)=l.any p:=by
 rcases h with⟨rfl,h⟩|⟨k,x,rfl,a,b,d⟩
 ·have:l.any p=ji:=by rw[qj];intro x c;rw[h x c];simp
  rw[this];decide
 have:l.any p=jm:=r6.2 ⟨x,j1 a,b⟩;rw[this];simp
theorem wL{p:α->jF}{l:jd α}(h:∀x∈l,p x=ji):l.filter (λx=> !p x)=l:=
 List.filter_eq_self.2 λx a=>by rw[h x a];rfl
end
def Eh:ap:=⟨0,0,0,0,0⟩
def EM:EK aL:=⟨aL.cells,3,103,by decide,λ_=>rfl,λx v a=>by simp[aL.cells]at a;rcases a with rfl|rfl|rfl<;>rfl⟩
def EC:EK ap:=⟨ap.cells,5,56,by decide,λ_=>rfl,λx v a=>by simp[ap.cells]at a;rcases a with rfl|rfl|rfl|rfl|rfl<;>rfl⟩
theorem Ma:(jl.info? 103).map (·.size)=ja 3:=by kernel_rfl
theorem Pb:(jl.info? 56).map (·.size)=ja 5:=by kernel_rfl
theorem Cu:(jl.info? 103).map (λi=>(i.zero,i.size,i.bytes))=ja (ja (jn #[T A 0,T A 0,T A 0]),3,24):=by kernel_rfl
theorem Q3:(jl.info? 56).map (λi=>(i.zero,i.size,i.bytes))=ja (ja (jn #[T A 0,T A 0,T A 0,T A 0,T A 0]),5,40):=by kernel_rfl
theorem oC{P:jX}{t:jI}{z:jj}(h:(P.info? t).map (λi=>(i.zero,i.size,i.bytes))=ja (ja z,F,b)):∃i,P.info? t=ja i/\i.zero=ja z/\i.size=F/\i.bytes=b:=by
 cases hi:P.info? t with
 |none=>rw[hi]at h;cases h
 |some i=>
  rw[hi]at h;simp only[xh,Option.some.injEq,Prod.mk.injEq]at h;exact⟨i,I,h.1,h.2.1,h.2.2⟩
theorem z7(caps:fU EM F a b t p)(l:jd aL)(v:jj)(w:jh)(h:EM.At w v l)(d:t w)(g:b<=w.heap.size)(K:l.length<=1000000):
 jq jl 87 #[v,.func (.func F) #[] a] w λe w'=>∃r,e=jp (T A r)/\m9 p l r/\jk w w w':=by
 obtain⟨q,c,rfl,M,-⟩:=h.form;have u:=O h;have EG:=caps.enter;have z:=O caps;have P:=O d;have f:=O g;obtain⟨n,s⟩:=J l.length;have B:=O s;rw[<-s]at K M u⊢;clear h s caps d g
 go_enter func87,ntmps87
 go_wp2_with fail
 go_loopw [8] (λi wr=>∃k:jb,i=T A k/\k<=n/\jf (∀y∈l.take k,p y=ji)/\jf (jk w w wr)) (λi _=>n-(jv i).toNat)
 case atStart=>exact⟨0,I,j6 _,O ar,O (jK _ _)⟩
 obtain⟨k,rfl,hk,i,caps⟩:=hrel
 by_cases Q:k<n
 ·have R:=aA ((k:N)<(n:N))
  have S:=aA (k<n);obtain⟨e,he,x⟩:=dL (l:=l) (j:=k) (by rw[<-B];exact Q);obtain⟨g,o,rfl,d⟩:=(u.cells).2.2 Y;have s:=O (z.call e wr (jL f caps.size) (z.keep _ _ f.out P (caps.mono f)));obtain⟨r,m⟩:=J (p e);rw[<-m]at s;have C:=O m;have U:=O x;have V:=O he;obtain⟨D,E,H⟩:=e;have W:wr.cell? ⟨g,o+k*3,jc⟩=ja (T A D):=aB (d k _ he 0 _ I) caps;have X:wr.cell? ⟨g,o+k*3+1,jc⟩=ja (T A E):=aB (d k _ he 1 _ I) caps;have c2:wr.cell? ⟨g,o+k*3+2,jc⟩=ja (T A H):=aB (d k _ he 2 _ I) caps;replace s:jf (jq jl F (#[jn #[T A D,T A E,T A H]]++a) wr λe w'=>e=jp (.bool r)/\jk wr wr w'):=s;clear d he x m
  go_wp2_with fail
  refine(s).mono ?_;rintro x w1 ⟨rfl,d⟩;have m:=ah caps d;clear d s W X c2
  rcases r with _|_
  ·go_wp2_with fail
   exact⟨⟨k+1,by go_num,by omega,O (by
    rw[U];intro y s
    rcases o5.1 s with s|s
    ·exact i y s
    rw[qv]at s;rw[s];exact C.symm),m⟩,by simp only[jv];omega⟩
  go_wp2_with fail
  go_ret;exact⟨_,I,.inr ⟨k,_,I,V,C.symm,i⟩,m⟩
 have R:=az ((k:N)<(n:N));have S:=az (k<n);obtain rfl:k=n:=Y
 go_wp2_with fail
 go_ret;exact⟨_,I,.inl ⟨I,by have h:=i.out;rw[jU (by rw[<-B];exact ju _)]at h;exact h⟩,caps⟩
theorem Au(i:fU EM F a b t p)(l:jd aL)(v:jj)(w:jh)(h:EM.At w v l)(c:t w)(d:b<=w.heap.size)(f:l.length<=1000000):
 jq jl 53 #[v,.func (.func F) #[] a] w λe w'=>e=jp (.bool (l.any p))/\jk w w w':=by
 have g:=O (z7 i l v w h c d f);clear h c d f
 go_enter func53,ntmps53
 go_wp2_with fail
 refine(g).mono ?_;rintro x j ⟨r,rfl,c,d⟩;have f:=O c.any;have h:=O d;clear c d g
 go_wp2_with fail
 go_ret;exact⟨iu f,h⟩
theorem PR(l:jd aL)(v:jj)(w:jh)(d:EM.At w v l)(o:l.length<=1000000):
 jq jl 39 #[v] w λe w'=>∃u,e=jp u/\w'.ownsRow w EM.t EM.k u l.length (EM.flat l)/\jk w w w':=by
 obtain⟨p,c,rfl,q,h⟩:=d.form;obtain⟨r,s,t,x,y⟩:=oC Cu;have E:∀(w:jh) (a:jP j7) (n c n' f:jb),(binOp .eql 40 (jg a n c) (jg jc n' f)).run jl w=.ok (.bool a.isNone) w:=λw a n c n' f=>Lib.run_eql_slice_nil w _ _ a n c n' f qD
 rcases p with _|a
 ·have i:=h I
  have b:l.length=0:=Y;have g:l=[]:=yl.1 b;subst g
  go_enter func39,ntmps39
  go_wp2_with fail
  go_ret;exact⟨_,I,nn _ _ _ _,jK _ _⟩
 obtain⟨n,i⟩:=J l.length;have b:=O (d.below (ao w (je #[] EM.t)));have g:=O (ym (base:=w.heap.size) (size:=EM.k) (e:=EM.t) w #[] 0 (ju _) (by unfold pz;omega) ar);have k:=O (ao w (je #[] EM.t));unfold EK.At at b;rw[<-i]at q o b⊢;clear d i h
 go_enter func39,ntmps39
 go_wp2_with (at_builtin;refine Hid.out ?_)
 refine O ?_;refine j3 I λ_ h=>?_
 refine IN _ _ 40 I w.heap.size 103 r (jn #[T A 0,T A 0,T A 0]) 3 24 qD s t x y I G _ _ _ I g _ _ _ I b (EM.flat_one' _) (by unfold pz;omega) Y (by rw[j8];omega) ?_;intro z i d m;have B:jf (i.ownsRow w EM.t EM.k z n (EM.flat l)):=O (by rw[jM]at d;exact d);have C:jf (jk w w i):=O (k.grown m (by rw[j8];omega) (λj D=>by have:=(g.lt j D).1;omega));clear d m g k b;refine h _ _ ?_;clear h
 go_wp2_with fail
 go_ret;exact⟨_,I,B,C⟩
theorem Of(caps:fU EM F a b t p)(l:jd aL)(g n c:jb)(w:jh)(h:du EM b w w g n c l)(d:t w)(hl:n<=1000000):
 jq jl 38 #[jg (ja ⟨g,0,jc⟩) n c,.func (.func F) #[] a] w λe w'=>∃n',e=jp (jg (ja ⟨g,0,jc⟩) n' c)/\du EM b w w' g n' c (l.filter λx=> !p x):=by
 have i:=O h;have j:=O (z7 caps l (jg (ja ⟨g,0,jc⟩) n c) w h.at d h.sz (by rw[<-h.len];exact hl));have ay:=h.cap;have C:=O h.len;have EG:=caps.enter;have HP:=O caps;have a1:=O d;have Vj:=O h.sz;clear h caps d
 go_enter func38,ntmps38
 go_wp2_with fail
 refine(j).mono ?_;rintro e w1 ⟨r,rfl,o,f⟩;have ad:=O (i.later f);clear f j i
 rcases o with⟨rfl,au⟩|⟨k,e,rfl,he,d,i⟩
 ·have caps:=O (wL au)
  clear au
  go_wp2_with fail
  go_ret;exact⟨_,I,by rw[caps];exact ad⟩
 have a2:k<n:=by rw[C];exact(o3.1 he).1
 have a3:jf (l.take k=(l.take (k+1)).filter (λx=> !p x)):=O (by
  obtain⟨m,caps,q⟩:=dL (l:=l) (j:=k) (by rw[<-C];exact a2);rw[he]at caps;injection caps with caps
  subst caps;rw[q,qw,wL i,r8 (by rw[d];simp),qx,ob])
 have bc:decide ((k:N)= -1)=ji:=by simp
 have hd2:((k:N)== -1)=ji:=by simp
 clear he d i
 go_wp2_with fail
 go_loopw [5,6] (λm caps wr=>∃(i j:jb) (d:jd aL),m=T A i/\caps=T A j/\i<j/\j<=n/\jf (d.take i=(l.take j).filter (λx=> !p x))/\jf (d.drop j=l.drop j)/\jf (du EM b w wr g n c d)) (λ_ caps _=>n-(jv caps).toNat)
 case atStart=>exact⟨k,k+1,l,I,by go_num,by omega,by omega,a3,O rfl,ad⟩
 obtain⟨i,j,d,rfl,rfl,a4,hj,B,M,m⟩:=hrel
 by_cases Q:j<n
 case neg=>
  obtain rfl:j=n:=Y;have hd:=decide_eq_false (show ¬((j:N)<(j:N)) by omega);have UY:=decide_eq_false Q;obtain⟨E,s,z⟩:=Dp (P:=jl) 40 103 3 qD sizeOf103 g 0 j c i Y ay;rw[s Y,jM]at z;have H:=Fq (P:=jl) 40 103 3 qD sizeOf103 g 0 j c i Y;obtain⟨v,caps,u⟩:=m.clear (P:=jl) a4 40 103 qD de zeroValue103;rw[jM]at caps;have D:jf (du EM b w v g i c (l.filter λx=> !p x)):=O (by
   have y:=B.out;rw[jU (l:=l) (by rw[<-C];exact ju _)]at y;rw[<-y];exact u)
  replace caps:∀y,(Builtin.clear_ #[40] y #[jg (ja ⟨g,i*3,jc⟩) (j-i) (c-i)]).run jl wr=.ok (jE #[]) v:=caps;clear u s
  go_wp2_with fail
  go_ret;exact⟨_,I,D⟩
 have hd:=jS (show((j:N)<(n:N)) by omega);have UY:=jS Q;obtain⟨e,he,q⟩:=dL (l:=l) (j:=j) (by rw[<-C];exact Q);have D:d[j]?=ja e:=by
  have h:=js (λz:jd aL=>z[0]?) M;simp only[yn,r9]at h;rw[h];exact he
 have R:d.drop (j+1)=l.drop (j+1):=by
  have h:=js (List.drop 1) M;rw[sh,sh]at h;exact h
 have a5:i<n:=Y;have a6:=m.len;have z:jf (p e=jm->d.take i=(l.take (j+1)).filter (λx=> !p x)):=O λS=>by
  rw[q,qw,r8 (by rw[S];simp),qx,ob];exact B
 have E:jf (p e=ji->(d.set i e).take (i+1)=(l.take (j+1)).filter (λx=> !p x)):=O λS=>by
  rw[q,qw,yt (by rw[S];rfl),qx,<-B,qt (by rw[r7];omega),zm,xa (ju _)]
 have ax:jf ((d.set i e).drop (j+1)=l.drop (j+1)):=O (by rw[xd Y];exact R);have YE:=O R;obtain⟨ga,oa,U,H⟩:=(m.at.cells).2.2 Y;injection U with U
 injection U with ba bb
 subst ba;subst bb;have V:=ao wr (je (EM.cells e).toArray 103);have X:=jy wr (je (EM.cells e).toArray 103);obtain⟨r,o⟩:=J (p e);have K:jf (∀W,b<=W.heap.size->t W->jq jl F (#[jn (EM.cells e).toArray]++a) W λx w'=>x=jp (.bool r)/\jk W W w'):=O (by rw[o];exact HP.call e);have HR:=O o;obtain⟨B0,aa⟩:∃y:aL,y=e:=⟨_,I⟩;have Z2:=O aa;rw[<-aa]at z E ax HR V X;have HA:=O V;have caps:=O X;obtain⟨s,v,u⟩:=e;have c0:wr.cell? ⟨g,j*3,jc⟩=ja (T A s):=by have h:=H j _ D 0 _ I;rw[jM]at h;exact h
 have c1:wr.cell? ⟨g,j*3+1,jc⟩=ja (T A v):=by have h:=H j _ D 1 _ I;rw[jM]at h;exact h
 have c2:wr.cell? ⟨g,j*3+2,jc⟩=ja (T A u):=by have h:=H j _ D 2 _ I;rw[jM]at h;exact h
 replace K:jf (∀W,b<=W.heap.size->t W->jq jl F (#[jn #[T A s,T A v,T A u]]++a) W λx w'=>x=jp (.bool r)/\jk W W w'):=K;clear he q D R a6 B M H o V X aa
 go_upto_region 8 with fail
 obtain⟨B,f⟩:=J wr.heap.size;have M:wr.alloc (je #[T A s,T A v,T A u] 103)=wr.alloc (je (EM.cells B0).toArray 103):=by rw[Z2];rfl
 rw[M,<-f];rw[<-f]at caps;obtain⟨H,R⟩:=J (wr.alloc (je (EM.cells B0).toArray 103));rw[<-R]at HA caps⊢;have D:=O (m.later HA);have aa:B<H.heap.size:=(jG.1 caps).1;have a6:g≠B:=by have:=m.lt;omega
 have V:=O (HP.keep _ _ Vj.out a1 D.bel);have W:jf (b<=H.heap.size):=O (jL Vj D.bel.size);rw[Z2]at caps;replace caps:jf (H.heap[B]?=ja (je #[T A s,T A v,T A u] 103 (0,0))):=caps;have X:=ai (i:=0) caps I;have b1:=ai (i:=1) caps I;have b2:=ai (i:=2) caps I;clear M f R m HA c0 c1 c2
 go_wp2_with fail
 refine(K _ W.out V).mono ?_;rintro x R ⟨rfl,f⟩;have M:=O (D.later f);have m:=O ((f.block B aa).trans caps);clear K D caps f V W X b1 b2
 cases r with
 |true=>
  have caps:=O (z HR.symm);clear z E
  go_wp2_with fail
  exact⟨⟨i,j+1,d,I,by go_num,by omega,by omega,caps,YE,M⟩,by simp only[jv];omega⟩
 |false=>
  have caps:=O (E HR.symm);clear z E;have X:=ai (i:=0) m I;have b1:=ai (i:=1) m I;have b2:=ai (i:=2) m I;have hd3:=jS (show((i:N)<(n:N)) by omega)
  go_wp2_with (refine j3 I λ_ f=>Da 103 _ _ I M a5 ⟨s,v,u⟩ Ma (by rw[jM];rfl) I λz D E K=>f _ _ ?_)
  have f:jf (du EM b w z g n c (d.set i B0)):=O (by rw[Z2];exact D);exact⟨⟨i+1,j+1,d.set i B0,by go_num,by go_num,by omega,by omega,caps,ax,f⟩,by simp only[jv];omega⟩
theorem AV(caps:fU EC F a b t d)(l:jd ap)(v:jj)(w:jh)(h:EC.At w v l)(p:t w)(g:b<=w.heap.size)(P:l.length<=1000000):
 jq jl 86 #[v,.func (.func F) #[] a] w λe w'=>∃r,e=jp (T A r)/\m9 d l r/\jk w w w':=by
 obtain⟨q,c,rfl,Q,-⟩:=h.form;have u:=O h;have EG:=caps.enter;have z:=O caps;have R:=O p;have f:=O g;obtain⟨n,s⟩:=J l.length;have B:=O s;rw[<-s]at P Q u⊢;clear h s caps p g
 go_enter func86,ntmps86
 go_wp2_with fail
 go_loopw [8] (λi wr=>∃k:jb,i=T A k/\k<=n/\jf (∀y∈l.take k,d y=ji)/\jf (jk w w wr)) (λi _=>n-(jv i).toNat)
 case atStart=>exact⟨0,I,j6 _,O ar,O (jK _ _)⟩
 obtain⟨k,rfl,hk,i,caps⟩:=hrel
 by_cases S:k<n
 ·have U:=aA ((k:N)<(n:N))
  have V:=aA (k<n);obtain⟨e,he,x⟩:=dL (l:=l) (j:=k) (by rw[<-B];exact S);obtain⟨g,o,rfl,s⟩:=(u.cells).2.2 Y;have p:=O (z.call e wr (jL f caps.size) (z.keep _ _ f.out R (caps.mono f)));obtain⟨r,m⟩:=J (d e);rw[<-m]at p;have C:=O m;have W:=O x;have X:=O he;obtain⟨D,E,H,K,M⟩:=e;have c0:wr.cell? ⟨g,o+k*5,jc⟩=ja (T A D):=aB (s k _ he 0 _ I) caps;have c1:wr.cell? ⟨g,o+k*5+1,jc⟩=ja (T A E):=aB (s k _ he 1 _ I) caps;have c2:wr.cell? ⟨g,o+k*5+2,jc⟩=ja (T A H):=aB (s k _ he 2 _ I) caps;have c3:wr.cell? ⟨g,o+k*5+3,jc⟩=ja (T A K):=aB (s k _ he 3 _ I) caps;have c4:wr.cell? ⟨g,o+k*5+4,jc⟩=ja (T A M):=aB (s k _ he 4 _ I) caps;replace p:jf (jq jl F (#[jn #[T A D,T A E,T A H,T A K,T A M]]++a) wr λe w'=>e=jp (.bool r)/\jk wr wr w'):=p;clear s he x m
  go_wp2_with fail
  refine(p).mono ?_;rintro x w1 ⟨rfl,s⟩;have m:=ah caps s;clear s p c0 c1 c2 c3 c4
  rcases r with _|_
  ·go_wp2_with fail
   exact⟨⟨k+1,by go_num,by omega,O (by
    rw[W];intro y s
    rcases o5.1 s with s|s
    ·exact i y s
    rw[qv]at s;rw[s];exact C.symm),m⟩,by simp only[jv];omega⟩
  go_wp2_with fail
  go_ret;exact⟨_,I,.inr ⟨k,_,I,X,C.symm,i⟩,m⟩
 have U:=az ((k:N)<(n:N));have V:=az (k<n);obtain rfl:k=n:=Y
 go_wp2_with fail
 go_ret;exact⟨_,I,.inl ⟨I,by have h:=i.out;rw[jU (by rw[<-B];exact ju _)]at h;exact h⟩,caps⟩
theorem Bq(i:fU EC F a b t d)(l:jd ap)(v:jj)(w:jh)(h:EC.At w v l)(c:t w)(p:b<=w.heap.size)(f:l.length<=1000000):
 jq jl 36 #[v,.func (.func F) #[] a] w λe w'=>e=jp (.bool (l.any d))/\jk w w w':=by
 have g:=O (AV i l v w h c p f);clear h c p f
 go_enter func36,ntmps36
 go_wp2_with fail
 refine(g).mono ?_;rintro x j ⟨r,rfl,c,p⟩;have f:=O c.any;have h:=O p;clear c p g
 go_wp2_with fail
 go_ret;exact⟨iu f,h⟩
theorem Iw(l:jd ap)(v:jj)(w:jh)(d:EC.At w v l)(o:l.length<=1000000):
 jq jl 70 #[v] w λe w'=>∃u,e=jp u/\w'.ownsRow w EC.t EC.k u l.length (EC.flat l)/\jk w w w':=by
 obtain⟨p,c,rfl,q,h⟩:=d.form;obtain⟨r,s,t,x,y⟩:=oC Q3;have E:∀(w:jh) (a:jP j7) (n c n' f:jb),(binOp .eql 27 (jg a n c) (jg jc n' f)).run jl w=.ok (.bool a.isNone) w:=λw a n c n' f=>Lib.run_eql_slice_nil w _ _ a n c n' f qE
 rcases p with _|a
 ·have i:=h I
  have b:l.length=0:=Y;have g:l=[]:=yl.1 b;subst g
  go_enter func70,ntmps70
  go_wp2_with fail
  go_ret;exact⟨_,I,nn _ _ _ _,jK _ _⟩
 obtain⟨n,i⟩:=J l.length;have b:=O (d.below (ao w (je #[] EC.t)));have g:=O (ym (base:=w.heap.size) (size:=EC.k) (e:=EC.t) w #[] 0 (ju _) (by unfold pz;omega) ar);have k:=O (ao w (je #[] EC.t));unfold EK.At at b;rw[<-i]at q o b⊢;clear d i h
 go_enter func70,ntmps70
 go_wp2_with (at_builtin;refine Hid.out ?_)
 refine O ?_;refine j3 I λ_ h=>?_
 refine IN _ _ 27 I w.heap.size 56 r (jn #[T A 0,T A 0,T A 0,T A 0,T A 0]) 5 40 qE s t x y I G _ _ _ I g _ _ _ I b (EC.flat_one' _) (by unfold pz;omega) Y (by rw[j8];omega) ?_;intro z i d m;have B:jf (i.ownsRow w EC.t EC.k z n (EC.flat l)):=O (by rw[jM]at d;exact d);have C:jf (jk w w i):=O (k.grown m (by rw[j8];omega) (λj D=>by have:=(g.lt j D).1;omega));clear d m g k b;refine h _ _ ?_;clear h
 go_wp2_with fail
 go_ret;exact⟨_,I,B,C⟩
theorem MR(caps:fU EC F a b t d)(l:jd ap)(g n c:jb)(w:jh)(h:du EC b w w g n c l)(p:t w)(hl:n<=1000000):
 jq jl 69 #[jg (ja ⟨g,0,jc⟩) n c,.func (.func F) #[] a] w λe w'=>∃n',e=jp (jg (ja ⟨g,0,jc⟩) n' c)/\du EC b w w' g n' c (l.filter λx=> !d x):=by
 have i:=O h;have j:=O (AV caps l (jg (ja ⟨g,0,jc⟩) n c) w h.at p h.sz (by rw[<-h.len];exact hl));have ay:=h.cap;have H:=O h.len;have EG:=caps.enter;have HP:=O caps;have a1:=O p;have Vj:=O h.sz;clear h caps p
 go_enter func69,ntmps69
 go_wp2_with fail
 refine(j).mono ?_;rintro e w1 ⟨r,rfl,s,f⟩;have ad:=O (i.later f);clear f j i
 rcases s with⟨rfl,au⟩|⟨k,e,rfl,he,p,i⟩
 ·have caps:=O (wL au)
  clear au
  go_wp2_with fail
  go_ret;exact⟨_,I,by rw[caps];exact ad⟩
 have a2:k<n:=by rw[H];exact(o3.1 he).1
 have a3:jf (l.take k=(l.take (k+1)).filter (λx=> !d x)):=O (by
  obtain⟨m,caps,E⟩:=dL (l:=l) (j:=k) (by rw[<-H];exact a2);rw[he]at caps;injection caps with caps
  subst caps;rw[E,qw,wL i,r8 (by rw[p];simp),qx,ob])
 have bc:decide ((k:N)= -1)=ji:=by simp
 have hd2:((k:N)== -1)=ji:=by simp
 clear he p i
 go_wp2_with fail
 go_loopw [5,6] (λm caps wr=>∃(i j:jb) (p:jd ap),m=T A i/\caps=T A j/\i<j/\j<=n/\jf (p.take i=(l.take j).filter (λx=> !d x))/\jf (p.drop j=l.drop j)/\jf (du EC b w wr g n c p)) (λ_ caps _=>n-(jv caps).toNat)
 case atStart=>exact⟨k,k+1,l,I,by go_num,by omega,by omega,a3,O rfl,ad⟩
 obtain⟨i,j,p,rfl,rfl,a4,hj,B,R,m⟩:=hrel
 by_cases S:j<n
 case neg=>
  obtain rfl:j=n:=Y;have hd:=decide_eq_false (show ¬((j:N)<(j:N)) by omega);have UY:=decide_eq_false S;obtain⟨C,o,y⟩:=Dp (P:=jl) 27 56 5 qE sizeOf56 g 0 j c i Y ay;rw[o Y,jM]at y;have D:=Fq (P:=jl) 27 56 5 qE sizeOf56 g 0 j c i Y;obtain⟨q,caps,u⟩:=m.clear (P:=jl) a4 27 56 qE Eh zeroValue56;rw[jM]at caps;have z:jf (du EC b w q g i c (l.filter λx=> !d x)):=O (by
   have v:=B.out;rw[jU (l:=l) (by rw[<-H];exact ju _)]at v;rw[<-v];exact u)
  replace caps:∀v,(Builtin.clear_ #[27] v #[jg (ja ⟨g,i*5,jc⟩) (j-i) (c-i)]).run jl wr=.ok (jE #[]) q:=caps;clear u o
  go_wp2_with fail
  go_ret;exact⟨_,I,z⟩
 have hd:=jS (show((j:N)<(n:N)) by omega);have UY:=jS S;obtain⟨e,he,E⟩:=dL (l:=l) (j:=j) (by rw[<-H];exact S);have o:p[j]?=ja e:=by
  have h:=js (λz:jd ap=>z[0]?) R;simp only[yn,r9]at h;rw[h];exact he
 have U:p.drop (j+1)=l.drop (j+1):=by
  have h:=js (List.drop 1) R;rw[sh,sh]at h;exact h
 have a5:i<n:=Y;have a6:=m.len;have K:jf (d e=jm->p.take i=(l.take (j+1)).filter (λx=> !d x)):=O λV=>by
  rw[E,qw,r8 (by rw[V];simp),qx,ob];exact B
 have M:jf (d e=ji->(p.set i e).take (i+1)=(l.take (j+1)).filter (λx=> !d x)):=O λV=>by
  rw[E,qw,yt (by rw[V];rfl),qx,<-B,qt (by rw[r7];omega),zm,xa (ju _)]
 have ax:jf ((p.set i e).drop (j+1)=l.drop (j+1)):=O (by rw[xd Y];exact U);have YE:=O U;obtain⟨ga,oa,X,q⟩:=(m.at.cells).2.2 Y;injection X with X
 injection X with ba bb
 subst ba;subst bb;have hA:=ao wr (je (EC.cells e).toArray 56);have hX:=jy wr (je (EC.cells e).toArray 56);obtain⟨r,s⟩:=J (d e);have Q:jf (∀W,b<=W.heap.size->t W->jq jl F (#[jn (EC.cells e).toArray]++a) W λx w'=>x=jp (.bool r)/\jk W W w'):=O (by rw[s];exact HP.call e);have HR:=O s;obtain⟨B0,aa⟩:∃y:ap,y=e:=⟨_,I⟩;have Z2:=O aa;rw[<-aa]at K M ax HR hA hX;have HA:=O hA;have caps:=O hX;obtain⟨u,v,z,C,D⟩:=e;have c0:wr.cell? ⟨g,j*5,jc⟩=ja (T A u):=by have h:=q j _ o 0 _ I;rw[jM]at h;exact h
 have c1:wr.cell? ⟨g,j*5+1,jc⟩=ja (T A v):=by have h:=q j _ o 1 _ I;rw[jM]at h;exact h
 have c2:wr.cell? ⟨g,j*5+2,jc⟩=ja (T A z):=by have h:=q j _ o 2 _ I;rw[jM]at h;exact h
 have c3:wr.cell? ⟨g,j*5+3,jc⟩=ja (T A C):=by have h:=q j _ o 3 _ I;rw[jM]at h;exact h
 have c4:wr.cell? ⟨g,j*5+4,jc⟩=ja (T A D):=by have h:=q j _ o 4 _ I;rw[jM]at h;exact h
 replace Q:jf (∀W,b<=W.heap.size->t W->jq jl F (#[jn #[T A u,T A v,T A z,T A C,T A D]]++a) W λx w'=>x=jp (.bool r)/\jk W W w'):=Q;clear he E o U a6 B R q s hA hX aa
 go_upto_region 8 with fail
 obtain⟨B,f⟩:=J wr.heap.size;have R:wr.alloc (je #[T A u,T A v,T A z,T A C,T A D] 56)=wr.alloc (je (EC.cells B0).toArray 56):=by rw[Z2];rfl
 rw[R,<-f];rw[<-f]at caps;obtain⟨q,U⟩:=J (wr.alloc (je (EC.cells B0).toArray 56));rw[<-U]at HA caps⊢;have o:=O (m.later HA);have aa:B<q.heap.size:=(jG.1 caps).1;have a6:g≠B:=by have:=m.lt;omega
 have W:=O (HP.keep _ _ Vj.out a1 o.bel);have Vr:jf (b<=q.heap.size):=O (jL Vj o.bel.size);rw[Z2]at caps;replace caps:jf (q.heap[B]?=ja (je #[T A u,T A v,T A z,T A C,T A D] 56 (0,0))):=caps;have b0:=ai (i:=0) caps I;have b1:=ai (i:=1) caps I;have b2:=ai (i:=2) caps I;have b3:=ai (i:=3) caps I;have b4:=ai (i:=4) caps I;clear R f U m HA c0 c1 c2 c3 c4
 go_wp2_with fail
 refine(Q _ Vr.out W).mono ?_;rintro x U ⟨rfl,m⟩;have R:=O (o.later m);have f:=O ((m.block B aa).trans caps);clear Q o caps m W Vr b0 b1 b2 b3 b4
 cases r with
 |true=>
  have caps:=O (K HR.symm);clear K M
  go_wp2_with fail
  exact⟨⟨i,j+1,p,I,by go_num,by omega,by omega,caps,YE,R⟩,by simp only[jv];omega⟩
 |false=>
  have caps:=O (M HR.symm);clear K M;have b0:=ai (i:=0) f I;have b1:=ai (i:=1) f I;have b2:=ai (i:=2) f I;have b3:=ai (i:=3) f I;have b4:=ai (i:=4) f I;have hd3:=jS (show((i:N)<(n:N)) by omega)
  go_wp2_with (refine j3 I λ_ m=>Da 56 _ _ I R a5 ⟨u,v,z,C,D⟩ Pb (by rw[jM];rfl) I λo K M Q=>m _ _ ?_)
  have m:jf (du EC b w o g n c (p.set i B0)):=O (by rw[Z2];exact K);exact⟨⟨i+1,j+1,p.set i B0,by go_num,by go_num,by omega,by omega,caps,ax,m⟩,by simp only[jv];omega⟩
end

def Und(n a:N):Prop:=1<=a/\∃j:jb,n/2^j=a
noncomputable def lF(n a:N):jF:=by classical exact decide (Und n a)
theorem uj{B:N}(h:Und d B):lF d B=jm:=by unfold lF;simpa using h
theorem Es{B:N}(h:¬Und d B):lF d B=ji:=by unfold lF;simpa using h
theorem z8(n a:N):lF n a=jm↔Und n a:=by unfold lF;simp
theorem rU(h:1<=d):Und d d:=⟨h,0,by simp⟩
theorem Cb:(bG t d).isSome=jm↔∃e∈t,e.1=d:=by
 unfold bG;rw[Option.isSome_map,List.find?_isSome];simp
theorem Cg:∀(k n:jb),1<=n->n<2^k->∀x:jb,(x∈n::(upL k n).map gU↔1<=x/\∃j,n/2^j=x)
 |0,n,d,c,x=>by simp at c;omega
 |k+1,n,d,c,x=>by
  by_cases g:1<n
  ·obtain⟨i,e,h,l⟩:=Ej g c
   obtain rfl:i=k:=Y;have m:=Cg i (n/2) Y l x;rw[h,qI,jT,show gU n=n/2 from I,m];have f:∀j,n/2^(j+1)=n/2/2^j:=λj=>by rw[Nat.pow_succ,qM,zt]
   constructor
   ·rintro(rfl|⟨b,j,a⟩)
    ·exact⟨d,0,by simp⟩
    exact⟨b,j+1,by rw[f];exact a⟩
   rintro⟨b,j,a⟩
   cases j with
   |zero=>exact .inl (ak a.symm)
   |succ j=>exact .inr ⟨b,j,by rw[<-f];exact a⟩
  have e:n=1:=Y;rw[Fy Y];subst e;simp only[List.map_nil,qv]
  constructor
  ·rintro rfl;exact⟨by omega,0,rfl⟩
  rintro⟨b,j,a⟩;have:1/2^j<=1:=Nat.div_le_self _ _;omega
theorem pr(d:N)(b:0<=d)(g:d<512)(x:N):x∈(512+d)::bW d↔Und (512+d) x:=by
 obtain⟨n,rfl⟩:=qe b;have h:=Cg 10 (512+n) Y Y;have e:(512+(n:N))::bW (n:N)=((512+n)::(upL 10 (512+n)).map gU).map λm:jb=>(m:N):=by
  simp[bW,kD]
 rw[e];simp only[jO,h];have c:∀j:jb,(512+(n:N))/2^j=(((512+n)/2^j:jb):N):=λj=>by
  rw[xq];push_cast;rfl
 unfold Und
 constructor
 ·rintro⟨y,⟨f,j,a⟩,rfl⟩
  exact⟨by omega,j,by rw[c,a]⟩
 rintro⟨f,j,a⟩;refine⟨(512+n)/2^j,⟨?_,j,I⟩,by rw[<-c];exact a⟩;rw[c]at a;omega
theorem FE(a:jd N)(x:N):x∈fO a↔∃d∈a,x∈(512+d)::bW d:=by
 unfold fO;rw[xY]
def oy(t:jd (N×N))(a:N):Prop:=∃e∈t,512<=e.1/\Und e.1 a
def rC(t:jd (N×N))(i:jb):Prop:=
 (t.getD i (0,0)).1<1\/1023<(t.getD i (0,0)).1\/(0<i/\(t.getD i (0,0)).1<=(t.getD (i-1) (0,0)).1)\/¬bL (t.getD i (0,0)).2\/¬oy t (t.getD i (0,0)).1
theorem Ob(h:d∈fO (cr t)):oy t d:=by
 obtain⟨a,b,c⟩:=(FE _ _).1 h;obtain⟨f,g,e,i,j⟩:=(oI _ _).1 b;exact⟨e,i,by omega,by rw[j];exact(pr a f g d).1 c⟩
theorem OC(a:b<t.length)(h:rC t b):df t=210:=by
 refine nW (U:=fO (cr t)) I a ?_
 rcases h with h|h|h|h|h
 ·exact .inl h
 ·exact .inr (.inl h)
 ·exact .inr (.inr (.inl h))
 ·exact .inr (.inr (.inr (.inl h)))
 exact .inr (.inr (.inr (.inr (λi=>h (Ob i)))))
theorem PY(h:∀i,i<t.length->¬rC t i):df t=0:=by
 refine B4 (U:=fO (cr t)) I (λi d a=>?_);have b:=h i d
 rcases a with a|a|a|a|a
 ·exact b (.inl a)
 ·exact b (.inr (.inl a))
 ·exact b (.inr (.inr (.inl a)))
 ·exact b (.inr (.inr (.inr (.inl a))))
 refine b (.inr (.inr (.inr (.inr ?_))));rintro⟨e,he,m,f⟩;obtain⟨k,c,rfl⟩:=qi he;have g:=h k c;have j:t.getD k (0,0)=t[k]:=by simp[jQ,c]
 have n:¬1023<t[k].1:=λl=>g (.inr (.inl (by rw[j];exact l)))
 refine a ((FE _ _).2 ⟨t[k].1-512,(oI _ _).2 ⟨by omega,by omega,t[k],he,by omega⟩,?_⟩);refine(pr _ Y Y _).2 ?_;rw[show 512+(t[k].1-512)=t[k].1 by omega];exact f
noncomputable def dH(t:jd (N×N))(d:N):jd (N×N):=t.filter λe=> !lF (512+d) e.1
def en(z:N×N):jd (N×N)->jd (N×N)
 |[]=>[z]
 |x::r=>if z.1<x.1 then z::x::r else x::en z r
theorem Hw(z:N×N):∀l,(en z l).length=l.length+1
 |[]=>rfl
 |x::r=>by
  unfold en
  split
  ·rfl
  simp[Hw z r]
theorem GV{s t:jd i}{x y:i}(h:s.take b=t.take b)(a:s.take (b+1)=s.take b++[x])(k:t.take (b+1)=t.take b++[y])(c:x=y):s.take (b+1)=t.take (b+1):=by
 rw[a,k,h,c]
theorem zZ{s t:jd i}{x y:i}(h:s.take b=t.take b)(k:s.take (b+1)=s.take b++[x])(a:t.take (b+1)=t.take b++[y])(c:x≠y):s≠t:=by
 rintro rfl;rw[k]at a;exact c (ak a)
theorem Lz(s t:jd (N×N))(u v:jj)(w:jh)(Q:bJ w u s)(R:bJ w v t)(S:s.length<=1000000)(U:t.length<=1000000):
 jq jl 52 #[jn #[u],jn #[v]] w λe w'=>e=jp (.bool (decide (s=t)))/\jk w w w':=by
 obtain⟨p,c,rfl,V,-,d,f⟩:=Q;obtain⟨j,l,rfl,W,-,i,k⟩:=R;have b:jk w w ((w.alloc (je #[jg p s.length c] 43)).alloc (je #[jg j t.length l] 43)):=((jK _ w).alloc (ju _) _).alloc ar _;have X:=O d;have aa:=O f;have US:=O i;have ad:=O k;obtain⟨F,a⟩:=J ((w.alloc (je #[jg p s.length c] 43)).alloc (je #[jg j t.length l] 43));have g:F.cell? ⟨w,0,jc⟩=ja (jg p s.length c):=by rw[a];unfold qy;rw[xS _ _ _ ar,jy];rfl
 have o:F.cell? ⟨w.heap.size+1,0,jc⟩=ja (jg j t.length l):=by
  rw[a];unfold qy;have h:=jy (w.alloc (je #[jg p s.length c] 43)) (je #[jg j t.length l] 43);rw[j8]at h;rw[h];rfl
 clear d f i k
 go_enter func52,ntmps52
 go_upto_region 1 with fail
 rw[<-a]at b⊢;have H:=O b;obtain⟨n,d⟩:=J s.length;obtain⟨m,f⟩:=J t.length;have y:=O d;have z:=O f;rw[<-d]at V S g⊢;rw[<-f]at W U o⊢;clear a b d f
 by_cases B:n=m
 case neg=>
  have a:((n:N)==(m:N))=ji:=by simp;omega
  have hd2:=az ((n:N)=(m:N));have hd3:decide (n=m)=ji:=ak B;have d:jf (decide (s=t)=ji):=O (decide_eq_false (λh=>B (by rw[y,z,h])));clear B
  go_wp2_with fail
  go_ret;exact⟨by rw[d];rfl,H⟩
 subst B
 go_wp2_with fail
 go_loopw [5] (λi wr=>∃k:jb,i=T A k/\k<=n/\jf (s.take k=t.take k)/\jf (jk w w wr)/\wr.cell? ⟨w,0,jc⟩=ja (jg p n c)/\wr.cell? ⟨w.heap.size+1,0,jc⟩=ja (jg j n l)) (λi _=>n-(jv i).toNat)
 case atStart=>exact⟨0,I,j6 _,O I,H,g,o⟩
 obtain⟨k,rfl,hk,C,f,au,ax⟩:=hrel;clear g o
 by_cases K:k<n
 ·have hd:=aA ((k:N)<(n:N))
  have UY:=aA (k<n);obtain⟨g,o,rfl,i⟩:=X.out (by rw[<-y];omega);obtain⟨g2,o2,rfl,x⟩:=US.out (by rw[<-z];omega);obtain⟨a,q,ay,a1,-,-,-,M,-⟩:=tO i aa.out (by rw[<-y];exact K) f;obtain⟨b,r,a2,a3,-,-,-,P,-⟩:=tO x ad.out (by rw[<-z];exact K) f;have D:=O M;have E:=O P;clear i x M P
  by_cases i:a=b
  case neg=>
   have d:jf (decide (s=t)=ji):=O (decide_eq_false (zZ C D E (λh=>i (by cases h;rfl))));have M:(a==b)=ji:=ak i;have P:decide (a=b)=ji:=ak i;clear i
   go_upto_region 6 with fail
   go_quiet (fail)
   go_wp2_with fail
   go_ret;exact⟨by rw[d];rfl,f.trans ⟨rfl,rfl,rfl,ju _,λ_ _=>rfl⟩⟩
  subst i
  by_cases x:q=r
  case neg=>
   have d:jf (decide (s=t)=ji):=O (decide_eq_false (zZ C D E (λh=>x (by cases h;rfl))));have M:(q==r)=ji:=ak x;have P:decide (q=r)=ji:=ak x;clear x
   go_upto_region 6 with fail
   go_quiet (fail)
   go_wp2_with fail
   go_ret;exact⟨by rw[d];rfl,f.trans ⟨rfl,rfl,rfl,ju _,λ_ _=>rfl⟩⟩
  subst x;have M:=O (GV C D E I)
  go_upto_region 6 with fail
  go_quiet (fail)
  go_wp2_with fail
  exact⟨⟨k+1,by go_num,by omega,M,O (f.trans ⟨rfl,rfl,rfl,ju _,λ_ _=>rfl⟩),au,ax⟩,by simp only[jv];omega⟩
 have hd:=az ((k:N)<(n:N));have UY:=az (k<n);obtain rfl:k=n:=Y;have d:jf (decide (s=t)=jm):=O (jS (by
  have h:=C.out;rw[jU (by rw[<-y];exact ju _),jU (by rw[<-z];exact ju _)]at h;exact h))
 go_wp2_with fail
 go_ret;exact⟨by rw[d];rfl,f⟩
theorem I5{H:jb}(e:∀j,j<r.length->w.cell? ⟨b,o+j,jc⟩=ja (T A (r.getD j 0)))(g:H<r.length)(wr:jk w w f):
 ∃a,f.cell? ⟨b,o+H,jc⟩=ja (T A a)/\r.getD H 0=a/\r.take (H+1)=r.take H++[a]:=by
 have c:=e H g;have d:r.getD H 0=r[H]:=by simp[jQ,g]
 exact⟨r[H],by rw[<-d];exact cI c (wr.block b (eN c)),d,qt g⟩
theorem oM(w:jh):bJ w (jg jc 0 0) []:=⟨jc,0,I,ju _,λ_=>rfl,λh=>jB h ar,λx h=>by cases h⟩
theorem rc{e:N×N}:∀{l:jd (N×N)},e∈en z l->e=z\/e∈l
 |[],h=>by left;simpa [en]using h
 |x::r,h=>by
  unfold en at h
  split at h
  ·rcases jT.1 h with h|h
   ·exact .inl h
   exact .inr h
  rcases jT.1 h with h|h
  ·exact .inr (h▸qN ..)
  rcases rc h with h|h
  ·exact .inl h
  exact .inr (xr _ h)
noncomputable def kU(t:jd (N×N))(d x:N):jd (N×N):=if gJ t d x=0 then en (512+d,x) (dH t d)else []
noncomputable def kJ(t:jd (N×N))(d:N):jd (N×N):=if dD t d jm=0 then dH t d else []
theorem zj(h:∀e∈t,aO e.1/\aO e.2):∀e∈dH t d,aO e.1/\aO e.2:=λe he=>h e (AC.1 he).1

def fa(t:jd (N×N))(d:N)(l:jd N):jb->N->jP N
 |0,y=>if y=512+d then ja (l.getD 0 0)else gK (bG t) ((512+d)::bW d) y
 |k+1,y=>if y=(bW d).getD k 0 then ja (l.getD (k+1) 0)else fa t d l k y
theorem Cm:∀k y,(fa t d r k y).isSome=jm->y∈(512+d)::((qG k).map λj=>(bW d).getD j 0)++t.map (·.1)
 |0,y,h=>by
  unfold fa at h
  split at h
  ·rename_i e;rw[e];simp
  obtain⟨v,a⟩:=AX.1 h;simp only[o5,jT,jO];exact .inr ⟨_,oN (rV a).1,I⟩
 |k+1,y,h=>by
  unfold fa at h
  split at h
  ·rename_i e
   simp only[o5,jT,jO,r4];exact .inl (.inr ⟨k,by omega,e.symm⟩)
  have:=Cm k y h;simp only[o5,jT,jO,r4]at this⊢
  rcases this with(h1|⟨j,h1,h2⟩)|h1
  ·exact .inl (.inl h1)
  ·exact .inl (.inr ⟨j,by omega,h2⟩)
  exact .inr h1
theorem Sn{xs:jd N}(h:lg (fa t d r b) xs):xs.length<=t.length+b+1:=by
 have a:xs⊆(512+d)::((qG b).map λj=>(bW d).getD j 0)++t.map (·.1):=λy k=>Cm b y (h.2.1 y k).2
 have:=h.1.length_le_of_subset a;simp at this;omega
theorem Ce(b:∀e∈t,aO e.1/\aO e.2)(a:∀j,aO (r.getD j 0)):∀k y v,aO y->fa t d r k y=ja v->aO v
 |0,y,v,_,h=>by
  unfold fa at h
  split at h
  ·cases h;exact a 0
  exact(b _ (oN (rV h).1)).2
 |k+1,y,v,c,h=>by
  unfold fa at h
  split at h
  ·cases h;exact a (k+1)
  exact Ce b a k y v c h
theorem aZ.no_cell{p F:jI}{E:EKind P F i}{f:N->jP i}(h:aZ E p w b o f){j:jb}{v:jj}:w.cell? ⟨b,j,jc⟩≠ja v:=by
 obtain⟨D,⟨c,d,a,_⟩,_⟩:=h;unfold qy;rw[a];simp
noncomputable def fc(t:jd (N×N))(d:N)(l:jd N):N:=by classical exact if dD t d jm=0 then(if l.length=10/\iq l then 0 else 50)else dD t d jm
def MW(t:jd (N×N))(d:N)(l:jd N)(w:jh)(E:N)(e:Ending)(w':jh):Prop:=
 jk w w w'/\(E≠0->e=jp (jE #[jn #[jg jc 0 0],T A E]))/\
 (E=0->∃v xs,e=jp (jE #[jn #[v],T A 0])/\lg (fa t d l 9) xs/\bJ w' v (dG (fa t d l 9) (xs.mergeSort leI))/\Fr w.heap.size v)
theorem J0(t:jd (N×N))(v:jj)(d:N)(l:jd N)(u:jj)(w:jh)(b:bJ w v t)(g:t.length<=900000)(i:aO d)(hu:c8 w u l)(k:l.length<=1000000)(m:∀j,aO (l.getD j 0)):
 jq jl 33 #[jn #[v],T A d,u] w λe w'=>MW t d l w (fc t d l) e w':=by
 have n:∀e∈t,aO e.1/\aO e.2:=by obtain⟨p,c,-,-,-,-,h⟩:=b;exact h
 obtain⟨pl,cl,rfl,ax,o⟩:=hu;have C:jk w w ((w.alloc (je #[v] 43)).alloc (je #[jg jc 0 0] 43)):=((jK _ w).alloc (ju _) _).alloc ar _;have U:=O (Aq t v d jm ((w.alloc (je #[v] 43)).alloc (je #[jg jc 0 0] 43)) (b.below C) Y i);have D:jA ((w.alloc (je #[v] 43)).alloc (je #[jg jc 0 0] 43)) (w.heap.size+1) 43 (jg jc 0 0):=by
  have h:=jy (w.alloc (je #[v] 43)) (je #[jg jc 0 0] 43);rw[j8]at h;exact h
 have bf:=O n;have HL:=O g;have VU:=O o;have ay:=O m;have VR:=O k;obtain⟨E,f⟩:=J (dD t d jm);have HE:=O f;rw[<-f]at U;clear b g f n i o m k
 go_enter func33,ntmps33
 go_wp2_with fail
 obtain⟨W0,b⟩:=J ((w.alloc (je #[v] 43)).alloc (je #[jg jc 0 0] 43));rw[<-b]at U D C⊢;clear b;refine U.mono ?_;rintro e g ⟨aa,a1,a2⟩;have m:jA g (w.heap.size+1) 43 (jg jc 0 0):=(aa.block _ D.lt).trans D;have F:=O (C.trans (aa.mono C.size));have UX:=O m;have bv:w.heap.size+1<g.heap.size:=m.lt
 by_cases o:E=0
 ·obtain⟨b,p,c,rfl,i,f,H⟩:=a2 o
  have HM:=O f;have bw:w.heap.size+1<b:=qg D.lt i;have bg:=zh (HE.symm.trans o);have HZ:jf (aO (512+d)):=O (aO.of (x:=512+d) Y);have Y4:Bm.wrap (512+d)=512+d:=by rw[IntKind.wrap_i64];omega
  have YL:=O H;have K:jf (∀z,(l.length=10/\iq l->z=0)->(¬(l.length=10/\iq l)->z=50)->fc t d l=z):=O (λz k n=>by
   unfold fc;rw[jt (HE.symm.trans o)]
   by_cases h:l.length=10/\iq l
   ·rw[jt h,k h]
   rw[jw h,n h])
  subst o;obtain⟨d0,d1⟩:=bg;have bh:b<g.heap.size:=f.lt;clear a1 a2 aa C D m U f i H
  by_cases r:l.length=10
  ·obtain⟨f,V,rfl,i⟩:=VU Y
   have VJ:=O i;have bi:jf (c8 g (jg (ja ⟨f,V,jc⟩) l.length cl) l):=O ⟨_,cl,I,ax,λ_=>⟨f,V,I,λj M=>cI (i j M) (F.block f (eN (i j M)))⟩⟩;have a3:=O (TX l _ g bi VR);have W:=O r;rw[r]at a3 ax⊢;clear i r
   go_wp2_with fail
   refine a3.mono ?_;rintro e n ⟨bA,rfl,ad,i⟩;have WF:jf (jA n (w.heap.size+1) 43 (jg jc 0 0)):=O ((i.block _ Y).trans UX);have V8:=O (HM.below i bh);have bk:=i.size;have X:=ah F i;have bl:=O (i);clear i
   by_cases P:iq l
   ·obtain rfl:=ad.1 P
    have s:=O (K 0 (λ_=>rfl) (λh=>jB ⟨W,P⟩ h));clear ad P;have WZ:jf (∀j,j<10->n.cell? ⟨f,V+j,jc⟩=ja (T A (l.getD j 0))):=O λj M=>cI (VJ j (by rw[W];exact M)) (X.block f (eN (VJ j (by rw[W];exact M))))
    have bB:f<w.heap.size:=eN (VJ 0 (by rw[W];omega));have bC:n.cell? ⟨f,V,jc⟩=ja (T A (l.getD 0 0)):=WZ 0 Y;have WE:=O (tY d d0 d1);have bm:=O (Aj d d0 d1);have bI:f<n.heap.size:=Y;have q:g.ownsRow W0 3 1 (jg p 9 c) (bW d).length ((bW d).map (jo .i64)):=by rw[WE];exact YL
    obtain⟨p',c',a4,-,i⟩:=pP q;rw[WE]at a4 i
    cases a4
    obtain⟨Q,rfl,bK,bn,k⟩:=i Y;have US:=O k;have a5:Q≠b:=λe=>by have h:=k 0 Y;rw[e]at h;exact aZ.no_cell HM h
    clear q i k
    go_wp2_with (at_mapUpdate;refine oD (E:=dO nv) I _ _ _ 150 I nv underlying150 b _ _ I V8 (by have:=HL.out;unfold pz;omega) (512+d) I HZ (l.getD 0 0) I (ay 0) ?_;intro R a6 ZU;have WM:=O a6;have Z6:=O ZU;have WH:=ZU.grown.size;clear a6 ZU)
    have UE:jf (jk w w R):=O (X.grown Z6.grown (cT X.size) (λj e=>by cases e;omega));have bo:jf (aZ (dO nv) 3 R b (t.length+1+0) (fa t d l 0)):=O WM;have bM:n.heap.size<=R.heap.size:=WH;have bN:g.heap.size<=n.heap.size:=bk
    go_wp2_with fail
    go_loopw [39] (λi wr=>∃j:jb,i=T A j/\j<=9/\jf (aZ (dO nv) 3 wr b (t.length+1+j) (fa t d l j))/\jf (jk w w wr)/\jf (∀k,k<R.heap.size->k≠b->wr.heap[k]?=R.heap[k]?)/\R.heap.size<=wr.heap.size) (λi _=>9-(jv i).toNat)
    case atStart=>exact⟨0,I,j6 _,bo,UE,O (λ_ _ _=>rfl),ju _⟩
    obtain⟨j,rfl,M,ba,Yc,au,bO⟩:=hrel
    by_cases bb:j<9
    ·have bp:=aA ((j:N)<9)
     have cy:wr.cell? ⟨Q,j,jc⟩=ja (T A ((bW d).getD j 0)):=cI (cI (cI (US j bb) (bl.block Q bn)) (Z6.grown.block Q Y (ak a5))) (au Q Y a5);have cz:wr.cell? ⟨f,V+(j+1),jc⟩=ja (T A (l.getD (j+1) 0)):=cI (cI (WZ (j+1) Y) (Z6.grown.block f Y (by simp;omega))) (au f Y Y);have q:j<(bW d).length:=by rw[WE];exact bb
     have bc:(bW d).getD j 0=(bW d)[j]:=by simp[jQ,q]
     have bd:jf (0<=(bW d).getD j 0/\(bW d).getD j 0<1024):=O (by rw[bc];exact bm _ (qJ q));obtain⟨y,S⟩:=J ((bW d).getD j 0);obtain⟨z,i⟩:=J (l.getD (j+1) 0);rw[<-S]at cy bd;rw[<-i]at cz;have bq:jf (aO y):=O (aO.of (x:=y) (aI bd));have br:jf (aO z):=O (by rw[i];exact ay _);have HY:=O S;have bs:=O i;have bT:Q<wr.heap.size:=Y;have b0:f<wr.heap.size:=Y;clear q bc S i
     go_wp2_with (at_mapUpdate;refine oD (E:=dO nv) I _ _ _ 150 I nv underlying150 b _ _ I ba (by have:=HL.out;unfold pz;omega) y I bq z I br ?_;intro w5 q i;have bu:=O q;have bc:=O i;have S:=i.grown.size;clear q i)
     refine⟨⟨j+1,by go_num,by omega,O ?_,O (Yc.grown bc.grown (cT Yc.size) (λj e=>by cases e;omega)),O λk hk S=>(bc.grown.block k Y (ak S)).trans (au k hk S),by omega⟩,by simp only[jv];omega⟩;refine aZ.congr bu (λx _=>?_);show(if x=y then ja z else fa t d l j x)=fa t d l (j+1) x;rw[HY,bs]
     rfl
    have bp:=az ((j:N)<9);obtain rfl:j=9:=Y;have Wx:jf (jA wr (w.heap.size+1) 43 (jg jc 0 0)):=O ((au _ Y Y).trans ((Z6.grown.block _ Y (by simp;omega)).trans WF));have bq:w.heap.size+1<wr.heap.size:=Y
    go_wp2_with fail
    refine(BA b (t.length+1+9) (fa t d l 9) wr ba (aI HL) (λxs h=>jL (Sn h) (aI HL)) (Ce bf ay 9)).mono ?_;rintro e w4 ⟨v',xs,rfl,bc,⟨H,bd⟩,i⟩;obtain⟨q,k,rfl⟩:=ve H;have y:jf (jA w4 (w.heap.size+1) 43 (jg jc 0 0)):=O ((i.block _ bq).trans Wx);have UK:=ah Yc i;have YJ:=O bc;have Vm:=O H;have br:=O bd;have z:=y.cell;have cf:=y.frozen;clear bc H bd i
    go_wp2_with fail
    have bc:=O (qS w4 (w.heap.size+1) (jg q (dG (fa t d l 9) (xs.mergeSort leI)).length k));have i:=(Boxed.set (jg q (dG (fa t d l 9) (xs.mergeSort leI)).length k) y).cell;refine qh (v:=jE #[jn #[jg q (dG (fa t d l 9) (xs.mergeSort leI)).length k],T A 0]) (by simp[results,wt,go_sem,i]) I ?_;refine⟨UK.grown bc (cT UK.size) (λj e=>by cases e;omega),λh=>jB s h,λ_=>⟨_,xs,I,YJ,?_,(Fr.of_own Vm).mono Y⟩⟩;exact zK (B:=wr.heap.size) (ownsRow_setCell_below Vm (a:=⟨w.heap.size+1,0,jc⟩) (by show w.heap.size+1<wr.heap.size;omega) _) br
   obtain rfl:=ad.2 P;have s:=O (K 50 (λh=>jB h.2 P) (λ_=>rfl));have z:=WF.cell;have cf:=WF.frozen;have i:=(Boxed.set (jg jc 0 0) WF).cell;clear ad P
   go_wp2_with fail
   refine qh (v:=jE #[jn #[jg jc 0 0],T A 50]) (by simp[results,wt,go_sem,i]) I ?_;exact⟨X.grown (qS n (w.heap.size+1) _) (cT X.size) (λj e=>by cases e;omega),λ_=>by rw[s],λh=>jB (s.symm.trans h) G⟩
  obtain⟨n,S⟩:=J l.length;rw[<-S]at ax r⊢;have f:=O S;have k:=az ((n:N)=10);have hd2:=az (n=10);have hd3:((n:N)!=10)=jm:=by simp;omega
  have s:=O (K 50 (λh=>jB (f.trans h.1) r) (λ_=>rfl));have W:=O r;have z:=UX.cell;have cf:=UX.frozen;have i:=(Boxed.set (jg jc 0 0) UX).cell;clear S r
  go_wp2_with fail
  refine qh (v:=jE #[jn #[jg jc 0 0],T A 50]) (by simp[results,wt,go_sem,i]) I ?_;exact⟨F.grown (qS g (w.heap.size+1) _) (cT F.size) (λj e=>by cases e;omega),λ_=>by rw[s],λh=>jB (s.symm.trans h) G⟩
 obtain rfl:=a1 o;have b:=az (E=0);have z:=m.cell;have cf:=m.frozen;have i:=(Boxed.set (jg jc 0 0) m).cell;clear a1 a2 aa C D m U
 go_wp2_with fail
 have K:jf (fc t d l=E):=O (by unfold fc;rw[jw (by rw[<-HE];exact o)];exact HE.symm);refine qh (v:=jE #[jn #[jg jc 0 0],T A E]) (by simp[results,wt,go_sem,i]) I ?_;exact⟨F.grown (qS g (w.heap.size+1) _) (cT F.size) (λj e=>by cases e;omega),λ_=>by rw[K],λh=>jB (K.symm.trans h) o⟩
noncomputable def eL(t:jd (N×N))(d:N)(l:jd N):jb->jd (N×N)
 |0=>dH t d
 |k+1=>en ((512+d)/2^k,l.getD k 0) (eL t d l k)
noncomputable def gq(t:jd (N×N))(d:N)(l:jd N):jd (N×N):=if fc t d l=0 then eL t d l 10 else []
theorem ED{k:jb}(a:0<=d)(b:d<512):0<=(512+d)/2^k/\(512+d)/2^k<=1023:=by
 have c:(0:N)<2^k:=by exact_mod_cast Nat.two_pow_pos k
 refine⟨Int.ediv_nonneg Y Y,?_⟩;have:(512+d)/2^k<=512+d:=Int.ediv_le_self _ Y;omega
theorem D9(h:∀e∈t,aO e.1/\aO e.2)(a:∀j,aO (r.getD j 0))(b:0<=d)(c:d<512):∀k,∀e∈eL t d r k,aO e.1/\aO e.2
 |0,e,he=>zj h e he
 |k+1,e,he=>by
  unfold eL at he
  rcases rc he with rfl|he
  ·exact⟨aO.of (by have:=ED (k:=k) b c;omega),a k⟩
  exact D9 h a b c k e he
def Str(t:jd (N×N)):Prop:=t.Pairwise λa b=>a.1<b.1
def Wf(t:jd (N×N)):Prop:=∀e∈t,aO e.1/\aO e.2
theorem Str.keys(h:Str t):(t.map (·.1)).Pairwise (·<·):=xt.2 h
theorem mA(e:N×N)(t:jd (N×N))(x:N):bG (e::t) x=if e.1=x then ja e.2 else bG t x:=by
 unfold bG;rw[List.find?_cons]
 by_cases h:e.1=x
 ·simp[h]
 have a:(e.1==x)=ji:=ak h;simp[h,a]
theorem IS:∀{t:jd (N×N)},Str t->∀e∈t,bG t e.1=ja e.2
 |[],_,e,he=>by cases he
 |y::t,h,e,he=>by
  rw[mA];have a:=sl.1 h
  rcases jT.1 he with rfl|he
  ·rw[jt I]
  rw[jw (cT (a.1 e he))];exact IS a.2 e he
theorem Ci(h:Str t):(t.map (·.1)).map (λx=>(x,(bG t x).getD 0))=t:=by
 rw[xu];have:∀e∈t,((λx=>(x,(bG t x).getD 0))∘(·.1)) e=id e:=λe he=>by
  simp only[Function.comp,IS h e he,wx,id]
 rw[Bn this,List.map_id]
theorem vS:(bG t d).isSome=jm↔d∈t.map (·.1):=by
 rw[Cb,jO]
theorem Oz{s:jd (N×N)}(b:Str t)(c:Str s)(d:Wf t)(f:Wf s)(h:∀x,aO x->bG t x=bG s x):t=s:=by
 have g:t.map (·.1)=s.map (·.1):=AI b.keys c.keys (λx=>by
  rw[<-vS,<-vS]
  constructor
  ·intro a
   obtain⟨e,he,rfl⟩:=jO.1 (vS.1 a);rw[<-h _ (d e he).1];exact a
  intro a;obtain⟨e,he,rfl⟩:=jO.1 (vS.1 a);rw[h _ (f e he).1];exact a)
 rw[<-Ci b,<-Ci c,<-g];refine Bn λx a=>?_
 obtain⟨e,he,rfl⟩:=jO.1 a;rw[h _ (d e he).1]
def fW(t:jd (N×N)):Prop:=Str t/\∀e∈t,1<=e.1/\e.1<=1023/\bL e.2/\oy t e.1
theorem sk(a:b<t.length):t.getD b (0,0)=t[b]:=by simp[jQ,a]
theorem Oj(h:∀i,i+1<t.length->(t.getD i (0,0)).1<(t.getD (i+1) (0,0)).1):Str t:=by
 have key:∀j,j<t.length->∀i,i<j->(t.getD i (0,0)).1<(t.getD j (0,0)).1:=by
  intro j
  induction j with
  |zero=>intro _ i a;omega
  |succ j d=>
   intro b i a;have e:=h j b
   rcases CB (CF a)with c|c
   ·have:=d Y i c;omega
   rw[c];exact e
 unfold Str;rw[xw];intro i j a b c;have:=key j b i c
 rwa [sk a,sk b]at this
theorem lQ(h:df t=0):fW t:=by
 have c:∀i,i<t.length->¬rC t i:=λi b c=>by rw[OC b c]at h;exact jB h G
 refine⟨Oj (λi b=>?_),λe he=>?_⟩
 ·have:=c (i+1) b
  unfold rC at this;have d:¬(0<i+1/\(t.getD (i+1) (0,0)).1<=(t.getD (i+1-1) (0,0)).1):=λa=>this (.inr (.inr (.inl a)))
  rw[show i+1-1=i by omega]at d;omega
 obtain⟨i,b,rfl⟩:=qi he;have:=c i b;unfold rC at this;rw[sk b]at this;refine⟨?_,?_,?_,?_⟩
 ·exact Classical.byContradiction λa=>this (.inl Y)
 ·exact Classical.byContradiction λa=>this (.inr (.inl Y))
 ·exact Classical.byContradiction λa=>this (.inr (.inr (.inr (.inl a))))
 exact Classical.byContradiction λa=>this (.inr (.inr (.inr (.inr a))))
theorem tC(h:fW t):df t=0:=by
 refine PY (λi b a=>?_);have c:=h.2 t[i] (qJ b);unfold rC at a;rw[sk b]at a
 rcases a with a|a|a|a|a
 ·omega
 ·omega
 ·have d:=(xw.1 h.1) (i-1) i Y b Y
  rw[sk Y]at a;omega
 ·exact a c.2.2.1
 exact a c.2.2.2
theorem BE(t:jd (N×N))(d x:N):bG (dH t d) x=if lF (512+d) x=jm then jc else bG t x:=by
 induction t with
 |nil=>simp[dH,bG]
 |cons e t c=>
  unfold dH at c⊢;rw[List.filter_cons]
  by_cases b:lF (512+d) e.1=jm
  ·rw[jw (by simp[b]),c,mA]
   by_cases a:e.1=x
   ·rw[<-a,jt b,jt b]
   rw[jw a]
  rw[jt (by simp[b]),mA,mA,c]
  by_cases a:e.1=x
  ·rw[<-a,jt I,jw b,jt I]
  rw[jw a,jw a]
theorem uZ:∀{t:jd (N×N)},(∀e∈t,e.1≠z.1)->∀x,bG (en z t) x=if x=z.1 then ja z.2 else bG t x
 |[],_,x=>by
  unfold en;rw[mA]
  by_cases h:x=z.1
  ·rw[jt h.symm,jt h]
  rw[jw (λb=>h b.symm),jw h]
 |e::t,h,x=>by
  unfold en
  split
  ·rw[mA]
   by_cases a:x=z.1
   ·rw[jt a.symm,jt a]
   rw[jw (λb=>a b.symm),jw a]
  rw[mA,mA,uZ (λe he=>h e (xr _ he))];have b:=h e (qN ..)
  by_cases a:e.1=x
  ·rw[jt a,jt a,jw (by rw[<-a];exact b)]
  rw[jw a,jw a]
theorem sH(h:Str t)(d:N):Str (dH t d):=List.Pairwise.filter _ h
theorem vP:∀{t:jd (N×N)},Str t->(∀e∈t,e.1≠z.1)->Str (en z t)
 |[],_,_=>by unfold en Str;simp
 |e::t,c,h=>by
  have b:=sl.1 c;have f:=h e (qN ..);unfold en
  split
  ·rename_i d
   refine sl.2 ⟨λy a=>?_,c⟩
   rcases jT.1 a with rfl|a
   ·exact d
   have:=b.1 y a;omega
  refine sl.2 ⟨λy a=>?_,vP b.2 (λe he=>h e (xr _ he))⟩
  rcases rc a with rfl|a
  ·omega
  exact b.1 y a
theorem Ib(h:z∈dH t d):z∈t/\¬Und (512+d) z.1:=by
 unfold dH at h;obtain⟨b,a⟩:=AC.1 h;refine⟨b,λc=>?_⟩;rw[uj c]at a
 cases a
theorem sJ{x:N}(a:Und (512+d) x):∀e∈dH t d,e.1≠x:=λe he h=>(Ib he).2 (by rw[h];exact a)
theorem JF(h:r.Nodup):Str (dG m (r.mergeSort leI)):=by
 have c:(r.mergeSort leI).Pairwise (·<·):=by
  have a:=yj r;have b:(r.mergeSort leI).Nodup:=(qO r leI).nodup_iff.2 h;exact(a.and b).imp λh=>by have:=h.1;have:=h.2;omega
 unfold Str dG;rw[xt];exact c
theorem QC(a:jd N)(x:N):bG (dG m a) x=if x∈a then ja ((m x).getD 0)else jc:=by
 induction a with
 |nil=>rfl
 |cons y a b=>
  show bG ((y,(m y).getD 0)::dG m a) x=_;rw[mA,b]
  by_cases h:y=x
  ·subst h;simp
  have:¬x=y:=λc=>h c.symm
  simp[h,this]
theorem RA(h:lg m r)(x:N)(b:aO x):bG (dG m (r.mergeSort leI)) x=m x:=by
 rw[QC]
 by_cases a:x∈r
 ·rw[jt ((uT r x).2 a)]
  obtain⟨v,c⟩:=AX.1 (h.2.1 x a).2;rw[c];rfl
 rw[jw (λc=>a ((uT r x).1 c))]
 cases hf:m x with
 |none=>rfl
 |some v=>exact jB (h.2.2 x b (by rw[hf];rfl)) a
theorem pV(h:bJ w u t):Wf t:=by obtain⟨p,c,-,-,-,-,h⟩:=h;exact h
theorem AL(h:lg m r)(b:Wf (dG m (r.mergeSort leI))){t:jd (N×N)}(c:Str t)(d:Wf t)(e:∀x,aO x->m x=bG t x):dG m (r.mergeSort leI)=t:=
 Oz (JF h.1) c b d (λx a=>by rw[RA h x a,e x a])
theorem yP(a:0<=d)(b:d<512)(x:N):gK (bG t) ((512+d)::bW d) x=bG (dH t d) x:=by
 rw[BE];unfold gK
 by_cases h:x∈(512+d)::bW d
 ·rw[jt h,jt (uj ((pr d a b x).1 h))]
 rw[jw h,jw (λc=>h ((pr d a b x).2 ((z8 _ _).1 c)))]
theorem KW{B:N}(a:0<=d)(b:d<512)(y:N):iO t d B y=bG (en (512+d,B) (dH t d)) y:=by
 rw[uZ (sJ (rU Y))];unfold iO
 by_cases h:y=512+d
 ·rw[jt h,jt h]
 rw[jw h,jw h];exact yP a b y
theorem Ay{m:jF}(h:dD t d m=0):df t=0/\0<=d/\d<512:=by
 have a:=zh h;refine⟨?_,a.1,a.2⟩;unfold dD at h
 split at h
 ·assumption
 exact h
theorem sa(l:0<=d)(p:d<512){k:jb}(e:k<=9):1<=(512+d)/2^k/\∀j,j<k->(512+d)/2^k<(512+d)/2^j:=by
 obtain⟨n,rfl⟩:=qe l;have h:∀n:Fin 512,∀k:Fin 10,1<=(512+n.val)/2^k.val:=by decide+kernel
 have c:∀j:jb,(512+(n:N))/2^j=(((512+n)/2^j:jb):N):=λj=>by
  rw[xq];push_cast;rfl
 have i:∀k,k<=9->1<=(512+n)/2^k:=λk e=>h ⟨n,by omega⟩ ⟨k,by omega⟩
 have m:∀k,(512+n)/2^(k+1)=(512+n)/2^k/2:=λk=>by rw[Nat.pow_succ,zt]
 have key:∀k,k<=9->∀j,j<k->(512+n)/2^k<(512+n)/2^j:=by
  intro k
  induction k with
  |zero=>intro _ j f;omega
  |succ k o=>
   intro e j f;have a:=i k Y;have b:=m k
   rcases CB (CF f)with g|g
   ·have:=o Y j g;omega
   rw[g];omega
 refine⟨by rw[c];have:=i k e;omega,λj f=>by rw[c,c];have:=key k e j f;omega⟩
theorem A8(a:0<=d)(b:d<512){k:jb}(c:k<=9):Und (512+d) ((512+d)/2^k):=⟨(sa a b c).1,k,I⟩
theorem J5{B:N}(b:0<=d)(c:d<512)(h:Und (512+d) B):∃k,k<=9/\B=(512+d)/2^k:=by
 obtain⟨e,j,a⟩:=h;refine⟨j,?_,a.symm⟩
 rcases qk 9 j with h|h
 ·have f:(512+d)/2^j=0:=by
   have g:(1024:N)<=2^j:=by
    have:=Nat.pow_le_pow_right (n:=2) G (show 10<=j from h)
    exact_mod_cast this
   exact Int.ediv_eq_zero_of_lt Y Y
  omega
 exact h
theorem L9(a:0<=d)(c:d<512){k:jb}(f:k<9):(bW d).getD k 0=(512+d)/2^(k+1):=by
 obtain⟨n,rfl⟩:=qe a;have h:∀n:Fin 512,∀k:Fin 9,(kD n.val).getD k.val 0=(512+n.val)/2^(k.val+1):=by decide+kernel
 have b:=h ⟨n,by omega⟩ ⟨k,f⟩;have g:=tY (n:N) a c;have e:bW (n:N)=(kD n).map λm:jb=>(m:N):=by simp[bW]
 have i:k<(kD n).length:=by rw[e,jC]at g;omega
 rw[e];simp only[jQ,j9,ms i,xh,wx]at b⊢;rw[b,xq];push_cast;rfl
theorem AD:∀{k:jb} {e:N×N},e∈eL t d r k->e∈dH t d\/∃j,j<k/\e=((512+d)/2^j,r.getD j 0)
 |0,e,h=>.inl h
 |k+1,e,h=>by
  unfold eL at h
  rcases rc h with rfl|h
  ·exact .inr ⟨k,Nat.lt_succ_self _,I⟩
  rcases AD h with h|⟨j,a,h⟩
  ·exact .inl h
  exact .inr ⟨j,Nat.lt_succ_of_lt a,h⟩
theorem El(a:0<=d)(b:d<512){k:jb}(c:k<=9):∀e∈eL t d r k,e.1≠(512+d)/2^k:=by
 intro e he
 rcases AD he with h|⟨j,f,rfl⟩
 ·exact sJ (A8 a b c) e h
 have:=(sa a b c).2 j f;show(512+d)/2^j≠_;omega
theorem Bv(a:Str t)(b:0<=d)(c:d<512):∀{k:jb},k<=10->Str (eL t d r k)
 |0,_=>sH a d
 |k+1,e=>vP (Bv a b c Y) (El b c Y)
theorem uo(a:0<=d)(b:d<512){k:jb}(c:k<=9)(x:N):bG (eL t d r (k+1)) x=if x=(512+d)/2^k then ja (r.getD k 0)else bG (eL t d r k) x:=
 uZ (El a b c) x
theorem IW(a:0<=d)(b:d<512)(x:N):∀k,k<=9->fa t d r k x=bG (eL t d r (k+1)) x
 |0,c=>by
  rw[uo a b c];unfold fa;simp only[Int.pow_zero,Int.ediv_one]
  by_cases h:x=512+d
  ·rw[jt h,jt h]
  rw[jw h,jw h];exact yP a b x
 |k+1,c=>by
  rw[uo a b c];unfold fa;rw[L9 a b Y,IW a b x k Y]
theorem SU(t:jd (N×N))(v:jj)(d x:N)(w:jh)(a:bJ w v t)(q:t.length<=800000)(g:aO d)(b:aO x):
 jq jl 85 #[jn #[v],T A d,T A x] w λe w'=>∃u,e=jp (jE #[jn #[u],T A (gJ t d x)])/\bJ w' u (kU t d x)/\jk w w w':=by
 refine(T6 t v d x w a Y g b).mono ?_;rintro e w' ⟨c,i,j⟩
 by_cases h:gJ t d x=0
 ·obtain⟨u,xs,rfl,k,f⟩:=j h
  have l:dD t d ji=0:=by
   unfold gJ at h
   split at h
   ·assumption
   exact h
  obtain⟨m,n,o⟩:=Ay l;have p:=lQ m;refine⟨u,by rw[h],?_,c⟩;unfold kU;rw[jt h,<-AL k (pV f) (vP (sH p.1 d) (sJ (rU Y))) (λe he=>?_) (λy _=>KW n o y)]
  ·exact f
  rcases rc he with rfl|he
  ·exact⟨aO.of (by show -9223372036854775808<=512+d/\512+d<=9223372036854775807;omega),b⟩
  exact zj (pV a) e he
 refine⟨_,i h,?_,c⟩;unfold kU;rw[jw h];exact oM _
theorem P1(t:jd (N×N))(v:jj)(d:N)(w:jh)(a:bJ w v t)(o:t.length<=800000)(f:aO d):
 jq jl 84 #[jn #[v],T A d] w λe w'=>∃u,e=jp (jE #[jn #[u],T A (dD t d jm)])/\bJ w' u (kJ t d)/\jk w w w':=by
 refine(Kd t v d w a Y f).mono ?_;rintro e w' ⟨b,g,i⟩
 by_cases h:dD t d jm=0
 ·obtain⟨u,xs,rfl,j,c⟩:=i h
  obtain⟨k,l,m⟩:=Ay h;have n:=lQ k;refine⟨u,by rw[h],?_,b⟩;unfold kJ;rw[jt h,<-AL j (pV c) (sH n.1 d) (zj (pV a)) (λy _=>yP l m y)];exact c
 refine⟨_,g h,?_,b⟩;unfold kJ;rw[jw h];exact oM _
theorem Pm(t:jd (N×N))(v:jj)(d:N)(l:jd N)(u:jj)(w:jh)(c:bJ w v t)(B:t.length<=800000)(k:aO d)(m:c8 w u l)(n:l.length<=1000000)(f:∀j,aO (l.getD j 0)):
 jq jl 33 #[jn #[v],T A d,u] w λe w'=>∃x,e=jp (jE #[jn #[x],T A (fc t d l)])/\(bJ w' x (gq t d l)/\Fr w.heap.size x)/\jk w w w':=by
 refine(J0 t v d l u w c Y k m n f).mono ?_;rintro e w' ⟨g,j,o⟩
 by_cases h:fc t d l=0
 ·obtain⟨u,xs,rfl,p,i,q⟩:=o h
  have r:dD t d jm=0:=by
   unfold fc at h
   split at h
   ·assumption
   exact h
  obtain⟨s,a,b⟩:=Ay r;have z:=lQ s;refine⟨u,by rw[h],⟨?_,q⟩,g⟩;unfold gq;rw[jt h,<-AL p (pV i) (Bv z.1 a b (ju 10)) (D9 (pV c) f a b 10) (λy _=>IW a b y 9 Y)];exact i
 refine⟨_,j h,⟨?_,Fr.nil _⟩,g⟩;unfold gq;rw[jw h];exact oM _
structure dA(g:Grp):Prop where
 fol:kf g.folder
 ep:0<=g.epoch/\g.epoch<=1099511627776
 tree:df g.tree=0
 zero:g.epoch=0->g.mem=[]/\g.last=jW 32 0#8
 dev:g.mem.map aL.dev=cr g.tree
 ok:∀m∈g.mem,1<=m.since/\m.since<=g.epoch/\bL m.ver
def oV(x:ap):Prop:=fI x.d/\((x.k=1/\bL x.p/\bL x.v/\x.c=0)\/(x.k=2/\x.p=0/\x.v=0/\0<=x.c/\x.c<=1048576)\/(x.k=3/\bL x.p/\bL x.v/\0<=x.c/\x.c<=1048576))
structure eW(l:jd ap):Prop where
 each:∀x∈l,oV x
 once:(l.map ap.d).Nodup
 len:l.length<=64
structure gL(g:Grp)(a:N)(l:jd ap):Prop where
 own:cL g.mem a=decide (0<g.epoch)
 first:g.epoch=0->∃x r,l=x::r/\x.d=a
 each:∀x∈l,cL g.mem x.d=decide (x.k≠1)/\(cL g.mem a=jm->x.d≠a)
noncomputable def ib(t:jd (N×N))(x:ap):jd (N×N):=if x.k=2 then kJ t x.d else kU t x.d x.p
noncomputable def aX(t:jd (N×N))(l:jd ap):jd (N×N):=l.foldl ib t
theorem Rl(t:jd (N×N))(l:jd ap)(x:ap):aX t (l++[x])=ib (aX t l) x:=by unfold aX;rw[List.foldl_append];rfl
theorem OH(t:jd (N×N))(x:ap):(ib t x).length<=t.length+1:=by
 have a:∀d,(dH t d).length<=t.length:=λd=>D1 _ _
 unfold ib
 split
 ·unfold kJ
  split
  ·have:=a x.d;omega
  simp
 unfold kU
 split
 ·have:=Hw (512+x.d,x.p) (dH t x.d);have:=a x.d;omega
 simp
theorem wQ(t:jd (N×N)):∀l:jd ap,(aX t l).length<=t.length+l.length:=by
 intro l
 induction l generalizing t with
 |nil=>simp[aX]
 |cons x l a=>
  have b:=a (ib t x);have c:=OH t x;show(aX (ib t x) l).length<=_;simp only[j5];omega
def kZ(a:N)(x:ap):jF:=decide (x.k=2)||decide (x.d=a)
def fl(l:jd ap):jd ap:=l.mergeSort λx y=>decide (x.d<=y.d)
def dt(a:N)(l:jd ap):jd ap:=fl (l.filter λx=> !kZ a x)
def gZ(a:N):jd N:=(nS a.toNat).map λn:jb=>(n:N)
noncomputable def fz(t:jd (N×N))(l:jd N)(k:jb):jd (N×N):=(l.zipIdx k).flatMap λx=>(fg t x.1).map λn=>((x.2:N),n)
noncomputable def eo(t:jd (N×N))(a:N):jd (N×N):=fz t (gZ a) 1
def dP(g:Grp)(a:N)(l:jd ap):N:=match g.mem.find? (λm=>m.dev==a)with
 |some m=>m.ver
 |none=>match l with|x::_=>x.v|[]=>0
structure mN(c:Cmt):Prop where
 fol:kf c.folder
 ep:1<=c.epoch/\c.epoch<=1099511627776
 aut:fI c.author
 chg:eW c.chg
 plen:c.path.length=10
 blen:c.box.length<=1024
 wlen:c.wel.length<=512
 path:∀p∈c.path,bL p
 box:∀b∈c.box,1<=b.node/\b.node<1024/\1<=b.lev/\b.lev<=9/\mH b.u b.body.length
 wel:∀x∈c.wel,fI x.dev/\mH x.u x.body.length
 inc:∀i,0<i->i<c.wel.length->((c.wel.map Wl.dev).getD (i-1) 0)<((c.wel.map Wl.dev).getD i 0)
noncomputable def gV(c:Cmt):N:=by classical exact if mN c then 0 else 220
theorem uz(h:mN y):gV y=0:=by unfold gV;rw[jt h]
theorem fp(h:¬mN y):gV y=220:=by unfold gV;rw[jw h]
noncomputable def dq(g:Grp)(a:N)(l:jd ap):N:=by classical exact if dA g then(if eW l/\gL g a l then 0 else 221)else 1
noncomputable def dT(g:Grp)(a:N)(l:jd ap):jd (N×N):=if dq g a l=0 then eo (aX g.tree l) a else []
theorem lD:dq a d e=0↔dA a/\eW e/\gL a d e:=by
 unfold dq
 by_cases h:dA a
 ·rw[jt h]
  by_cases b:eW e/\gL a d e
  ·rw[jt b];exact⟨λ_=>⟨h,b⟩,λ_=>rfl⟩
  rw[jw b];exact⟨λl=>jB l G,λl=>jB l.2 b⟩
 rw[jw h];exact⟨λl=>jB l G,λl=>jB l.1 h⟩
def aD(g:Grp)(vm vt:jj):jd jj:=T A g.folder::T A g.epoch::(g.last.map v8++[vm,vt])
structure bU(w:jh)(g:Grp)(vm vt:jj):Prop where
 mem:EM.At w vm g.mem
 tree:bJ w vt g.tree
 llen:g.last.length=32
theorem bU.below{g:Grp}(h:bU w g vm vt)(a:jk w w w'):bU w' g vm vt:=⟨h.mem.below a,h.tree.below a,h.llen⟩
theorem eE(h:a.last.length=32):(aD a u j).length=36:=by unfold aD;simp[h]
structure dE(w:jh)(b:jb)(g:Grp)(vm vt:jj):Prop where
 blk:w.heap[b]?=ja (je (aD g vm vt).toArray 45 (0,0))
 llen:g.last.length=32
theorem dE.new(w:jh){g:Grp}{vm vt:jj}(h:g.last.length=32):dE (w.alloc (je (aD g vm vt).toArray 45)) w.heap.size g vm vt:=⟨jy w _,h⟩
theorem dE.lt(h:dE w b a u j):b<w.heap.size:=(jG.1 h.blk).1
theorem dE.keep{g:Grp}(h:dE w b g vm vt)(a:w'.heap[b]?=w.heap[b]?):dE w' b g vm vt:=⟨a.trans h.blk,h.llen⟩
theorem dE.below{g:Grp}(h:dE w b g vm vt)(a:jk w w w'):dE w' b g vm vt:=h.keep (a.block b h.lt)
theorem dE.get(h:dE w b a u j){i:jb}{v:jj}(g:(aD a u j)[i]?=ja v):w.cell? ⟨b,i,jc⟩=ja v:=
 ai h.blk (ak g)
theorem lR{g:Grp}(h:g.last.length=32):(aD g vm vt)[0]?=ja (T A g.folder)/\(aD g vm vt)[1]?=ja (T A g.epoch)/\(aD g vm vt)[34]?=ja vm/\(aD g vm vt)[35]?=ja vt:=by
 have a:(g.last.map v8).length=32:=by rw[jC];exact h
 unfold aD;refine⟨I,I,?_,?_⟩
 ·show(g.last.map v8++[vm,vt])[32]?=_
  rw[xx Y,a];rfl
 show(g.last.map v8++[vm,vt])[33]?=_;rw[xx Y,a];rfl
theorem dE.at{g:Grp}(h:dE w b g vm vt):w.cell? ⟨b,0,jc⟩=ja (T A g.folder)/\w.cell? ⟨b,1,jc⟩=ja (T A g.epoch)/\w.cell? ⟨b,34,jc⟩=ja vm/\w.cell? ⟨b,35,jc⟩=ja vt:=
 have e:=lR (vm:=vm) (vt:=vt) h.llen
 ⟨h.get e.1,h.get e.2.1,h.get e.2.2.1,h.get e.2.2.2⟩
theorem dE.last{g:Grp}(h:dE w b g vm vt):w.rangeAt b 2 (g.last.map v8):=by
 intro j v a;have c:=(o3.1 a).1;refine h.get ?_;unfold aD;rw[show 2+j=j+1+1 by omega,E2,E2,sn c];exact a
theorem EK.At.mems{l:jd aL}(h:EM.At w u l):og w u l:=by
 obtain⟨a,p,c,b,d,f,i⟩:=h;refine⟨a,p,c,b,d,f,λj=>?_⟩;obtain⟨g,o,e,k⟩:=i j;exact⟨g,o,e,trivial,k⟩
theorem rF{g:Grp}(h:g.last.length=32):(jl.info? 45).map (·.size)=ja (aD g vm vt).toArray.size:=by
 rw[jJ,eE h];kernel_rfl
theorem yR(g:Grp)(vm vt:jj)(d:N)(w:jh)(a:EM.At w vm g.mem)(i:mD g.mem)(q:g.mem.length<=1000000)(r:g.last.length=32):
 jq jl 79 #[jn (aD g vm vt).toArray,T A d] w λe w'=>e=jp (jE #[T A (ma g.mem d:jb),.bool (cL g.mem d)])/\jk w w w':=by
 have j:=dE.new w (vm:=vm) (vt:=vt) r;have b:=ao w (je (aD g vm vt).toArray 45);have f:=O (S0 g.mem i vm d _ (a.mems.below b) q);have h:=O b;obtain⟨k,l,m,n⟩:=j.at;obtain⟨p,c,rfl,-,-⟩:=a.form;obtain⟨s,o⟩:=J ((aD g (jg p g.mem.length c) vt).toArray);rw[<-o]at k l m n f h⊢;clear j b a i o
 go_enter func79,ntmps79
 go_wp2_with fail
 refine(f).mono ?_;rintro e i ⟨rfl,a⟩;have b:=ah h a;clear a f k l m n h
 go_wp2_with fail
 go_ret2;exact⟨I,b⟩
noncomputable def ge(ep:N)(m:aL):jF:=decide (m.since<1)||decide (ep<m.since)||decide (cW m.ver≠0)
theorem Pg(g:Grp)(vm vt:jj)(b:jb)(m:aL)(w:jh)(l:dE w b g vm vt):
 jq jl 59 #[jn m.cells.toArray,jz (ja ⟨b,0,jc⟩)] w λe w'=>e=jp (.bool (ge g.epoch m))/\jk w w w':=by
 obtain⟨md,a,f⟩:=m;obtain⟨r,c⟩:=J (ge g.epoch ⟨md,a,f⟩);rw[<-c];have i:=O c;unfold aL.cells;have d:=ao w (je #[T A md,T A a,T A f] 103);obtain⟨-,n,-,-⟩:=(l.below d).at;have h:=O d;have j:=O (gC f);obtain⟨p,k⟩:=J (cW f);rw[<-k]at j;have q:=O k;obtain⟨ep,he⟩:=J g.epoch;rw[<-he]at n;have o:=O he;clear c d l k he
 by_cases c:a<1
 ·have k:decide (a<1)=jm:=ak c
  obtain rfl:r=jm:=by rw[i];unfold ge;simp[c]
  go_enter func59,ntmps59
  go_wp2_with fail
  go_ret;exact⟨I,h⟩
 have k:decide (a<1)=ji:=ak c
 by_cases d:ep<a
 ·have hd2:decide (ep<a)=jm:=ak d
  obtain rfl:r=jm:=by rw[i];unfold ge;rw[<-o];simp[d]
  go_enter func59,ntmps59
  go_wp2_with fail
  go_ret;exact⟨I,h⟩
 have hd2:decide (ep<a)=ji:=ak d;have l:jf (r=decide (p≠0)):=O (by rw[i];unfold ge;rw[<-o,<-q];simp[c,d]);clear c d
 go_enter func59,ntmps59
 go_wp2_with fail
 refine(j _).mono ?_;rintro e s ⟨rfl,c⟩;have d:=ah h c;clear c j h n
 go_wp2_with fail
 go_ret;exact⟨iu (by rw[l];exact Tk _ _),d⟩
theorem LP(m:aL)(d:N)(w:jh):
 jq jl 61 #[jn m.cells.toArray,T A d] w λe w'=>e=jp (.bool (m.dev==d))/\jk w w w':=by
 obtain⟨md,a,b⟩:=m;unfold aL.cells;have c:=O (ao w (je #[T A md,T A a,T A b] 103))
 go_enter func61,ntmps61
 go_wp2_with fail
 go_ret;exact⟨I,c⟩
theorem Df(g:Grp)(vm vt:jj)(b a:jb)(c:b<a):fU EM 59 #[jz (ja ⟨b,0,jc⟩)] a (λW=>dE W b g vm vt) (ge g.epoch) where
 enter _ _:=I
 keep w w' hn h hB:=h.keep (hB.block b c)
 call x w hn h:=Pg g vm vt b x w h
theorem MD(a:N)(b:jb)(x:ap)(w:jh)(k:jA w b 3 (T A a)):
 jq jl 71 #[jn x.cells.toArray,jz (ja ⟨b,0,jc⟩)] w λe w'=>e=jp (.bool (kZ a x))/\jk w w w':=by
 obtain⟨c,f,g,h,i⟩:=x;obtain⟨r,d⟩:=J (kZ a ⟨c,f,g,h,i⟩);rw[<-d];have l:=O d;unfold ap.cells;have j:=ao w (je #[T A c,T A f,T A g,T A h,T A i] 56);have n:(w.alloc (je #[T A c,T A f,T A g,T A h,T A i] 56)).cell? ⟨b,0,jc⟩=ja (T A a):=aB k.cell j;have m:=O j;clear d j k
 by_cases d:c=2
 ·subst d
  obtain rfl:r=jm:=by rw[l];unfold kZ;simp
  go_enter func71,ntmps71
  go_wp2_with fail
  go_ret;exact⟨I,m⟩
 have k:(c==2)=ji:=ak d;have o:decide (c=2)=ji:=ak d;have j:jf (r=(f==a)):=O (by rw[l];unfold kZ;simp[d];rfl);clear d
 go_enter func71,ntmps71
 go_wp2_with fail
 go_ret;exact⟨iu j.symm,m⟩
theorem SN(a:N)(b c:jb)(d:b<c):fU EC 71 #[jz (ja ⟨b,0,jc⟩)] c (λW=>jA W b 3 (T A a)) (kZ a) where
 enter _ _:=I
 keep w w' hn h hB:=(hB.block b d).trans h
 call x w hn h:=MD a b x w h
theorem uU{P:jX}{b:jD j0}{c:Exit->Act->jh->Prop}{E:Act}{w:jh}{d:jd j0}{o:j0}(e:Region.wanted o (yielded b E.tmps)=jm)
 (h:∀K:Act->jh->Prop,(∀E w,wpList P b c d E w->K E w)->o.wp P E w K c):wpList P b c (o::d) E w:=
 wpList_step λK f=>by rw[jt e];exact h K f
theorem Nm(n m:N):(n==m)=decide (n=m):=by by_cases h:n=m<;>simp[h]
theorem Ua{l:jd aL}(c:l.length=r.length)(h:∀t,t<l.length->(l.getD t de).dev=r.getD t 0):l.map aL.dev=r:=by
 refine List.ext_getElem (by rw[jC];exact c) λi a d=>?_
 have b:i<l.length:=by rw[jC]at a;exact a
 have:=h i b;rw[fu _ b,fu _ d]at this;rw[sq];exact this
theorem Q7{l:jd aL}(a:b<l.length)(h:(l.getD b de).dev≠r.getD b 0):¬l.map aL.dev=r:=λe=>by
 apply h
 rw[<-e,fu _ a,fu _ (by rw[jC];exact a),sq]
theorem wF(l:jd aL)(r:jd N)(v u:jj)(w:jh)(h:EM.At w v l)(hu:c8 w u r)(hl:l.length<=1000000)(hr:r.length<=1000000):
 jq jl 62 #[v,u,.func (.func 61) #[] #[]] w λe w'=>e=jp (.bool (decide (l.map aL.dev=r)))/\jk w w w':=by
 obtain⟨D,a⟩:=J (decide (l.map aL.dev=r));rw[<-a];have E:=O a;obtain⟨p,c,rfl,hc,-⟩:=h.form;obtain⟨q,d,rfl,hd,g⟩:=hu;have P:=O h;have HV:=O g;obtain⟨n,b⟩:=J l.length;obtain⟨m,f⟩:=J r.length;have s:=O b;have B:=O f;rw[<-b]at hl hc P⊢;rw[<-f]at hr hd⊢;have EG:∀args w,(o8 61 args).run jl w=.ok (.enter 61 args) w:=λ_ _=>rfl
 clear h g b f a
 by_cases f:n=m
 ·have aa:((n:N)!=(m:N))=ji:=by simp[f]
  have UM:((n:N)==(m:N))=jm:=by simp[f]
  have C:=O f;clear f
  go_enter func62,ntmps62
  go_wp2_with fail
  go_loopw [17] (λi wr=>∃k:jb,i=T A k/\k<=n/\jf (∀t,t<k->(l.getD t de).dev=r.getD t 0)/\jf (jk w w wr)) (λi _=>n-(jv i).toNat)
  case atStart=>exact⟨0,I,j6 _,O (λt Q=>jB Q Y),O (jK _ _)⟩
  obtain⟨k,rfl,hk,R,b⟩:=hrel
  by_cases F:k<n
  ·have ad:=aA ((k:N)<(n:N))
   have au:=aA (k<n);have ax:k<m:=aI C;have hd2:=aA ((k:N)<(m:N));have ay:=aA (k<m);obtain⟨e,he,-⟩:=dL (l:=l) (j:=k) (by rw[<-s];exact F);obtain⟨g,o,rfl,h⟩:=(P.cells).2.2 Y;obtain⟨S,U,rfl,V⟩:=HV.out (by rw[<-B,<-C];omega);have x:=V k (by rw[<-B,<-C];exact F);have X:l.getD k de=e:=by simp[jQ,he]
   have HE:=O X;obtain⟨y,H⟩:=J (r.getD k 0);rw[<-H]at x;have HY:=O H;obtain⟨a,i,z⟩:=e;have c0:wr.cell? ⟨g,o+k*3,jc⟩=ja (T A a):=aB (h k _ he 0 _ I) b;have c1:wr.cell? ⟨g,o+k*3+1,jc⟩=ja (T A i):=aB (h k _ he 1 _ I) b;have c2:wr.cell? ⟨g,o+k*3+2,jc⟩=ja (T A z):=aB (h k _ he 2 _ I) b;have K:=ao wr (je #[T A a,T A i,T A z] 103);have c3:wr.cell? ⟨S,U+k,jc⟩=ja (T A y):=aB x b;have c4:(wr.alloc (je #[T A a,T A i,T A z] 103)).cell? ⟨S,U+k,jc⟩=ja (T A y):=aB c3 K;have HC:jf (∀W,jq jl 61 #[jn #[T A a,T A i,T A z],T A y] W λe w'=>e=jp (.bool (a==y))/\jk W W w'):=O (LP ⟨a,i,z⟩ y);have M:=O K;clear h V x X H he K
   go_wp2_with fail
   refine(HC _).mono ?_;rintro x W ⟨rfl,h⟩;have H:=O (b.trans ((M.trans (h.mono M.size)).mono b.size));clear h HC c0 c1 c2 c3 c4 M
   by_cases h:a=y
   ·have M:(a==y)=jm:=ak h
    have V:jf (∀t,t<k+1->(l.getD t de).dev=r.getD t 0):=O (λt Q=>by
     rcases qk t k with K|K
     ·exact R t K
     obtain rfl:t=k:=Y;rw[HE,<-HY];exact h)
    clear h
    go_wp2_with fail
    exact⟨⟨k+1,by go_num,by omega,V,H⟩,by simp only[jv];omega⟩
   have M:(a==y)=ji:=ak h;obtain rfl:D=ji:=by
    rw[E,decide_eq_false_iff_not];exact Q7 (by rw[<-s];exact F) (by rw[HE,<-HY];exact h)
   clear h
   go_wp2_with fail
   go_ret;exact⟨I,H⟩
  have ad:=az ((k:N)<(n:N));have au:=az (k<n);obtain rfl:k=n:=Y;obtain rfl:D=jm:=by
   rw[E,decide_eq_true_iff];exact Ua (by rw[<-s,<-B];exact C) (by rw[<-s];exact R)
  go_wp2_with fail
  go_ret;exact⟨I,b⟩
 have aa:((n:N)!=(m:N))=jm:=by simp;omega
 have UM:((n:N)==(m:N))=ji:=by simp;omega
 obtain rfl:D=ji:=by
  rw[E,decide_eq_false_iff_not];intro e;have:=js List.length e;rw[jC,<-s,<-B]at this;exact f this
 clear f
 go_enter func62,ntmps62
 go_wp2_with fail
 go_ret;exact⟨I,jK _ _⟩
theorem nZ(a b:LBy)(f:a.length=32)(g:b.length=32)(z:jh):
 (Op.equalIn 10000 23 (jn (a.map v8).toArray) (jn (b.map v8).toArray)).run jl z=.ok (decide (a=b)) z:=by
 have h:=Hg (P:=jl) (t:=23) (e:=5) (n:=32) (k:=.u8) underlying23 wv af af af (a.map λb=>(b.toNat:N)) (b.map λb=>(b.toNat:N)) (by rw[jC];exact f) (by rw[jC];exact g)
  (by
   intro c d;obtain⟨y,-,rfl⟩:=jO.1 d;have:=y.isLt;exact WalkArith.wf_u8 Y) (by
    intro c d;obtain⟨y,-,rfl⟩:=jO.1 d;have:=y.isLt;exact WalkArith.wf_u8 Y) z
 have e:∀l:LBy,(l.map λb=>(b.toNat:N)).map (jo .u8)=l.map v8:=λl=>by rw[xu];rfl
 rw[e,e]at h;rw[h]
 congr 1
 have c:(a.map λb=>(b.toNat:N))=(b.map λb=>(b.toNat:N))↔a=b:=by
  refine xX λx y d=>?_
  have:x.toNat=y.toNat:=xg.inj d;exact BitVec.eq_of_toNat_eq this
 simp only[c]
theorem m6(h:w.ownsRow b 3 1 u r.length (r.map (jo .i64))):c8 w u r:=by
 obtain⟨m,p,c,B,d,n,f⟩:=cF.of_own h;refine⟨p,c,B,d,λi=>?_⟩;obtain⟨g,o,e,k⟩:=f i;refine⟨g,o,e,λj a=>k j _ ?_⟩;rw[j9,ms a];simp[jQ,a]
theorem et(h:c8 w u r)(a:jk w w f):c8 f u r:=by
 obtain⟨p,c,b,d,w'⟩:=h;refine⟨p,c,b,d,λi=>?_⟩;obtain⟨g,o,e,k⟩:=w' i;exact⟨g,o,e,λj m=>aB (k j m) a⟩
noncomputable def fH(g:Grp):jF:=by classical exact decide (dA g)
theorem ko(h:¬dA a):fH a=ji:=by unfold fH;simpa using h
theorem Ey(h:dA a):fH a=jm:=by unfold fH;simpa using h
theorem EH{m:aL}:ge d m=ji↔1<=m.since/\m.since<=d/\bL m.ver:=by
 unfold ge;have e:(cW m.ver=0)↔bL m.ver:=⟨λh=>by
  by_cases g:bL m.ver
  ·exact g
  rw[lf g]at h;exact jB h G,gE⟩
 simp only[Bool.or_eq_false_iff,decide_eq_false_iff_not,Int.not_lt,ne_eq,Classical.not_not,e];exact⟨λh=>⟨h.1.1,h.1.2,h.2⟩,λh=>⟨⟨h.1,h.2.1⟩,h.2.2⟩⟩
theorem Ck(e:kf a.folder)(f:0<=a.epoch/\a.epoch<=1099511627776)(h:df a.tree=0)(i:a.epoch=0->a.mem=[]/\a.last=jW 32 0#8):
 fH a=(decide (a.mem.map aL.dev=cr a.tree)&& !(a.mem.any (ge a.epoch))):=by
 by_cases g:dA a
 ·rw[Ey g]
  have b:decide (a.mem.map aL.dev=cr a.tree)=jm:=jS g.dev;have c:a.mem.any (ge a.epoch)=ji:=by
   rw[qj];intro m d;rw[EH.2 (g.ok m d)];simp
  rw[b,c];rfl
 rw[ko g]
 by_cases b:a.mem.map aL.dev=cr a.tree
 ·have c:a.mem.any (ge a.epoch)=jm:=by
   cases hx:a.mem.any (ge a.epoch)with
   |true=>rfl
   |false=>
    exfalso
    apply g
    rw[qj]at hx;exact⟨e,f,h,i,b,λm d=>EH.1 (by simpa using hx m d)⟩
  rw[c];simp
 simp[b]
theorem Gm(t:jd (N×N)):(cr t).length<=512:=by
 have e:=pN t;have c:=λd=>(oI t d).1
 have f:((cr t).map Int.toNat).Nodup:=by
  have g:((cr t).map Int.toNat).Pairwise (·<·):=xt.2 (e.imp_of_mem λ{a b} h i j=>by have:=(c a h).1;have:=(c b i).1;omega);exact g.imp λh=>xj h
 have:=List.Nodup.length_le_of_subset f (l₂:=qG 512) (λx a=>by
  obtain⟨d,b,rfl⟩:=jO.1 a;have g:=c d b;rw[r4];omega)
 simpa using this
theorem BV(g:Grp)(vm vt:jj)(w:jh)(h:bU w g vm vt)(F:g.mem.length<=1000000)(k:g.tree.length<=1000000):
 jq jl 22 #[jn (aD g vm vt).toArray] w λe w'=>e=jp (.bool (fH g))/\jk w w w':=by
 obtain⟨r,o⟩:=J (fH g);rw[<-o];have P:=O o;obtain⟨fo,p⟩:=J (decide (kf g.folder));have ay:=O p;have c:=dE.new w (vm:=vm) (vt:=vt) h.llen;have a:=ao w (je (aD g vm vt).toArray 45);have d:=h.below a;obtain⟨pm,cm,rfl,H,-⟩:=h.mem.form;obtain⟨t,q⟩:=J g.mem.length;rw[<-q]at c a d H⊢;have a2:=O q;obtain⟨ad,f⟩:=J ((aD g (jg pm t cm) vt).toArray);obtain⟨m,Q,S,n⟩:=c.at;have i:=c.blk;have s:=lR (g:=g) (vm:=jg pm t cm) (vt:=vt) h.llen;have j:=c.last;have y:jf (ad[34]?=ja (jg pm t cm)):=O (by rw[f];simpa using s.2.2.1);have B:jf (ad[35]?=ja vt):=O (by rw[f];simpa using s.2.2.2);rw[<-f]at m Q S n i a d j⊢;obtain⟨b,u⟩:=J w.heap.size;rw[<-u]at m Q S n i j;obtain⟨W1,v⟩:=J (w.alloc (je ad 45));rw[<-v]at m Q S n i a d j;have VV:=O v;have a5:=O u;have YH:=O f;have K:=O i;have z:=O d;have l:=O a;have VR:=O h.llen;have WL:=O k;have Zb:=O F;have M:=O j;have ax:jf ((cr g.tree).length<=1000000):=O (jL (Gm _) G);obtain⟨ck,C⟩:=J (df g.tree);have R:jf (∀W,bJ W vt g.tree->jq jl 58 #[jn #[vt]] W λe w'=>e=jp (T A ck)/\jk W W w'):=O (by rw[C];exact λW x=>ye g.tree vt W x k);have WZ:=O C;obtain⟨ep,D⟩:=J g.epoch;rw[<-D]at Q;have U:=O D;obtain⟨fd,E⟩:=J g.folder;have V:jf (∀e x,e=g.folder->jq jl 57 #[T A e] x λe w'=>e=jp (.bool fo)/\x=w'):=O (by rw[p];rintro e x rfl;exact ES _ x);rw[<-E]at m;have a6:=O E;clear h o p c a d H q f i s j u v F k C D E
 go_enter func22,ntmps22
 go_upto_region 1 with fail
 rw[<-VV,<-a5]
 go_wp2_with fail
 refine(V fd W1 a6).mono ?_;rintro e w1 ⟨rfl,rfl⟩;clear V
 cases fo with
 |false=>
  obtain rfl:r=ji:=by rw[P];exact ko λh=>by have x:=ay.out;rw[jS h.fol]at x;cases x
  go_wp2_with fail
  go_ret;exact⟨I,l⟩
 |true=>
 by_cases a:ep<0
 ·have ba:decide (ep<0)=jm:=ak a
  obtain rfl:r=ji:=by rw[P];exact ko λh=>by have:=h.ep.1;rw[<-U]at this;omega
  clear a
  go_wp2_with fail
  go_ret;exact⟨I,l⟩
 have ba:decide (ep<0)=ji:=ak a
 by_cases x:1099511627776<ep
 ·have hd2:decide (1099511627776<ep)=jm:=ak x
  obtain rfl:r=ji:=by rw[P];exact ko λh=>by have:=h.ep.2;rw[<-U]at this;omega
  clear a x
  go_wp2_with fail
  go_ret;exact⟨I,l⟩
 have hd2:decide (1099511627776<ep)=ji:=ak x;have a3:=O (show 0<=ep/\ep<=1099511627776 by omega);clear a x
 go_wp2_with fail
 refine(R W1 z.tree).mono ?_;rintro e w1 ⟨rfl,a⟩;have f:=ae K a;have i:=O (z.below a);have k:=ah l a;have bb:jf (w1.rangeAt b 2 (g.last.map v8)):=O (λj v c=>aB (M j v c) a);replace Q:=aB Q a;replace S:=aB S a;clear a K z l M m n R
 by_cases C:ck=0
 case neg=>
  have hd3:(ck==0)=ji:=ak C;have c:decide (ck=0)=ji:=ak C;have d:(ck !=0)=jm:=ak C;obtain rfl:r=ji:=by rw[P];exact ko λh=>C (by rw[WZ];exact h.tree)
  clear C
  go_wp2_with fail
  go_ret;exact⟨I,k⟩
 subst C;have a4:jf (0=df g.tree):=WZ
 by_cases h4:ep=0
 case pos=>
  subst h4
  by_cases d:0<t
  ·have bc:decide (0<t)=jm:=ak d
   have bd:decide ((0:N)<(t:N))=jm:=ak d;obtain rfl:r=ji:=by rw[P];exact ko λh=>by have:=(h.zero U.symm).1;have e:=a2.out;rw[this]at e;simp at e;omega
   clear d
   go_wp2_with fail
   go_ret;exact⟨I,k⟩
  have bc:decide (0<t)=ji:=ak d;have bd:decide ((0:N)<(t:N))=ji:=ak d;obtain⟨bf,c⟩:=J ((g.last.map v8).toArray);have bg:=O c;obtain⟨R,p⟩:=J (decide (g.last=jW 32 0#8));have D:=O p;have j:∀z,(Op.equalIn 10000 23 (jn bf) (jn a8)).run jl z=.ok R z:=by
   rw[c,p];exact λz=>nZ g.last (jW 32 0#8) VR I z
  clear c p
  go_upto_region 3 with fail
  refine ow ?_;iterate 10 refine eh ?_
  refine uU aj λ_ c=>wp_load_mid 23 _ I b 2 I (g.last.map v8) _ bb.out underlying23 I (by rw[jC,VR];kernel_rfl) (c _ _ ?_)
  rw[<-bg];refine L ?_;refine eh ?_
  rcases R with _|_
  ·obtain rfl:r=ji:=by rw[P];exact ko λh=>by have x:=(h.zero U.symm).2;have C:=D.out;rw[jS x]at C;cases C
   go_wp2_with fail
   go_ret;exact⟨I,k⟩
  have V:jf (r=(decide (g.mem.map aL.dev=cr g.tree)&& !(g.mem.any (ge g.epoch)))):=O (by
   rw[P];exact Ck (qb ay.symm) (by rw[<-U];exact a3) a4.symm (λe=>⟨sv (by rw[<-a2];simpa using d),qb D.symm⟩))
  clear D d;obtain⟨R,p⟩:=J (decide (g.mem.map aL.dev=cr g.tree));obtain⟨wr,W⟩:=J (g.mem.any (ge g.epoch));rw[<-p,<-W]at V;have D:jf (decide (g.mem.map aL.dev=cr g.tree)=R):=O p.symm;have a1:=O W;clear p W
  go_upto_region 7 with fail
  clear Q S j;refine qa ?_;refine di (λn=>n.heap[b]?=ja (je ad 45 (0,0))) (.t 0 (.t 1 (.t 2 (.t 3 (.t 5 (.o 4 (.o 6 (.t 7 (.t 8 (.t 9 (.t 10 (.o 11 (.t 12 (.t 13 (.t 14 .done))))))))))))))) af af af G (λ_ _ _ _ h=>h) f ?_;obtain⟨x0,au⟩:=J w1.drew;have a:=bV w1;rw[<-au]at a⊢;have E:=ae f a;have o:=O (i.below a);have l:=ah k a;clear a au f i k
  cases R with
  |true=>
   refine aQ ?_
   (refine aW (v:=?_) I aj (λn d=>?_) ?_;rotate_left;(have F:=ai d y;have H:=ai d B;go_simp;with_reducible rfl);refine L ?_)
   refine aQ ?_
   (refine aW (v:=?_) I aj (λn d=>?_) ?_;rotate_left;(have F:=ai d y;have H:=ai d B;go_simp;with_reducible rfl);refine L ?_)
   refine aQ ?_;refine aE I (λq c=>?_);go_simp;refine(tK g.tree vt x0 o.tree WL).mono ?_;rintro e x1 ⟨u,rfl,m,a⟩;have s:=O (m6 m);obtain⟨pu,cu,rfl,X,aa⟩:=m6 m;clear m X aa;have k:=ah l a;have f:=ae E a;have i:=O (o.below a);clear l E o;clear a;refine c _ _ f.out λ_=>?_
   clear c;refine L ?_;refine aE I (λq c=>?_);go_simp;refine(wF g.mem (cr g.tree) _ _ x1 i.mem s Zb ax).mono ?_;rintro e x2 ⟨rfl,a⟩;rw[D];have K:=ah k a;have j:=ae f a;have M:=O (i.below a);clear k f i s;clear a;refine c _ _ j.out λ_=>?_
   clear c;refine L ?_;iterate 2 refine aQ ?_
   (refine aW (v:=?_) I aj (λn d=>?_) ?_;rotate_left;(have F:=ai d y;have H:=ai d B;go_simp;with_reducible rfl);refine L ?_)
   refine aQ ?_;refine aE I (λq c=>?_);rw[jt aj];go_simp;refine(Au (Df g (jg pm t cm) vt b x2.heap.size (jG.1 j).1) g.mem _ x2 M.mem ⟨by rw[j,YH],VR⟩ (ju _) Zb).mono ?_;rintro e x3 ⟨rfl,a⟩;rw[<-a1];have UE:=ah K a;have YF:=ae j a;have bh:=O (M.below a);clear K j M;clear a;refine c _ _ YF.out λ_=>?_
   clear c;refine L ?_;iterate 3 refine aQ ?_
   refine jV ?_
   go_wp2_with fail
   go_ret;exact⟨by rw[V];rfl,UE⟩
  |false=>
   refine aQ ?_
   (refine aW (v:=?_) I aj (λn d=>?_) ?_;rotate_left;(have F:=ai d y;have H:=ai d B;go_simp;with_reducible rfl);refine L ?_)
   refine aQ ?_
   (refine aW (v:=?_) I aj (λn d=>?_) ?_;rotate_left;(have F:=ai d y;have H:=ai d B;go_simp;with_reducible rfl);refine L ?_)
   refine aQ ?_;refine aE I (λq c=>?_);go_simp;refine(tK g.tree vt x0 o.tree WL).mono ?_;rintro e x1 ⟨u,rfl,m,a⟩;have s:=O (m6 m);obtain⟨pu,cu,rfl,X,aa⟩:=m6 m;clear m X aa;have k:=ah l a;have f:=ae E a;have i:=O (o.below a);clear l E o;clear a;refine c _ _ f.out λ_=>?_
   clear c;refine L ?_;refine aE I (λq c=>?_);go_simp;refine(wF g.mem (cr g.tree) _ _ x1 i.mem s Zb ax).mono ?_;rintro e x2 ⟨rfl,a⟩;rw[D];have K:=ah k a;have j:=ae f a;have M:=O (i.below a);clear k f i s;clear a;refine c _ _ j.out λ_=>?_
   clear c;refine L ?_;refine aQ ?_;iterate 3 refine kp ?_
   refine aE I (λq c=>?_);rw[jw (sx.1 aj)];refine c _ _ j.out λ_=>?_
   clear c;refine L ?_;refine kp ?_;iterate 2 refine aQ ?_
   refine jV ?_
   go_wp2_with fail
   go_ret;exact⟨by rw[V];rfl,K⟩
 have z:decide (ep=0)=ji:=ak h4;have bc:(ep==0)=ji:=ak h4;have V:jf (r=(decide (g.mem.map aL.dev=cr g.tree)&& !(g.mem.any (ge g.epoch)))):=O (by rw[P];exact Ck (qb ay.symm) (by rw[<-U];exact a3) a4.symm (λe=>jB (U.trans e) h4));clear h4;obtain⟨R,p⟩:=J (decide (g.mem.map aL.dev=cr g.tree));obtain⟨wr,W⟩:=J (g.mem.any (ge g.epoch));rw[<-p,<-W]at V;have D:jf (decide (g.mem.map aL.dev=cr g.tree)=R):=O p.symm;have a1:=O W;clear p W
 go_upto_region 7 with fail
 clear Q S;refine qa ?_;refine di (λn=>n.heap[b]?=ja (je ad 45 (0,0))) (.t 0 (.t 1 (.t 2 (.t 3 (.t 5 (.o 4 (.o 6 (.t 7 (.t 8 (.t 9 (.t 10 (.o 11 (.t 12 (.t 13 (.t 14 .done))))))))))))))) af af af G (λ_ _ _ _ h=>h) f ?_;obtain⟨x0,au⟩:=J w1.drew;have a:=bV w1;rw[<-au]at a⊢;have E:=ae f a;have o:=O (i.below a);have l:=ah k a;clear a au f i k
 cases R with
 |true=>
  refine aQ ?_
  (refine aW (v:=?_) I aj (λn d=>?_) ?_;rotate_left;(have F:=ai d y;have H:=ai d B;go_simp;with_reducible rfl);refine L ?_)
  refine aQ ?_
  (refine aW (v:=?_) I aj (λn d=>?_) ?_;rotate_left;(have F:=ai d y;have H:=ai d B;go_simp;with_reducible rfl);refine L ?_)
  refine aQ ?_;refine aE I (λq c=>?_);go_simp;refine(tK g.tree vt x0 o.tree WL).mono ?_;rintro e x1 ⟨u,rfl,m,a⟩;have s:=O (m6 m);obtain⟨pu,cu,rfl,X,aa⟩:=m6 m;clear m X aa;have k:=ah l a;have f:=ae E a;have i:=O (o.below a);clear l E o;clear a;refine c _ _ f.out λ_=>?_
  clear c;refine L ?_;refine aE I (λq c=>?_);go_simp;refine(wF g.mem (cr g.tree) _ _ x1 i.mem s Zb ax).mono ?_;rintro e x2 ⟨rfl,a⟩;rw[D];have K:=ah k a;have j:=ae f a;have M:=O (i.below a);clear k f i s;clear a;refine c _ _ j.out λ_=>?_
  clear c;refine L ?_;iterate 2 refine aQ ?_
  (refine aW (v:=?_) I aj (λn d=>?_) ?_;rotate_left;(have F:=ai d y;have H:=ai d B;go_simp;with_reducible rfl);refine L ?_)
  refine aQ ?_;refine aE I (λq c=>?_);rw[jt aj];go_simp;refine(Au (Df g (jg pm t cm) vt b x2.heap.size (jG.1 j).1) g.mem _ x2 M.mem ⟨by rw[j,YH],VR⟩ (ju _) Zb).mono ?_;rintro e x3 ⟨rfl,a⟩;rw[<-a1];have UE:=ah K a;have YF:=ae j a;have bh:=O (M.below a);clear K j M;clear a;refine c _ _ YF.out λ_=>?_
  clear c;refine L ?_;iterate 3 refine aQ ?_
  refine jV ?_
  go_wp2_with fail
  go_ret;exact⟨by rw[V];rfl,UE⟩
 |false=>
  refine aQ ?_
  (refine aW (v:=?_) I aj (λn d=>?_) ?_;rotate_left;(have F:=ai d y;have H:=ai d B;go_simp;with_reducible rfl);refine L ?_)
  refine aQ ?_
  (refine aW (v:=?_) I aj (λn d=>?_) ?_;rotate_left;(have F:=ai d y;have H:=ai d B;go_simp;with_reducible rfl);refine L ?_)
  refine aQ ?_;refine aE I (λq c=>?_);go_simp;refine(tK g.tree vt x0 o.tree WL).mono ?_;rintro e x1 ⟨u,rfl,m,a⟩;have s:=O (m6 m);obtain⟨pu,cu,rfl,X,aa⟩:=m6 m;clear m X aa;have k:=ah l a;have f:=ae E a;have i:=O (o.below a);clear l E o;clear a;refine c _ _ f.out λ_=>?_
  clear c;refine L ?_;refine aE I (λq c=>?_);go_simp;refine(wF g.mem (cr g.tree) _ _ x1 i.mem s Zb ax).mono ?_;rintro e x2 ⟨rfl,a⟩;rw[D];have K:=ah k a;have j:=ae f a;have M:=O (i.below a);clear k f i s;clear a;refine c _ _ j.out λ_=>?_
  clear c;refine L ?_;refine aQ ?_;iterate 3 refine kp ?_
  refine aE I (λq c=>?_);rw[jw (sx.1 aj)];refine c _ _ j.out λ_=>?_
  clear c;refine L ?_;refine kp ?_;iterate 2 refine aQ ?_
  refine jV ?_
  go_wp2_with fail
  go_ret;exact⟨by rw[V];rfl,K⟩
def mw(g:Grp)(a:N)(x:ap):jF:=(cL g.mem x.d==decide (x.k=1))||(cL g.mem a&&decide (x.d=a))
noncomputable def lM(g:Grp)(a:N)(l:jd ap):jF:=by classical exact decide (gL g a l)
theorem tM:lM a d e=jm↔gL a d e:=by unfold lM;simp
theorem tP(h:¬gL a d e):lM a d e=ji:=by unfold lM;simpa using h
theorem Fc(c:cL a.mem d=decide (0<a.epoch))(g:a.epoch=0->∃x r,e=x::r/\x.d=d):lM a d e= !(e.any (mw a d)):=by
 have l:∀x:ap,mw a d x=ji↔(cL a.mem x.d=decide (x.k≠1)/\(cL a.mem d=jm->x.d≠d)):=λx=>by
  unfold mw
  cases cL a.mem x.d<;>cases cL a.mem d<;>by_cases b:x.k=1<;>by_cases f:x.d=d<;>simp[b,f]
 rw[qz,tM,Bool.not_eq_true',qj]
 constructor
 ·intro h x b
  rw[(l x).2 (h.each x b)];simp
 intro h;exact⟨c,g,λx b=>(l x).1 (by simpa using h x b)⟩
theorem Kh(g:Grp)(vm vt:jj)(a:N)(f:jF)(s t u:jb)(x:ap)(w:jh)(k:dE w s g vm vt)(K:EM.At w vm g.mem)(M:mD g.mem)(P:g.mem.length<=1000000)
 (v:jA w t 4 (.bool f)) (y:jA w u 3 (T A a)) (Q:f=cL g.mem a):
 jq jl 120 #[jn x.cells.toArray,jz (ja ⟨s,0,jc⟩),jz (ja ⟨t,0,jc⟩),jz (ja ⟨u,0,jc⟩)] w λe w'=>e=jp (.bool (mw g a x))/\jk w w w':=by
 obtain⟨c,b,l,m,n⟩:=x;obtain⟨r,o⟩:=J (mw g a ⟨c,b,l,m,n⟩);rw[<-o];have HR:=O o;unfold ap.cells;have d:=ao w (je #[T A c,T A b,T A l,T A m,T A n] 56);have p:=jy w (je #[T A c,T A b,T A l,T A m,T A n] 56);have j:=O (yR g vm vt b _ (K.below d) M P k.llen);have q:=(k.below d).blk;have z:=rF (vm:=vm) (vt:=vt) k.llen;obtain⟨aa,R⟩:=J ((aD g vm vt).toArray);rw[<-R]at j q z;obtain⟨W0,C⟩:=J (w.alloc (je #[T A c,T A b,T A l,T A m,T A n] 56));obtain⟨B,D⟩:=J w.heap.size;rw[<-C]at j q d p;rw[<-D]at p;have S:=O q;have Vj:=O z;have U:=O d;have E:=O p;have V:=O ((d.block _ v.lt).trans v);have W:=O ((d.block _ y.lt).trans y);have ad:=O C;have au:=O D;obtain⟨F,H⟩:=J (cL g.mem b);rw[<-H]at j;have h:jf (r=((F==decide (c=1))||(f&&decide (b=a)))):=O (by rw[o,H,Q];rfl);have X:=ai (i:=1) E I;clear d p q z R C D o H k K M P v y Q
 go_enter func120,ntmps120
 go_upto_region 1 with fail
 rw[<-ad,<-au];refine ow ?_;refine p6 I 45 _ I s I 45 aa (0,0) _ S.out qn I Vj ?_
 go_wp2_with fail
 refine(j).mono ?_;rintro e p ⟨rfl,k⟩;have q:=ae E k;have v:jf (jA p t 4 (.bool f)):=ae V k;have y:jf (jA p u 3 (T A a)):=ae W k;have d:=ah U k;clear k j E V W U S X;have z:=ai (i:=0) q I;have X:=ai (i:=1) q I;have C:=v.cell;have D:=y.cell
 by_cases j:c=1
 case pos=>
  subst j
  cases F with
  |true=>
   obtain rfl:r=jm:=by rw[h];simp
   go_wp2_with fail
   go_ret;exact⟨I,d⟩
  |false=>
   cases f with
   |true=>
    have k:jf (r=(b==a)):=O (by rw[h];simp;rfl)
    go_wp2_with fail
    go_ret;exact⟨iu k.symm,d⟩
   |false=>
    obtain rfl:r=ji:=by rw[h];simp
    go_wp2_with fail
    go_ret;exact⟨I,d⟩
 have E:(c==1)=ji:=ak j;have o:decide (c=1)=ji:=ak j;clear j
 rcases F with _|_
 ·obtain rfl:r=jm:=by rw[h,o];simp
  go_wp2_with fail
  go_ret;exact⟨I,d⟩
 cases f with
 |true=>
  have k:jf (r=(b==a)):=O (by rw[h,o];simp;rfl)
  go_wp2_with fail
  go_ret;exact⟨iu k.symm,d⟩
 |false=>
  obtain rfl:r=ji:=by rw[h,o];simp
  go_wp2_with fail
  go_ret;exact⟨I,d⟩
theorem QV(g:Grp)(vm vt:jj)(a:N)(c:jF)(d e f:jb)(b:jh)(k:dE b d g vm vt)(l:EM.At b vm g.mem)(m:mD g.mem)(n:g.mem.length<=1000000)
 (i:jA b e 4 (.bool c)) (j:jA b f 3 (T A a)) (o:c=cL g.mem a):
 fU EC 120 #[jz (ja ⟨d,0,jc⟩),jz (ja ⟨e,0,jc⟩),jz (ja ⟨f,0,jc⟩)] b.heap.size (λW=>jk b b W) (mw g a) where
 enter _ _:=I
 keep w w' hn h hB:=h.trans hB
 call x w hn h:=Kh g vm vt a c d e f x w (k.below h) (l.below h) m n ((h.block _ i.lt).trans i) ((h.block _ j.lt).trans j) o
theorem uE(h:dA a):mD a.mem:=by
 intro i j c g;have b:=pN a.tree;rw[<-h.dev]at b;have:=(xw.1 b) i j (by rw[jC];omega) (by rw[jC];exact g) c;rw[sq,sq]at this;rw[fu _ Y,fu _ g];exact this
theorem Ph(g:Grp)(vm vt vl:jj)(a:N)(l:jd ap)(w:jh)(h:bU w g vm vt)(f:dA g)(z:g.mem.length<=1000000)(E:EC.At w vl l)(hl:l.length<=1000000):
 jq jl 67 #[jn (aD g vm vt).toArray,T A a,vl] w λe w'=>e=jp (.bool (lM g a l))/\jk w w w':=by
 obtain⟨r,F⟩:=J (lM g a l);rw[<-F];have k:=O F;have j:=ao w (je (aD g vm vt).toArray 45);have H:=dE.new w (vm:=vm) (vt:=vt) h.llen;obtain⟨B,b⟩:=J (w.alloc (je (aD g vm vt).toArray 45));rw[<-b]at j H;have m:=ao B (je #[T A a] 3);have d:=Boxed.new B 3 (T A a);have K:=H.below m;obtain⟨W2,M⟩:=J (B.alloc (je #[T A a] 3));rw[<-M]at m d K;have o:=j.trans (m.mono j.size);have s:=h.below o;have P:=E.below o;have x:=O (yR g vm vt a W2 s.mem (uE f) z s.llen);have Q:=rF (vm:=vm) (vt:=vt) h.llen;have u:=K.blk;obtain⟨ax,R⟩:=J ((aD g vm vt).toArray);rw[<-R]at b x Q u⊢;obtain⟨C,y⟩:=J w.heap.size;obtain⟨p,S⟩:=J B.heap.size;rw[<-y]at u;rw[<-S]at d;obtain⟨pl,cl,rfl,VW,-⟩:=E.form;obtain⟨n,U⟩:=J l.length;obtain⟨q,V⟩:=J (cL g.mem a);obtain⟨ep,D⟩:=J g.epoch;have ay:=O f.ep.1;have a1:=O (uE f);rw[<-V]at x;rw[<-U]at VW P⊢;have a2:=O b;have a3:=O M;have a4:=O y;have YX:jf (p=C+1):=O (by rw[S,y,b];simp);have YH:=O R;have Vj:=O Q;have W:=O u;have X:=O d;have UC:=O o;have Yh:=O s;have US:=O P;have Z4:=O U;have t:=O V;have c:=O D;have a5:=O hl;have Wu:=O z;have ba:jf (p<W2.heap.size):=O d.lt;clear F j H b m d K M o s P Q u R y S U V D E hl z h f
 go_enter func67,ntmps67
 go_upto_region 1 with fail
 rw[<-a2,<-a4,<-a3,<-YX];refine ow ?_;refine p6 I 45 _ I C I 45 ax (0,0) _ W.out qn I Vj ?_;have P:=X.cell
 go_wp2_with fail
 refine(x).mono ?_;rintro e u ⟨rfl,b⟩;have j:=ae W b;have m:jf (jA u p 3 (T A a)):=ae X b;have y:=O (Yh.below b);have z:=O (US.below b);have E:=ah UC b;clear b x W X Yh US UC P
 go_upto_region 2 with fail
 have b:=ao u (je #[.bool q] 4);have d:=Boxed.new u 4 (.bool q);obtain⟨f,x⟩:=J (u.alloc (je #[.bool q] 4));obtain⟨Q,F⟩:=J u.heap.size;rw[<-x]at b d⊢;rw[<-F]at d⊢;have R:=ae j b;have S:jf (jA f p 3 (T A a)):=ae m b;have U:=O (y.below b);have V:=O (z.below b);have s:=ah E b;have W:=O d;clear b x F d j m y z E;have P:=W.cell;have c1:=S.cell;have c2:=ai (i:=1) (v:=T A ep) R.out (by rw[YH,c];rfl);have X:jf (∀z:jh,(∃m,z=f.drewN m)->jq jl 36 #[jg pl n cl,.func (.func 120) #[] #[jz (ja ⟨C,0,jc⟩),jz (ja ⟨Q,0,jc⟩),jz (ja ⟨p,0,jc⟩)]] z λe w'=>e=jp (.bool (l.any (mw g a)))/\jk w w w'):=O (by
  rintro z ⟨m,rfl⟩;have b:jk f f (f.drewN m):=(jK _ _).trans ⟨I,I,I,ju _,λ_ _=>rfl⟩;refine(Bq (QV g vm vt a q C Q p (f.drewN m) ⟨by rw[av R b,YH],U.llen⟩ (U.mem.below b) a1 Wu (av W b) (av S b) t) l _ _ (V.below b) (jK _ _) (ju _) a5).mono ?_;rintro e w' ⟨rfl,o⟩;exact⟨I,s.trans ((b.trans (o.mono b.size)).mono s.size)⟩)
 by_cases b:0<ep
 case pos=>
  have m:decide (0<ep)=jm:=ak b;have hd2:(ep==0)=ji:=by simp;omega
  have j:=O b;clear b
  rcases q with _|_
  ·obtain rfl:r=ji:=by
    rw[k];exact tP λh=>by have d:=h.own;rw[<-t,<-c,m]at d;cases d
   go_quiet (fail)
   go_wp2_with fail
   go_ret;exact⟨I,s.trans ⟨I,I,I,ju _,λ_ _=>rfl⟩⟩
  have E:jf (r= !(l.any (mw g a))):=O (by rw[k];exact Fc (by rw[<-t,<-c,m]) (λe=>jB (c.trans e) (aI j)))
  go_quiet (fail)
  go_wp2_with fail
  refine(X _ ⟨_,I⟩).mono ?_;rintro e w5 ⟨rfl,y⟩;have F:=O y;clear y
  go_wp2_with fail
  go_ret;exact⟨iu E.symm,F⟩
 have m:decide (0<ep)=ji:=ak b;have D:ep=0:=by have:=ay.out;rw[<-c]at this;omega
 subst D;clear b
 cases q with
 |true=>
  obtain rfl:r=ji:=by
   rw[k];exact tP λh=>by have d:=h.own;rw[<-t,<-c,m]at d;cases d
  go_quiet (fail)
  go_wp2_with fail
  go_ret;exact⟨I,s.trans ⟨I,I,I,ju _,λ_ _=>rfl⟩⟩
 |false=>
 by_cases d:n=0
 case pos=>
  subst d;obtain rfl:r=ji:=by
   rw[k];exact tP λh=>by
    obtain⟨x,r,b,-⟩:=h.first c.symm;have j:=Z4.out;rw[b]at j;simp at j
  go_quiet (fail)
  go_wp2_with fail
  go_ret;exact⟨I,s.trans ⟨I,I,I,ju _,λ_ _=>rfl⟩⟩
 have hd3:((n:N)==0)=ji:=by simp;omega
 have a6:0<n:=Y;obtain⟨g0,o0,rfl,aa⟩:=(V.cells).2.2 a6;obtain⟨x,H,K⟩:∃x H,l=x::H:=by
  rcases l with _|⟨x,r⟩
  ·have:=Z4.out;simp at this;omega
  exact⟨x,r,I⟩
 have c3:f.cell? ⟨g0,o0+1,jc⟩=ja (T A x.d):=by
  have h:=aa 0 x (by rw[K];rfl) 1 _ I;rw[Nat.zero_mul,r9]at h;exact h
 obtain⟨z,M⟩:=J x.d;rw[<-M]at c3;have ad:=O K;have au:=O M;clear aa K M d
 by_cases b:z=a
 case neg=>
  have K:(z==a)=ji:=ak b;have M:(z !=a)=jm:=ak b;obtain rfl:r=ji:=by
   rw[k];exact tP λh=>by
    obtain⟨x2,r2,j,h5⟩:=h.first c.symm;rw[ad]at j;injection j with j _
    subst j;exact b (au.trans h5)
  clear b
  go_quiet (fail)
  go_wp2_with fail
  go_ret;exact⟨I,s.trans ⟨I,I,I,ju _,λ_ _=>rfl⟩⟩
 have K:(z==a)=jm:=ak b;have M:(z !=a)=ji:=ak b;have E:jf (r= !(l.any (mw g a))):=O (by rw[k];exact Fc (by rw[<-t,<-c,m]) (λe=>⟨x,H,ad,by rw[<-au];exact b⟩));clear b
 go_quiet (fail)
 go_wp2_with fail
 refine(X _ ⟨_,I⟩).mono ?_;rintro e w5 ⟨rfl,y⟩;have F:=O y;clear y
 go_wp2_with fail
 go_ret;exact⟨iu E.symm,F⟩
def oz(x:ap):Prop:=(x.k=1/\bL x.p/\bL x.v/\x.c=0)\/(x.k=2/\x.p=0/\x.v=0/\0<=x.c/\x.c<=1048576)\/(x.k=3/\bL x.p/\bL x.v/\0<=x.c/\x.c<=1048576)
noncomputable def l8(x:ap):jF:=by classical exact decide (oz x)
noncomputable def tE(x:ap):jF:=decide (cW x.p=0)&&decide (cW x.v=0)
def sD(x:ap):jF:=decide (0<=x.c)&&decide (x.c<=1048576)
theorem zl:cW d=0↔bL d:=⟨λh=>by
 by_cases g:bL d
 ·exact g
 rw[lf g]at h;exact jB h G,gE⟩
theorem Fo:tE x=jm↔bL x.p/\bL x.v:=by unfold tE;simp[zl]
theorem FM:sD x=jm↔0<=x.c/\x.c<=1048576:=by unfold sD;simp
theorem rP:l8 x=jm↔oz x:=by unfold l8;simp
theorem SO(h:x.k=1):l8 x=(tE x&&(x.c==0)):=by
 rw[qz,sy,Fo,beq_iff_eq,rP];unfold oz;simp[h,and_assoc]
theorem Um(h:x.k=2):l8 x=((x.p==0)&&(x.v==0)&&sD x):=by
 rw[qz,sy,sy,FM,beq_iff_eq,beq_iff_eq,rP];unfold oz;simp[h,and_assoc]
theorem KX(h:x.k=3):l8 x=(tE x&&sD x):=by
 rw[qz,sy,Fo,FM,rP];unfold oz;simp[h,and_assoc]
theorem Mq(a:x.k≠1)(b:x.k≠2)(c:x.k≠3):l8 x=ji:=by
 have h:¬oz x:=by unfold oz;simp[a,b,c]
 cases hb:l8 x with
 |false=>rfl
 |true=>exact jB (rP.1 hb) h
noncomputable def iF(l:jd ap):jF:=by classical exact decide (eW l)
theorem oG:iF e=jm↔eW e:=by unfold iF;simp
theorem Fh(h:¬eW e):iF e=ji:=by unfold iF;simpa using h
structure mo(l:jd ap):Prop where
 each:∀x∈l,oV x
 once:(l.map ap.d).Nodup
theorem mo.nil:mo []:=⟨(λx h=>by cases h),by simp⟩
theorem mo.snoc(h:mo e)(f:fI x.d)(g:l8 x=jm)(i:x.d∉e.map ap.d):mo (e++[x]):=by
 refine⟨λy c=>?_,?_⟩
 ·rcases o5.1 c with c|c
  ·exact h.each y c
  rw[qv]at c;subst c;refine⟨f,?_⟩;exact rP.1 g
 rw[qc,E3];refine⟨h.once,by simp,λa j b d=>?_⟩;simp at d;subst d;exact λl=>i (l▸j)
theorem yB(a:e[b]?=ja x)(h:¬fI x.d\/l8 x=ji\/x.d∈(e.take b).map ap.d):iF e=ji:=by
 refine Fh λk=>?_
 have c:=k.each x (j1 a)
 rcases h with h|h|h
 ·exact h c.1
 ·rw[rP.2 c.2]at h;cases h
 have f:e=e.take b++e.drop b:=(xn b e).symm;have g:x∈e.drop b:=by
  obtain⟨d,l⟩:=o3.1 a;rw[xU d,l];exact qN ..
 have d:=k.once;rw[f,qc,E3]at d;exact d.2.2 _ h _ (jO.2 ⟨x,g,I⟩) I
theorem OX(h:mo e):iF e=decide (e.length<=64):=by
 rw[qz,oG,decide_eq_true_iff];exact⟨λh=>h.len,λa=>⟨h.each,h.once,a⟩⟩
theorem Qn(a:jd N)(y:N):(ef a y).getD ji=decide (y∈a):=by
 unfold ef
 split<;>simp_all
theorem Ap(l:jd ap)(v:jj)(w:jh)(h:EC.At w v l)(hl:l.length<=1000000):
 jq jl 65 #[v] w λe w'=>e=jp (.bool (iF l))/\jk w w w':=by
 obtain⟨V,a⟩:=J (iF l);rw[<-a];have W:=O a;obtain⟨p,c,rfl,hc,-⟩:=h.form;have HU:=O h;obtain⟨n,b⟩:=J l.length;have HN:=O b;rw[<-b]at hl hc HU⊢;have d:=aZ.made (ie qF) 3 w;have f:=ao w (.map #[] 0);have aa:=O d;have UB:=O f;have g:=@run_makeMap jl;clear h b a d f
 go_enter func65,ntmps65
 go_wp2_with fail
 clear g;obtain⟨M,a⟩:=J w.heap.size;have ax:=O a;rw[<-a]at aa⊢;obtain⟨W0,b⟩:=J (w.alloc (.map #[] 0));rw[<-b]at aa UB⊢;clear a b
 go_loopw [12] (λi wr=>∃k:jb,i=T A k/\k<=n/\jf (aZ (ie qF) 3 wr M k (ef ((l.take k).map ap.d)))/\jf (mo (l.take k))/\jf (jk w w wr)) (λi _=>n-(jv i).toNat)
 case atStart=>exact⟨0,I,j6 _,O (aa.congr (λx _=>by simp[ef])),O (ak mo.nil),UB⟩
 obtain⟨k,rfl,hk,z,HP,a⟩:=hrel
 by_cases ay:k<n
 case neg=>
  have y:=az ((k:N)<(n:N));have a1:=az (k<n);obtain rfl:k=n:=Y;have b:jf (V=decide (k<=64)):=O (by
   have h:=HP.out;rw[jU (by rw[<-HN];exact ju _)]at h;rw[W,OX h,<-HN])
  go_wp2_with fail
  go_ret;exact⟨iu (by rw[b,qz,decide_eq_true_iff,decide_eq_true_iff];omega),a⟩
 have y:=aA ((k:N)<(n:N));have a1:=aA (k<n);obtain⟨e,he,K⟩:=dL (l:=l) (j:=k) (by rw[<-HN];exact ay);obtain⟨g,o,rfl,b⟩:=(HU.cells).2.2 Y;have HE:=O he;have VO:=O K;have Q:=O (SO (x:=e));have R:=O (Um (x:=e));have D:=O (KX (x:=e));have X:=O (Mq (x:=e));obtain⟨kb,B⟩:=J (tE e);obtain⟨F,C⟩:=J (sD e);obtain⟨s,H⟩:=J (l8 e);have ad:=O B;have VX:=O C;have au:=O H;rw[<-B]at Q D;rw[<-C]at R D;rw[<-H]at X Q R D;obtain⟨d,f,ep,u,r⟩:=e;have c0:wr.cell? ⟨g,o+k*5,jc⟩=ja (T A d):=aB (b k _ he 0 _ I) a;have c1:wr.cell? ⟨g,o+k*5+1,jc⟩=ja (T A f):=aB (b k _ he 1 _ I) a;have S:wr.cell? ⟨g,o+k*5+2,jc⟩=ja (T A ep):=aB (b k _ he 2 _ I) a;have c3:wr.cell? ⟨g,o+k*5+3,jc⟩=ja (T A u):=aB (b k _ he 3 _ I) a;have c4:wr.cell? ⟨g,o+k*5+4,jc⟩=ja (T A r):=aB (b k _ he 4 _ I) a;have U:=ao wr (je #[T A d,T A f,T A ep,T A u,T A r] 56);have hX:=jy wr (je #[T A d,T A f,T A ep,T A u,T A r] 56);have m:=O U;have q:=O hX;dsimp only at X Q R D;clear b he K B C H U hX
 go_upto_region 5 with fail
 obtain⟨B,b⟩:=J wr.heap.size;rw[<-b]at q⊢;obtain⟨W1,C⟩:=J (wr.alloc (je #[T A d,T A f,T A ep,T A u,T A r] 56));rw[<-C]at m q⊢;have K:=O (z.below m z.lt);have UA:=O (a.trans (m.mono a.size));have a3:=O b;clear b C c0 c1 S c3 c4 z a m
 go_cut [6] (λv b=>v=.bool kb/\jf (jk W1 W1 b))
 case first=>
  have b2:=ai (i:=2) q I;have b3:=ai (i:=3) q I;have U:=O (gC ep);have Vb:=O (gC u);have C:jf (kb=(decide (cW ep=0)&&decide (cW u=0))):=O ad;obtain⟨S,a⟩:=J (cW ep);obtain⟨c3,m⟩:=J (cW u);rw[<-a]at U C;rw[<-m]at Vb C;clear a m
  go_wp2_with fail
  refine(U _).mono ?_;rintro e w2 ⟨rfl,a⟩;replace b3:=aB b3 a;have z:=O a;clear a b2
  by_cases m:S=0
  ·subst m
   go_wp2_with fail
   refine(Vb _).mono ?_;rintro e w3 ⟨rfl,a⟩;have H:=ah z a;clear a
   go_wp2_with fail
   go_meet
   exact⟨by rw[C,<-Nm];rfl,H⟩
  have hd2:(S==0)=ji:=ak m;have a2:decide (S=0)=ji:=ak m;obtain rfl:kb=ji:=by rw[C,a2];rfl
  clear m
  go_wp2_with fail
  go_meet
  exact⟨I,z⟩
 obtain⟨rfl,z⟩:=hcut;have U:=O (av q z);have V8:=O (K.below z K.lt);have H:=O (UA.trans (z.mono UA.size));clear q K UA z;have b4:=ai (i:=4) U I
 go_upto_region 6 with fail
 go_cut [7] (λv b=>v=.bool F/\wc=b)
 case first=>
  have a:jf (F=(decide (0<=r)&&decide (r<=1048576))):=O VX
  by_cases q:0<=r
  ·have y:decide (0<=r)=jm:=ak q
   have C:jf (F=decide (r<=1048576)):=O (by rw[a,y];rfl)
   go_wp2_with fail
   go_meet
   exact⟨js qu C.symm,I⟩
  have y:decide (0<=r)=ji:=ak q;obtain rfl:F=ji:=by rw[a,y];rfl
  clear q
  go_wp2_with fail
  go_meet
  exact⟨I,I⟩
 obtain⟨rfl,rfl⟩:=hcut;have b0:=ai (i:=0) U I;have b2:=ai (i:=2) U I;have b3:=ai (i:=3) U I
 go_upto_block 2 with fail
 go_cut [8] (λv b=>v=.bool s/\wc=b)
 case first=>
  by_cases q:d=1
  ·have y:(d==1)=jm:=ak q
   have a:=Q q;clear q
   rcases kb with _|_
   ·obtain rfl:s=ji:=by rw[a];rfl
    clear a
    go_wp2_with fail
    go_meet
    exact⟨I,I⟩
   have C:jf (s=(r==0)):=O (by rw[a];rfl);clear a
   go_wp2_with fail
   go_meet
   exact⟨js qu C.symm,I⟩
  have y:(d==1)=ji:=ak q
  by_cases m:d=2
  ·have hd2:(d==2)=jm:=ak m
   have a:=R m;clear q m
   by_cases b:ep=0
   ·have hd3:(ep==0)=jm:=ak b
    by_cases K:u=0
    ·have a2:(u==0)=jm:=ak K
     have C:jf (s=F):=O (by rw[a,b,K];simp);clear a b K
     go_wp2_with fail
     go_meet
     exact⟨js qu C.symm,I⟩
    have a2:(u==0)=ji:=ak K;obtain rfl:s=ji:=by rw[a];simp[K]
    clear a b K
    go_wp2_with fail
    go_meet
    exact⟨I,I⟩
   have hd3:(ep==0)=ji:=ak b;obtain rfl:s=ji:=by rw[a];simp[b]
   clear a b
   go_wp2_with fail
   go_meet
   exact⟨I,I⟩
  have hd2:(d==2)=ji:=ak m
  by_cases b:d=3
  ·have hd3:(d==3)=jm:=ak b
   have a:=D b;clear q m b
   rcases kb with _|_
   ·obtain rfl:s=ji:=by rw[a];rfl
    clear a
    go_wp2_with fail
    go_meet
    exact⟨I,I⟩
   have C:jf (s=F):=O (by rw[a];rfl);clear a
   go_wp2_with fail
   go_meet
   exact⟨js qu C.symm,I⟩
  have hd3:(d==3)=ji:=ak b;obtain rfl:s=ji:=X q m b;clear q m b
  go_wp2_with fail
  go_meet
  exact⟨I,I⟩
 obtain⟨rfl,rfl⟩:=hcut;clear b0 b2 b3 b4 X Q R D ad VX;have b1:=ai (i:=1) U I
 cases s with
 |false=>
  obtain rfl:V=ji:=by rw[W];exact yB HE (.inr (.inl au.symm))
  go_wp2_with fail
  go_ret;exact⟨I,H⟩
 |true=>
 have a:=O (Be f);obtain⟨Q,b⟩:=J (decide (fI f));rw[<-b]at a;have q:=O b;clear b
 go_wp2_with fail
 refine(a _).mono ?_;rintro e w4 ⟨rfl,rfl⟩;clear a
 cases Q with
 |false=>
  obtain rfl:V=ji:=by rw[W];exact yB HE (.inl (by have h:=q.symm;simpa using h))
  go_wp2_with fail
  go_ret;exact⟨I,H⟩
 |true=>
 have a:fI f:=qb q.symm;have b:aO f:=aO.of (by unfold fI at a;omega);have R:=O a;have C:=V8.look (P:=jl) nv (t:=193) underlying193 (Bh _) b ji;obtain⟨D,m⟩:=J (decide (f∈(l.take k).map ap.d));have a2:(Instr.lookup 193 (.map (ja M)) (T A f) ji).run jl wc=.ok (.bool D) wc:=by
  rw[C,m,<-Qn];rfl
 have K:=O m;have X:=O b;clear a b C m
 cases D with
 |true=>
  obtain rfl:V=ji:=by rw[W];exact yB HE (.inr (.inr (qb K.symm)))
  go_wp2_with fail
  go_ret;exact⟨I,H⟩
 |false=>
 have C:jf (mo (l.take (k+1))):=O (by
  rw[VO];exact HP.snoc R au.symm (of_decide_eq_false K.symm))
 have HS:jf ((l.take (k+1)).map ap.d=(l.take k).map ap.d++[f]):=O (by rw[VO,qc];rfl);have a4:k<1000001:=Y;have ad:jf (M<wc.heap.size):=O V8.lt;have a:jf (w.heap.size<=M):=O (by rw[ax];exact ju _)
 go_wp2_with (at_mapUpdate;refine oD (E:=ie qF) I _ _ _ 193 I nv underlying193 M _ _ I V8 (by unfold pz;omega) f I X jm I trivial ?_;intro w3 b m;have WM:=O b;have Z6:=O m;clear b m)
 exact⟨⟨k+1,by go_num,by omega,O (by
  have h:=WM.out;rw[zp]at h;rw[HS];exact h),C,O (H.grown Z6.grown (ee ad a) (λj e=>by cases e;exact a))⟩,by simp only[jv];omega⟩
theorem gN(h:bJ w u t):∃p n c,u=jg p n c:=by
 obtain⟨p,c,a,-⟩:=h;exact⟨p,_,c,a⟩
theorem Ah(h:bL d):aO d:=aO.of (by have:=h.1;have:=h.2.1;omega)
theorem bJ.setRow{v:jj}{p:jP j7}{n c:jb}{l:jI}{m:jb×jb}{f:jD jj}(h:bJ w v t)(q:w.heap[b]?=ja (je #[jg p n c] l m)):bJ (w.setRow b f) v t:=by
 have key:∀(g o:jb) (x:N),w.cell? ⟨g,o,jc⟩=ja (T A x)->(w.setRow b f).cell? ⟨g,o,jc⟩=ja (T A x):=λg o x d=>by
  by_cases e:g=b
  ·subst e
   exfalso
   unfold qy at d;rw[q]at d
   rcases o with _ |o<;>simp at d
  rw[<-d];exact dY (a:=⟨g,o,jc⟩) (jY _ _ _ _ e)
 obtain⟨p,c,r,s,u,y,z⟩:=h;refine⟨p,c,r,s,u,λB=>?_,z⟩;obtain⟨g,o,e,i⟩:=y B;exact⟨g,o,e,λj k=>⟨key _ _ _ (i j k).1,key _ _ _ (i j k).2⟩⟩
theorem rr:(jl.info? 43).map (·.size)=ja 1:=by kernel_rfl
theorem yH(g:Grp)(vm vt vl:jj)(l:jd ap)(w:jh)(h:bU w g vm vt)(v:eW l)(B:g.tree.length<=700000)(x:EC.At w vl l):
 jq jl 34 #[jn (aD g vm vt).toArray,vl] w λe w'=>∃u,e=jp (jn #[u])/\bJ w' u (aX g.tree l)/\jk w w w':=by
 obtain⟨f,q,b,rfl⟩:=gN h.tree;obtain⟨r,y⟩:=J ((aD g vm (jg f q b)).toArray);have C:r[35]?=ja (jg f q b):=by rw[y];simpa using(lR (vm:=vm) (vt:=jg f q b) h.llen).2.2.2
 rw[<-y];have au:=O C;obtain⟨x0,c⟩:=J ((((w.alloc (je r 45)).alloc (je #[jg jc 0 0] 43)).alloc (je #[jg f q b] 43)));obtain⟨d,k⟩:=J w.heap.size;have a:=jy w (je r 45);have m:=ao w (je r 45);have i:=jy (w.alloc (je r 45)) (je #[jg jc 0 0] 43);have o:=ao (w.alloc (je r 45)) (je #[jg jc 0 0] 43);have p:=jy ((w.alloc (je r 45)).alloc (je #[jg jc 0 0] 43)) (je #[jg f q b] 43);have s:=ao ((w.alloc (je r 45)).alloc (je #[jg jc 0 0] 43)) (je #[jg f q b] 43);replace a:=av a o;replace a:=av a s;rw[j8]at i;replace i:=av i s;rw[j8,j8]at p;have t:=((m).trans (o.mono (m).size)).trans (s.mono ((m).trans (o.mono (m).size)).size);rw[<-c]at t;rw[<-c,<-k]at a;rw[<-c,<-k]at i;rw[<-c,<-k]at p;have a5:=O a;have Va:=O i;have ax:=O p;have UB:=O t;have HW:=O c;have P:=O k;obtain⟨pl,cl,rfl,VW,-⟩:=x.form;obtain⟨n,z⟩:=J l.length;have D:=v.len;have a6:n<=64:=Y;have ay:jf (bJ x0 (jg f q b) g.tree):=O (h.tree.below t);have U4:jf (EC.At w (jg pl l.length cl) l):=O x;rw[<-z]at U4 VW⊢;have Z4:=O z;have HF:=O v;have WL:=O B;clear t c k a m i o p s y z D v B x h C
 go_enter func34,ntmps34
 have a:((w.alloc (je r 45)).alloc (je #[jg jc 0 0] 43)).cell? ⟨w,35,jc⟩=ja (jg f q b):=ai (av (jy w _) (ao _ _)) au
 go_upto_region 2 with fail
 clear a;rw[<-HW,<-P]
 go_wp2_with fail
 go_loopw [12] (λi wr=>∃(k:jb) (p:jP j7) (m c:jb),i=T A k/\k<=n/\jf (wr.heap[d+1+1]?=ja (je #[jg p m c] 43 (0,0)))/\jf (wr.heap[d+1]?=ja (je #[jg jc 0 0] 43 (0,0)))/\jf (bJ wr (jg p m c) (aX g.tree (l.take k)))/\jf (jk w w wr)) (λi _=>n-(jv i).toNat)
 case atStart=>exact⟨0,f,q,b,I,j6 _,ax,Va,ay,UB⟩
 obtain⟨k,p,m,c,rfl,hk,D,x,y,s⟩:=hrel
 by_cases a1:k<n
 case neg=>
  have a2:=az ((k:N)<(n:N));have a3:=az (k<n);obtain rfl:k=n:=Y;have b:=ai (i:=0) D I;have a:jf (bJ wr (jg p m c) (aX g.tree l)):=O (by have h:=y.out;rw[jU (by rw[<-Z4];exact ju _)]at h;exact h);have t:d+1≠d+1+1:=Y
  go_wp2_with (refine j3 I λ_ z=>j4 43 _ _ I (d+1) #[jg p m c] I I 43 _ x.out rr aj (by simp[oj]) (z _ _ ?_))
  have o:(wr.setRow (d+1) #[jg p m c]).heap[d+1]?=ja (je #[jg p m c] 43 (0,0)):=jR _ _ _ _ _ _ x.out;refine qh (results_cell_row I _ _ (d+1) 43 _ (0,0) _ I o underlying43 I rr) I ?_;exact⟨_,I,a.setRow x,jZ s.out (by rw[P];omega) _⟩
 have a2:=aA ((k:N)<(n:N));have a3:=aA (k<n);obtain⟨e,he,E⟩:=dL (l:=l) (j:=k) (by rw[<-Z4];exact a1);obtain⟨B,o,rfl,a⟩:=(U4.cells).2.2 Y;have C:=HF.each e (j1 he);have X:jf (aO e.d):=O (aO.of (by have:=C.1;unfold fI at this;omega));have ad:jf (e.k≠2->aO e.p):=O (λt=>by
  rcases C.2 with h|h|h
  ·exact Ah h.2.1
  ·exact jB h.1 t
  exact Ah h.2.1)
 have Wo:jf (aX g.tree (l.take (k+1))=ib (aX g.tree (l.take k)) e):=O (by rw[E,Rl]);have Ww:jf ((aX g.tree (l.take k)).length<=800000):=O (by have:=wQ g.tree (l.take k);have:=WL.out;have:=qA k l;omega);generalize aX g.tree (l.take k)=Q at Wo Ww y;obtain⟨v,t,ep,R,S⟩:=e;have K:wr.cell? ⟨B,o+k*5,jc⟩=ja (T A v):=aB (a k _ he 0 _ I) s;have M:wr.cell? ⟨B,o+k*5+1,jc⟩=ja (T A t):=aB (a k _ he 1 _ I) s;have c2:wr.cell? ⟨B,o+k*5+2,jc⟩=ja (T A ep):=aB (a k _ he 2 _ I) s;have c3:wr.cell? ⟨B,o+k*5+3,jc⟩=ja (T A R):=aB (a k _ he 3 _ I) s;have c4:wr.cell? ⟨B,o+k*5+4,jc⟩=ja (T A S):=aB (a k _ he 4 _ I) s;dsimp only at X ad;clear a he E C
 go_upto_region 5 with fail
 obtain⟨y1,a⟩:=J wr;rw[<-a]at D x y s K M c2 c3 c4⊢;clear a;have a:=ao y1 (je #[T A v,T A t,T A ep,T A R,T A S] 56);have F:=jy y1 (je #[T A v,T A t,T A ep,T A R,T A S] 56);obtain⟨y2,hx⟩:=J (y1.alloc (je #[T A v,T A t,T A ep,T A R,T A S] 56));rw[<-hx]at a F⊢;obtain⟨E,H⟩:=J y1.heap.size;rw[<-H]at F⊢;have ba:=O H;have C:=ae D a;have U:=ae x a;have V:=O (y.below a);have W:=ah s a;clear D x y s;have y:=O F;clear F hx a H;have b0:=ai (i:=0) y I;have b1:=ai (i:=1) y I;have b2:=ai (i:=2) y I;have t0:=ai (i:=0) C I;clear K M c2 c3 c4
 by_cases s:v=2
 ·have hd2:(v==2)=jm:=ak s
  have aa:jf (aX g.tree (l.take (k+1))=kJ Q t):=O (by rw[Wo];exact jt s);clear s
  go_wp2_with fail
  refine(P1 Q (jg p m c) t y2 V Ww X).mono ?_;rintro e y3 ⟨u,rfl,D,a⟩;have F:=O D;clear D b0 b1 b2 t0;have x:=ae C a;have Vq:=ae U a;have UE:=ah W a;clear C U V W y;clear a;obtain⟨H,K,M,rfl⟩:=gN F
  go_wp2_with (refine j3 I λ_ z=>j4 43 _ _ I (d+1+1) #[jg H K M] I I 43 _ x.out rr aj (by simp[oj]) (z _ _ ?_))
  exact⟨⟨k+1,H,K,M,by go_num,by omega,O (jR _ _ _ _ _ _ x.out),O ((jY _ _ _ _ Y).trans Vq),O (by rw[aa];exact F.setRow x),O (jZ UE.out (by rw[P];omega) _)⟩,by simp only[jv];omega⟩
 have hd2:(v==2)=ji:=ak s;have aa:jf (aX g.tree (l.take (k+1))=kU Q t ep):=O (by rw[Wo];exact jw s);have a4:=O (ad s);clear s
 go_wp2_with fail
 refine(SU Q (jg p m c) t ep y2 V Ww X a4).mono ?_;rintro e y3 ⟨u,rfl,D,a⟩;have F:=O D;clear D b0 b1 b2 t0;have x:=ae C a;have Vq:=ae U a;have UE:=ah W a;clear C U V W y;clear a;obtain⟨H,K,M,rfl⟩:=gN F
 go_wp2_with (refine j3 I λ_ z=>j4 43 _ _ I (d+1+1) #[jg H K M] I I 43 _ x.out rr aj (by simp[oj]) (z _ _ ?_))
 exact⟨⟨k+1,H,K,M,by go_num,by omega,O (jR _ _ _ _ _ _ x.out),O ((jY _ _ _ _ Y).trans Vq),O (by rw[aa];exact F.setRow x),O (jZ UE.out (by rw[P];omega) _)⟩,by simp only[jv];omega⟩
section
open Go.Shelf
def Tryzx.laysM_ren:Go.Shelf.Ren:=⟨fun|6=>40|15=>89|14=>88|28=>143|29=>144|20=>135|21=>136|22=>137|23=>138|24=>139|25=>140|26=>141|27=>142|46=>191|47=>192|48=>193|49=>194|50=>195|57=>243|n=>n,fun|22=>40|24=>103|25=>111|3=>3|39=>161|0=>0|53=>223|55=>196|4=>4|46=>217|45=>216|50=>61|5=>5|9=>9|66=>284|70=>288|76=>333|77=>334|n=>n,fun|n=>n⟩
theorem Tryzx.laysM:Go.Proofs.SlLaysF0.n6 jl Tryzx.laysM_ren:={
 mixed:=by kernel_rfl
 f6:=⟨Tryz.f40.name,by decide,func40.trans (js ja af)⟩
 f14:=⟨Tryz.f88.name,by decide,func88.trans (js ja af)⟩
 f15:=func89.trans (js ja af)
 f20:=⟨Tryz.f135.name,by decide,func135.trans (js ja af)⟩
 f21:=⟨Tryz.f136.name,by decide,func136.trans (js ja af)⟩
 f22:=⟨Tryz.f137.name,by decide,func137.trans (js ja af)⟩
 f23:=⟨Tryz.f138.name,by decide,func138.trans (js ja af)⟩
 f24:=⟨Tryz.f139.name,by decide,func139.trans (js ja af)⟩
 f25:=⟨Tryz.f140.name,by decide,func140.trans (js ja af)⟩
 f26:=⟨Tryz.f141.name,by decide,func141.trans (js ja af)⟩
 f27:=⟨Tryz.f142.name,by decide,func142.trans (js ja af)⟩
 f28:=func143.trans (js ja af)
 f29:=func144.trans (js ja af)
 f46:=⟨Tryz.f191.name,by decide,func191.trans (js ja af)⟩
 f47:=func192.trans (js ja af)
 f48:=func193.trans (js ja af)
 f49:=⟨Tryz.f194.name,by decide,func194.trans (js ja af)⟩
 f50:=⟨Tryz.f195.name,by decide,func195.trans (js ja af)⟩
 f57:=⟨Tryz.f243.name,by decide,func243.trans (js ja af)⟩
 t0:=xC
 a0:=isAgg0
 z0:=sizeOf0
 v0:=zeroValue0
 t3:=nv
 a3:=isAgg3
 z3:=sizeOf3
 v3:=zeroValue3
 t4:=qF
 a4:=isAgg4
 z4:=sizeOf4
 v4:=zeroValue4
 t5:=wv
 a5:=isAgg5
 z5:=sizeOf5
 v5:=zeroValue5
 t9:=xD
 a9:=isAgg9
 z9:=sizeOf9
 v9:=zeroValue9
 t22:=qD
 a22:=isAgg40
 z22:=sizeOf40
 v22:=zeroValue40
 t25:=underlying111
 a25:=isAgg111
 z25:=sizeOf111
 v25:=zeroValue111
 t39:=xE
 a39:=isAgg161
 z39:=sizeOf161
 v39:=zeroValue161
 t45:=xG
 a45:=isAgg216
 z45:=sizeOf216
 v45:=zeroValue216
 t46:=xH
 a46:=isAgg217
 z46:=sizeOf217
 v46:=zeroValue217
 t50:=xI
 a50:=isAgg61
 z50:=sizeOf61
 v50:=zeroValue61
 t53:=xJ
 a53:=isAgg223
 z53:=sizeOf223
 v53:=zeroValue223
 t55:=xK
 a55:=isAgg196
 z55:=sizeOf196
 v55:=zeroValue196
 t66:=xL
 a66:=isAgg284
 z66:=sizeOf284
 v66:=zeroValue284
 t70:=xM
 a70:=isAgg288
 z70:=sizeOf288
 v70:=zeroValue288
 t76:=xN
 a76:=isAgg333
 z76:=sizeOf333
 v76:=zeroValue333
 t77:=xO
 a77:=isAgg334
 z77:=sizeOf334
 v77:=zeroValue334}
theorem Tryzx.sortFunc_noneM(p:jP j7)(a:jb)(b:jj)(w:jh):
 jq jl 40 #[jg p 0 a,b] w λe w'=>e=jp (jE #[])/\w'=w:=AnyF.slices_SortFunc_none Tryzx.laysM p a b w
def Tryzx.laysC_ren:Go.Shelf.Ren:=⟨fun|6=>72|15=>89|14=>124|28=>143|29=>144|20=>178|21=>179|22=>180|23=>181|24=>182|25=>183|26=>184|27=>185|46=>238|47=>192|48=>193|49=>239|50=>240|57=>261|n=>n,fun|22=>27|24=>56|25=>144|3=>3|39=>161|0=>0|53=>223|55=>196|4=>4|46=>217|45=>216|50=>61|5=>5|9=>9|66=>284|70=>288|76=>333|77=>334|n=>n,fun|n=>n⟩
theorem Tryzx.laysC:Go.Proofs.SlLaysF0.n6 jl Tryzx.laysC_ren:={
 mixed:=by kernel_rfl
 f6:=⟨Tryz.f72.name,by decide,func72.trans (js ja af)⟩
 f14:=⟨Tryz.f124.name,by decide,func124.trans (js ja af)⟩
 f15:=func89.trans (js ja af)
 f20:=⟨Tryz.f178.name,by decide,func178.trans (js ja af)⟩
 f21:=⟨Tryz.f179.name,by decide,func179.trans (js ja af)⟩
 f22:=⟨Tryz.f180.name,by decide,func180.trans (js ja af)⟩
 f23:=⟨Tryz.f181.name,by decide,func181.trans (js ja af)⟩
 f24:=⟨Tryz.f182.name,by decide,func182.trans (js ja af)⟩
 f25:=⟨Tryz.f183.name,by decide,func183.trans (js ja af)⟩
 f26:=⟨Tryz.f184.name,by decide,func184.trans (js ja af)⟩
 f27:=⟨Tryz.f185.name,by decide,func185.trans (js ja af)⟩
 f28:=func143.trans (js ja af)
 f29:=func144.trans (js ja af)
 f46:=⟨Tryz.f238.name,by decide,func238.trans (js ja af)⟩
 f47:=func192.trans (js ja af)
 f48:=func193.trans (js ja af)
 f49:=⟨Tryz.f239.name,by decide,func239.trans (js ja af)⟩
 f50:=⟨Tryz.f240.name,by decide,func240.trans (js ja af)⟩
 f57:=⟨Tryz.f261.name,by decide,func261.trans (js ja af)⟩
 t0:=xC
 a0:=isAgg0
 z0:=sizeOf0
 v0:=zeroValue0
 t3:=nv
 a3:=isAgg3
 z3:=sizeOf3
 v3:=zeroValue3
 t4:=qF
 a4:=isAgg4
 z4:=sizeOf4
 v4:=zeroValue4
 t5:=wv
 a5:=isAgg5
 z5:=sizeOf5
 v5:=zeroValue5
 t9:=xD
 a9:=isAgg9
 z9:=sizeOf9
 v9:=zeroValue9
 t22:=qE
 a22:=isAgg27
 z22:=sizeOf27
 v22:=zeroValue27
 t25:=underlying144
 a25:=isAgg144
 z25:=sizeOf144
 v25:=zeroValue144
 t39:=xE
 a39:=isAgg161
 z39:=sizeOf161
 v39:=zeroValue161
 t45:=xG
 a45:=isAgg216
 z45:=sizeOf216
 v45:=zeroValue216
 t46:=xH
 a46:=isAgg217
 z46:=sizeOf217
 v46:=zeroValue217
 t50:=xI
 a50:=isAgg61
 z50:=sizeOf61
 v50:=zeroValue61
 t53:=xJ
 a53:=isAgg223
 z53:=sizeOf223
 v53:=zeroValue223
 t55:=xK
 a55:=isAgg196
 z55:=sizeOf196
 v55:=zeroValue196
 t66:=xL
 a66:=isAgg284
 z66:=sizeOf284
 v66:=zeroValue284
 t70:=xM
 a70:=isAgg288
 z70:=sizeOf288
 v70:=zeroValue288
 t76:=xN
 a76:=isAgg333
 z76:=sizeOf333
 v76:=zeroValue333
 t77:=xO
 a77:=isAgg334
 z77:=sizeOf334
 v77:=zeroValue334}
theorem Tryzx.sortFunc_noneC(p:jP j7)(a:jb)(b:jj)(w:jh):
 jq jl 72 #[jg p 0 a,b] w λe w'=>e=jp (jE #[])/\w'=w:=AnyF.slices_SortFunc_none Tryzx.laysC p a b w
def Tryzx.laysK_ren:Go.Shelf.Ren:=⟨fun|6=>110|15=>89|14=>163|28=>143|29=>144|20=>214|21=>215|22=>216|23=>217|24=>218|25=>219|26=>220|27=>221|46=>254|47=>192|48=>193|49=>255|50=>256|57=>266|n=>n,fun|22=>122|24=>80|25=>188|3=>3|39=>161|0=>0|53=>223|55=>196|4=>4|46=>217|45=>216|50=>61|5=>5|9=>9|66=>284|70=>288|76=>333|77=>334|n=>n,fun|n=>n⟩
theorem Tryzx.laysK:Go.Proofs.SlLaysF0.n6 jl Tryzx.laysK_ren:={
 mixed:=by kernel_rfl
 f6:=⟨Tryz.f110.name,by decide,func110.trans (js ja af)⟩
 f14:=⟨Tryz.f163.name,by decide,func163.trans (js ja af)⟩
 f15:=func89.trans (js ja af)
 f20:=⟨Tryz.f214.name,by decide,func214.trans (js ja af)⟩
 f21:=⟨Tryz.f215.name,by decide,func215.trans (js ja af)⟩
 f22:=⟨Tryz.f216.name,by decide,func216.trans (js ja af)⟩
 f23:=⟨Tryz.f217.name,by decide,func217.trans (js ja af)⟩
 f24:=⟨Tryz.f218.name,by decide,func218.trans (js ja af)⟩
 f25:=⟨Tryz.f219.name,by decide,func219.trans (js ja af)⟩
 f26:=⟨Tryz.f220.name,by decide,func220.trans (js ja af)⟩
 f27:=⟨Tryz.f221.name,by decide,func221.trans (js ja af)⟩
 f28:=func143.trans (js ja af)
 f29:=func144.trans (js ja af)
 f46:=⟨Tryz.f254.name,by decide,func254.trans (js ja af)⟩
 f47:=func192.trans (js ja af)
 f48:=func193.trans (js ja af)
 f49:=⟨Tryz.f255.name,by decide,func255.trans (js ja af)⟩
 f50:=⟨Tryz.f256.name,by decide,func256.trans (js ja af)⟩
 f57:=⟨Tryz.f266.name,by decide,func266.trans (js ja af)⟩
 t0:=xC
 a0:=isAgg0
 z0:=sizeOf0
 v0:=zeroValue0
 t3:=nv
 a3:=isAgg3
 z3:=sizeOf3
 v3:=zeroValue3
 t4:=qF
 a4:=isAgg4
 z4:=sizeOf4
 v4:=zeroValue4
 t5:=wv
 a5:=isAgg5
 z5:=sizeOf5
 v5:=zeroValue5
 t9:=xD
 a9:=isAgg9
 z9:=sizeOf9
 v9:=zeroValue9
 t22:=underlying122
 a22:=isAgg122
 z22:=sizeOf122
 v22:=zeroValue122
 t25:=underlying188
 a25:=isAgg188
 z25:=sizeOf188
 v25:=zeroValue188
 t39:=xE
 a39:=isAgg161
 z39:=sizeOf161
 v39:=zeroValue161
 t45:=xG
 a45:=isAgg216
 z45:=sizeOf216
 v45:=zeroValue216
 t46:=xH
 a46:=isAgg217
 z46:=sizeOf217
 v46:=zeroValue217
 t50:=xI
 a50:=isAgg61
 z50:=sizeOf61
 v50:=zeroValue61
 t53:=xJ
 a53:=isAgg223
 z53:=sizeOf223
 v53:=zeroValue223
 t55:=xK
 a55:=isAgg196
 z55:=sizeOf196
 v55:=zeroValue196
 t66:=xL
 a66:=isAgg284
 z66:=sizeOf284
 v66:=zeroValue284
 t70:=xM
 a70:=isAgg288
 z70:=sizeOf288
 v70:=zeroValue288
 t76:=xN
 a76:=isAgg333
 z76:=sizeOf333
 v76:=zeroValue333
 t77:=xO
 a77:=isAgg334
 z77:=sizeOf334
 v77:=zeroValue334}
theorem Tryzx.sortFunc_noneK(p:jP j7)(a:jb)(b:jj)(w:jh):
 jq jl 110 #[jg p 0 a,b] w λe w'=>e=jp (jE #[])/\w'=w:=AnyF.slices_SortFunc_none Tryzx.laysK p a b w
end
section
open Go.RowKit Go.Maps Go.Sort Go.Shelf
section
variable {α:Type} {E:EK α}
theorem Mr{l:jd α}[Inhabited {x//x∈l}](t:jb)(d:t<l.length*E.k):(E.flat l)[t]?=ja ((E.cells (l.attach.toArray[t/E.k]!).1)[t%E.k]!):=by
 have b:t/E.k<l.length:=E4 (by rw[qM];exact d);have a:t%E.k<E.k:=qK _ E.pos;have h:=E.flat_get l (t/E.k) (t%E.k) l[t/E.k] (ms b) a;rw[show t/E.k*E.k+t%E.k=t by rw[qM];exact E5 t E.k]at h;have e:(l.attach.toArray[t/E.k]!).1=l[t/E.k]:=by rw[getElem!_pos l.attach.toArray _ (ak b)];simp
 rw[h,e];have c:=E.len l[t/E.k];rw[ms (by rw[c];exact a),getElem!_pos _ _ (by rw[c];exact a)]
theorem du.holds{j:jb}{w W:jh}{g n c:jb}{l:jd α}[Inhabited {x//x∈l}](h:du E j w W g n c l):HoldsK (λx:{x//x∈l}=>E.cells x.1) E.k W g 0 l.attach.toArray:=by
 obtain⟨p,k⟩:=h.own
 rcases k with⟨b,_⟩|⟨g',q,r,b,s,e,u,v,y,m⟩
 ·cases b
 injection b with a z o
 injection a with a
 injection a with a
 subst a;subst o;intro t d;rw[size_flatK]at d;have f:t<l.length*E.k:=ak d;have i:=Mr (E:=E) t f;rw[get_flatK _ _ _ _ d];refine⟨?_,by simp[World.frozen?,e]⟩;rw[jM,qy,e];rw[<-m,E6 (by rw[h.len];exact f)]at i
 simpa using i
theorem Bo{l:jd α}[Inhabited {x//x∈l}]{W:jh}{g n c:jb}{d:jd {x//x∈l}}(h:HoldsK (λx:{x//x∈l}=>E.cells x.1) E.k W g 0 d.toArray)(p:n=(d.map Subtype.val).length)(q:n<=c):E.At W (jg (ja ⟨g,0,jc⟩) n c) (d.map Subtype.val):=by
 refine⟨E.flat_length _,ja ⟨g,0,jc⟩,c,by rw[p],by omega,(λe=>by cases e),λ_=>⟨g,0,rfl,λj u k=>?_⟩⟩;have b:=(o3.1 k).1;rw[E.flat_length,jC]at b;have f:=(h j (by rw[size_flatK];simpa using b)).1;rw[get_flatK _ _ _ _ (ak b)]at f;have m:j/E.k<d.length:=E4 (by rw[qM];exact b);have i:j%E.k<E.k:=qK _ E.pos;have a:=E.flat_get (d.map Subtype.val) (j/E.k) (j%E.k) (d[j/E.k]).1 (by rw[j9,ms m];rfl) i;rw[show j/E.k*E.k+j%E.k=j by rw[qM];exact E5 j E.k,k]at a;have e:d.toArray[j/E.k]! =d[j/E.k]:=by rw[getElem!_pos d.toArray _ (ak m)];simp
 rw[e]at f;have o:=E.len (d[j/E.k]).1;rw[ms (by rw[o];exact i)]at a;injection a with a
 rw[getElem!_pos _ _ (by rw[o];exact i),<-a]at f;exact f
theorem AR{β:Type}[Inhabited β]{enc:β->jd jj}{k a:jb}{w:jh}{g n:jb}{d:jD β}{os:jD Obj}(b:a<=g)(c:a<=w.heap.size):jk a w (sortWorldK enc k w g 0 n d os):=by
 unfold sortWorldK putRowK putRow mapBlock Go.Sort.ahead Go.Sort.grow;refine⟨I,I,I,by simp,λk e=>?_⟩;simp only;rw[Array.getElem?_append_left (by simp;omega),Array.getElem?_modify,jw Y]
theorem FW{β:Type}(f:β->N):SWO (ltOf λx y:β=>cE (f x) (f y)) where
 irrefl x:=by simp[ltOf,cE]
 trans x y z h1 h2:=by
  simp only[ltOf,decide_eq_true_eq]at*;unfold cE at*
  by_cases a:f x<f y
  ·by_cases b:f y<f z
   ·rw[jt Y];decide
   rw[jw b]at h2;split at h2<;>omega
  rw[jw a]at h1;split at h1<;>omega
 ntrans x y z h1 h2:=by
  simp only[ltOf,decide_eq_false_iff_not]at*;unfold cE at*
  by_cases a:f x<f z
  ·exfalso
   by_cases b:f x<f y
   ·rw[jt b]at h1;exact h1 G
   by_cases c:f y<f z
   ·rw[jt c]at h2;exact h2 G
   omega
  rw[jw a];split<;>omega
theorem GY(x y:N):(!(decide (cE y x<0)))=decide (x<=y):=by
 unfold cE
 by_cases h:y<x
 ·rw[jt h];simp;omega
 rw[jw h];split<;>simp<;>omega
theorem Dh{f:α->N}:∀{l:jd α},(l.map f).Nodup->∀x∈l,∀y∈l,f x=f y->x=y
 |[],_,x,g,_,_,_=>by cases g
 |a::l,d,x,g,y,h,e=>by
  rw[qI,List.nodup_cons]at d
  rcases jT.1 g with c|c
  ·rcases jT.1 h with b|b
   ·rw[c,b]
   exact jB (jO.2 ⟨y,b,by rw[<-e,c]⟩) d.1
  rcases jT.1 h with b|b
  ·exact jB (jO.2 ⟨x,c,by rw[e,b]⟩) d.1
  exact Dh d.2 x c y b e
theorem Hy(w:jh)(a b:Obj):(w.alloc a).alloc b=grow (w.drewN 0) #[a,b]:=by
 show({({w with heap:=w.heap.push a}:jh)with heap:=(w.heap.push a).push b}:jh)={w with heap:=w.heap++ #[a,b]}
 congr 1
theorem BX{l:jd α}{f:α->N}(g:(l.map f).Nodup){x y:α}(h:x∈l)(i:y∈l)(c:decide (cE (f x) (f y)<0)=ji)(d:decide (cE (f y) (f x)<0)=ji):x=y:=by
 have e:f x=f y:=by
  simp only[decide_eq_false_iff_not]at c d;unfold cE at c d
  by_cases a:f x<f y
  ·rw[jt a]at c;exact jB G c
  by_cases b:f y<f x
  ·rw[jt b]at d;exact jB G d
  omega
 exact Dh g x h y i e
end
theorem PT(x y:aL)(w:jh):
 jq jl 41 #[jn (EM.cells x).toArray,jn (EM.cells y).toArray] w λe w'=>e=jp (T A (cE x.dev y.dev))/\∃q os,w'=grow (w.drewN q) os:=by
 obtain⟨a,x1,x2⟩:=x;obtain⟨b,y1,y2⟩:=y;show jq jl 41 #[jn #[T A a,T A x1,T A x2],jn #[T A b,T A y1,T A y2]] w λe w'=>e=jp (T A (cE a b))/\∃q os,w'=grow (w.drewN q) os
 have c:=O (tQ a b);have d:jf (∃q os,(w.alloc (je #[T A a,T A x1,T A x2] 103)).alloc (je #[T A b,T A y1,T A y2] 103)=grow (w.drewN q) os):=O ⟨0,#[je #[T A a,T A x1,T A x2] 103,je #[T A b,T A y1,T A y2] 103],Hy _ _ _⟩
 go_enter func41,ntmps41
 go_wp2_with fail
 refine(c _).mono ?_;rintro e f ⟨rfl,rfl⟩
 go_wp2_with fail
 go_ret;exact⟨I,d⟩
def fL(l:jd aL):jd aL:=l.mergeSort λx y=>decide (x.dev<=y.dev)
theorem JB(l:jd aL)(o:(l.map aL.dev).Nodup)(d g n c:jb)(w W:jh)(h:du EM d w W g n c l)(q:n<=1000000):
 jq jl 40 #[jg (ja ⟨g,0,jc⟩) n c,.func (.func 41) #[] #[]] W λe w'=>e=jp (jE #[])/\EM.At w' (jg (ja ⟨g,0,jc⟩) n c) (fL l)/\jk d W w':=by
 rcases xy n with i|i
 ·subst i
  obtain rfl:l=[]:=sv h.len.symm;refine(Tryzx.sortFunc_noneM _ c _ W).mono ?_;rintro e w' ⟨rfl,rfl⟩;have e:fL []=[]:=by unfold fL;simp
  rw[e];exact⟨I,h.at,jK _ _⟩
 have j:l≠[]:=λe=>by have:=h.len;rw[e]at this;simp at this;omega
 haveI:Inhabited {x//x∈l}:=⟨⟨l.head j,List.head_mem j⟩⟩
 have k:=AnyQ.slices_SortFunc_total (α:={x//x∈l}) Tryzx.laysM 3 isAgg103 sizeOf103 (λx=>EM.cells x.1) (λ_=>rfl) (λx v a=>EM.one x.1 v a) (λx y=>cE x.1.dev y.1.dev) (FW (λx:{x//x∈l}=>x.1.dev)) 41 #[] g 0 c l.attach.toArray W
  (enters_of func41 af rfl) (λ_ _ _ _ x y=>PT x.1 y.1 _) (h.holds) h.lt.2 (by rw[jJ,qB,<-h.len];omega) (λx y a b=>Subtype.ext (BX o x.2 y.2 a b))
 rw[jJ,qB,<-h.len]at k;refine k.mono ?_;rintro e w' ⟨rfl,m,os,rfl⟩;have p:((l.attach.mergeSort λx y=> !ltOf (λx y:{x//x∈l}=>cE x.1.dev y.1.dev) y x).map Subtype.val)=fL l:=by
  refine(GX (r:=λx y:{x//x∈l}=> !ltOf (λx y:{x//x∈l}=>cE x.1.dev y.1.dev) y x) (s:=λx y:aL=>decide (x.dev<=y.dev)) (f:=Subtype.val) (λa _ b _=>GY _ _)).trans ?_;rw[HH]
  rfl
 have a:=holdsK_sortWorldK (λx:{x//x∈l}=>EM.cells x.1) 3 W g 0 m l.attach.toArray (l.attach.mergeSort λx y=> !ltOf (λx y:{x//x∈l}=>cE x.1.dev y.1.dev) y x).toArray os h.lt.2 h.holds (by simp[(qO _ _).length_eq]);refine⟨I,?_,AR h.lt.1 (cT h.lt)⟩;rw[<-p];exact Bo (E:=EM) a (by rw[jC,(qO _ _).length_eq,qB];exact h.len) h.cap
theorem OW(x y:ap)(w:jh):
 jq jl 73 #[jn (EC.cells x).toArray,jn (EC.cells y).toArray] w λe w'=>e=jp (T A (cE x.d y.d))/\∃q os,w'=grow (w.drewN q) os:=by
 obtain⟨a,x1,x2,b,c⟩:=x;obtain⟨d,y1,y2,f,g⟩:=y;show jq jl 73 #[jn #[T A a,T A x1,T A x2,T A b,T A c],jn #[T A d,T A y1,T A y2,T A f,T A g]] w λe w'=>e=jp (T A (cE x1 y1))/\∃q os,w'=grow (w.drewN q) os
 have h:=O (tQ x1 y1);have i:jf (∃q os,(w.alloc (je #[T A a,T A x1,T A x2,T A b,T A c] 56)).alloc (je #[T A d,T A y1,T A y2,T A f,T A g] 56)=grow (w.drewN q) os):=O ⟨0,#[je #[T A a,T A x1,T A x2,T A b,T A c] 56,je #[T A d,T A y1,T A y2,T A f,T A g] 56],Hy _ _ _⟩
 go_enter func73,ntmps73
 go_wp2_with fail
 refine(h _).mono ?_;rintro e j ⟨rfl,rfl⟩
 go_wp2_with fail
 go_ret;exact⟨I,i⟩
theorem SJ(l:jd ap)(o:(l.map ap.d).Nodup)(d g n c:jb)(w W:jh)(h:du EC d w W g n c l)(q:n<=1000000):
 jq jl 72 #[jg (ja ⟨g,0,jc⟩) n c,.func (.func 73) #[] #[]] W λe w'=>e=jp (jE #[])/\EC.At w' (jg (ja ⟨g,0,jc⟩) n c) (fl l)/\jk d W w':=by
 rcases xy n with i|i
 ·subst i
  obtain rfl:l=[]:=sv h.len.symm;refine(Tryzx.sortFunc_noneC _ c _ W).mono ?_;rintro e w' ⟨rfl,rfl⟩;have e:fl []=[]:=by unfold fl;simp
  rw[e];exact⟨I,h.at,jK _ _⟩
 have j:l≠[]:=λe=>by have:=h.len;rw[e]at this;simp at this;omega
 haveI:Inhabited {x//x∈l}:=⟨⟨l.head j,List.head_mem j⟩⟩
 have k:=AnyQ.slices_SortFunc_total (α:={x//x∈l}) Tryzx.laysC 5 isAgg56 sizeOf56 (λx=>EC.cells x.1) (λ_=>rfl) (λx v a=>EC.one x.1 v a) (λx y=>cE x.1.d y.1.d) (FW (λx:{x//x∈l}=>x.1.d)) 73 #[] g 0 c l.attach.toArray W
  (enters_of func73 af rfl) (λ_ _ _ _ x y=>OW x.1 y.1 _) (h.holds) h.lt.2 (by rw[jJ,qB,<-h.len];omega) (λx y a b=>Subtype.ext (BX o x.2 y.2 a b))
 rw[jJ,qB,<-h.len]at k;refine k.mono ?_;rintro e w' ⟨rfl,m,os,rfl⟩;have p:((l.attach.mergeSort λx y=> !ltOf (λx y:{x//x∈l}=>cE x.1.d y.1.d) y x).map Subtype.val)=fl l:=by
  refine(GX (r:=λx y:{x//x∈l}=> !ltOf (λx y:{x//x∈l}=>cE x.1.d y.1.d) y x) (s:=λx y:ap=>decide (x.d<=y.d)) (f:=Subtype.val) (λa _ b _=>GY _ _)).trans ?_;rw[HH]
  rfl
 have a:=holdsK_sortWorldK (λx:{x//x∈l}=>EC.cells x.1) 5 W g 0 m l.attach.toArray (l.attach.mergeSort λx y=> !ltOf (λx y:{x//x∈l}=>cE x.1.d y.1.d) y x).toArray os h.lt.2 h.holds (by simp[(qO _ _).length_eq]);refine⟨I,?_,AR h.lt.1 (cT h.lt)⟩;rw[<-p];exact Bo (E:=EC) a (by rw[jC,(qO _ _).length_eq,qB];exact h.len) h.cap
end
theorem wH{E:EK i}{l:jd i}(h:w.ownsRow b E.t E.k u l.length (E.flat l))(e:b<=w.heap.size):(u=jg jc 0 0/\l=[])\/∃g c,u=jg (ja ⟨g,0,jc⟩) l.length c/\du E b w w g l.length c l:=by
 have f:=h
 rcases h.2 with⟨rfl,a⟩|⟨g,α,k,rfl,m,n,o,p,q,r⟩
 ·refine .inl ⟨I,sv ?_⟩
  first
   |exact a
   |(have d:=h.1;rw[a]at d;exact(xy l.length).elim id λj=>by have:=Nat.mul_pos j E.pos;simp at d;omega)
 exact .inr ⟨g,α,I,f,I,jK _ _,e⟩
theorem Kf{p:aL->jF}(c:fU EM b h o S p)(w:jh)(d:S w)(g:o<=w.heap.size):
 jq jl 38 #[jg jc 0 0,.func (.func b) #[] h] w λe w'=>e=jp (jg jc 0 0)/\jk w w w':=by
 have f:=O (z7 c [] (jg jc 0 0) w EK.At.nil d g ar);clear c d
 go_enter func38,ntmps38
 go_wp2_with fail
 refine(f).mono ?_;rintro e i ⟨r,rfl,d,c⟩;have caps:=O c;clear c f
 rcases d with⟨rfl,-⟩|⟨k,e,-,he,-⟩
 ·go_wp2_with fail
  go_ret;exact⟨I,caps⟩
 simp at he
theorem JP{F:jb}{caps:jD jj}{a:jb}{f:jh->Prop}{p:aL->jF}(i:fU EM F caps a f p)(l:jd aL)(v:jj)(w:jh)(h:w.ownsRow a EM.t EM.k v l.length (EM.flat l))(j:f w)(b:a<=w.heap.size)(k:l.length<=1000000):
 jq jl 38 #[v,.func (.func F) #[] caps] w λe w'=>∃u,e=jp u/\w'.ownsRow a EM.t EM.k u (l.filter λx=> !p x).length (EM.flat (l.filter λx=> !p x))/\jk a w w':=by
 rcases wH h b with⟨rfl,rfl⟩|⟨g,c,rfl,m⟩
 ·refine(Kf i w j b).mono ?_
  rintro e w' ⟨rfl,d⟩;exact⟨_,I,nn _ _ _ _,d.mono b⟩
 refine(Of i l g l.length c w m j k).mono ?_;rintro e w' ⟨n',rfl,d⟩;have n:=d.len;subst n;exact⟨_,I,d.own,d.bel⟩
theorem JG(l:jd aL)(b:(l.map aL.dev).Nodup)(a:jb)(v:jj)(w:jh)(h:w.ownsRow a EM.t EM.k v l.length (EM.flat l))(d:a<=w.heap.size)(f:l.length<=1000000):
 jq jl 40 #[v,.func (.func 41) #[] #[]] w λe w'=>e=jp (jE #[])/\EM.At w' v (fL l)/\jk a w w':=by
 rcases wH h d with⟨rfl,rfl⟩|⟨g,c,rfl,i⟩
 ·refine(Tryzx.sortFunc_noneM jc 0 _ w).mono ?_
  rintro e w' ⟨rfl,rfl⟩;have e:fL []=[]:=by unfold fL;simp
  rw[e];exact⟨I,EK.At.nil,jK _ _⟩
 exact JB l b a g l.length c w w i f
theorem Md{p:ap->jF}(c:fU EC b h o S p)(w:jh)(d:S w)(g:o<=w.heap.size):
 jq jl 69 #[jg jc 0 0,.func (.func b) #[] h] w λe w'=>e=jp (jg jc 0 0)/\jk w w w':=by
 have f:=O (AV c [] (jg jc 0 0) w EK.At.nil d g ar);clear c d
 go_enter func69,ntmps69
 go_wp2_with fail
 refine(f).mono ?_;rintro e i ⟨r,rfl,d,c⟩;have caps:=O c;clear c f
 rcases d with⟨rfl,-⟩|⟨k,e,-,he,-⟩
 ·go_wp2_with fail
  go_ret;exact⟨I,caps⟩
 simp at he
theorem R7{p:ap->jF}(i:fU EC b h o S p)(l:jd ap)(v:jj)(w:jh)(caps:w.ownsRow o EC.t EC.k v l.length (EC.flat l))(j:S w)(F:o<=w.heap.size)(k:l.length<=1000000):
 jq jl 69 #[v,.func (.func b) #[] h] w λe w'=>∃u,e=jp u/\w'.ownsRow o EC.t EC.k u (l.filter λx=> !p x).length (EC.flat (l.filter λx=> !p x))/\jk o w w':=by
 rcases wH caps F with⟨rfl,rfl⟩|⟨g,c,rfl,m⟩
 ·refine(Md i w j F).mono ?_
  rintro e w' ⟨rfl,d⟩;exact⟨_,I,nn _ _ _ _,d.mono F⟩
 refine(MR i l g l.length c w m j k).mono ?_;rintro e w' ⟨n',rfl,d⟩;have n:=d.len;subst n;exact⟨_,I,d.own,d.bel⟩
theorem Ny(l:jd ap)(b:(l.map ap.d).Nodup)(a:jb)(v:jj)(w:jh)(h:w.ownsRow a EC.t EC.k v l.length (EC.flat l))(d:a<=w.heap.size)(f:l.length<=1000000):
 jq jl 72 #[v,.func (.func 73) #[] #[]] w λe w'=>e=jp (jE #[])/\EC.At w' v (fl l)/\jk a w w':=by
 rcases wH h d with⟨rfl,rfl⟩|⟨g,c,rfl,i⟩
 ·refine(Tryzx.sortFunc_noneC jc 0 _ w).mono ?_
  rintro e w' ⟨rfl,rfl⟩;have e:fl []=[]:=by unfold fl;simp
  rw[e];exact⟨I,EK.At.nil,jK _ _⟩
 exact SJ l b a g l.length c w w i f
theorem zz(a:N)(l:jd ap)(v:jj)(w:jh)(h:EC.At w v l)(q:(l.map ap.d).Nodup)(j:l.length<=1000000):
 jq jl 29 #[T A a,v] w λe w'=>∃u,e=jp u/\EC.At w' u (dt a l)/\jk w w w':=by
 obtain⟨p,c,rfl,-,-⟩:=h.form;have d:=ao w (je #[T A a] 3);have f:=Boxed.new w 3 (T A a);obtain⟨n,r⟩:=J l.length;have g:=h.below d;obtain⟨i,k⟩:=J (w.alloc (je #[T A a] 3));obtain⟨b,m⟩:=J w.heap.size;rw[<-k]at d f g;rw[<-m]at f;rw[<-r]at g⊢;have s:=O (Iw l _ i g j);have y:=O k;have z:=O m;have o:=O f;have t:=O d;have x:=O j;have B:=O q;clear h d f r g k m j q
 go_enter func29,ntmps29
 go_upto_region 1 with fail
 rw[<-y,<-z]
 go_wp2_with fail
 refine(s).mono ?_;rintro e x1 ⟨u,rfl,g,d⟩;have h:=O g;have j:jf (jA x1 b 3 (T A a)):=ae o d;have k:=O d;have f:=O d.size;have r:jf (b<i.heap.size):=O o.lt;clear g d s o
 go_wp2_with fail
 refine(R7 (SN a b i.heap.size r) l u x1 h j f x).mono ?_;rintro e x2 ⟨u2,rfl,g,d⟩;have m:=O g;have o:=O (k.trans d);have q:=O (jL f d.size);clear g d h j k f
 go_wp2_with fail
 refine(Ny _ (B.sublist (List.filter_sublist.map _)) i.heap.size u2 x2 m q (jL (D1 _ _) x)).mono ?_;rintro e j ⟨rfl,d,f⟩;have g:=O d;have h:=O (t.trans ((o.trans f).mono t.size));clear d f m o q
 go_wp2_with fail
 go_ret;exact⟨_,I,g,h⟩
section
attribute [local go_sem] Oper.semAt_some
theorem FN(t:jd (N×N))(x:N):(fg t x).length<=1023:=by
 unfold fg
 split
 ·rename_i h
  have a:1<=x/\x<=1023:=by
   unfold lT at h
   split at h
   ·split at h
    ·cases h
    omega
   exact jB h (by assumption)
  have b:=tg (bG t) (hgt x.toNat) x.toNat;have c:=(vU (n:=x.toNat) Y Y).2;have d:1*2^hgt x.toNat<=x.toNat*2^hgt x.toNat:=ql _ Y;omega
 simp
theorem SF(t:jd (N×N)):∀(l:jd N) (x:N) (k:jb),fz t (l++[x]) k=fz t l k++(fg t x).map λn=>(((k+l.length:jb):N),n):=by
 intro l
 induction l with
 |nil=>intro x k;simp[fz]
 |cons y l a=>
  intro x k;have h:=a x (k+1);unfold fz at h⊢;rw[qs,q8,xz,q8,xz,h,n0];simp only[j5];rw[show k+1+l.length=k+(l.length+1) by omega]
theorem Cc(t:jd (N×N)):∀(l:jd N) (k:jb),(fz t l k).length<=1023*l.length:=by
 intro l
 induction l with
 |nil=>intro k;simp[fz]
 |cons y l a=>
  intro k;have h:=a (k+1);unfold fz at h⊢;rw[q8,xz,jH,jC,j5];have b:(fg t (y,k).1).length<=1023:=FN t y;omega
theorem AA(b:0<=d)(c:d<512):(gZ d).length=9:=by
 unfold gZ nS;rw[jC,jC,uJ _ Y]
theorem bJ.but{v:jj}{d:jb}{p:jP j7}{n c:jb}{l:jI}{m:jb×jb}(h:bJ w v t)(q:w.heap[d]?=ja (je #[jg p n c] l m))(r:∀k,k<w.heap.size->k≠d->w'.heap[k]?=w.heap[k]?):bJ w' v t:=by
 have key:∀(g o:jb) (x:N),w.cell? ⟨g,o,jc⟩=ja (T A x)->w'.cell? ⟨g,o,jc⟩=ja (T A x):=λg o x b=>by
  by_cases e:g=d
  ·subst e
   exfalso
   unfold qy at b;rw[q]at b
   rcases o with _ |o<;>simp at b
  rw[<-b];exact dY (a:=⟨g,o,jc⟩) (r g (gg b) e)
 obtain⟨p,c,k,s,u,y,z⟩:=h;refine⟨p,c,k,s,u,λB=>?_,z⟩;obtain⟨g,o,e,f⟩:=y B;exact⟨g,o,e,λj i=>⟨key _ _ _ (f j i).1,key _ _ _ (f j i).2⟩⟩
structure mp(w:jh)(a:jb)(Ψ:jb->Prop)(wr:jh):Prop where
 lt:∀k,Ψ k->k<wr.heap.size
 old:∀k,a<=k->k≠a->k<w.heap.size->Ψ k
 kept:∀k,k<w.heap.size->k≠a->wr.heap[k]?=w.heap[k]?
 not:¬Ψ a
 sz:w.heap.size<=wr.heap.size
def oL(Ψ:jb->Prop)(a b:jh)(k:jb):Prop:=Ψ k\/(a.heap.size<=k/\k<b.heap.size)
theorem mp.more{d:jh}(h:mp w b D f)(a:b<w.heap.size)(e:jk f f d):mp w b (oL D f d) d where
 lt k c:=by rcases c with c|c;exact qg (h.lt k c) e.size;exact c.2
 old k h1 h2 h3:=.inl (h.old k h1 h2 h3)
 kept k h1 h2:=(e.block k (qg h1 h.sz)).trans (h.kept k h1 h2)
 not c:=by rcases c with c|c;exact h.not c;have:=h.sz;omega
 sz:=jL h.sz e.size
theorem mp.yield{c:jh}(h:mp w b D f)(d:jk b f c)(a:∀k,D k->c.heap[k]?=f.heap[k]?):mp w b D c where
 lt k h1:=qg (h.lt k h1) d.size
 old:=h.old
 kept k h1 h2:=by
  refine Eq.trans ?_ (h.kept k h1 h2)
  rcases qk k b with e|e
  ·exact d.block k e
  exact a k (h.old k e h2 h1)
 not:=h.not
 sz:=jL h.sz d.size
theorem IE{d:i->(jb->Prop)->jh->Prop}(h:bZ b d){s:i}{Ψ:jb->Prop}{a B0:jh}(e:d s Ψ a)(f:jk a a B0):d s (oL Ψ a B0) B0:=
 h s Ψ (oL Ψ a B0) a B0 e (bP.ofBelow f (λk c _=>c)) (λk c=>.inl c) (λk c=>by rcases c with c|c;exact .inl c;exact .inr c.1)
theorem aH.more{C:jd jj}(h:aH D w u b o C)(d:∀k,D k->k<w.heap.size)(e:jk w w f):aH (oL D w f) f u b o C:=
 (h.keep λk c=>e.block k (d k c)).mono λk c=>.inl c
theorem aH.ofMine{Ψ:jb->Prop}{a b:jh}{v:jj}{sz n:jb}{t:jI}{xs:jd jj}(h:b.ownsRow a t sz v n xs):aH (oL Ψ a b) b v sz n xs:=
 aH.of_own h λg c=>.inr (h.lt g c)
theorem O6(t:jd (N×N))(u:jj)(a:N)(j:0<=a)(E:a<512)(w:jh)(f:jb)(p:jP j7)(n c:jb)(ty:jI)(m:w.heap[f]?=ja (je #[jg p n c] ty (0,0)))(y z:jb)(o:y≠f)(C:z≠f)
 (e:jA w y 3 (T A a)) (q:w.heap[z]?=ja (je #[u] 43 (0,0))) (s:bJ w u t) (D:t.length<=1000000):
 eR jl 121 #[jz (ja ⟨y,0,jc⟩),jz (ja ⟨z,0,jc⟩)] (λx:N×N=>#[T A x.1,T A x.2]) (λk=>f<=k/\k≠f/\k<w.heap.size) f (λxs=>xs=eo t a) (λ_=>True) (λys=>ys.length<=10000) w:=by
 intro l F Jx W g H K M P;have V:=(jG.1 m).1;have v:mp w f (λk=>f<=k/\k≠f/\k<w.heap.size) W:=⟨λk B=>qg B.2.2 g.size,λk a b c=>⟨a,b,c⟩,λk B _=>g.block k B,λB=>B.2.1 I,g.size⟩;have X:=O v;have Wu:=O V;have HG:=O m;have HA:=O e;have HT:=O q;have HN:=O s;have HL:=O D;have Z4:=O o;have a3:=O C;have a4:=O e.lt;have WL:=O (jG.1 q).1;obtain⟨Q,R,S,rfl⟩:=gN s;have HJ:=O H;have au:=O K;have U:=O M;have Wn:=O P;have x:=AA j E;obtain⟨r,rfl⟩:=qe j;have h:=O (Le r Y);have aa:iv (nS r)=(gZ (r:N)).map (jo .i64):=by unfold iv gZ;rw[xu];rfl
 rw[aa]at h;have ad:eo t (r:N)=fz t (gZ (r:N)) 1:=I;rw[ad];generalize gZ (r:N)=d at x h⊢;have VJ:=O x;have ca:W.cell? ⟨y,0,jc⟩=ja (T A (r:N)):=by rw[dY (a:=⟨y,0,jc⟩) (v.kept y a4 o)];exact e.cell
 clear m e q s D o C H K M P x v V aa ad j E g;refine(vi (n:=0)).1 ?_;refine callsIn_of_wp func121 I trivial ?_ I;simp only[ntmps121,jJ,j5,qH,qV,qW,qX,qY,qZ,q7,qo,qs]
 gi_wp2_with fail
 refine⟨trivial,I,(callsIn_wide.2 (h W)).mono ?_⟩;rintro e W1 ⟨v,rfl,j,g⟩;have Yg:=O (X.more Wu g);have Vd:=O (IE HJ Wn g);have m:=aH.ofMine (Ψ:=λk=>f<=k/\k≠f/\k<w.heap.size) j;obtain⟨pc,cc,rfl⟩:=m.form;have Vr:=O m;have a5:=g.size;generalize oL (λk=>f<=k/\k≠f/\k<w.heap.size) W W1=Ψ1 at Yg Vd Vr;clear j g m Wn X h ca
 gi_wp2_with fail
 gi_loopw [19] (λs wr=>W.heap.size<=wr.heap.size/\∃(k:jb) (Ψ:jb->Prop),s=T A k/\k<=9/\jf (mp w f Ψ wr)/\jf (F (fz t (d.take k) 1) Ψ wr)/\jf (aH Ψ wr (jg pc 9 cc) 1 9 (d.map (jo .i64)))) (λs _=>(9-jv s).toNat)
 case atStart=>exact⟨a5,0,Ψ1,I,by omega,Yg,Vd,Vr⟩
 obtain⟨bc,k,Ψ,rfl,B,g,H,q⟩:=hrel
 by_cases a6:k<9
 case neg=>
  obtain rfl:k=9:=Y;have V:jf (F (fz t d 1) Ψ wr):=O (by have h:=H.out;rw[jU (by rw[VJ];exact ju _)]at h;exact h);clear U au H
  gi_wp2
  refine bodyPost_end (wi I _ _ _) I ?_;exact⟨⟨_,I⟩,.inl ⟨_,_,I,V⟩⟩
 have hd:=aA ((k:N)<9);have UY:=aA (k<9);have m:k<d.length:=by rw[VJ];exact a6
 have K:=O (SF t (d.take k) d[k] 1);have Za:jf (d.take (k+1)=d.take k++[d[k]]):=O (qt m);have ax:jf ((d.take k).length=k):=O (by rw[mz];omega);obtain⟨-,_,_,X,-,-,o⟩:=q.out;injection X with WT Yq Zu
 subst WT;subst Zu;obtain⟨gc,oc,rfl,-,o⟩:=o Y;have C:=o k (T A d[k]) (by rw[j9,ms m];rfl);obtain⟨sb,x⟩:=J (d[k]);rw[<-x]at C K Za;have c1:wr.cell? ⟨z,0,jc⟩=ja (jg Q R S):=by rw[dY (a:=⟨z,0,jc⟩) (g.kept z WL a3)];exact ai (i:=0) HT I
 have aa:jf (bJ wr (jg Q R S) t):=O (HN.but HG g.kept);have ad:=O (NQ t (jg Q R S) sb wr aa HL);clear o x m Yq
 gi_wp2_with fail
 refine⟨trivial,I,(callsIn_wide.2 ad).mono ?_⟩;rintro e W2 ⟨vn,rfl,j,D⟩;have V8:=O (g.more Wu D);have Wg:=O (IE HJ H D);have U0:=O (q.more g.lt D);have Vs:=aH.ofMine (Ψ:=Ψ) j;obtain⟨pn,cn,rfl⟩:=Vs.form;have M:=O Vs;have bd:=D.size;generalize oL Ψ wr W2=Ψ2 at V8 Wg U0 M;have P:=O (FN t sb);obtain⟨x,ay⟩:=J (fg t sb);rw[<-ay]at M K P⊢;obtain⟨m,hm⟩:=J x.length;rw[<-hm]at M P⊢;have a1:=O hm;have WE:=O (Cc t (d.take k) 1);obtain⟨UD,a2⟩:=J (fz t (d.take k) 1);rw[<-a2]at Wg K WE;have ba:jf (m<=1023):=P;have bf:=P.out;clear j D Vs ad aa g H q C c1 hm ay a2
 gi_wp2_with fail
 gi_loopw [32] (λs D=>W.heap.size<=D.heap.size/\∃(j:jb) (Ψ:jb->Prop),s=T A j/\j<=m/\jf (mp w f Ψ D)/\jf (F (UD++(x.take j).map λn=>((k:N)+1,n)) Ψ D)/\jf (aH Ψ D (jg (ja ⟨gc,oc,jc⟩) 9 cc) 1 9 (d.map (jo .i64)))/\jf (aH Ψ D (jg pn m cn) 1 m (x.map (jo .i64)))) (λs _=>(m-jv s).toNat)
 case atStart=>exact⟨by omega,0,Ψ2,rfl,by omega,V8,O (Q4 Wg),U0,M⟩
 obtain⟨bg,j,Ψ,rfl,hj,g,s,q,H⟩:=hrel
 by_cases ay:j<m
 case neg=>
  obtain rfl:j=m:=Y;have hd2:decide ((j:N)<(j:N))=ji:=by simp
  have V:jf (F (fz t (d.take (k+1)) 1) Ψ wr):=O (by
   have h:=s.out;rw[jU (by rw[<-a1];exact ju _)]at h;rw[Za,K,ax,show((1+k:jb):N)=(k:N)+1 by omega];exact h)
  clear U au s
  gi_wp2_with fail
  exact⟨⟨by omega,k+1,Ψ,by go_num,by omega,g,V,q⟩,by simp only[jv];omega⟩
 have hd2:=aA ((j:N)<(m:N));have bh:=aA (j<m);obtain⟨V,h,D⟩:=dL (l:=x) (j:=j) (by rw[<-a1];exact ay);have a2:jf ((x.take (j+1)).map (λn=>((k:N)+1,n))=(x.take j).map (λn=>((k:N)+1,n))++[((k:N)+1,V)]):=O (by rw[D,qc];rfl);obtain⟨-,_,_,X,-,-,o⟩:=H.out;injection X with WT Yq Zu
 subst WT;subst Zu;obtain⟨gn,on,rfl,-,o⟩:=o Y;have C:=o j (T A V) (by rw[j9,h];rfl);have aa:=U (UD++(x.take j).map λn=>((k:N)+1,n)) ((k:N)+1,V) Ψ wr s g.lt (by
  rw[jH,jH,jC,mz];have E:=WE.out;rw[ax]at E;have h2:=ba.out;simp only[j5,qH]
  omega)
 rw[n0,<-a2]at aa;dsimp only at aa;obtain⟨fn,tmps,assign,body,hy,hR⟩:=aa;have HR:=O hR;clear o h D Yq hR
 gi_wp2_with fail
 refine⟨I,HR.mono ?_⟩;rintro e W3 (⟨rfl,Zj,D,h⟩|⟨rfl,ZV,D,h⟩)
 ·have WM:=O (g.yield D h)
  have Wh:=O (q.keep h);have bb:=O (H.keep h);have ad:=O Zj;have WH:=D.size;clear Zj D h HR g q H s hy C
  gi_wp2_with fail
  exact⟨⟨by omega,j+1,Ψ,by go_num,by omega,WM,ad,Wh,bb⟩,by simp only[jv];omega⟩
 have ad:=O ZV;clear ZV D h HR g q H s hy C
 gi_wp2
 refine qh (wi I _ _ _) I ?_;exact⟨⟨_,I⟩,.inr ⟨_,_,trivial,ad⟩⟩
end
section
attribute [local go_sem] Oper.semAt_some
def EB0:EK (N×N):=⟨λx=>[T A x.2,T A x.1,T A 0,jg jc 0 0],4,88,by decide,λ_=>rfl,λx v a=>by simp at a;rcases a with rfl|rfl|rfl|rfl<;>rfl⟩
theorem H6:(jl.info? 88).map (λi=>(i.zero,i.size,i.bytes))=ja (ja (jn #[T A 0,T A 0,T A 0,jg jc 0 0]),4,48):=by kernel_rfl
theorem OP(u:jj)(a:N)(w:jh):jq jl 68 #[jn #[u],T A a] w λe w'=>e=jp (.func (.func 121) #[] #[jz (ja ⟨w.heap.size+1,0,jc⟩),jz (ja ⟨w,0,jc⟩)])/\w'=(w.alloc (je #[u] 43)).alloc (je #[T A a] 3):=by
 go_enter func68,ntmps68
 go_wp2_with fail
 go_ret;exact⟨I,I⟩
section
variable {P:jX} {F:Fence} {nF:jb}
theorem EW{f:jD j0}{j:jd j0}{o:j0}{a:Act}{w:jh}{k:Exit->Act->jh->Prop}(m:Region.wanted o (yielded f a.tmps)=jm)(b:jI)(x:qQ)(i:o.op=.load b x)
 (g:jb) (n:a.eval x=jz (ja ⟨g,0,jc⟩)) (t:jI) (e:jD jj) (l:jb×jb) (d:TypeDesc) (p:w.heap[g]?=ja (je e t l))
 (q:P.underlying b=ja d) (r:(match d with| .struct _ | .array _ _=>jm|_=>ji)=jm) (s:(P.info? b).map (·.size)=ja e.size)
 (h:wpListIn F nF P f k j (a.put o.dst (jn e)) w):wpListIn F nF P f k (o::j) a w:=by
 refine wpListIn_step λy u=>?_
 rw[jt m];unfold Oper.wpIn;refine⟨by simp[Oper.about,i],?_⟩;rw[Oper.semAt_plain F _ _ (by rw[i];intro c v;cases v)];simp only[execOp,i,n,Instr.loadAt,Instr.sureAddr,Sem.run_bind,Sem.run_pure,Result.andThen_ok,run_loadVar_row w g t b e l d p q r s];exact u _ _ h
end
theorem vW{g:Grp}{a:N}{l:jd ap}(c:dA g)(f:eW l)(d:gL g a l):0<=a/\a<512:=by
 by_cases h:0<g.epoch
 ·have b:=d.own
  rw[jS h]at b;unfold cL at b;obtain⟨m,i,j⟩:=r6.1 b;have k:a∈cr g.tree:=by rw[<-c.dev];exact jO.2 ⟨m,i,by simpa using j⟩
  have e:=(oI g.tree a).1 k;exact⟨e.1,e.2.1⟩
 have he:g.epoch=0:=by have:=c.ep.1;omega
 obtain⟨x,r,rfl,b⟩:=d.first he;have:=(f.each x (qN ..)).1;rw[<-b];exact this
theorem yI(g:Grp)(a:N)(l:jd ap):(fH g=ji/\dq g a l=1)\/(fH g=jm/\(iF l=ji\/lM g a l=ji)/\dq g a l=221)\/(fH g=jm/\iF l=jm/\lM g a l=jm/\dq g a l=0):=by
 unfold dq
 by_cases h:dA g
 ·rw[Ey h,jt h]
  by_cases b:eW l/\gL g a l
  ·rw[jt b];exact .inr (.inr ⟨I,oG.2 b.1,tM.2 b.2,I⟩)
  rw[jw b];refine .inr (.inl ⟨I,?_,I⟩)
  by_cases c:eW l
  ·right;exact tP λd=>b ⟨c,d⟩
  left;exact Fh c
 rw[ko h,jw h];exact .inl ⟨I,I⟩
theorem Gt(g:Grp)(vm vt vl:jj)(a:N)(l:jd ap)(w:jh)(h:bU w g vm vt)(j:EC.At w vl l)(k:g.mem.length<=1000000)(C:g.tree.length<=700000)(m:l.length<=1000000):
 jq jl 24 #[jn (aD g vm vt).toArray,T A a,vl] w λe w'=>∃u,e=jp (jE #[u,T A (dq g a l)])/\w'.ownsRow w 88 4 u (dT g a l).length (EB0.flat (dT g a l))/\jk w w w':=by
 have D:=yI g a l;have s:=rF (vm:=vm) (vt:=vt) h.llen;obtain⟨o,c⟩:=J ((aD g vm vt).toArray);rw[<-c]at s⊢;have E:=av (jy w (je o 45)) (ao (w.alloc (je o 45)) (je #[jg jc 0 0] 29));have t:=jy (w.alloc (je o 45)) (je #[jg jc 0 0] 29);rw[j8]at t;have i:jk w w ((w.alloc (je o 45)).alloc (je #[jg jc 0 0] 29)):=(ao w _).trans ((ao (w.alloc (je o 45)) (je #[jg jc 0 0] 29)).mono (ao w _).size);have y:=O E;have F:=O t;have H:=O i;have z:=O (h.below i);have B:=O (j.below i);obtain⟨r,cl,rfl,-,-⟩:=j.form;obtain⟨n,v⟩:=J l.length;rw[<-v]at B⊢;have HV:jf (∀W,bU W g vm vt->jq jl 22 #[jn o] W λe w'=>e=jp (.bool (fH g))/\jk W W w'):=O (by rw[c];exact λW d=>BV g vm vt W d k Y);have HP:jf (∀W,dA g->bU W g vm vt->EC.At W (jg r n cl) l->jq jl 67 #[jn o,T A a,jg r n cl] W λe w'=>e=jp (.bool (lM g a l))/\jk W W w'):=O (by rw[c];exact λW f d x=>Ph g vm vt _ a l W d f k x m);have a5:jf (∀W,eW l->bU W g vm vt->EC.At W (jg r n cl) l->jq jl 34 #[jn o,jg r n cl] W λe w'=>∃u,e=jp (jn #[u])/\bJ w' u (aX g.tree l)/\jk W W w'):=O (by rw[c];exact λW q d x=>yH g vm vt _ l W d q C x);have P:=O s;have HL:=O m;have Z4:=O v;have WL:=O C;have VU:=O D;obtain⟨er,d⟩:=J (dq g a l);have Z8:jf (er≠0->dT g a l=[]):=O (λh=>by unfold dT;rw[jw (by rw[<-d];exact h)]);have a6:jf (er=0->dT g a l=eo (aX g.tree l) a):=O (λh=>by unfold dT;rw[jt (by rw[<-d];exact h)]);rw[<-d]at VU⊢;clear D s c E t i h j k C m v d;refine(vi (n:=0)).1 ?_;refine H1 func24 I trivial ?_ I;simp only[ntmps24,jJ,j5,qH,qV,qW,qX,qY,qZ,q7,qo,qs]
 gi_wp2_with (refine oJ I 45 _ I w.heap.size I 45 o (0,0) _ y.out qn I P ?_)
 refine⟨trivial,I,(callsIn_wide.2 (HV _ z.out)).mono ?_⟩;rintro e x1 ⟨rfl,c⟩;have D:=ae y c;have v:=ae F c;have Q:=O (z.below c);have x:=O (B.below c);have E:=ah H c;clear c y F z B H;obtain⟨d,i⟩:=J w.heap.size;rw[<-i]at D v⊢;have F:=O i;clear i
 rcases VU.out with⟨f,he⟩|⟨f,z,he⟩|⟨f,q,z,he⟩
 ·subst he
  rw[f];have H:jf (dT g a l=[]):=O (Z8 G);have i:jA x1 (d+1) 29 (jg jc 0 0):=v.out;clear f;have V:=i.cell;have X:=i.frozen
  gi_wp2_with fail
  have y:(x1.setCell ⟨d+1,0,jc⟩ (jg jc 0 0)).cell? ⟨d+1,0,jc⟩=ja (jg jc 0 0):=(i.set _).cell;exact⟨jE #[jg jc 0 0,T A 1],by simp[results,qT,go_sem,y],_,I,by rw[H];exact nn _ _ _ _,E.setCell (p:=⟨d+1,0,jc⟩) (by rw[F];show w.heap.size<=w.heap.size+1;omega) _⟩
 ·subst he
  rw[f];have K:dA g:=by
   by_cases M:dA g
   ·exact M
   rw[ko M]at f;cases f
  have R:=O K;have H:jf (dT g a l=[]):=O (Z8 G);clear f K;have ay:=O z;clear z;have aa:=O (Ap l (jg r n cl))
  gi_wp2_with fail
  refine⟨trivial,I,(callsIn_wide.2 (aa x1 x HL)).mono ?_⟩;rintro e x2 ⟨rfl,c⟩;have j:=ae D c;have k:=ae v c;have m:=O (Q.below c);have s:=O (x.below c);have t:=ah E c;clear D v Q x E;clear c
  rcases ay.out with q|q
  ·rw[q]
   clear q;have i:jA x2 (d+1) 29 (jg jc 0 0):=k.out;have V:=i.cell;have X:=i.frozen
   gi_wp2_with fail
   refine⟨trivial,?_⟩
   gi_wp2_with fail
   have y:(x2.setCell ⟨d+1,0,jc⟩ (jg jc 0 0)).cell? ⟨d+1,0,jc⟩=ja (jg jc 0 0):=(i.set _).cell;exact⟨jE #[jg jc 0 0,T A 221],by simp[results,qT,go_sem,y],_,I,by rw[H];exact nn _ _ _ _,t.setCell (p:=⟨d+1,0,jc⟩) (by rw[F];show w.heap.size<=w.heap.size+1;omega) _⟩
  by_cases B:iF l=ji
  ·rw[B]
   clear B q;have i:jA x2 (d+1) 29 (jg jc 0 0):=k.out;have V:=i.cell;have X:=i.frozen
   gi_wp2_with fail
   refine⟨trivial,?_⟩
   gi_wp2_with fail
   have y:(x2.setCell ⟨d+1,0,jc⟩ (jg jc 0 0)).cell? ⟨d+1,0,jc⟩=ja (jg jc 0 0):=(i.set _).cell;exact⟨jE #[jg jc 0 0,T A 221],by simp[results,qT,go_sem,y],_,I,by rw[H];exact nn _ _ _ _,t.setCell (p:=⟨d+1,0,jc⟩) (by rw[F];show w.heap.size<=w.heap.size+1;omega) _⟩
  have B:iF l=jm:=ak B;rw[B];have ad:=O q;clear B q
  gi_wp2_with (refine EW aj 45 _ I d I 45 o (0,0) _ j.out qn I P ?_)
  refine⟨trivial,I,(callsIn_wide.2 (HP x2 R m s)).mono ?_⟩;rintro e B ⟨rfl,c⟩;have au:=ae j c;have S:=ae k c;have ax:=O (m.below c);have Vb:=O (s.below c);have U:=ah t c;clear j k m s t;clear c;rw[ad];have i:jA B (d+1) 29 (jg jc 0 0):=S.out;have V:=i.cell;have X:=i.frozen
  gi_wp2_with fail
  have y:(B.setCell ⟨d+1,0,jc⟩ (jg jc 0 0)).cell? ⟨d+1,0,jc⟩=ja (jg jc 0 0):=(i.set _).cell;exact⟨jE #[jg jc 0 0,T A 221],by simp[results,qT,go_sem,y],_,I,by rw[H];exact nn _ _ _ _,U.setCell (p:=⟨d+1,0,jc⟩) (by rw[F];show w.heap.size<=w.heap.size+1;omega) _⟩
 subst he;rw[f];have K:dA g:=by
  by_cases M:dA g
  ·exact M
  rw[ko M]at f;cases f
 have R:=O K;have V:=O (oG.1 q);have WE:=O (tM.1 z);have ba:=O q;have ad:=O z;have aa:=O (Ap l (jg r n cl));clear f K q z
 gi_wp2_with fail
 refine⟨trivial,I,(callsIn_wide.2 (aa x1 x HL)).mono ?_⟩;rintro e x2 ⟨rfl,c⟩;have j:=ae D c;have k:=ae v c;have m:=O (Q.below c);have s:=O (x.below c);have t:=ah E c;clear D v Q x E;clear c;rw[ba]
 gi_wp2_with (refine EW aj 45 _ I d I 45 o (0,0) _ j.out qn I P ?_)
 refine⟨trivial,I,(callsIn_wide.2 (HP x2 R m s)).mono ?_⟩;rintro e B ⟨rfl,c⟩;have au:=ae j c;have S:=ae k c;have ax:=O (m.below c);have Vb:=O (s.below c);have U:=ah t c;clear j k m s t;clear c;rw[ad]
 gi_wp2_with (refine oJ I 45 _ I d I 45 o (0,0) _ au.out qn I P ?_)
 refine⟨trivial,I,(callsIn_wide.2 (a5 B V ax Vb)).mono ?_⟩;rintro e i ⟨u,rfl,j,c⟩;have k:=O j;have m:=ae S c;have t:=ah U c;clear au S ax Vb U;clear c j;obtain⟨z,E,H,rfl⟩:=gN k
 gi_wp2_with fail
 refine⟨trivial,I,(callsIn_wide.2 (OP _ a i)).mono ?_⟩;rintro e s ⟨rfl,c⟩
 gi_wp2_with fail
 rw[<-c];have j:jk i i s:=by rw[c];exact(ao i _).trans ((ao _ _).mono (ao i _).size)
 have bT:s.heap[i.heap.size]?=ja (je #[jg z E H] 43 (0,0)):=by rw[c];exact av (jy i _) (ao _ _)
 have bA:jA s (i.heap.size+1) 3 (T A a):=by
  have h:=Boxed.new (i.alloc (je #[jg z E H] 43)) 3 (T A a);rw[j8]at h;rw[c];exact h
 have X:jA s (d+1) 29 (jg jc 0 0):=av m j;have bb:=k.below j;have bc:jk w w s:=t.trans (j.mono t.size);have bl:i.heap.size+2<=s.heap.size:=by rw[c];simp
 have bm:d+1<i.heap.size:=(jG.1 m).1;have bd:w.heap.size=d:=F.symm;have ay:=O bd;obtain⟨h0,h1⟩:=vW R V WE;have C:(aX g.tree l).length<=1000000:=by have:=wQ g.tree l;have:=WL.out;have:=V.len;omega
 have bf:jf (dT g a l=eo (aX g.tree l) a):=O (a6 (by trivial));have bn:jf (d+1<=s.heap.size):=O Y;obtain⟨i0,hi,UV,bg,bh⟩:=oC H6;clear c m k j t;refine ru (n:=0) (gf:=121) (lb:=#[jz (ja ⟨i.heap.size+1,0,jc⟩),jz (ja ⟨i,0,jc⟩)]) I (enters_of func121 af I)
  (O6 (aX g.tree l) (jg z E H) a h0 h1 s (d+1) jc 0 0 29 X (i.heap.size+1) i.heap.size Y Y bA bT bb C) Y (λ_=>rfl) (λk c=>c.2.2)
  (λt Ψ W=>gP (d+1) 29 (d+1) 88 4 t.length (EB0.flat t) (λ_=>True) Ψ W/\(jk w w W/\∀k,Ψ k->w.heap.size<=k))
  (λ_ _ _ _=>False)
  ((ni s.heap.size (d+1) 29 (d+1) 88 4 (λt=>t.length) (λt=>EB0.flat t) (λ_ _=>True)).and (kK _ _ w (ju _) Y))
  (λ_=>fq _ _)
  ⟨⟨_,X,λh=>h.2.1 rfl,nn _ _ _ _,by simp[xR],trivial⟩,bc,λk c=>by omega⟩
  (λx D _ _=>D={tmps:=#[jn o,T A a,jg r n cl,jz (ja ⟨d,0,jc⟩),jN,jN,jz (ja ⟨d+1,0,jc⟩),T A 0,T A x.1,T A x.2,
   jn o,.bool jm,.bool ji,jg r n cl,.bool jm,.bool ji,.bool ji,jn o,T A a,jg r n cl,.bool jm,.bool ji,.bool ji,jn o,jg r n cl,jn #[jg z E H],T A a,
   .func (.func 121) #[] #[jz (ja ⟨i.heap.size+1,0,jc⟩),jz (ja ⟨i,0,jc⟩)],T A x.1,T A x.2,jN,jN,jN,jN,jN,jN,jN],defers:=[]}) (fq _ _)
  ?assign ?body ?done ?stop
 case assign=>
  intro l' t x Ψ j K c _ M
  gi_wp2
  exact M _ _ (jK _ _) c I
 case body=>
  rintro l' t ⟨Q,nd⟩ Ψ D Z ⟨⟨v,f,a1,c,x,-⟩,k,hΨ⟩ rfl j YC bo bp;have bq:t.length<=10000:=by have:=j;rw[jH]at this;omega
  have hc:=f.cell;have K:=O k;have br:=k.size;have bi:=O (FI Z [T A nd,T A Q,T A 0,jg jc 0 0] 88);clear k j
  gi_wp2_with (gi_at_builtin;refine H5 _ I _ _ 29 I (d+1) 88 i0 (jn #[T A 0,T A 0,T A 0,jg jc 0 0]) 4 48 underlying29 hi UV bg bh I G _ _ _ I (c.alloc _) ⟨Z,0,jc⟩ 1 1 [T A nd,T A Q,T A 0,jg jc 0 0] I I bi (by simp[oj]) (by unfold pz;omega) Y (by simp;omega) ?_;intro v' w1 a2 a3 bs a4;obtain⟨g',bu,rfl⟩:=ownsRow_succ a2;obtain⟨m,bk⟩:=sB (B0:=s.heap.size) f G c Y (ju _) a1 x YC a2 a3 (by intro j hj;rw[hj]at a4;rcases a4 with h|h;exact .inl h.symm;exact .inr (ak h));have j:jA w1 (d+1) 29 v:=(f.alloc _).kept a3 (by have:=f.not_row (e:=88) G c;exact this);have bv:=j.cell;have bw:=j.frozen)
  obtain⟨v',j,b2,b3,b4,b5⟩:=bk;refine⟨⟨m.1,m.2.1,m.2.2⟩,⟨v',j,b2,?_,b4,trivial⟩,K.trans (m.2.1.mono (by rw[ay];omega)),hΨ⟩;rw[EB0.flat_append,jH];exact b3
 case done=>
  rintro D xs Ψ W hD hS ⟨⟨v,f,a1,c,x,-⟩,k,hΨ⟩ M;have hc:=f.cell;have q:=f.frozen;have K:=O k;clear k;obtain⟨j,k,rfl⟩:=cN c;obtain⟨m,Q⟩:=J xs.length;rw[<-Q]at f c x hc;have a2:=O Q;have a3:=O hS;clear Q hS
  gi_wp2
  refine⟨by simp,.inl ⟨_,_,I,run_takeDeferred (b:=D) (ds:=[]) ?_,?_⟩⟩
  ·exact(KeepsOthers.setCell W _ _).same D _ M I
  have Q:jA (W.setCell ⟨d+1,0,jc⟩ (jg j m k)) (d+1) 29 (jg j m k):=f.set _;have Vo:(W.setCell ⟨d+1,0,jc⟩ (jg j m k)).heap[D]?=ja (.deferred (ja [])):=(KeepsOthers.setCell W _ _).same D _ M I;have a4:(W.setCell ⟨d+1,0,jc⟩ (jg j m k)).ownsRow (d+1) 88 4 (jg j m k) m (EB0.flat xs):=
   c.kept (qS W _ _) (.inr (f.not_row (e:=88) G c).symm)
  have bi:jA ((W.setCell ⟨d+1,0,jc⟩ (jg j m k)).putObj D (.deferred jc)) (d+1) 29 (jg j m k):=
   (World.putObj_heap_other Y).trans Q
  have y:=bi.cell;refine⟨jE #[jg j m k,T A 0],by simp[results,qT,go_sem,y],_,I,?_,?_⟩
  ·have h:=ownsRow_putObj a4 (.deferred jc) Vo I
   rw[ay,bf,<-a3,<-a2];exact uM h Y
  exact(K.setCell (p:=⟨d+1,0,jc⟩) (by show w.heap.size<=d+1;omega) _).trans (iy Y)
 intro D c t Ψ W _ _ h;exact h.elim
end
theorem dV.at{c:Cmt}{q:CQ}(h:dV w b c q):w.cell? ⟨b,0,jc⟩=ja (T A c.folder)/\w.cell? ⟨b,1,jc⟩=ja (T A c.epoch)/\w.cell? ⟨b,34,jc⟩=ja (T A c.author)/\w.cell? ⟨b,35,jc⟩=ja q.vc/\w.cell? ⟨b,36,jc⟩=ja q.vp/\
 w.cell? ⟨b,37,jc⟩=ja q.vb/\w.cell? ⟨b,38,jc⟩=ja q.vw/\w.cell? ⟨b,71,jc⟩=ja (T A c.r)/\w.cell? ⟨b,72,jc⟩=ja (T A c.s):=by
 obtain⟨a,d,e,f,g,i,j,k,l⟩:=kB c q h.plen h.clen;exact⟨h.get a,h.get d,h.get e,h.get f,h.get g,h.get i,h.get j,h.get k,h.get l⟩
theorem dV.new(w:jh){c:Cmt}{q:CQ}(a:c.parent.length=32)(b:c.confirm.length=32):dV (w.alloc (je (aF c q).toArray 34)) w.heap.size c q:=⟨jy w _,a,b⟩
theorem dV.lt{K:CQ}(h:dV w b y K):b<w.heap.size:=(jG.1 h.blk).1
theorem dV.below{c:Cmt}{q:CQ}(h:dV w b c q)(a:jk w w w'):dV w' b c q:=h.keep (a.block b h.lt)
theorem oK{l:jd i}{C:jd jj}{f:i->jj->jd jj}(h:aH D w u b l.length (dS f l C))(k:∀x v,(f x v).length=b){j:jb}{x:i}{v:jj}(d:l[j]?=ja x)(m:C[j]?=ja v):∃g o c,u=jg (ja ⟨g,o,jc⟩) l.length c/\∀α y,(f x v)[α]?=ja y->w.cell? ⟨g,o+j*b+α,jc⟩=ja y:=by
 obtain⟨s,p,c,rfl,t,z,n⟩:=h;have B:=(o3.1 d).1;obtain⟨g,o,rfl,-,q⟩:=n Y;refine⟨g,o,c,I,λα y e=>?_⟩;have r:α<b:=by rw[<-k x v];exact(o3.1 e).1
 rw[Nat.add_assoc];exact q (j*b+α) y ((wX f b k l C j α x v d m r).trans e)
def zR(b:Bx):Prop:=1<=b.node/\b.node<1024/\1<=b.lev/\b.lev<=9/\mH b.u b.body.length
def uL(x:Wl):Prop:=fI x.dev/\mH x.u x.body.length
structure lZ(l:jd Wl):Prop where
 each:∀x∈l,uL x
 inc:∀i,0<i->i<l.length->((l.map Wl.dev).getD (i-1) 0)<((l.map Wl.dev).getD i 0)
theorem lZ.snoc{l:jd Wl}{x:Wl}(h:lZ l)(e:uL x)(f:l=[]\/∃y,l[l.length-1]?=ja y/\y.dev<x.dev):lZ (l++[x]):=by
 refine⟨λy a=>?_,λi c g=>?_⟩
 ·rcases o5.1 a with a|a
  ·exact h.each y a
  rw[qv]at a;subst a;exact e
 rw[jH,xf]at g;rw[qc]
 rcases qk i l.length with b|b
 ·have d:=h.inc i c b
  simp only[jQ,sn (show i<(l.map Wl.dev).length by rw[jC];exact b),sn (show i-1<(l.map Wl.dev).length by rw[jC];omega)]at d⊢;exact d
 obtain rfl:i=l.length:=Y
 rcases f with rfl|⟨y,a,d⟩
 ·exact jB c ar
 simp only[jQ,sn (show l.length-1<(l.map Wl.dev).length by rw[jC];omega),xx (show(l.map Wl.dev).length<=l.length by rw[jC];exact ju _),j9,a,jC,Nat.sub_self]
 simpa using d
theorem lZ.nil:lZ []:=⟨(λx h=>by cases h),λi b a=>jB a ar⟩
theorem pU:mK d b=0↔mH d b:=⟨λh=>by
 by_cases g:mH d b
 ·exact g
 rw[uX g]at h;exact jB h G,FH⟩
theorem OZ(c:Cmt)(q:CQ)(w:jh)(a:aS (·<w.heap.size) w c q)(l1:c.chg.length<=1000000)(l2:c.path.length<=1000000)(l3:c.box.length<=1000000)(l4:c.wel.length<=1000000)(l5:∀b∈c.box,b.body.length<4611686018427387904)(l6:∀b∈c.wel,b.body.length<4611686018427387904):
 jq jl 23 #[jn (aF c q).toArray] w λe w'=>e=jp (T A (gV c))/\jk w w w':=by
 obtain⟨r,B⟩:=J (gV c);rw[<-B];have D:=O B;have C:=dV.new w (q:=q) a.plen a.clen;have f:=ao w (je (aF c q).toArray 34);obtain⟨pc,cc,F⟩:=a.chg.form;obtain⟨pp,cp,j⟩:=a.path.form;obtain⟨pb,cb,k⟩:∃p c',q.vb=jg p c.box.length c':=by obtain⟨us,h,-⟩:=a.box;exact h.form
 obtain⟨pw,cw,n⟩:∃p c',q.vw=jg p c.wel.length c':=by obtain⟨us,h,-⟩:=a.wel;exact h.form
 obtain⟨o,t,c2,g,m,s,u,-,-⟩:=C.at;rw[F]at g;rw[j]at m;rw[k]at s;rw[n]at u;have Wc:=O (EK.At.of_sl (E:=EC) a.chg);have bB:=O a.path;have YX:=O a.box;have Yl:=O a.wel;have bC:=O l5;have bI:=O l6;rw[F]at Wc;obtain⟨nc,x⟩:=J c.chg.length;obtain⟨np,y⟩:=J c.path.length;obtain⟨nb,ba⟩:=J c.box.length;obtain⟨Q,bb⟩:=J c.wel.length;rw[<-x]at g Wc l1;rw[<-y]at m l2;rw[<-ba]at s l3;rw[<-bb]at u l4;obtain⟨fd,H⟩:=J c.folder;obtain⟨ep,K⟩:=J c.epoch;obtain⟨au,M⟩:=J c.author;rw[<-H]at o;rw[<-K]at t;rw[<-M]at c2;obtain⟨x0,i⟩:=J (w.alloc (je (aF c q).toArray 34));obtain⟨b,P⟩:=J w.heap.size;have z:=C.blk;obtain⟨ad,d⟩:=J ((aF c q).toArray);rw[<-d]at i f z⊢;rw[<-d]at o t c2 g m s u;rw[<-i,<-P]at o t c2 g m s u z;rw[<-i]at f;have HX:=O i;have bK:=O P;have R:=O z;have S:=O f;have U4:=O (Wc.below f);have cj:jf (ad[36]?=ja (jg pp np cp)):=O (by rw[d,y,<-j];simpa using(kB c q a.plen a.clen).2.2.2.2.1);have bM:jf (ad[37]?=ja (jg pb nb cb)):=O (by rw[d,ba,<-k];simpa using(kB c q a.plen a.clen).2.2.2.2.2.1);have aa:jf (ad[38]?=ja (jg pw Q cw)):=O (by rw[d,bb,<-n];simpa using(kB c q a.plen a.clen).2.2.2.2.2.2.1);have ck:=O x;have bg:=O y;have Z8:=O ba;have YK:=O bb;have bq:=O H;have Yn:=O K;have br:=O M;have bN:=O j;have bO:=O k;have bs:=O n;have U:=O (ES fd);have ay:=O (Be au);obtain⟨fo,V⟩:=J (decide (kf fd));obtain⟨dv,a3⟩:=J (decide (fI au));rw[<-V]at U;rw[<-a3]at ay;have bu:=O V;have bv:=O a3;have W:=O (Ap c.chg (jg pc nc cc));obtain⟨fm,X⟩:=J (iF c.chg);rw[<-X]at W;have bw:=O X;have bT:jf (c.chg.length<=1000000):=O (by rw[<-x];exact l1);clear B C f F j k n a x y ba bb H K M i P z d V a3 X l5 l6
 go_enter func23,ntmps23
 go_upto_region 1 with fail
 rw[<-HX,<-bK]
 go_wp2_with fail
 refine(U x0).mono ?_;rintro e x1 ⟨rfl,rfl⟩
 cases fo with
 |false=>
  obtain rfl:r=220:=by rw[D];exact fp λh=>by have h2:=h.fol;rw[<-bq]at h2;have h3:=bu.out;rw[jS h2]at h3;cases h3
  go_wp2_with fail
  go_ret;exact⟨I,S⟩
 |true=>
 by_cases f:ep<1
 ·have b3:decide (ep<1)=jm:=ak f
  obtain rfl:r=220:=by rw[D];exact fp λh=>by have:=h.ep.1;rw[<-Yn]at this;omega
  clear f
  go_wp2_with fail
  go_ret;exact⟨I,S⟩
 have b3:decide (ep<1)=ji:=ak f;have bh:=O f;clear f
 by_cases f:1099511627776<ep
 ·have hd2:decide (1099511627776<ep)=jm:=ak f
  obtain rfl:r=220:=by rw[D];exact fp λh=>by have:=h.ep.2;rw[<-Yn]at this;omega
  clear f
  go_wp2_with fail
  go_ret;exact⟨I,S⟩
 have hd2:decide (1099511627776<ep)=ji:=ak f;have C:=O f;clear f
 go_wp2_with fail
 refine(ay x0).mono ?_;rintro e x1 ⟨rfl,rfl⟩
 cases dv with
 |false=>
  obtain rfl:r=220:=by rw[D];exact fp λh=>by have h2:=h.aut;rw[<-br]at h2;have h3:=bv.out;rw[jS h2]at h3;cases h3
  go_wp2_with fail
  go_ret;exact⟨I,S⟩
 |true=>
 go_wp2_with fail
 refine(W x0 U4 bT).mono ?_;rintro e x1 ⟨rfl,d⟩;have Yx:=ae R d;have K:=ah S d;replace m:=aB m d;replace s:=aB s d;replace u:=aB u d;clear d R S U4 o t c2 g W ay U
 cases fm with
 |false=>
  obtain rfl:r=220:=by rw[D];exact fp λh=>by have h2:=oG.2 h.chg;rw[<-bw]at h2;cases h2
  go_wp2_with fail
  go_ret;exact⟨I,K⟩
 |true=>
 by_cases f:¬np=10
 ·have hd3:((np:N)==10)=ji:=by simp;omega
  have a:((np:N)!=10)=jm:=by simp;omega
  obtain rfl:r=220:=by rw[D];exact fp λh=>f (bg.trans h.plen)
  clear f
  go_wp2_with fail
  go_ret;exact⟨I,K⟩
 have b4:np=10:=Y;clear f;subst b4
 by_cases f:1024<nb
 ·have b5:=aA (1024<(nb:N))
  obtain rfl:r=220:=by rw[D];exact fp λh=>by have:=h.blen;rw[<-Z8]at this;omega
  clear f
  go_wp2_with fail
  go_ret;exact⟨I,K⟩
 have b5:=az (1024<(nb:N));have ba:nb<=1024:=Y;clear f
 by_cases f:512<Q
 ·have b6:=aA (512<(Q:N))
  obtain rfl:r=220:=by rw[D];exact fp λh=>by have:=h.wlen;rw[<-YK]at this;omega
  clear f
  go_wp2_with fail
  go_ret;exact⟨I,K⟩
 have b6:=az (512<(Q:N));have bb:Q<=512:=Y;clear f
 go_wp2_with fail
 go_loopw [56] (λi wr=>∃k:jb,i=T A k/\k<=10/\jf (∀j,j<k->bL (c.path.getD j 0))/\jf (wr.heap[b]?=ja (je ad 34 (0,0)))/\jf (jk w w wr)) (λi _=>10-(jv i).toNat)
 case atStart=>exact⟨0,I,j6 _,O (λj hj=>jB hj Y),Yx,K⟩
 obtain⟨k,rfl,hk,HP,HK,B⟩:=hrel
 by_cases bc:k<10
 case pos=>
  have b7:=aA ((k:N)<10);have U:=aA (k<10);obtain⟨y,M⟩:∃y,c.path[k]?=ja y:=⟨_,ms (by rw[<-bg];exact bc)⟩;obtain⟨-,V,c',x,-,-,F⟩:=bB.out;rw[bN]at x;injection x with e1 e2 e3
  obtain⟨g,o,hg,-,F⟩:=F (by rw[<-bg];omega);rw[hg]at e1;subst e1;have d0:wr.cell? ⟨g,o+k,jc⟩=ja (T A y):=aB (F k (T A y) (by rw[j9,M];rfl)) B;have HY:=O M;have a:=O (gC y);obtain⟨z,t⟩:=J (cW y);rw[<-t]at a;have Wj:=O t;clear M F e2 e3 hg t
  go_wp2_with fail
  refine(a _).mono ?_;rintro e W ⟨rfl,d⟩;have P:=ae HK d;have H:=ah B d;clear d a HK B d0
  by_cases n:z=0
  ·have a4:(z !=0)=ji:=ak n
   have a5:(z==0)=jm:=ak n;have a6:jf (∀j,j<k+1->bL (c.path.getD j 0)):=O (λj hj=>by
    rcases qk j k with a|a
    ·exact HP j a
    obtain rfl:j=k:=Y;rw[show c.path.getD j 0=y by simp[jQ,HY.out]];exact zl.1 (Wj.symm.trans n))
   clear n
   go_wp2_with fail
   exact⟨⟨k+1,by go_num,by omega,a6,P,H⟩,by simp only[jv];omega⟩
  have a4:(z !=0)=jm:=ak n;have a5:(z==0)=ji:=ak n;obtain rfl:r=220:=by rw[D];exact fp λh=>n (by rw[Wj];exact zl.2 (h.path y (j1 HY)))
  clear n
  go_wp2_with fail
  go_ret;exact⟨I,H⟩
 have b7:=az ((k:N)<10);have b8:jf (∀j,j<10->bL (c.path.getD j 0)):=O (λj hj=>HP j Y);have a:=ai HK bM;clear m s u Yx K HP
 go_wp2_with fail
 go_loopw [67] (λi wz=>∃k:jb,i=T A k/\k<=nb/\jf (∀x∈c.box.take k,zR x)/\jf (wz.heap[b]?=ja (je ad 34 (0,0)))/\jf (jk w w wz)) (λi _=>nb-(jv i).toNat)
 case atStart=>exact⟨0,I,j6 _,O ar,HK,B⟩
 clear a HK B;obtain⟨k,rfl,hk,HP,HK,B⟩:=hrel
 by_cases bc:k<nb
 case pos=>
  have bl:=aA ((k:N)<(nb:N));have bm:=aA (k<nb);obtain⟨x,f,Ys⟩:=dL (l:=c.box) (j:=k) (by rw[<-Z8];exact bc);obtain⟨us,bd,bf⟩:=YX.out;obtain⟨u,hu,bi⟩:=bf.at (i:=k) (b:=x.body) (by rw[j9,f];rfl);obtain⟨g,o,c',hq,F⟩:=oK bd (λ_ _=>rfl) f hu;rw[bO]at hq;injection hq with e1 e2 e3
  subst e1;subst e3;obtain⟨V,W,rfl⟩:=bi.form;have a1:=bC x (j1 f);have ax:=O f;have Za:=O Ys;obtain⟨m,hm⟩:=J x.body.length;have HM:=O hm;obtain⟨a,s,H,xb⟩:=x;dsimp only at a1 hm F;rw[<-hm]at a1 F;have d0:wr.cell? ⟨g,o+k*4,jc⟩=ja (T A a):=aB (F 0 _ I) B;have d1:wr.cell? ⟨g,o+k*4+1,jc⟩=ja (T A s):=aB (F 1 _ I) B;have d2:wr.cell? ⟨g,o+k*4+2,jc⟩=ja (T A H):=aB (F 2 _ I) B;have P:wr.cell? ⟨g,o+k*4+3,jc⟩=ja (jg V m W):=aB (F 3 _ I) B;have a2:=O (Gi H V m W a1);obtain⟨z,t⟩:=J (mK H m);rw[<-t]at a2;have Wj:=O t;clear F bd bf hu bi f Ys e2 hm t a1
  go_upto_region 12 with fail
  obtain⟨y1,Zn⟩:=J wr;have Yx:jf (y1.heap[b]?=ja (je ad 34 (0,0))):=by rw[Zn];exact HK
  have K:jf (jk w w y1):=by rw[Zn];exact B
  rw[<-Zn]at d0 d1 d2 P⊢;clear Zn HK B;have d:=ao y1 (je #[T A a,T A s,T A H,jg V m W] 88);have UG:=jy y1 (je #[T A a,T A s,T A H,jg V m W] 88);obtain⟨y2,f⟩:=J (y1.alloc (je #[T A a,T A s,T A H,jg V m W] 88));rw[<-f]at d UG⊢;obtain⟨E,hg⟩:=J y1.heap.size;rw[<-hg]at UG⊢;have b9:=O hg;have X:=ae Yx d;have U:=ah K d;clear Yx K;have C:=O UG;clear UG f d hg;have b0:=ai (i:=0) C I;have b1:=ai (i:=1) C I;have b2:=ai (i:=2) C I;have bk:=ai (i:=3) C I;clear d0 d1 d2 P
  by_cases f:a<1
  ·have g1:decide (a<1)=jm:=ak f
   obtain rfl:r=220:=by rw[D];exact fp λh=>by have P:=h.box _ (j1 ax);exact by have:=P.1;dsimp only at this;omega
   clear f
   go_wp2_with fail
   go_ret;exact⟨I,U⟩
  have g1:decide (a<1)=ji:=ak f;have bn:1<=a:=Y;clear f
  by_cases f:1024<=a
  ·have g2:decide (1024<=a)=jm:=ak f
   obtain rfl:r=220:=by rw[D];exact fp λh=>by have P:=h.box _ (j1 ax);exact by have:=P.2.1;dsimp only at this;omega
   clear f
   go_wp2_with fail
   go_ret;exact⟨I,U⟩
  have g2:decide (1024<=a)=ji:=ak f;have bo:a<1024:=Y;clear f
  by_cases f:s<1
  ·have g3:decide (s<1)=jm:=ak f
   obtain rfl:r=220:=by rw[D];exact fp λh=>by have P:=h.box _ (j1 ax);exact by have:=P.2.2.1;dsimp only at this;omega
   clear f
   go_wp2_with fail
   go_ret;exact⟨I,U⟩
  have g3:decide (s<1)=ji:=ak f;have bp:1<=s:=Y;clear f
  by_cases f:9<s
  ·have g4:decide (9<s)=jm:=ak f
   obtain rfl:r=220:=by rw[D];exact fp λh=>by have P:=h.box _ (j1 ax);exact by have:=P.2.2.2.1;dsimp only at this;omega
   clear f
   go_wp2_with fail
   go_ret;exact⟨I,U⟩
  have g4:decide (9<s)=ji:=ak f;have bA:s<=9:=Y;clear f
  go_wp2_with fail
  refine(a2 y2).mono ?_;rintro e y3 ⟨rfl,d⟩;have YR:=ae X d;have UE:=ah U d;clear d a2 X U C b0 b1 b2 bk
  by_cases n:z=0
  ·have a4:(z !=0)=ji:=ak n
   have a5:(z==0)=jm:=ak n;have a6:jf (∀y∈c.box.take (k+1),zR y):=O (λy M=>by
    rw[Za]at M
    rcases o5.1 M with M|M
    ·exact HP y M
    rw[qv]at M;subst M;exact⟨by omega,by omega,by omega,by omega,by rw[<-HM];exact pU.1 (Wj.symm.trans n)⟩)
   clear n
   go_wp2_with fail
   exact⟨⟨k+1,by go_num,by omega,a6,YR,UE⟩,by simp only[jv];omega⟩
  have a4:(z !=0)=jm:=ak n;have a5:(z==0)=ji:=ak n;obtain rfl:r=220:=by rw[D];exact fp λh=>by have P:=h.box _ (j1 ax);exact n (by rw[Wj,HM];exact pU.2 P.2.2.2.2)
  clear n
  go_wp2_with fail
  go_ret;exact⟨I,UE⟩
 have bl:=az ((k:N)<(nb:N));have bm:=az (k<nb);obtain rfl:k=nb:=Y;have ca:jf (∀x∈c.box,zR x):=O (by have h:=HP.out;rw[jU (by rw[<-Z8];exact ju _)]at h;exact h);have f6:=ai HK aa;clear HP
 go_wp2_with fail
 go_loopw [99] (λi wz=>∃k:jb,i=T A k/\k<=Q/\jf (lZ (c.wel.take k))/\jf (wz.heap[b]?=ja (je ad 34 (0,0)))/\jf (jk w w wz)) (λi _=>Q-(jv i).toNat)
 case atStart=>exact⟨0,I,j6 _,O (ak lZ.nil),HK,B⟩
 clear f6 HK B;obtain⟨k,rfl,hk,bk,HK,B⟩:=hrel
 by_cases bc:k<Q
 case pos=>
  have bl:=aA ((k:N)<(Q:N));have bm:=aA (k<Q);obtain⟨x,f,Ys⟩:=dL (l:=c.wel) (j:=k) (by rw[<-YK];exact bc);obtain⟨us,bd,bf⟩:=Yl.out;obtain⟨u,hu,bi⟩:=bf.at (i:=k) (b:=x.body) (by rw[j9,f];rfl);obtain⟨g,o,c',hq,F⟩:=oK bd (λ_ _=>rfl) f hu;rw[bs]at hq;injection hq with e1 e2 e3
  subst e1;subst e3;have cd:jf (∀j y,c.wel[j]?=ja y->w.cell? ⟨g,o+j*3,jc⟩=ja (T A y.dev)):=O (λj y M=>by
   obtain⟨u2,P,-⟩:=bf.at (i:=j) (b:=y.body) (by rw[j9,M];rfl);obtain⟨g2,o2,c2,s,bn⟩:=oK bd (λ_ _=>rfl) M P;rw[bs]at s;injection s with a bA ce
   injection a with a
   injection a with bo bp
   subst bo;subst bp;exact bn 0 _ I)
  obtain⟨V,W,rfl⟩:=bi.form;have a1:=bI x (j1 f);have ax:=O f;have Za:=O Ys;obtain⟨m,hm⟩:=J x.body.length;have HM:=O hm;obtain⟨P,H,xb⟩:=x;dsimp only at a1 hm F;rw[<-hm]at a1 F;have d0:wr.cell? ⟨g,o+k*3,jc⟩=ja (T A P):=aB (F 0 _ I) B;have d1:wr.cell? ⟨g,o+k*3+1,jc⟩=ja (T A H):=aB (F 1 _ I) B;have d2:wr.cell? ⟨g,o+k*3+2,jc⟩=ja (jg V m W):=aB (F 2 _ I) B;have a2:=O (Gi H V m W a1);obtain⟨z,t⟩:=J (mK H m);rw[<-t]at a2;have Wj:=O t;have ay:=O (Be P);obtain⟨dv,a3⟩:=J (decide (fI P));rw[<-a3]at ay;have bn:=O a3;clear F bd bf hu bi f Ys e2 hm t a1 a3
  go_upto_region 18 with fail
  obtain⟨y1,Zn⟩:=J wr;have Yx:jf (y1.heap[b]?=ja (je ad 34 (0,0))):=by rw[Zn];exact HK
  have K:jf (jk w w y1):=by rw[Zn];exact B
  rw[<-Zn]at d0 d1 d2⊢;clear Zn HK B;have d:=ao y1 (je #[T A P,T A H,jg V m W] 91);have UG:=jy y1 (je #[T A P,T A H,jg V m W] 91);obtain⟨y2,f⟩:=J (y1.alloc (je #[T A P,T A H,jg V m W] 91));rw[<-f]at d UG⊢;obtain⟨E,hg⟩:=J y1.heap.size;rw[<-hg]at UG⊢;have b9:=O hg;have X:=ae Yx d;have U:=ah K d;clear Yx K;have C:=O UG;clear UG f d hg;clear d0 d1 d2
  cases dv with
  |false=>
   obtain rfl:r=220:=by rw[D];exact fp λh=>by have h2:=(h.wel _ (j1 ax)).1;have h3:=bn.out;rw[jS h2]at h3;cases h3
   refine qa ?_;refine di (λs=>s.heap[E]?=ja (je #[T A P,T A H,jg V m W] 91 (0,0))/\s.heap[b]?=ja (je ad 34 (0,0))) (.t 0 (.t 1 (.o 2 (.t 3 (.t 4 (.t 5 (.t 6 (.t 7 (.t 8 (.t 9 (.t 10 (.t 11 (.t 12 (.t 13 (.t 14 (.t 15 (.t 16 (.t 17 (.t 18 (.t 19 (.t 20 (.t 21 (.t 22 (.o 23 (.t 24 (.t 25 .done)))))))))))))))))))))))))) af af af G (λ_ _ _ _ h=>h) ⟨C,X⟩ ?_;obtain⟨z0,UV⟩:=J y2.drew;have d:=bV y2;rw[<-UV]at d⊢;have WN:=ae C d;have R:=ae X d;have S:=ah U d;clear d UV C X U;refine aQ ?_
   (refine aW (v:=?_) I aj (λs a=>?_) ?_;rotate_left;(have b0:=ai (i:=0) a.1 I;have b1:=ai (i:=1) a.1 I;have b2:=ai (i:=2) a.1 I;have f6:=ai a.2 aa;go_simp;with_reducible rfl);refine L ?_)
   refine aE I (λK' t=>?_);go_simp;refine(ay _).mono ?_;rintro e _ ⟨rfl,rfl⟩;refine t _ _ ⟨WN,R⟩ λ_=>?_
   clear t;refine L ?_;iterate 2 refine aQ ?_
   iterate 14 refine kp ?_
   iterate 2 refine aQ ?_
   iterate 2 refine kp ?_
   refine aE I (λK' t=>?_);rw[jw (sx.1 aj)];refine t _ _ ⟨WN,R⟩ λ_=>?_
   clear t;refine L ?_;refine kp ?_;refine aQ ?_;refine jV ?_
   go_wp2_with fail
   go_ret;exact⟨I,S⟩
  |true=>
  by_cases bd:k=0
  ·have ce:=az ((0:N)<(k:N))
   have cf:=az (0<k);have a1:=O bd;clear bd;refine qa ?_;refine di (λs=>s.heap[E]?=ja (je #[T A P,T A H,jg V m W] 91 (0,0))/\s.heap[b]?=ja (je ad 34 (0,0))) (.t 0 (.t 1 (.o 2 (.t 3 (.t 4 (.t 5 (.t 6 (.t 7 (.t 8 (.t 9 (.t 10 (.t 11 (.t 12 (.t 13 (.t 14 (.t 15 (.t 16 (.t 17 (.t 18 (.t 19 (.t 20 (.t 21 (.t 22 (.o 23 (.t 24 (.t 25 .done)))))))))))))))))))))))))) af af af G (λ_ _ _ _ h=>h) ⟨C,X⟩ ?_;obtain⟨z0,UV⟩:=J y2.drew;have d:=bV y2;rw[<-UV]at d⊢;have WN:=ae C d;have R:=ae X d;have S:=ah U d;clear d UV C X U;refine aQ ?_
   (refine aW (v:=?_) I aj (λs a=>?_) ?_;rotate_left;(have b0:=ai (i:=0) a.1 I;have b1:=ai (i:=1) a.1 I;have b2:=ai (i:=2) a.1 I;have f6:=ai a.2 aa;go_simp;with_reducible rfl);refine L ?_)
   refine aE I (λK' t=>?_);go_simp;refine(ay _).mono ?_;rintro e _ ⟨rfl,rfl⟩;refine t _ _ ⟨WN,R⟩ λ_=>?_
   clear t;refine L ?_;iterate 5 refine aQ ?_
   iterate 10 refine kp ?_
   iterate 4 refine aQ ?_
   (refine aW (v:=?_) I aj (λs a=>?_) ?_;rotate_left;(have b0:=ai (i:=0) a.1 I;have b1:=ai (i:=1) a.1 I;have b2:=ai (i:=2) a.1 I;have f6:=ai a.2 aa;go_simp;with_reducible rfl);refine L ?_)
   refine aE I (λK' t=>?_);rw[jt aj];go_simp;refine(a2 z0).mono ?_;rintro e z1 ⟨rfl,d⟩;have bh:=ae WN d;have Yx:=ae R d;have K:=ah S d;clear WN R S;clear d;refine t _ _ ⟨bh,Yx⟩ λ_=>?_
   clear t;refine L ?_;iterate 2 refine aQ ?_
   refine jV ?_;clear a2
   by_cases n:z=0
   ·have a4:(z !=0)=ji:=ak n
    have a5:(z==0)=jm:=ak n;have bo:jf (uL ⟨P,H,xb⟩):=O ⟨qb bn.symm,by rw[<-HM];exact pU.1 (Wj.symm.trans n)⟩;have a6:jf (lZ (c.wel.take (k+1))):=O (by rw[Za];exact bk.snoc bo (by exact .inl (by rw[a1];rfl)));clear n
    go_wp2_with fail
    exact⟨⟨k+1,by go_num,by omega,a6,Yx,K⟩,by simp only[jv];omega⟩
   have a4:(z !=0)=jm:=ak n;have a5:(z==0)=ji:=ak n;obtain rfl:r=220:=by rw[D];exact fp λh=>n (by rw[Wj,HM];exact pU.2 (h.wel _ (j1 ax)).2)
   clear n
   go_wp2_with fail
   go_ret;exact⟨I,K⟩
  have ce:=aA ((0:N)<(k:N));have cf:=aA (0<k);obtain⟨j,hj⟩:=J (k-1);have bi:k=j+1:=Y;have cm:Bm.wrap ((k:N)-1)=(j:N):=by rw[bi,show(((j+1:jb):N)-1)=(j:N) by omega];exact IntWalk.i64_in _ Y
  have cn:=aA ((j:N)<(Q:N));have cq:=aA (j<Q);have cs:decide ((0:N)<=(j:N))=jm:=by simp
  have ct:j<Q:=Y;obtain⟨y,M⟩:∃y,c.wel[j]?=ja y:=⟨_,ms (by rw[<-YK];omega)⟩;obtain⟨pd,bp⟩:=J y.dev;have a1:jf (y2.cell? ⟨g,o+j*3,jc⟩=ja (T A pd)):=O (by rw[bp];exact aB (cd j y M) U);have HY:=O M;have bA:=O bp;have bf:=O bi;clear bd hj bi M bp
  by_cases bi:P<=pd
  ·have bp:decide (P<=pd)=jm:=ak bi
   obtain rfl:r=220:=by
    rw[D];refine fp λh=>?_
    have h2:=h.inc k (aI bf) (by rw[<-YK];exact bc);rw[show k-1=j by have:=bf.out;omega]at h2;rw[show(c.wel.map Wl.dev).getD j 0=pd by rw[bA];simp[jQ,HY.out],show(c.wel.map Wl.dev).getD k 0=P by simp[jQ,ax.out]]at h2;omega
   clear bi;refine qa ?_;refine di (λs=>s.heap[E]?=ja (je #[T A P,T A H,jg V m W] 91 (0,0))/\s.heap[b]?=ja (je ad 34 (0,0))/\s.cell? ⟨g,o+j*3,jc⟩=ja (T A pd)) (.t 0 (.t 1 (.o 2 (.t 3 (.t 4 (.t 5 (.t 6 (.t 7 (.t 8 (.t 9 (.t 10 (.t 11 (.t 12 (.t 13 (.t 14 (.t 15 (.t 16 (.t 17 (.t 18 (.t 19 (.t 20 (.t 21 (.t 22 (.o 23 (.t 24 (.t 25 .done)))))))))))))))))))))))))) af af af G (λ_ _ _ _ h=>h) ⟨C,X,a1⟩ ?_;obtain⟨z0,UV⟩:=J y2.drew;have d:=bV y2;rw[<-UV]at d⊢;have WN:=ae C d;have R:=ae X d;have S:=ah U d;have bd:=O (aB a1 d);clear d UV C X U a1;refine aQ ?_
   (refine aW (v:=?_) I aj (λs a=>?_) ?_;rotate_left;(have b0:=ai (i:=0) a.1 I;have b1:=ai (i:=1) a.1 I;have b2:=ai (i:=2) a.1 I;have f6:=ai a.2.1 aa;have p0:=a.2.2;go_simp;with_reducible rfl);refine L ?_)
   refine aE I (λK' t=>?_);go_simp;refine(ay _).mono ?_;rintro e _ ⟨rfl,rfl⟩;refine t _ _ ⟨WN,R,bd⟩ λ_=>?_
   clear t;refine L ?_;iterate 6 refine aQ ?_
   (refine aW (v:=?_) I aj (λs a=>?_) ?_;rotate_left;(have b0:=ai (i:=0) a.1 I;have b1:=ai (i:=1) a.1 I;have b2:=ai (i:=2) a.1 I;have f6:=ai a.2.1 aa;have p0:=a.2.2;go_simp;with_reducible rfl);refine L ?_)
   iterate 4 refine aQ ?_
   (refine aW (v:=?_) I aj (λs a=>?_) ?_;rotate_left;(have b0:=ai (i:=0) a.1 I;have b1:=ai (i:=1) a.1 I;have b2:=ai (i:=2) a.1 I;have f6:=ai a.2.1 aa;have p0:=a.2.2;go_simp;with_reducible rfl);refine L ?_)
   refine aQ ?_
   (refine aW (v:=?_) I aj (λs a=>?_) ?_;rotate_left;(have b0:=ai (i:=0) a.1 I;have b1:=ai (i:=1) a.1 I;have b2:=ai (i:=2) a.1 I;have f6:=ai a.2.1 aa;have p0:=a.2.2;go_simp;with_reducible rfl);refine L ?_)
   iterate 4 refine aQ ?_
   iterate 2 refine kp ?_
   refine aE I (λK' t=>?_);rw[jw (sx.1 aj)];refine t _ _ ⟨WN,R,bd⟩ λ_=>?_
   clear t;refine L ?_;refine kp ?_;refine aQ ?_;refine jV ?_
   go_wp2_with fail
   go_ret;exact⟨I,S⟩
  have bp:decide (P<=pd)=ji:=ak bi;have cg:jf (pd<P):=O Y;clear bi;refine qa ?_;refine di (λs=>s.heap[E]?=ja (je #[T A P,T A H,jg V m W] 91 (0,0))/\s.heap[b]?=ja (je ad 34 (0,0))/\s.cell? ⟨g,o+j*3,jc⟩=ja (T A pd)) (.t 0 (.t 1 (.o 2 (.t 3 (.t 4 (.t 5 (.t 6 (.t 7 (.t 8 (.t 9 (.t 10 (.t 11 (.t 12 (.t 13 (.t 14 (.t 15 (.t 16 (.t 17 (.t 18 (.t 19 (.t 20 (.t 21 (.t 22 (.o 23 (.t 24 (.t 25 .done)))))))))))))))))))))))))) af af af G (λ_ _ _ _ h=>h) ⟨C,X,a1⟩ ?_;obtain⟨z0,UV⟩:=J y2.drew;have d:=bV y2;rw[<-UV]at d⊢;have WN:=ae C d;have R:=ae X d;have S:=ah U d;have bd:=O (aB a1 d);clear d UV C X U a1;refine aQ ?_
  (refine aW (v:=?_) I aj (λs a=>?_) ?_;rotate_left;(have b0:=ai (i:=0) a.1 I;have b1:=ai (i:=1) a.1 I;have b2:=ai (i:=2) a.1 I;have f6:=ai a.2.1 aa;have p0:=a.2.2;go_simp;with_reducible rfl);refine L ?_)
  refine aE I (λK' t=>?_);go_simp;refine(ay _).mono ?_;rintro e _ ⟨rfl,rfl⟩;refine t _ _ ⟨WN,R,bd⟩ λ_=>?_
  clear t;refine L ?_;iterate 6 refine aQ ?_
  (refine aW (v:=?_) I aj (λs a=>?_) ?_;rotate_left;(have b0:=ai (i:=0) a.1 I;have b1:=ai (i:=1) a.1 I;have b2:=ai (i:=2) a.1 I;have f6:=ai a.2.1 aa;have p0:=a.2.2;go_simp;with_reducible rfl);refine L ?_)
  iterate 4 refine aQ ?_
  (refine aW (v:=?_) I aj (λs a=>?_) ?_;rotate_left;(have b0:=ai (i:=0) a.1 I;have b1:=ai (i:=1) a.1 I;have b2:=ai (i:=2) a.1 I;have f6:=ai a.2.1 aa;have p0:=a.2.2;go_simp;with_reducible rfl);refine L ?_)
  refine aQ ?_
  (refine aW (v:=?_) I aj (λs a=>?_) ?_;rotate_left;(have b0:=ai (i:=0) a.1 I;have b1:=ai (i:=1) a.1 I;have b2:=ai (i:=2) a.1 I;have f6:=ai a.2.1 aa;have p0:=a.2.2;go_simp;with_reducible rfl);refine L ?_)
  iterate 5 refine aQ ?_
  (refine aW (v:=?_) I aj (λs a=>?_) ?_;rotate_left;(have b0:=ai (i:=0) a.1 I;have b1:=ai (i:=1) a.1 I;have b2:=ai (i:=2) a.1 I;have f6:=ai a.2.1 aa;have p0:=a.2.2;go_simp;with_reducible rfl);refine L ?_)
  refine aE I (λK' t=>?_);rw[jt aj];go_simp;refine(a2 z0).mono ?_;rintro e z1 ⟨rfl,d⟩;have bh:=ae WN d;have Yx:=ae R d;have K:=ah S d;have a:=O (aB bd d);clear WN R S bd;clear d;refine t _ _ ⟨bh,Yx,a⟩ λ_=>?_
  clear t;refine L ?_;iterate 2 refine aQ ?_
  refine jV ?_;clear a2
  by_cases n:z=0
  ·have a4:(z !=0)=ji:=ak n
   have a5:(z==0)=jm:=ak n;have bo:jf (uL ⟨P,H,xb⟩):=O ⟨qb bn.symm,by rw[<-HM];exact pU.1 (Wj.symm.trans n)⟩;have a6:jf (lZ (c.wel.take (k+1))):=O (by rw[Za];exact bk.snoc bo (by exact .inr ⟨y,by rw[mz,qf (by rw[<-YK];omega),show k-1=j by have:=bf.out;omega,E6 (aI bf)];exact HY,by rw[<-bA];exact cg⟩));clear n
   go_wp2_with fail
   exact⟨⟨k+1,by go_num,by omega,a6,Yx,K⟩,by simp only[jv];omega⟩
  have a4:(z !=0)=jm:=ak n;have a5:(z==0)=ji:=ak n;obtain rfl:r=220:=by rw[D];exact fp λh=>n (by rw[Wj,HM];exact pU.2 (h.wel _ (j1 ax)).2)
  clear n
  go_wp2_with fail
  go_ret;exact⟨I,K⟩
 have bl:=az ((k:N)<(Q:N));have bm:=az (k<Q);obtain rfl:k=Q:=Y;have a:jf (lZ c.wel):=O (by have h:=bk.out;rw[jU (by rw[<-YK];exact ju _)]at h;exact h);have g:jf (mN c):=O ⟨by rw[<-bq];exact qb bu.symm,by rw[<-Yn];have:=bh.out;have:=C.out;omega,by rw[<-br];exact qb bv.symm,
  oG.1 bw.symm,bg.symm,by rw[<-Z8];exact ba,by rw[<-YK];exact bb,λp i=>by
   obtain⟨j,hj,rfl⟩:=qi i;have h:=b8 j (by rw[bg];exact hj);rw[fu _ hj]at h;exact h,ca,a.each,a.inc⟩
 obtain rfl:r=0:=by rw[D];exact uz g
 clear bk
 go_wp2_with fail
 go_ret;exact⟨I,B⟩
theorem fT{x:Val}(h:aV (·<w.heap.size) w x u)(c:jk w w f):aV (·<f.heap.size) f x u:=
 aV.mono (λb (a:b<w.heap.size)=>qg a c.size) _ _ (aV.keep (λb a=>c.block b a) _ _ h)
theorem tf(h:c8 w u r)(a:jk w w f):c8 f u r:=by
 obtain⟨p,c,b,d,w'⟩:=h;refine⟨p,c,b,d,λi=>?_⟩;obtain⟨g,o,e,k⟩:=w' i;exact⟨g,o,e,λj m=>aB (k j m) a⟩
def grp:jd Val->jd jj->jd (jd jj)
 |x::xs,u::a=>gS x u::grp xs a
 |_,_=>[]
theorem tl:∀(l:jd Val) (a:jd jj),(grp l a).flatten=cS l a
 |[],a=>by cases a<;>simp[grp,cS]
 |x::l,[]=>by simp[grp,cS]
 |x::l,u::a=>by simp[grp,cS,tl l a]
theorem AJ:∀(l:jd Val) (a:jd jj),a.length=l.length->(grp l a).length=l.length
 |[],a,h=>by cases a<;>simp[grp]
 |x::l,[],h=>by simp at h
 |x::l,u::a,h=>by simp[grp,AJ l a (ak h)]
theorem yZ:∀{l:jd Val} {a:jd jj},aM D w l a->∀e∈grp l a,∀u∈e,u.oneCell'=jm
 |[],a,h,e,he,u,b=>by cases a<;>simp[grp]at he
 |x::l,a,h,e,he,u,b=>by
  rw[aM]at h;obtain⟨v,g,rfl,d,f⟩:=h;simp only[grp,jT]at he
  rcases he with rfl|he
  ·obtain⟨p,c,rfl⟩:=d.form
   simp only[gS,jT,qL,or_false]at b
   rcases b with rfl|rfl|rfl|rfl<;>rfl
  exact yZ f e he u b
theorem tF(r:jb)(a c:jd Val)(k l:jP j7)(m n o p:jb)(w:jh)(C:aV (·<w.heap.size) w (vL a) (jg k m n))(D:aV (·<w.heap.size) w (vL c) (jg l o p))
 (s:w.heap[r]?=ja (je #[jg k m n,jg l o p] 113 (0,0))) (E:a.length+c.length<=1000000):
 jq jl 160 #[jg (ja ⟨r,0,jc⟩) 2 2] w λe w'=>∃v,e=jp v/\aV (·<w'.heap.size) w' (vL (a++c)) v/\jk w w w':=by
 obtain⟨d,t,j⟩:=C.slice;obtain⟨f,x,q⟩:=D.slice;replace j:aM (·<w.heap.size) w a d:=j;replace q:aM (·<w.heap.size) w c f:=q;replace t:aH (·<w.heap.size) w (jg k m n) 4 a.length (cS a d):=t;replace x:aH (·<w.heap.size) w (jg l o p) 4 c.length (cS c f):=x;have y:=AJ _ _ j.len;have z:=AJ _ _ q.len;have F:ta w (jg k m n) (grp a d):=by unfold ta;rw[y,tl];exact t.row
 have H:ta w (jg l o p) (grp c f):=by unfold ta;rw[z,tl];exact x.row
 have B:[grp a d,grp c f].flatten=grp a d++grp c f:=by simp
 have K:∀e∈[grp a d,grp c f].flatten,∀u∈e,u.oneCell'=jm:=by
  intro e he u b;rw[B]at he
  rcases o5.1 he with h|h
  ·exact yZ j e h u b
  exact yZ q e h u b
 refine(Qy r 2 113 [jg k m n,jg l o p] [grp a d,grp c f] I I (by rw[B,jH,y,z];exact E) w s (λi b=>by match i,b with|0,_=>exact F|1,_=>exact H) G K).mono ?_;rintro e w' ⟨M,rfl,i,h⟩;refine⟨M,I,?_,h⟩;rw[B,jH,y,z,List.flatten_append,tl,tl,<-sT _ _ _ _ j.len,<-jH]at i;rw[vL,aV];refine⟨d++f,aH.of_own i (λg s=>(i.lt g s).2),aM.append ?_ ?_⟩
 ·exact aM.mono (λb (g:b<w.heap.size)=>qg g h.size) _ _ (aM.keep (λb g=>h.block b g) _ _ j)
 exact aM.mono (λb (g:b<w.heap.size)=>qg g h.size) _ _ (aM.keep (λb g=>h.block b g) _ _ q)
theorem Pe{E:Act}{o:j0}{x:qQ}(e:h.size=73)(f:o.op=.load 34 x)(g:E.eval x=jz (ja ⟨b,0,jc⟩))(i:w.heap[b]?=ja (je h 34 (0,0))):
 (execOp E.eval o).run jl w=.ok (.value (jn h)) w:=by
 have c:=fk (P:=jl) o E 34 x f b 0 g h.toList _ (vV (t:=34) (l:=h.toList) (ak i)) underlying34 I (by rw[qd,e];exact mX)
 simpa using c
def iW(c:Cmt)(a:ByteArray)(nums:jd N):LBy:=cZ a ((aR c).take 4++nums.map vI)
theorem Ev(c:Cmt)(q:CQ)(n:ByteArray)(nums:jd N)(v:jj)(w:jh)(j:n.size<=1000)(a:aS (·<w.heap.size) w c q)(hI:c8 w v nums)(hn:nums.length<=1000)
 (hl:c.chg.length<=1000000/\c.path.length<=1000000/\c.box.length<=1000000/\c.wel.length<=1000000) (k:cY ((aR c).take 4++nums.map vI)) (l:bQ w):
 jq jl 103 #[jn (aF c q).toArray,.string n,v] w λe w'=>∃D,e=jp (jg (ja ⟨D,0,jc⟩) 32 32)/\bj w' (jg (ja ⟨D,0,jc⟩) 32 32) (iW c n nums)/\jk w w w':=by
 obtain⟨l1,l2,l3,l4⟩:=hl;have m:=O a;have U8:=O k;have HT:=O l;have bc:=O j;have o:=O hI;obtain⟨pv,cv,rfl,-,-⟩:=hI;obtain⟨UU,d⟩:=J ((aF c q).toArray);rw[<-d];have bd:=O d;have p:UU.size=73:=by rw[d,jJ,dx c q a.plen a.clen]
 have YZ:=O p;have U:=jy w (je UU 34);have f:=ao w (je UU 34);obtain⟨W1,g⟩:=J (w.alloc (je UU 34));obtain⟨b,h⟩:=J w.heap.size;rw[<-g]at f U;rw[<-h]at U;have i:=O f;have r:=O U;have s:=O g;have Wp:=O h;clear f g h U d p a k l j
 go_enter func103,ntmps103
 go_upto_region 1 with fail
 rw[<-s,<-Wp];clear s;have UB:jf (jk w w W1.drew):=O (i.trans ((bV W1).mono i.size));have ba:jf (W1.drew.heap[b]?=ja (je UU 34 (0,0))):=O r;have U4:jf (aS (·<W1.drew.heap.size) W1.drew c q):=O (m.below UB);have Y7:jf (c8 W1.drew (jg pv nums.length cv) nums):=O (tf o UB);clear i r m o;refine qa ?_;refine di (λa=>a.heap[b]?=ja (je UU 34 (0,0))) (.t 0 (.t 1 (.t 4 (.w 2 9 (.t 3 (.w 5 9 (.w 6 9 (.w 7 9 (.w 8 9 (.o 9 (.o 10 .done)) (.o 8 (.o 10 .done))) (.o 7 (.o 8 (.o 10 .done)))) (.o 6 (.o 7 (.o 8 (.o 10 .done))))) (.o 5 (.o 6 (.o 7 (.o 8 (.o 10 .done))))))) (.o 2 (.t 3 (.o 5 (.o 6 (.o 7 (.o 8 (.o 10 .done))))))))))) af af af G (λ_ _ _ _ h=>h) ba ?_;generalize W1.drew=x0 at UB ba U4 Y7⊢;refine fJ ?_
 (refine aW (v:=jn UU) I aj (λa d=>Pe YZ I I d) (L ?_))
 refine fJ ?_;refine iA ?_ ?_
 ·refine aE I (λk d=>?_)
  go_simp;rw[bd];refine(tv c q x0 U4 l1 l2 l3 l4).mono ?_;rintro e x1 ⟨v,rfl,bb,a⟩;obtain⟨F,o,rfl,VW⟩:∃g o,v=jg (ja ⟨g,0,jc⟩) 11 o/\11<=o:=by
   obtain⟨us,ho,-⟩:=bb;obtain⟨g,c,h1,h2,-⟩:=vA ho G;exact⟨g,c,h1,h2⟩
  have bk:∀W,(Instr.sliceAt 113 (jg (ja ⟨F,0,jc⟩) 11 o) jc (ja (T A 4)) jc).run jl W=.ok (jg (ja ⟨F,0,jc⟩) 4 o) W:=λW=>wA 113 165 4 underlying113 wW F 0 11 o 4 Y W
  have UA:=ah UB a;have a4:=ae ba a;have WU:=O (tf Y7 a);clear UB ba U4 Y7;clear a;have bf:=O (bb.val 4 G).2;clear bb;rw[<-bd];refine d _ _ a4.out λ_=>?_
  clear d;refine L ?_;refine fJ ?_;refine iA ?_ ?_
  ·refine aE I (λk d=>?_)
   go_simp;refine(tJ nums _ x1 WU Y).mono ?_;rintro e x2 ⟨u,rfl,V,a⟩;obtain⟨X,cu,rfl⟩:=cN V;have a6:=sw (D:=(·<x2.heap.size)) V (λg i=>(V.lt g i).2);have UC:=ah UA a;have WF:=ae a4 a;have a5:=O (fT bf a);clear UA a4 WU bf;have bg:=O a6;clear a V a6;refine d _ _ WF.out λ_=>?_
   clear d;refine L ?_;refine iA ?_ ?_
   ·refine aE I (λk d=>?_)
    go_simp;have a:=ao x2 (je #[jg (ja ⟨F,0,jc⟩) 4 o,jg X nums.length cu] 113);have f:=jy x2 (je #[jg (ja ⟨F,0,jc⟩) 4 o,jg X nums.length cu] 113);obtain⟨C,l⟩:=J (x2.alloc (je #[jg (ja ⟨F,0,jc⟩) 4 o,jg X nums.length cu] 113));rw[<-l]at a f⊢;obtain⟨gl,i⟩:=J x2.heap.size;rw[<-i]at f⊢;have bi:=O i;clear i;have UE:=ah UC a;have M:=ae WF a;have au:=O (fT a5 a);have ax:=O (fT bg a);clear UC WF a5 bg;have ZF:=O f;clear f;clear l a;refine d _ _ M.out λ_=>?_
    clear d;refine L ?_;refine iA ?_ ?_
    ·refine aE I (λk d=>?_)
     go_simp;refine(tF gl ((aR c).take 4) (nums.map vI) _ _ _ _ _ _ C au ax ZF.out (by rw[jC];exact jL (qP (qA _ _) hn) G)).mono ?_;rintro e x4 ⟨vc,rfl,H,a⟩;obtain⟨pc,bh,rfl⟩:=H.form;have K:=ah UE a;have E:=ae M a;clear UE M au ax ZF;have a1:=O H;clear a H;refine d _ _ E.out λ_=>?_
     clear d;refine L ?_;refine iA ?_ ?_
     ·refine aE I (λk d=>?_)
      go_simp;refine(mQ n bc ((aR c).take 4++nums.map vI) _ x4 a1 U8 (HT.below K).num (HT.below K).start).mono ?_;rintro e x5 ⟨rfl,a⟩;have r:((cZ n ((aR c).take 4++nums.map vI)).map v8).toArray.size=32:=by rw[jJ,jC,eT]
      have s:=fi (cZ n ((aR c).take 4++nums.map vI));obtain⟨j,t⟩:=J (((cZ n ((aR c).take 4++nums.map vI)).map v8).toArray);rw[<-t]at r s⊢;have Vy:=O t;have P:=O r;have Vw:=O s;clear t r s;have m:=ah K a;have p:=ae E a;clear K E a1;clear a;refine d _ _ p.out λ_=>?_
      clear d;refine L ?_;refine aE I (λk d=>?_);go_simp;have a:=ao x5 (je a8 23);have f:=jy x5 (je a8 23);obtain⟨x,l⟩:=J (x5.alloc (je a8 23));rw[<-l]at a f⊢;obtain⟨D,i⟩:=J x5.heap.size;rw[<-i]at f⊢;have Q:=O i;clear i;have VT:=ah m a;have R:=ae p a;have S:=O f;have Yf:jf (w.heap.size<=D):=O (by rw[Q];exact m.size);have ay:jf (b<D):=O (by rw[Q];exact(jG.1 p).1);clear f l a;clear m p;refine d _ _ R.out λ_=>?_
      clear d;refine L ?_;refine aE I (λk d=>?_);rw[jt aj];refine j4 23 _ _ I D j I I 23 _ S.out (by rw[P];rfl) (by rw[P];simp) Vw (d _ _ ((jY _ _ _ _ (aI ay)).trans R) λ_=>?_);clear d;have y:(x.setRow D j).heap[D]?=ja (je j 23 (0,0)):=jR _ _ _ _ _ _ S.out;have B:jk w w (x.setRow D j):=jZ VT Yf _;generalize x.setRow D j=z at y B⊢;have Yt:=O y;have WJ:=O B;clear y B;refine L ?_;refine jV ?_
      go_wp2_with fail
      go_ret;have h:=Yt.out;rw[Vy]at h;have U:=oe h (eT _ _);refine⟨D,I,?_,WJ⟩;exact U
     refine aE I (λk d=>?_);go_simp;have a:=ao x4 (je a8 23);have f:=jy x4 (je a8 23);obtain⟨x5,l⟩:=J (x4.alloc (je a8 23));rw[<-l]at a f⊢;obtain⟨D,i⟩:=J x4.heap.size;rw[<-i]at f⊢;have Q:=O i;clear i;have m:=ah K a;have p:=ae E a;have aa:=O (fT a1 a);have ad:=O f;have Yf:jf (w.heap.size<=D):=O (by rw[Q];exact K.size);have ay:jf (b<D):=O (by rw[Q];exact(jG.1 E).1);clear f l a;clear K E a1;refine d _ _ p.out λ_=>?_
     clear d;refine L ?_;refine aE I (λk d=>?_);go_simp;refine(mQ n bc ((aR c).take 4++nums.map vI) _ x5 aa U8 (HT.below m).num (HT.below m).start).mono ?_;rintro e x ⟨rfl,a⟩;have r:((cZ n ((aR c).take 4++nums.map vI)).map v8).toArray.size=32:=by rw[jJ,jC,eT]
     have s:=fi (cZ n ((aR c).take 4++nums.map vI));obtain⟨j,t⟩:=J (((cZ n ((aR c).take 4++nums.map vI)).map v8).toArray);rw[<-t]at r s⊢;have Vy:=O t;have P:=O r;have Vw:=O s;clear t r s;have VT:=ah m a;have R:=ae p a;have S:=ae ad a;clear m p aa ad;clear a;refine d _ _ R.out λ_=>?_
     clear d;refine L ?_;refine aE I (λk d=>?_);rw[jt aj];refine j4 23 _ _ I D j I I 23 _ S.out (by rw[P];rfl) (by rw[P];simp) Vw (d _ _ ((jY _ _ _ _ (aI ay)).trans R) λ_=>?_);clear d;have y:(x.setRow D j).heap[D]?=ja (je j 23 (0,0)):=jR _ _ _ _ _ _ S.out;have B:jk w w (x.setRow D j):=jZ VT Yf _;generalize x.setRow D j=z at y B⊢;have Yt:=O y;have WJ:=O B;clear y B;refine L ?_;refine jV ?_
     go_wp2_with fail
     go_ret;have h:=Yt.out;rw[Vy]at h;have U:=oe h (eT _ _);refine⟨D,I,?_,WJ⟩;exact U
    refine aE I (λk d=>?_);go_simp;have a:=ao C (je a8 23);have f:=jy C (je a8 23);obtain⟨x4,l⟩:=J (C.alloc (je a8 23));rw[<-l]at a f⊢;obtain⟨D,i⟩:=J C.heap.size;rw[<-i]at f⊢;have Q:=O i;clear i;have K:=ah UE a;have E:=ae M a;have a1:=O (fT au a);have a2:=O (fT ax a);have a3:=ae ZF a;have WK:=O f;have Yf:jf (w.heap.size<=D):=O (by rw[Q];exact UE.size);have ay:jf (b<D):=O (by rw[Q];exact(jG.1 M).1);clear f l a;clear UE M au ax ZF;refine d _ _ E.out λ_=>?_
    clear d;refine L ?_;refine aE I (λk d=>?_);go_simp;refine(tF gl ((aR c).take 4) (nums.map vI) _ _ _ _ _ _ x4 a1 a2 a3.out (by rw[jC];exact jL (qP (qA _ _) hn) G)).mono ?_;rintro e x5 ⟨vc,rfl,H,a⟩;obtain⟨pc,bh,rfl⟩:=H.form;have m:=ah K a;have p:=ae E a;have ad:=ae WK a;clear K E a1 a2 a3 WK;have aa:=O H;clear a H;refine d _ _ p.out λ_=>?_
    clear d;refine L ?_;refine aE I (λk d=>?_);go_simp;refine(mQ n bc ((aR c).take 4++nums.map vI) _ x5 aa U8 (HT.below m).num (HT.below m).start).mono ?_;rintro e x ⟨rfl,a⟩;have r:((cZ n ((aR c).take 4++nums.map vI)).map v8).toArray.size=32:=by rw[jJ,jC,eT]
    have s:=fi (cZ n ((aR c).take 4++nums.map vI));obtain⟨j,t⟩:=J (((cZ n ((aR c).take 4++nums.map vI)).map v8).toArray);rw[<-t]at r s⊢;have Vy:=O t;have P:=O r;have Vw:=O s;clear t r s;have VT:=ah m a;have R:=ae p a;have S:=ae ad a;clear m p ad aa;clear a;refine d _ _ R.out λ_=>?_
    clear d;refine L ?_;refine aE I (λk d=>?_);rw[jt aj];refine j4 23 _ _ I D j I I 23 _ S.out (by rw[P];rfl) (by rw[P];simp) Vw (d _ _ ((jY _ _ _ _ (aI ay)).trans R) λ_=>?_);clear d;have y:(x.setRow D j).heap[D]?=ja (je j 23 (0,0)):=jR _ _ _ _ _ _ S.out;have B:jk w w (x.setRow D j):=jZ VT Yf _;generalize x.setRow D j=z at y B⊢;have Yt:=O y;have WJ:=O B;clear y B;refine L ?_;refine jV ?_
    go_wp2_with fail
    go_ret;have h:=Yt.out;rw[Vy]at h;have U:=oe h (eT _ _);refine⟨D,I,?_,WJ⟩;exact U
   refine aE I (λk d=>?_);go_simp;have a:=ao x2 (je a8 23);have f:=jy x2 (je a8 23);obtain⟨C,l⟩:=J (x2.alloc (je a8 23));rw[<-l]at a f⊢;obtain⟨D,i⟩:=J x2.heap.size;rw[<-i]at f⊢;have Q:=O i;clear i;have UE:=ah UC a;have M:=ae WF a;have au:=O (fT a5 a);have ax:=O (fT bg a);have Yu:=O f;have Yf:jf (w.heap.size<=D):=O (by rw[Q];exact UC.size);have ay:jf (b<D):=O (by rw[Q];exact(jG.1 WF).1);clear f l a;clear UC WF a5 bg;refine d _ _ M.out λ_=>?_
   clear d;refine L ?_;refine aE I (λk d=>?_);go_simp;have a:=ao C (je #[jg (ja ⟨F,0,jc⟩) 4 o,jg X nums.length cu] 113);have f:=jy C (je #[jg (ja ⟨F,0,jc⟩) 4 o,jg X nums.length cu] 113);obtain⟨x4,l⟩:=J (C.alloc (je #[jg (ja ⟨F,0,jc⟩) 4 o,jg X nums.length cu] 113));rw[<-l]at a f⊢;obtain⟨gl,i⟩:=J C.heap.size;rw[<-i]at f⊢;have bi:=O i;clear i;have K:=ah UE a;have E:=ae M a;have a1:=O (fT au a);have a2:=O (fT ax a);have WK:=ae Yu a;clear UE M au ax Yu;have a3:=O f;clear f;clear l a;refine d _ _ E.out λ_=>?_
   clear d;refine L ?_;refine aE I (λk d=>?_);go_simp;refine(tF gl ((aR c).take 4) (nums.map vI) _ _ _ _ _ _ x4 a1 a2 a3.out (by rw[jC];exact jL (qP (qA _ _) hn) G)).mono ?_;rintro e x5 ⟨vc,rfl,H,a⟩;obtain⟨pc,bh,rfl⟩:=H.form;have m:=ah K a;have p:=ae E a;have ad:=ae WK a;clear K E a1 a2 WK a3;have aa:=O H;clear a H;refine d _ _ p.out λ_=>?_
   clear d;refine L ?_;refine aE I (λk d=>?_);go_simp;refine(mQ n bc ((aR c).take 4++nums.map vI) _ x5 aa U8 (HT.below m).num (HT.below m).start).mono ?_;rintro e x ⟨rfl,a⟩;have r:((cZ n ((aR c).take 4++nums.map vI)).map v8).toArray.size=32:=by rw[jJ,jC,eT]
   have s:=fi (cZ n ((aR c).take 4++nums.map vI));obtain⟨j,t⟩:=J (((cZ n ((aR c).take 4++nums.map vI)).map v8).toArray);rw[<-t]at r s⊢;have Vy:=O t;have P:=O r;have Vw:=O s;clear t r s;have VT:=ah m a;have R:=ae p a;have S:=ae ad a;clear m p ad aa;clear a;refine d _ _ R.out λ_=>?_
   clear d;refine L ?_;refine aE I (λk d=>?_);rw[jt aj];refine j4 23 _ _ I D j I I 23 _ S.out (by rw[P];rfl) (by rw[P];simp) Vw (d _ _ ((jY _ _ _ _ (aI ay)).trans R) λ_=>?_);clear d;have y:(x.setRow D j).heap[D]?=ja (je j 23 (0,0)):=jR _ _ _ _ _ _ S.out;have B:jk w w (x.setRow D j):=jZ VT Yf _;generalize x.setRow D j=z at y B⊢;have Yt:=O y;have WJ:=O B;clear y B;refine L ?_;refine jV ?_
   go_wp2_with fail
   go_ret;have h:=Yt.out;rw[Vy]at h;have U:=oe h (eT _ _);refine⟨D,I,?_,WJ⟩;exact U
  refine aE I (λk d=>?_);go_simp;have a:=ao x1 (je a8 23);have f:=jy x1 (je a8 23);obtain⟨x2,l⟩:=J (x1.alloc (je a8 23));rw[<-l]at a f⊢;obtain⟨D,i⟩:=J x1.heap.size;rw[<-i]at f⊢;have Q:=O i;clear i;have UC:=ah UA a;have WF:=ae a4 a;have Yh:=O (tf WU a);have a5:=O (fT bf a);have YE:=O f;have Yf:jf (w.heap.size<=D):=O (by rw[Q];exact UA.size);have ay:jf (b<D):=O (by rw[Q];exact(jG.1 a4).1);clear f l a;clear UA a4 WU bf;refine d _ _ WF.out λ_=>?_
  clear d;refine L ?_;refine aE I (λk d=>?_);go_simp;refine(tJ nums _ x2 Yh Y).mono ?_;rintro e C ⟨u,rfl,V,a⟩;obtain⟨X,cu,rfl⟩:=cN V;have a6:=sw (D:=(·<C.heap.size)) V (λg i=>(V.lt g i).2);have UE:=ah UC a;have M:=ae WF a;have au:=O (fT a5 a);have Yu:=ae YE a;clear UC WF Yh a5 YE;have ax:=O a6;clear a V a6;refine d _ _ M.out λ_=>?_
  clear d;refine L ?_;refine aE I (λk d=>?_);go_simp;have a:=ao C (je #[jg (ja ⟨F,0,jc⟩) 4 o,jg X nums.length cu] 113);have f:=jy C (je #[jg (ja ⟨F,0,jc⟩) 4 o,jg X nums.length cu] 113);obtain⟨x4,l⟩:=J (C.alloc (je #[jg (ja ⟨F,0,jc⟩) 4 o,jg X nums.length cu] 113));rw[<-l]at a f⊢;obtain⟨gl,i⟩:=J C.heap.size;rw[<-i]at f⊢;have bi:=O i;clear i;have K:=ah UE a;have E:=ae M a;have a1:=O (fT au a);have WK:=ae Yu a;have a2:=O (fT ax a);clear UE M au Yu ax;have a3:=O f;clear f;clear l a;refine d _ _ E.out λ_=>?_
  clear d;refine L ?_;refine aE I (λk d=>?_);go_simp;refine(tF gl ((aR c).take 4) (nums.map vI) _ _ _ _ _ _ x4 a1 a2 a3.out (by rw[jC];exact jL (qP (qA _ _) hn) G)).mono ?_;rintro e x5 ⟨vc,rfl,H,a⟩;obtain⟨pc,bh,rfl⟩:=H.form;have m:=ah K a;have p:=ae E a;have ad:=ae WK a;clear K E a1 WK a2 a3;have aa:=O H;clear a H;refine d _ _ p.out λ_=>?_
  clear d;refine L ?_;refine aE I (λk d=>?_);go_simp;refine(mQ n bc ((aR c).take 4++nums.map vI) _ x5 aa U8 (HT.below m).num (HT.below m).start).mono ?_;rintro e x ⟨rfl,a⟩;have r:((cZ n ((aR c).take 4++nums.map vI)).map v8).toArray.size=32:=by rw[jJ,jC,eT]
  have s:=fi (cZ n ((aR c).take 4++nums.map vI));obtain⟨j,t⟩:=J (((cZ n ((aR c).take 4++nums.map vI)).map v8).toArray);rw[<-t]at r s⊢;have Vy:=O t;have P:=O r;have Vw:=O s;clear t r s;have VT:=ah m a;have R:=ae p a;have S:=ae ad a;clear m p ad aa;clear a;refine d _ _ R.out λ_=>?_
  clear d;refine L ?_;refine aE I (λk d=>?_);rw[jt aj];refine j4 23 _ _ I D j I I 23 _ S.out (by rw[P];rfl) (by rw[P];simp) Vw (d _ _ ((jY _ _ _ _ (aI ay)).trans R) λ_=>?_);clear d;have y:(x.setRow D j).heap[D]?=ja (je j 23 (0,0)):=jR _ _ _ _ _ _ S.out;have B:jk w w (x.setRow D j):=jZ VT Yf _;generalize x.setRow D j=z at y B⊢;have Yt:=O y;have WJ:=O B;clear y B;refine L ?_;refine jV ?_
  go_wp2_with fail
  go_ret;have h:=Yt.out;rw[Vy]at h;have U:=oe h (eT _ _);refine⟨D,I,?_,WJ⟩;exact U
 refine aE I (λk d=>?_);go_simp;have a:=ao x0 (je a8 23);have f:=jy x0 (je a8 23);obtain⟨x1,l⟩:=J (x0.alloc (je a8 23));rw[<-l]at a f⊢;obtain⟨D,i⟩:=J x0.heap.size;rw[<-i]at f⊢;have Q:=O i;clear i;have UA:=ah UB a;have a4:=ae ba a;have UW:=O (U4.below a);have WU:=O (tf Y7 a);have bf:=O f;have Yf:jf (w.heap.size<=D):=O (by rw[Q];exact UB.size);have ay:jf (b<D):=O (by rw[Q];exact(jG.1 ba).1);clear f l a;clear UB ba U4 Y7;refine d _ _ a4.out λ_=>?_
 clear d;refine L ?_;refine aE I (λk d=>?_);go_simp;rw[bd];refine(tv c q x1 UW l1 l2 l3 l4).mono ?_;rintro e x2 ⟨v,rfl,bb,a⟩;obtain⟨F,o,rfl,VW⟩:∃g o,v=jg (ja ⟨g,0,jc⟩) 11 o/\11<=o:=by
  obtain⟨us,ho,-⟩:=bb;obtain⟨g,c,h1,h2,-⟩:=vA ho G;exact⟨g,c,h1,h2⟩
 have bk:∀W,(Instr.sliceAt 113 (jg (ja ⟨F,0,jc⟩) 11 o) jc (ja (T A 4)) jc).run jl W=.ok (jg (ja ⟨F,0,jc⟩) 4 o) W:=λW=>wA 113 165 4 underlying113 wW F 0 11 o 4 Y W
 have UC:=ah UA a;have WF:=ae a4 a;have Yh:=O (tf WU a);have YE:=ae bf a;clear UA a4 UW WU bf;clear a;have a5:=O (bb.val 4 G).2;clear bb;rw[<-bd];refine d _ _ WF.out λ_=>?_
 clear d;refine L ?_;refine fJ ?_;refine aE I (λk d=>?_);go_simp;refine(tJ nums _ x2 Yh Y).mono ?_;rintro e C ⟨u,rfl,V,a⟩;obtain⟨X,cu,rfl⟩:=cN V;have a6:=sw (D:=(·<C.heap.size)) V (λg i=>(V.lt g i).2);have UE:=ah UC a;have M:=ae WF a;have Yu:=ae YE a;have au:=O (fT a5 a);clear UC WF Yh YE a5;have ax:=O a6;clear a V a6;refine d _ _ M.out λ_=>?_
 clear d;refine L ?_;refine aE I (λk d=>?_);go_simp;have a:=ao C (je #[jg (ja ⟨F,0,jc⟩) 4 o,jg X nums.length cu] 113);have f:=jy C (je #[jg (ja ⟨F,0,jc⟩) 4 o,jg X nums.length cu] 113);obtain⟨x4,l⟩:=J (C.alloc (je #[jg (ja ⟨F,0,jc⟩) 4 o,jg X nums.length cu] 113));rw[<-l]at a f⊢;obtain⟨gl,i⟩:=J C.heap.size;rw[<-i]at f⊢;have bi:=O i;clear i;have K:=ah UE a;have E:=ae M a;have WK:=ae Yu a;have a1:=O (fT au a);have a2:=O (fT ax a);clear UE M Yu au ax;have a3:=O f;clear f;clear l a;refine d _ _ E.out λ_=>?_
 clear d;refine L ?_;refine aE I (λk d=>?_);go_simp;refine(tF gl ((aR c).take 4) (nums.map vI) _ _ _ _ _ _ x4 a1 a2 a3.out (by rw[jC];exact jL (qP (qA _ _) hn) G)).mono ?_;rintro e x5 ⟨vc,rfl,H,a⟩;obtain⟨pc,bh,rfl⟩:=H.form;have m:=ah K a;have p:=ae E a;have ad:=ae WK a;clear K E WK a1 a2 a3;have aa:=O H;clear a H;refine d _ _ p.out λ_=>?_
 clear d;refine L ?_;refine aE I (λk d=>?_);go_simp;refine(mQ n bc ((aR c).take 4++nums.map vI) _ x5 aa U8 (HT.below m).num (HT.below m).start).mono ?_;rintro e x ⟨rfl,a⟩;have r:((cZ n ((aR c).take 4++nums.map vI)).map v8).toArray.size=32:=by rw[jJ,jC,eT]
 have s:=fi (cZ n ((aR c).take 4++nums.map vI));obtain⟨j,t⟩:=J (((cZ n ((aR c).take 4++nums.map vI)).map v8).toArray);rw[<-t]at r s⊢;have Vy:=O t;have P:=O r;have Vw:=O s;clear t r s;have VT:=ah m a;have R:=ae p a;have S:=ae ad a;clear m p ad aa;clear a;refine d _ _ R.out λ_=>?_
 clear d;refine L ?_;refine aE I (λk d=>?_);rw[jt aj];refine j4 23 _ _ I D j I I 23 _ S.out (by rw[P];rfl) (by rw[P];simp) Vw (d _ _ ((jY _ _ _ _ (aI ay)).trans R) λ_=>?_);clear d;have y:(x.setRow D j).heap[D]?=ja (je j 23 (0,0)):=jR _ _ _ _ _ _ S.out;have B:jk w w (x.setRow D j):=jZ VT Yf _;generalize x.setRow D j=z at y B⊢;have Yt:=O y;have WJ:=O B;clear y B;refine L ?_;refine jV ?_
 go_wp2_with fail
 go_ret;have h:=Yt.out;rw[Vy]at h;have U:=oe h (eT _ _);refine⟨D,I,?_,WJ⟩;exact U
theorem Dk(b:LBy):b.length<=(enc (vT b)).length:=by
 rw[vT,enc,jw G,jt I];simp only[j5,jH,yS];omega
theorem rD{l:jd Val}{x:Val}(h:x∈l):(enc x).length<=(enc (vL l)).length:=by
 rw[pK];have:=EN h;simp only[j5,jH];omega
theorem cY.bodies(h:cY (aR y)):(∀b∈y.box,b.body.length<=800000)/\(∀b∈y.wel,b.body.length<=800000):=by
 have g:=h.len;refine⟨λb a=>?_,λb a=>?_⟩
 ·have d:(enc (vL (y.box.map Bx.val))).length<=(enc (vL (aR y))).length:=rD (by unfold aR;simp)
  have e:(enc b.val).length<=(enc (vL (y.box.map Bx.val))).length:=rD (jO.2 ⟨b,a,I⟩);have f:(enc (vT b.body)).length<=(enc b.val).length:=rD ar;have:=Dk b.body;omega
 have d:(enc (vL (y.wel.map Wl.val))).length<=(enc (vL (aR y))).length:=rD (by unfold aR;simp);have e:(enc b.val).length<=(enc (vL (y.wel.map Wl.val))).length:=rD (jO.2 ⟨b,a,I⟩);have f:(enc (vT b.body)).length<=(enc b.val).length:=rD ar;have:=Dk b.body;omega
theorem TK(c:Cmt):(mN c/\gV c=0)\/(¬mN c/\gV c=220):=by
 by_cases h:mN c
 ·exact .inl ⟨h,uz h⟩
 exact .inr ⟨h,fp h⟩
theorem MK(c:Cmt)(q:CQ)(w:jh)(f:aS (·<w.heap.size) w c q)(a:cY (aR c)):
 jq jl 23 #[jn (aF c q).toArray] w λe w'=>e=jp (T A (gV c))/\jk w w w':=
 OZ c q w f a.lens.1 a.lens.2.1 a.lens.2.2.1 a.lens.2.2.2 (λb d=>by have:=a.bodies.1 b d;omega) (λb d=>by have:=a.bodies.2 b d;omega)
theorem Mc{l:jd aL}(e:mD l)(h:cL l d=jm):∃m,l[ma l d]?=ja m/\l.find? (λm=>m.dev==d)=ja m:=by
 obtain⟨m,b⟩:∃m,l.find? (λm=>m.dev==d)=ja m:=by
  cases hf:l.find? (λm=>m.dev==d)with
  |some m=>exact⟨m,I⟩
  |none=>
   exfalso
   unfold cL at h;obtain⟨x,a,c⟩:=r6.1 h;exact jB c (by have:=H0.1 hf x a;simpa using this)
 refine⟨m,?_,b⟩;have g:=List.mem_of_find?_eq_some b;have f:m.dev=d:=by have:=List.find?_some b;simpa using this
 obtain⟨i,a,he⟩:=qi g;have j:ma l d=i:=by
  refine AF d l i Y (λt k=>?_) (λt n c=>?_)
  ·have:=e t i k a
   rw[fu _ a,he,f]at this;exact this
  have:=yQ e n c;rw[fu _ a,he,f]at this;exact this
 rw[j,ms a,he]
theorem Gg(g:Grp)(vm vt U:jj)(a:N)(l:jd ap)(w:jh)(h:bU w g vm vt)(s:mD g.mem)(V:g.mem.length<=1000000)(x:EC.At w U l)(i:cL g.mem a=ji->l≠[]):
 jq jl 31 #[jn (aD g vm vt).toArray,T A a,U] w λe w'=>e=jp (T A (dP g a l))/\jk w w w':=by
 have y:=rF (vm:=vm) (vt:=vt) h.llen;have t:=λW hW=>yR g vm vt a W hW s V h.llen
 have z:=dE.new w (vm:=vm) (vt:=vt) h.llen;have j:=z.blk;have f:=ao w (je (aD g vm vt).toArray 45);have k:=z.at.2.2.1;obtain⟨B,C,rfl,Yi,-⟩:=h.mem.form;obtain⟨pl,cl,rfl,VW,-⟩:=x.form;have m:=h.mem.below f;have o:=x.below f;obtain⟨D,E⟩:=J ((aD g (jg B g.mem.length C) vt).toArray);rw[<-E]at y t j f k m o⊢;obtain⟨x0,c⟩:=J (w.alloc (je D 45));obtain⟨b,F⟩:=J w.heap.size;rw[<-c]at j f k m o;rw[<-F]at j k;obtain⟨n,H⟩:=J l.length;obtain⟨u,v⟩:=J g.mem.length;rw[<-H]at o VW⊢;rw[<-v]at k m Yi V t;have HX:=O c;have ad:=O F;have K:=O j;have X:=O f;have M:=O m;have aa:=O o;have Vj:=O y;have P:=O t;have Z4:=O i;have a1:=O s;have HN:=O H;have au:=O v;have Vl:=O (λh=>Mc (d:=a) s h);obtain⟨Q,p⟩:=J (cL g.mem a);obtain⟨q,R⟩:=J (ma g.mem a);rw[<-p,<-R]at P;rw[<-p]at Z4;rw[<-R,<-p]at Vl;have ax:=O p;have ay:jf (D[34]?=ja (jg B u C)):=O (by rw[E,v];simpa using(lR (vm:=jg B g.mem.length C) (vt:=vt) h.llen).2.2.1);obtain⟨r,S⟩:=J (dP g a l);rw[<-S];have HR:=O S;clear y t z j f m o E c F H v p R h s x i k S
 go_enter func31,ntmps31
 go_upto_region 1 with fail
 rw[<-HX,<-ad];refine ow ?_;refine p6 I 45 _ I b I 45 D (0,0) _ K.out qn I Vj ?_
 go_wp2_with fail
 refine(P x0 M).mono ?_;rintro e x1 ⟨rfl,f⟩;have v:=ae K f;have y:=O (M.below f);have z:=O (aa.below f);have s:=ah X f;clear f P K M aa X
 cases Q with
 |true=>
  obtain⟨m,k,t⟩:=Vl I;have E:q<u:=by rw[au];exact(o3.1 k).1
  obtain⟨p,o,rfl,f⟩:=(y.cells).2.2 Y;have F:=ai v ay;have x:x1.cell? ⟨p,o+q*3+2,jc⟩=ja (T A m.ver):=f q m k 2 _ I;have j:r=m.ver:=by rw[HR];unfold dP;rw[t]
  have H:=aA ((q:N)<(u:N));have hd2:=aA (q<u);rw[<-j]at x;clear f k t j
  go_wp2_with fail
  go_ret;exact⟨I,s⟩
 |false=>
  have i:=Z4 I;obtain⟨x,k,c⟩:∃x k,l=x::k:=by
   rcases l with _|⟨x,r⟩
   ·exact jB I i
   exact⟨x,r,I⟩
  have E:0<n:=by rw[HN,c];simp
  obtain⟨p,o,rfl,f⟩:=(z.cells).2.2 E;have F:x1.cell? ⟨p,o+3,jc⟩=ja (T A x.v):=by
   have h:=f 0 x (by rw[c];rfl) 3 _ I;rw[Nat.zero_mul,r9]at h;exact h
  have t:g.mem.find? (λm=>m.dev==a)=jc:=by
   rw[H0];intro m Q;have h:=ax.out;unfold cL at h;have:=qj.1 h.symm m Q
   simpa using this
  have j:r=x.v:=by rw[HR];unfold dP;rw[t,c]
  rw[<-j]at F;clear f c t i j
  go_wp2_with fail
  go_ret;exact⟨I,s⟩
end Go.Proofs.YtjbiancnijgmgaaGreatDoor
