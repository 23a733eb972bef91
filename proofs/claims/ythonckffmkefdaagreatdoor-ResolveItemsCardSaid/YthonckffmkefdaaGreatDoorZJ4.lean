/- Texts of the proof, part 4 of 7 (Af Ah Ag Ai Wz Aa Ac Ab Aj Ak Al Am An Ao Ap Aq Ba Bb Lc Ld Le Lf Lh Li Lj Lk Ll La Lb Lm Ln Bc Bd Be Bf Bh Bi Bg Bj Bk Bl Bm Bn Bo Bq Wp). -/
import Derived.Shelf.SlSortCmp.NoneTotal
import Derived.Test.YthonckffmkefdaaGreatDoorZJ3
namespace Go.Proofs.YthonckffmkefdaaGreatDoor
set_option maxHeartbeats 64000000
set_option maxRecDepth 100000
set_option linter.unusedVariables false
set_option linter.unusedSimpArgs false
set_option linter.unusedSectionVars false
open Go.RowKit
open Go.Proofs.Tryz
open _root_ renaming rfl->I,Int->N,Nat->jb,List->jd,congrArg->js,if_pos->jt,if_neg->jy,absurd->jB,Array->jD,Bool->jF,Option->jO,decide_eq_true->jR,of_decide_eq_true->p6
open Go.Value renaming int->T
open Go.IntKind renaming i64->A
open _root_.Option renaming some->ja,none->jc,getD_some->wt,map_some->xf,isSome_iff_exists->CF
open Go.Obj renaming cells->je
open Go.RowKit renaming Hid->jf,Below->jk
open Go.Value renaming slice->jg,agg->jo,pointer->jz,tuple->jE
open Go renaming World->jh,Value->jj,Calls->jq,Boxed->jA,TypeId->jI,undef->jN,setRow_heap->jQ,Program->jX,setRow_other->jY,below_setRow->jZ,Oper->j0,wpList_plain->j3,wp_store_row->j4,Addr->j6,callFunc->ow,maxLen->o1,wp_region_lit->o8,wp_region_noPanic->pz,bodyPost_ret->qg,wpList_load_row->qh,Operand->qQ,grownBy_setCell'->qS,callsIn_wide->sx,results_none->sy,run_underlying->vi,callsIn_of_wp_marks->IA,wpListIn_append_own_at->KC
open _root_.Bool renaming false->ji,true->jm,eq_iff_iff->qy,eq_false_iff->sq,and_eq_true->sv
open Go.Proofs.Tryz renaming prog->jl
open Go.Value renaming int->jn,oneCell'->n0,bool->qt,agg->xg,ownBlock->xR
open Go.Ending renaming returned->jp
open Go.IntKind renaming u8->jr,u64->q9,wrap_u64->rk,wrap_u8->rv,i64->D1
open _root_.Nat renaming le_refl->ju,le_trans->jL,zero_add->jM,zero_le->j5,min_eq_left->qd,lt_of_lt_of_le->qf,lt_or_ge->qi,mul_le_mul_right->qj,mod_lt->qK,mul_comm->qM,add_le_add->qP,reduceAdd->qV,reduceSub->qW,ne_of_lt->xh,le_of_lt->xl,add_zero->xo,eq_zero_or_pos->xy,div_div_eq_div_mul->Bn,lt_or_eq_of_le->E3,le_of_lt_succ->E4,div_lt_of_lt_mul->HH,div_add_mod->H0
open Go.Proofs renaming intOf->jv
open Go.World renaming alloc_heap_new->jw,size_alloc->j7,ownsRow_nil->mb,cell?->qx,setRow->qU,ownsRow_lit->yn
open _root_.List renaming length_map->jC,length_append->jH,size_toArray->jJ,getD->jP,mem_map->jS,mem_cons->jT,take_of_length_le->jU,replicate->jW,mem_of_getElem?->j1,getElem?_map->j8,length_take->j9,length_cons->lw,getElem?_eq_getElem->ms,append_assoc->nn,append_nil->nv,mem_append->oj,map_append->qa,getElem?_eq_some_iff->qe,nil_append->qk,cons_append->ql,take_succ_eq_append_getElem->qn,getElem_of_mem->qo,any_eq_false->qs,mem_singleton->qu,filter_append->qv,filter_nil->qw,length_take_le->qz,length_attach->qA,range->qG,length_nil->qH,map_cons->qI,getElem_mem->qJ,mem_nil_iff->qL,mem_cons_self->qN,mergeSort_perm->qO,push_toArray->qZ,append_toArray->q7,zipIdx_cons->q8,mem_range->r4,length_set->r5,filter_cons_of_neg->r6,drop_drop->r7,pairwise_cons->r8,getElem?_append_left->r9,getElem_map->sh,eq_nil_of_length_eq_zero->sn,take_set_of_le->wv,drop_set_of_lt->wx,drop_of_length_le->xa,length_singleton->xd,setIfInBounds_toArray->xi,map_set->xj,any_eq_true->xk,take_append_drop->xm,take_take->xn,mem_cons_of_mem->xr,pairwise_map->xt,map_map->xu,pairwise_iff_getElem->xw,getElem?_append_right->xx,flatMap_cons->xz,take_zero->xQ,flatten_cons->xT,drop_eq_getElem_cons->xU,getElem?_eq_none->xV,toList_toArray->xW,map_inj_right->xX,mem_flatMap->xY,length_drop->xZ,length_eq_zero_iff->yl,getElem?_drop->AC,filter_cons_of_pos->AX,getElem_set_self->Bm,mem_filter->CB,map_congr_left->E2,length_filter_le->E5,getElem?_cons_succ->E6,nodup_append->GX,getElem?_take_of_lt->H1,map_mergeSort->H5,attach_map_subtype_val->Ix
open _root_.Array renaming getElem?_eq_some_iff->jG,length_toList->qb,replicate_succ->qX,replicate_zero->qY
open Go.RowKit.Below renaming refl->jK,heap_setCell->xP,heap_alloc->xS
open Go.NoPanic renaming normal->jV
open Go.Proofs.Tryz renaming underlying3->mz,underlying27->qB,underlying46->qC,underlying53->qD,underlying51->qE,underlying4->qF,results38->qT,results60->wi,underlying5->wq,underlying217->xA,underlying253->xB,underlying0->xC,underlying9->xD,underlying225->xE,underlying274->xG,underlying275->xH,underlying67->xI,underlying281->xJ,underlying248->xK,underlying322->xL,underlying326->xM,underlying355->xN,underlying356->xO
open _root_.BitVec renaming ofNat->ob,toNat_ofNat->rn
open _root_.Int renaming eq_ofNat_of_zero_le->qc,ofNat->xe,natCast_ediv->xq
variable{e:Grp}{d:N}{z:N×N}{p:N->jO N}{j:Type}{x:ap}{i:jD jj}{P:jX}{b o:jb}{D:jb->Prop}{t:jd (N×N)}{r:jd N}{f:jd ap}{h w w':jh}{S:jh->Prop}{a m vm vt:jj}
section
attribute [local go_sem] Oper.semAt_some
section
variable {P:jX} {F:Fence} {nF:jb}
theorem Ak{f:jD j0}{i:jd j0}{o:j0}{a:Act}{w:jh}{j:Exit->Act->jh->Prop}(k:o.guard=jc)(b:jI)(x y:qQ)(d:o.op=.store b x y)
 (g:jb) (cells:jD jj) (l:a.eval x=jz (ja ⟨g,0,jc⟩)) (m:a.eval y=jo cells) (t:jI) (e:jD jj) (n:w.heap[g]?=ja (je e t (0,0))) (p:(P.info? b).map (·.size)=ja cells.size)
 (q:e.size=cells.size) (r:cells.all (·.oneCell')=jm) (h:wpListIn F nF P f j i (a.put o.dst jN) (w.setRow g cells)):wpListIn F nF P f j (o::i) a w:=by
 refine wpListIn_plain k λv s=>?_
 unfold Oper.wpIn;refine⟨by simp[Oper.about,d],?_⟩;rw[Oper.semAt_plain F _ _ (by rw[d];intro c u;cases u)];simp only[execOp,d,l,m,Instr.storeAt,Instr.sureAddr,Sem.run_bind,Sem.run_pure,Result.andThen_ok,run_storeVar_row w g t b e cells n p q r];exact s _ _ h
end
def Dy(k:LBy):LBy:=dZ k ⟨#[112,97,116,104]⟩ []
def aA(k:LBy):jb->LBy
 |0=>k
 |i+1=>Dy (aA k i)
def gG(k:LBy)(n:jb):jd (LBy):=(qG n).map (aA k)
theorem fJ(k:LBy)(h:k.length=32):∀i,(aA k i).length=32
 |0=>h
 |i+1=>by
  rw[aA,Dy];exact pB _ _ _
theorem Cs(k:LBy)(n:jb):gG k (n+1)=gG k n++[aA k n]:=by unfold gG;rw[List.range_succ,qa];rfl
theorem FV(k:LBy)(n:jb):(gG k n).length=n:=by unfold gG;simp
def kE(k:LBy):jj:=jo (k.map v8).toArray
theorem bL.setRow{B0:jb}{Ψ:jb->Prop}(a:jh)(g:jb)(b:jD jj)(c:Ψ g):bL B0 Ψ a (a.setRow g b):=
 ⟨rfl,rfl,rfl,by simp[qU],λk _ d=>.inl (jY _ _ _ _ (λe=>d (e▸c)))⟩
theorem bL.setCell{B0:jb}{Ψ:jb->Prop}(a:jh)(p:j6)(v:jj)(b:Ψ p.block):bL B0 Ψ a (a.setCell p v):=
 ⟨rfl,rfl,rfl,by simp[World.setCell],λk _ c=>.inl (xP _ _ _ _ (λe=>c (e▸b)))⟩
theorem LD(c:LBy)(h:c.length=32)(w0:jh)(i:bP w0)(b a:jb)(j:w0.heap.size<=b)(m:w0.heap.size<=a)(p:b≠a)(w:jh)(e:jk w0 w0 w)
 (f:jA w b 3 (T A (0:jb))) (g:w.heap[a]?=ja (je (c.map v8).toArray 27 (0,0))):
 eO jl 151 #[jz (ja ⟨b,0,jc⟩),jz (ja ⟨a,0,jc⟩)] (λx:LBy=>#[kE x]) (λk=>k=b\/k=a) w0.heap.size (λxs=>xs=gG c 10) (λ_=>True) (λys=>ys.length<=10/\∀x∈ys,x.length=32) w:=by
 intro l Q Jx W d q r s t;have u:jA W b 3 (T A (0:jb)):=(d.block b f.lt).trans f;have v:=(d.block a (jG.1 g).1).trans g;have Uh:=O (e.trans (d.mono e.size));have HT:=O i;have o:=O h;have R:=O p;have ad:=O j;have au:=O m;have ax:=O u;have ay:=O v;clear f g e i h p j m u v d;have B:=O q;have a1:=O r;have S:=O s;have U:=O t;clear q r s t;refine(sx (n:=0)).1 ?_;refine callsIn_of_wp func151 I trivial ?_ I;simp only[ntmps151,jJ,lw,qH,qV,qW,qX,qY,qZ,q7,qk,ql]
 gi_wp2_with fail
 gi_loopw [4] (λs wr=>W.heap.size<=wr.heap.size/\∃i:jb,i<=10/\jf (jA wr b 3 (T A (i:jb)))/\jf (wr.heap[a]?=ja (je ((aA c i).map v8).toArray 27 (0,0)))/\jf (jk w0 w0 wr)/\jf (Q (gG c i) (λk=>k=b\/k=a) wr))
  (λs wr=>(10-jv ((wr.cell? ⟨b,0,jc⟩).getD jN)).toNat)
 case atStart=>
  exact⟨ju _,0,by omega,ax,ay,Uh,U⟩
 obtain⟨a3,i,hi,f,p,C,q⟩:=hrel;have D:=f.cell;have E:=O D
 by_cases h1:i<10
 ·have hd:=az ((i:N)<=9)
  obtain⟨r,d,e⟩:=Arr.mk' (fJ c o i);obtain⟨s,m,h⟩:=Arr.mk' (fJ c o (i+1));have t:=S (gG c i) (aA c i) (λk=>k=b\/k=a) wr q (by
   rintro k (rfl|rfl)
   ·exact f.lt
   exact(jG.1 p).1) (by
   rw[<-Cs];refine⟨by rw[FV];omega,λx g=>?_⟩;unfold gG at g;obtain⟨j,-,rfl⟩:=jS.1 g;exact fJ c o j)
  rw[<-Cs]at t;unfold kE at t;rw[<-d]at t;obtain⟨fn,tmps,assign,body,V,j⟩:=t;have u:jf (wr.heap[a]?=ja (je r 27 (0,0))):=O (by rw[d];exact p);have F:=O e;have Yj:=O d;have g:=O h;have H:=O j;clear d e m h j
  gi_wp2_with (refine oB I 27 _ I a I 27 r (0,0) _ u.out qB I (by rw[F.sz];rfl) ?_)
  refine⟨I,H.mono ?_⟩;rintro e v (⟨rfl,X,h,j⟩|⟨rfl,ZA,h,j⟩)
  ·have m:jf (jA v b 3 (T A (i:jb))):=O ((j b (.inl I)).trans f)
   have K:=O ((j a (.inr I)).trans u);have M:=O (C.trans h);have y:=O X;have Wi:wr.heap.size<=v.heap.size:=h.size;clear D f p C q u H X h j V
   gi_wp2_with (refine oB I 27 _ I a I 27 r (0,0) _ K.out qB I (by rw[F.sz];rfl) ?_)
   have d:=sB (aA c i) (fJ c o i) ⟨#[112,97,116,104]⟩ [] _ v (zO _) (AF _ G) (HT.below M);rw[<-Yj]at d;have z:((dZ (aA c i) ⟨#[112,97,116,104]⟩ []).map v8).toArray=s:=g.eq.symm;rw[z]at d;refine⟨trivial,I,(callsIn_wide.2 d).mono ?_⟩;clear d z;rintro e z ⟨rfl,d⟩;have aa:jf (jA z b 3 (T A (i:jb))):=O ((d.block _ m.lt).trans m);have P:=ae K d;have Uq:=ai M d;have ac:=O (B.keep y (bL.ofBelow d (λk hk _=>hk)));have a4:v.heap.size<=z.heap.size:=d.size;clear m K M y d
   gi_wp2_with (refine Ak I 27 _ _ I a s I I 27 r P.out (by rw[g.sz];rfl) (by rw[F.sz,g.sz]) g.one ?_;obtain⟨m,d⟩:∃x,x=z.setRow a s:=⟨_,I⟩;have a5:=O d;rw[<-d];have M:jf (m.heap[a]?=ja (je s 27 (0,0))):=O (by rw[d];exact jQ _ _ _ _ _ _ P.out);have K:jf (jA m b 3 (T A (i:jb))):=O (by rw[d];exact(jY _ _ _ _ R.out).trans aa);have a2:jf (Q (gG c (i+1)) (λk=>k=b\/k=a) m):=O (by rw[d];exact B.keep ac (bL.setRow _ _ _ (.inr I)));have Uw:jf (jk w0 w0 m):=O (by rw[d];exact jZ Uq au _);have k:z.heap.size<=m.heap.size:=(by rw[d];simp[qU]);have a6:=K.cell;have ba:=K.frozen;clear d P aa ac Uq)
   have k:=K.set (T A ((i:N)+1));have x:=k.cell;refine⟨⟨by rw[World.size_setCell];omega,i+1,by omega,O k,O ?_,O ?_,O ?_⟩,?_⟩
   ·rw[<-g.eq];exact(xP _ _ _ _ (Ne.symm R.out)).trans M
   ·exact Uw.setCell ad.out _
   ·exact B.keep a2 (bL.setCell _ _ _ (.inl I))
   rw[x,E];simp only[wt,jv];omega
  have y:=O ZA;clear D f p C q u H ZA h j V E
  gi_wp2
  refine qg (sy I _ _ _) I ?_;exact⟨⟨_,I⟩,.inr ⟨_,_,trivial,y⟩⟩
 have hd:=aw ((i:N)<=9);obtain rfl:i=10:=Y;clear S U a1 E
 gi_wp2
 refine bodyPost_end (sy I _ _ _) I ?_;exact⟨⟨_,I⟩,.inl ⟨_,_,I,q⟩⟩
end
section
variable {P:jX}
theorem KG{α:Type}{g:qQ}{q:jD Tmp}{assign body:Code}{u:Exit->Act->jh->Prop}{a:Act}{w:jh}{n:jb}
 {gf:jb} {lb:jD jj} (E:a.eval g=.func (.func gf) #[] lb) (F:∀args w,(ow gf args).run P w=.ok (.enter gf args) w)
 {encs:α->jD jj} {y:jb->Prop} {z:jb} {S C V:jd α->Prop} (H:eO P gf lb encs y z S C V w)
 (M:z<=w.heap.size) (Q:∀x,(encs x).size=q.size) (R:∀k,y k->k<w.heap.size)
 (f:jd α->(jb->Prop)->jh->Prop) (m:Code->jd α->(jb->Prop)->jh->Prop) (U:bY w.heap.size f) (X:∀c,bY w.heap.size (m c)) (h0:f [] y w)
 (o:α->Act->(jb->Prop)->jh->Prop) (aa:bY w.heap.size (fun(s:α×Act) Ψ W=>o s.1 s.2 Ψ W))
 (ac:∀(l:jb) (d:jd α) (x:α) (Ψ:jb->Prop) (b:jh) (K:Act->jh->Prop),f d Ψ b->V (d++[x])->(∀k,Ψ k->k<b.heap.size)->
  (∀i e,jk b b e->f d Ψ e->o x i Ψ e->K i e)->
  assign.wpIn (Fence.wide.inRound l) 0 P (Exit.then K (λ_ _ _=>False)) {tmps:=(q.zip (encs x)).foldl (λt (p,v)=>t.setIfInBounds p v) a.tmps,defers:=[]} b)
 (t:∀(l:jb) (d:jd α) (x:α) (Ψ:jb->Prop) (i:Act) (b:jh),f d Ψ b->o x i Ψ b->V (d++[x])->(∀k,Ψ k->k<b.heap.size)->w.heap.size<=b.heap.size->(∃r,b.heap[l]?=ja (.loop r))->
  body.wpIn (Fence.wide.inRound l) 0 P (pY w.heap.size z f m (d++[x]) Ψ b) i b)
 (v:∀(D:jb) (xs:jd α) (Ψ:jb->Prop) (W:jh),w.heap.size<=D->S xs->f xs Ψ W->W.heap[D]?=ja (.deferred (ja []))->u .normal {a with defers:={target:=.collected D,args:=#[]}::a.defers} W)
 (ad:∀(D:jb) (c:Code) (d:jd α) (Ψ:jb->Prop) (W:jh),w.heap.size<=D->C d->m c d Ψ W->W.heap[D]?=ja (.deferred (ja []))->c.wpIn Fence.wide n P u {a with defers:={target:=.collected D,args:=#[]}::a.defers} W):
 (Code.rangeFunc g q assign body).wpIn Fence.wide n P u a w:=by
 refine rD E F H.v M Q R f m U (λ_ _ _ _=>trivial) X h0 o aa (λl d x Ψ b K p _ j s e=>ac l d x Ψ b K p j s e) (λl d x Ψ i b p K j s e h h1 k=>?_) (λD xs Ψ W e=>v D xs Ψ W (Nat.le_of_eq e.symm)) (λD c d Ψ W e=>ad D c d Ψ W (Nat.le_of_eq e.symm));obtain⟨-,-,j⟩:=j;obtain⟨r,k⟩:=k;exact wpIn_mono (t l d x Ψ i b p K j s Y ⟨r,by rw[h];exact k⟩) λe a B h=>pY.two h1 k h
end
section
attribute [local go_sem] Oper.semAt_some
def ik(l:jd (LBy)):jd jj:=(l.map λk=>k.map v8).flatten
theorem Ph(l:jd (LBy))(k:LBy):ik (l++[k])=ik l++k.map v8:=by unfold ik;simp
theorem I4:(jl.info? 27).map (λi=>(i.zero,i.size,i.bytes))=ja (ja (jo a8),32,32):=by kernel_rfl
def Ck(f:LBy->jb->Act)(x:LBy)(a:Act)(Ψ:jb->Prop)(W:jh):Prop:=∃g,a=f x g/\W.heap[g]?=ja (je (x.map v8).toArray 27 (0,0))/\¬Ψ g
theorem S4(B0:jb)(f:LBy->jb->Act):bY B0 (fun(s:LBy×Act) Ψ W=>Ck f s.1 s.2 Ψ W):=by
 rintro s Ψ c l B ⟨g,e,h,d⟩ i m j;have a:¬c g:=λk=>by
  rcases j _ k with b|b
  ·exact d b
  have:=(jG.1 h).1;omega
 exact⟨g,e,i.cells h a,a⟩
theorem Cq:∀(xs:jd jj) (k:jb) (a:jD jj),k+xs.length<=a.size->((xs.zipIdx k).foldl (λa x=>a.setIfInBounds x.2 x.1) a).toList=a.toList.take k++xs++a.toList.drop (k+xs.length)
 |[],k,a,h=>by simp
 |x::xs,k,a,h=>by
  rw[lw]at h;have b:k<a.toList.length:=by rw[qb];omega
  rw[q8,List.foldl_cons,Cq xs (k+1) _ (by rw[Array.size_setIfInBounds];omega),Array.toList_setIfInBounds,List.take_add_one,wv (ju _),List.getElem?_set_self b,wx Y,lw];simp only[Option.toList_some,nn,List.singleton_append,ql,qk];rw[show k+1+xs.length=k+(xs.length+1) by omega]
theorem JS(X Z:jD jj)(h:X.size=32)(d:Z.size=32):Array.foldl (λa x=>a.setIfInBounds x.2 x.1) Z X.zipIdx 0 32=X:=by
 have b:X.zipIdx.size=32:=by simp[h]
 have c:Array.foldl (λa (x:jj×jb)=>a.setIfInBounds x.2 x.1) Z X.zipIdx 0 32=X.zipIdx.toList.foldl (λa x=>a.setIfInBounds x.2 x.1) Z:=by
  rw[Array.foldl_toList,b]
 rw[c,Array.toList_zipIdx]
 apply Array.ext'
 rw[Cq _ _ _ (by rw[qb];omega)];rw[qb,xQ,qk,xa (by rw[qb];omega),nv]
theorem Qv{gf:jb}{lb:jD jj}(a:∀args w,(ow gf args).run jl w=.ok (.enter gf args) w){p:jb->Prop}{H:jb}{S Sp V:jd (LBy)->Prop}{w:jh}
 (b:eO jl gf lb (λx:LBy=>#[kE x]) p H S Sp V w) (Zv:H<=w.heap.size) (M:∀k,p k->k<w.heap.size) (c:∀ys,V ys->ys.length<=100000/\∀x∈ys,x.length=32) (f:jb) (s:f<=w.heap.size) (ad:∀k,p k->f<=k):
 jq jl 150 #[jg jc 0 0,.func (.func gf) #[] lb] w λe w'=>∃v xs,e=jp v/\S xs/\w'.ownsRow w 27 32 v xs.length (ik xs)/\jk f w w':=by
 have au:=O b;have ax:=O a;have z:=O c;clear b a c;refine(sx (n:=0)).1 ?_;refine IA func150 I trivial ?_ I;simp only[ntmps150,jJ,lw,qH,qV,qW,qX,qY,qZ,q7,qk,ql]
 gi_wp2_with fail
 obtain⟨d,a⟩:=J (w.alloc (je #[jg jc 0 0] 115));have bN:jA d w.heap.size 115 (jg jc 0 0):=by rw[a];exact Boxed.new w _ _
 have P:jk w w d:=by rw[a];exact(jK _ w).alloc (ju _) _
 have bb:w.heap.size+1<=d.heap.size:=by rw[a];simp
 rw[<-a];clear a;have ay:gP w.heap.size 115 w.heap.size 27 32 ([]:jd (LBy)).length (ik []) (λ_=>True) p d/\(jk f w d/\∀k,p k->f<=k):=by
  refine⟨⟨_,bN,λh=>by have:=M _ h;omega,mb _ _ _ _,by simp[xR],trivial⟩,P.mono s,ad⟩
 have Q:bY d.heap.size (fun(b:jd (LBy)) Ψ W=>gP w.heap.size 115 w.heap.size 27 32 b.length (ik b) (λ_=>True) Ψ W):=mY (β:=jd (LBy)) d.heap.size w.heap.size 115 w.heap.size 27 32 (λb=>b.length) (λb=>ik b) (λ_ _=>True);refine KG (n:=0) (gf:=gf) (lb:=lb) I ax (au.later P) Y (λ_=>rfl) (λk o=>by have:=M k o;omega)
  (λb Ψ W=>gP w.heap.size 115 w.heap.size 27 32 b.length (ik b) (λ_=>True) Ψ W/\(jk f w W/\∀k,Ψ k->f<=k))
  (λ_ _ _ _=>False)
  (Q.and (kH _ _ w s Y))
  (λ_=>fk _ _)
  ay
  (Ck (λx g=>{tmps:=#[jg jc 0 0,.func (.func gf) #[] lb,jz (ja ⟨w,0,jc⟩),jN,jg jc 0 0,jz (ja ⟨g,0,jc⟩),.func (.func gf) #[] lb,kE x,jN,jN,jN,jN,jN],defers:=[]})) (S4 _ _)
  ?assign ?body ?done ?stop
 case assign=>
  intro l b x Ψ a K D q E t;have u:=(z _ q).2 x ar;obtain⟨X,c,j⟩:=Arr.mk' u;have i:kE x=jo X:=by unfold kE;rw[c]
  rw[i];have y:=O c;have m:=O j;clear c j i
  gi_wp2_with (refine Ak I 27 _ _ I a.heap.size X I I 27 _ (jw a _) (by rw[m.sz];rfl) (by rw[m.sz];rfl) m.one ?_)
  obtain⟨B,r⟩:=J ((a.alloc (je a8 27)).setRow a.heap.size X);rw[<-r];have F:B.heap[a.heap.size]?=ja (je X 27 (0,0)):=by rw[r];exact jQ _ _ _ _ _ _ (jw a _)
  have C:jk a a B:=by rw[r];exact jZ (ao a _) (ju _) _
  refine t _ _ C ((Q.and (kH _ _ w s Y)).keep D (bL.ofBelow C (λk o _=>o))) ⟨a.heap.size,?_,by rw[<-y];exact F,λh=>jB (E _ h) (Nat.lt_irrefl _)⟩;have i:kE x=jo X:=by unfold kE;rw[y]
  simp only[i]
  rfl
 case body=>
  rintro l b x Ψ bc a ⟨⟨v,k,K,r,R,-⟩,o,U⟩ ⟨g,rfl,B,bd⟩ q Ye bf bg;have a1:=(z _ q).1;have u:=(z _ q).2 x ar;rw[jH,xd]at a1;obtain⟨X,c,j⟩:=Arr.mk' u;have i:kE x=jo X:=by unfold kE;rw[c]
  simp only[i];rw[<-c]at B;have y:=O c;have m:=O j;have hc:=k.cell;have C:=O o;have bh:=o.size;obtain⟨i0,hi,UA,a2,a3⟩:=info_parts I4;have aa:=m.sz;have a4:=JS X a8 aa I;clear o q c j i
  gi_wp2_with (first|(refine oB I 27 _ I g I 27 X (0,0) _ B qB I (by rw[m.sz];rfl) ?_)|(gi_at_builtin;refine Hid.out ?_))
  refine O ?_;refine KC _ I _ _ 115 I w.heap.size 27 i0 (jo a8) 32 32 underlying115 hi UA a2 a3 I G v _ _ I (r.alloc _) ⟨a,0,jc⟩ 1 1 (x.map v8) I (by rw[jC,u]) (Ij x a.heap.size (by rw[<-y];exact jw a _)) (gS _) (by unfold o1;omega) Y (by simp;omega) ?_;intro v' w1 D E a5 F;obtain⟨g',bi,rfl⟩:=ownsRow_succ D;obtain⟨c,ac⟩:=se (B0:=d.heap.size) k G r Y (ju _) K R Ye D E (by intro j hj;rw[hj]at F;rcases F with h|h;exact .inl h.symm;exact .inr (ak h));have j:jA w1 w.heap.size 115 v:=(k.alloc _).kept E (by have:=k.not_row (e:=27) G r;exact this);have bk:=j.cell;have bl:=j.frozen;have a6:=O c;have ba:=O ac;clear c ac D E a5 F hc a4 aa B
  gi_wp2_with fail
  obtain⟨v',B,D,E,F,b5⟩:=ba.out;have c:=a6.out;refine⟨⟨c.1,c.2.1.mono Zv,c.2.2⟩,⟨v',B,D,?_,F,trivial⟩,C.trans (c.2.1.mono s),U⟩;rw[Ph,jH,xd];exact E
 case done=>
  rintro D xs Ψ W c a ⟨⟨v,k,K,r,R,-⟩,o,U⟩ t;have hc:=k.cell;have C:=O o;clear o
  gi_wp2
  refine⟨by simp,.inl ⟨_,_,I,run_takeDeferred t,?_⟩⟩;exact⟨_,results_tmp I _ _ _,_,xs,I,a,ownsRow_putObj r _ t I,C.trans (iA Y)⟩
 intro D c b Ψ W _ _ h;exact h.elim
theorem QV{i:jD jj}(c:∀args w,(ow b args).run jl w=.ok (.enter b args) w){gf:jb->Prop}{d:jb}{S l V:jd (LBy)->Prop}{w:jh}
 (f:eO jl b i (λx:LBy=>#[kE x]) gf d S l V w) (g:d<=w.heap.size) (h:∀k,gf k->k<w.heap.size) (lb:∀ys,V ys->ys.length<=100000/\∀x∈ys,x.length=32) (a:jb) (m:a<=w.heap.size) (j:∀k,gf k->a<=k):
 jq jl 89 #[.func (.func b) #[] i] w λe w'=>∃v xs,e=jp v/\S xs/\w'.ownsRow w 27 32 v xs.length (ik xs)/\jk a w w':=by
 have k:=O (Qv c f g h lb a m j);clear c f g h lb j
 go_enter func89,ntmps89
 go_wp2_with fail
 refine k.mono ?_;rintro e j ⟨v,xs,rfl,g,c,f⟩;have h:=O c;have lb:=O f;clear c f
 go_wp2
 go_ret;exact⟨v,xs,I,g,h,lb⟩
end
theorem KQ(a:jD jj)(b:a.size=32)(w:jh):
 jq jl 90 #[jo a,T A 0] w λe w'=>e=jp (.func (.func 151) #[] #[jz (ja ⟨w.heap.size+1,0,jc⟩),jz (ja ⟨w,0,jc⟩)])/\w'=(w.alloc (je a 27)).alloc (je #[T A 0] 3):=by
 go_enter func90,ntmps90
 go_wp2
 go_ret;exact⟨I,I⟩
theorem Le(k:LBy)(d:k.length=32)(w:jh)(j:bP w):
 jq jl 40 #[jo (k.map v8).toArray] w λe w'=>∃v,e=jp v/\w'.ownsRow w 27 32 v 10 (ik (gG k 10))/\jk w w w':=by
 obtain⟨b,f,l⟩:=Arr.mk' d;rw[<-f];have s:=O d;have t:=O f;have m:=O l;have u:=O j;have c:=jw w (je b 27);have g:=ao w (je b 27);obtain⟨a,h⟩:=J (w.alloc (je b 27));obtain⟨x,i⟩:=J w.heap.size;rw[<-h]at g c;rw[<-i]at c;have y:=O c;have n:=O g;have z:=O h;have B:=O i;clear f l d j c g h i
 go_enter func40,ntmps40
 go_upto_region 1 with fail
 rw[<-z,<-B];refine o8 ?_;refine qh I 27 _ I x I 27 b (0,0) _ y.out qB I (by rw[m.sz];rfl) ?_
 go_wp2_with fail
 refine(KQ b m.sz a).mono ?_;rintro e c ⟨rfl,d⟩;have i:c.heap[a.heap.size]?=ja (je (k.map v8).toArray 27 (0,0)):=by
  rw[d,<-t];exact(xS _ _ _ ar).trans (jw a _)
 have l:jA c (a.heap.size+1) 3 (T A (0:jb)):=by
  have h:=Boxed.new (a.alloc (je b 27)) 3 (T A (0:jb));rw[j7]at h;rw[d];exact h
 have o:jk a a c:=by rw[d];exact((jK _ a).alloc (ju _) _).alloc ar _
 have C:a.heap.size+1<c.heap.size:=by rw[d];simp
 have g:=n.size;have f:=n.trans (o.mono g);have p:=LD k s w u (a.heap.size+1) a.heap.size Y g Y c f l i;have q:=QV (λ_ _=>rfl) p (cT f.size) (by rintro j (rfl|rfl)<;>omega) (λys h=>⟨by omega,h.2⟩) w.heap.size (cT f.size) (by rintro j (rfl|rfl)<;>omega);have j:=O q;have r:=O f;clear i l o C g f p q d
 go_wp2_with fail
 refine j.mono ?_;rintro e o ⟨v,xs,rfl,d,f,i⟩;have l:o.ownsRow w 27 32 v 10 (ik (gG k 10)):=by
  have h:=f;rw[d,FV]at h;refine⟨h.1,?_⟩
  rcases h.2 with p|⟨g,q,C,e,D,E⟩
  ·exact .inl p
  exact .inr ⟨g,q,C,e,jL r.size D,E⟩
 have g:=O l;have h:=O (r.trans i);clear f l i j d
 go_wp2_with fail
 go_ret;exact⟨_,I,g,h⟩
def beK(n:jb):jb->LBy
 |0=>[]
 |k+1=>beK n k++[ob 8 (n/2^(56-8*k))]
def be8(n:jb):LBy:=beK n 8
theorem vX(n k:jb):(beK n k).length=k:=by induction k with
 |zero=>rfl
 |succ k a=>simp[beK,a]
def dD(l:jd jb):LBy:=(l.map be8).flatten
theorem tm(l:jd jb):(dD l).length=8*l.length:=by
 unfold dD
 induction l with
 |nil=>rfl
 |cons a l b=>
  have h:(be8 a).length=8:=vX a 8;rw[qI,xT,jH,b,lw,h];omega
theorem vy(l:jd jb)(a:jb):dD (l++[a])=dD l++be8 a:=by unfold dD;simp
def nX(a:LBy)(msg:LBy)(nums:jd jb):jb:=oU a (dD nums++msg)
theorem AE(s:ByteArray)(d:s.size<=1000)(msg:LBy)(vm:jj)(f:msg.length<=100000)(nums:jd jb)(E:jj)(F:nums.length<=1000)(g:∀x∈nums,x<9223372036854775808)(w:jh)(t:bD w vm msg)(hn:de w E (nums.map xe))(h:bP w):
 jq jl 112 #[.string s,vm,E] w λe w'=>e=jp (T A (nX (bZ s) msg nums:jb))/\jk w w w':=by
 obtain⟨p,c,rfl,H,a⟩:=hn;rw[jC]at H a⊢;obtain⟨n,l⟩:=J nums.length;rw[<-l]at H F a⊢;have q:=O l;have K:=O a;have aa:=O g;have M:=O t;have YL:=O f;obtain⟨P,Q,rfl,WI,-,-⟩:=t;have ac:=O d;have R:=O h;obtain⟨S,b⟩:=J msg.length;rw[<-b]at M WI⊢;have ax:=O b;clear l a g f d h b
 go_enter func112,ntmps112
 go_wp2_with fail
 go_loopw [7,10,13] (λj b a wr=>∃(i:jb) (u:jj),j=u/\a=T A i/\i<=n/\jf (wr.ownsRow w 5 1 u (8*i) ((dD (nums.take i)).map v8))/\jf (jk w w wr)) (λ_ _ a _=>n-(jv a).toNat)
 case atStart=>exact⟨0,_,I,I,j5 _,O (mb _ _ _ _),O (jK _ _)⟩
 obtain⟨i,u,rfl,rfl,hi,U,f⟩:=hrel
 by_cases V:i<n
 ·have hd:=az ((i:N)<(n:N))
  have UC:=az (i<n);obtain⟨g,o,rfl,k⟩:=K Y;have a:i<nums.length:=by rw[<-q];exact V
  have m:(nums.map xe).getD i 0=((nums[i]:jb):N):=by simp[jP,a]
  obtain⟨y,d⟩:=J (nums[i]);have ay:y<9223372036854775808:=by rw[d];exact aa _ (qJ a)
  have h:=k i V;rw[m,<-d]at h;have c1:wr.cell? ⟨g,o+i,jc⟩=ja (T A (y:jb)):=(dX (f.block g (ge h))).trans h;have Yu:jf (dD (nums.take (i+1))=dD (nums.take i)++be8 y):=O (by
   rw[qn a,vy,d])
  have v:=f.size;have a1:(0:N)<=(y:N):=Y;have a2:q9.wrap (y:N)=(y:N):=by rw[rk];omega
  clear m d h k a K
  go_wp2_with fail
  go_loopw [7,10] (λj b wr2=>∃(k:jb) (x:jj) (a:N),j=x/\b=T A a/\ -8<=a/\a<=56/\jf (a=56-8*(k:N))/\jf (wr2.ownsRow w 5 1 x (8*i+k) ((dD (nums.take i)++beK y k).map v8))/\jf (jk w w wr2)) (λ_ b _=>(jv b+8).toNat)
  case atStart=>exact⟨0,_,_,I,I,by omega,by omega,O rfl,O (by rw[beK,nv];exact U),f⟩
  obtain⟨k,x,a,rfl,rfl,a3,a4,r,z,B⟩:=hrel
  by_cases W:0<=a
  ·obtain⟨m,rfl⟩:=qc W
   have hd2:decide ((0:N)<=(m:N))=jm:=by simp
   have t:m<=56:=Y;have C:k<8:=aI r;have d:beK y (k+1)=beK y k++[ob 8 (y/2^m)]:=by rw[beK,show 56-8*k=m by have:=r.out;omega]
   obtain⟨b,h⟩:=J (ob 8 (y/2^m));rw[<-h]at d;have a5:jr.wrap ((y:N)/2^m)=(b.toNat:N):=by
    rw[h,rn,rv];have e:(y:N)/2^m=((y/2^m:jb):N):=by simp
    rw[e];omega
   have ad:=O d;have D:=B.size;have hd3:decide ((m:N)<0)=ji:=by simp
   clear h d W
   go_wp2_with (at_builtin;refine Hid.out ?_)
   refine O ?_;refine j3 I λ_ h=>oK _ _ I w.heap.size _ _ _ I (cL z (ao wr _)) _ 1 [T .u8 b.toNat] I (rO wr (T .u8 b.toNat)) (by simp[n0]) Y (jL D (ao wr _).size) λX w5 d=>h _ _ ?_
   have j:=O (B.trans (((ao wr _).mono D).trans (d.below (cL z (ao wr _)) (jL D (ao wr _).size))));have au:=O d.own;clear h d
   go_wp2_with fail
   refine⟨⟨k+1,_,_,I,I,by omega,by omega,O (aI r),?_,j⟩,?_⟩
   ·exact O (by rw[ad,<-nn,qa];exact au)
   simp only[jv];omega
  have hd2:=aw ((0:N)<=a);have C:k=8:=aI r;have b:=z.out;rw[C]at b;have m:=O b;clear b C
  go_wp2_with fail
  refine⟨⟨i+1,_,I,by go_num,by omega,O ?_,B⟩,?_⟩
  ·rw[Yu];exact m
  simp only[jv];omega
 have hd:=aw ((i:N)<(n:N));have UC:=aw (i<n);have a:i=n:=Y;have b:=U.out;rw[a,jU (by rw[<-q];exact ju _)]at b;have m:=O b;have v:=f.size;have g:bD wr (jg P S Q) msg:=M.below f;have r:=O g.row;clear b a g
 go_wp2_with (at_builtin;refine Hid.out ?_)
 refine O ?_;have x:=tm nums;have l:nums.length<=1000:=by rw[<-q];exact F
 have y:=YL.out;refine j3 I λ_ h=>oK _ _ I w.heap.size _ _ _ I m (jg P S Q) msg.length (msg.map v8) I r (gS _) Y v λX w5 d=>h _ _ ?_
 have j:=O (f.trans ((d.below m v)));have a:=d.own;rw[<-qa]at a;have b:8*n+msg.length=(dD nums++msg).length:=by rw[jH,x,<-q]
 rw[b]at a;have g:=bD.of_own a;have k:=H4 s (aI ac) X _ (by rw[jH];omega) w5 g (R.below j).num (R.below j).start;have o:=O k;clear h d a b g k
 go_wp2_with fail
 refine o.mono ?_;rintro e d ⟨rfl,a⟩;have b:=ai j a;clear a o
 go_wp2_with fail
 go_ret;exact⟨I,b⟩
theorem fO{P:jX}{fn:Func}{p c:Tmp}{a:jI}(h:fn.results= #[.cell p a,.tmp c])(tmps:jD jj)(w:jh)(g:jb)(t:jI)(b:jD jj)(e:jb×jb)(d:TypeDesc)
 (f:tmps.getD p jN=jz (ja ⟨g,0,jc⟩)) (i:w.heap[g]?=ja (je b t e))
 (j:P.underlying a=ja d) (k:(match d with| .struct _ | .array _ _=>jm|_=>ji)=jm) (l:(P.info? a).map (·.size)=ja b.size):
 (results fn tmps).run P w=.ok (jE #[jo b,tmps.getD c jN]) w:=by
 rw[results_cell_tmp h,f];simp[asAddr,run_loadVar_row w g t a b e d i j k l]
def kY(x:N):Prop:=1<=x/\x<2305843009213688669
instance(x:N):Decidable (kY x):=by unfold kY;infer_instance
theorem vU(a k:jb):aX a k<4611686018427377339:=by
 have h:aX a k<PN:=qK _ (by rw[fl];decide)
 rwa [fl]at h
theorem Am(x:N)(w:jh):
 jq jl 69 #[T A x] w λe w'=>e=jp (.bool (decide (kY x)))/\w=w':=by
 obtain⟨r,a⟩:=J (decide (kY x));rw[<-a]
 by_cases b:1<=x
 ·have c:=az (1<=x)
  obtain rfl:r=decide (x<2305843009213688669):=by rw[a];simp[kY,b]
  clear a
  go_enter func69,ntmps69
  go_wp2
  go_ret;exact⟨I,I⟩
 have c:=aw (1<=x);obtain rfl:r=ji:=by rw[a];simp[kY,b]
 clear a
 go_enter func69,ntmps69
 go_wp2
 go_ret;exact⟨I,I⟩
theorem GQ(x:jb)(f:1<=x)(b:x<2305843009213688669)(w:jh):
 jq jl 70 #[T A x] w λe w'=>e=jp (T A (aX 4 x:jb))/\jk w w w':=by
 have c:=O (wn x b)
 go_enter func70,ntmps70
 go_wp2_with fail
 refine(c _).mono ?_;rintro e g ⟨rfl,a⟩;have d:=O a;clear a
 go_wp2_with fail
 go_ret;exact⟨I,d⟩
theorem zZ(x:jb)(c:1<=x)(d:x<2305843009213688669)(w:jh):
 jq jl 27 #[T A x] w λe w'=>e=jp (jE #[T A (aX 4 x:jb),T A 0])/\jk w w w':=by
 have a:=O (Am (x:N));have b:kY (x:N):=⟨by omega,by omega⟩;rw[jR b]at a;have f:=O (GQ x c d);clear b
 go_enter func27,ntmps27
 go_wp2_with fail
 refine(a _).mono ?_;rintro e h ⟨rfl,rfl⟩
 go_wp2_with fail
 refine(f _).mono ?_;rintro e i ⟨rfl,b⟩;have g:=O b;clear b
 go_wp2_with fail
 go_ret2;exact⟨I,g⟩
theorem IV(x:N)(h:¬kY x)(w:jh):
 jq jl 27 #[T A x] w λe w'=>e=jp (jE #[T A 0,T A 50])/\w=w':=by
 have a:=O (Am x);rw[decide_eq_false h]at a;clear h
 go_enter func27,ntmps27
 go_wp2_with fail
 refine(a _).mono ?_;rintro e b ⟨rfl,rfl⟩
 go_wp2_with fail
 go_ret2;exact⟨I,I⟩
def iS(x:jb)(msg:LBy):jb:=nX (bZ ⟨#[110,111,110,99,101]⟩) msg [x]
def kj(x:jb)(msg:LBy):jb:=aX 4 (iS x msg)
def rF(r p:jb)(msg:LBy):jb:=nX (bZ ⟨#[115,105,103,110]⟩) msg [r,p]
def kD(x:jb)(msg:LBy):jb:=(iS x msg+rF (kj x msg) (aX 4 x) msg*x%QN)%QN
theorem wV(t m l):nX t m l<2305843009213688669:=(zD _ _).2
theorem RH(x:jb)(P:1<=x)(Q:x<2305843009213688669)(msg:LBy)(vm:jj)(u:msg.length<=100000)(w:jh)(R:bD w vm msg)(y:bP w):
 jq jl 51 #[T A x,vm] w λe w'=>e=jp (jE #[jo #[T A (kj x msg:jb),T A (kD x msg:jb)],T A 0])/\jk w w w':=by
 obtain⟨b,a⟩:=J (kj x msg);obtain⟨g,c⟩:=J (iS x msg);obtain⟨r,h⟩:=J (rF b (aX 4 x) msg);obtain⟨k,j⟩:=J (r*x%QN);have o:kD x msg=(g+k)%QN:=by rw[j,h,a,c];rfl
 have S:jf (g<2305843009213688669):=O (by rw[c];exact wV _ _ _);have au:jf (r<2305843009213688669):=O (by rw[h];exact wV _ _ _);have ZY:jf (k<2305843009213688669):=O (by rw[j];exact qK _ G);have ZZ:jf (b<4611686018427377339):=O (by rw[a];exact vU _ _);have ax:jf (nX (bZ ⟨#[115,105,103,110]⟩) msg [b,aX 4 x]=r):=O h.symm;have ay:jf (nX (bZ ⟨#[110,111,110,99,101]⟩) msg [x]=g):=O c.symm;have a1:jf (r*x%QN=k):=O j.symm;have a2:jf (aX 4 g=b):=O (by rw[c,a];rfl);rw[o,<-a];have a3:=O Q;have UT:=O P;have D:=O R;have U:=O u;have V:=O y;obtain⟨W,X,rfl,WI,-,-⟩:=R;obtain⟨ml,m⟩:=J msg.length;rw[<-m]at D WI⊢;have a5:=O m;have n:=Am (x:N);have z:kY (x:N):=⟨by omega,by omega⟩;rw[jR z]at n;have HV:=O n;have EG:∀args w,(ow 69 args).run jl w=.ok (.enter 69 args) w:=λ_ _=>rfl
 have a6:∀args w,(ow 70 args).run jl w=.ok (.enter 70 args) w:=λ_ _=>rfl
 have l:=jw w (je #[T A 0,T A 0] 32);have q:=ao w (je #[T A 0,T A 0] 32);obtain⟨p,s⟩:=J (w.alloc (je #[T A 0,T A 0] 32));obtain⟨d,t⟩:=J w.heap.size;rw[<-s]at l q;rw[<-t]at l;have C:=O l;have f:=O q;have Vq:=O s;have B:=O t;clear a c h j o u y m n z l q s t
 go_enter func51,ntmps51
 go_wp2_with fail
 rw[<-Vq,<-B];refine(HV _).mono ?_;rintro e w1 ⟨rfl,rfl⟩
 go_wp2_with fail
 have l:=AE ⟨#[110,111,110,99,101]⟩ G msg (jg W ml X) U [x] _ ar (by
  intro z s;simp only[jT,qL,or_false]at s;rw[s];omega) (p.alloc (je #[T A (x:jb)] 3)) ((D.below f).below (ao p _)) (oe p (x:jb)) ((V.below f).below (ao p _))
 rw[ay]at l;refine l.mono ?_;clear l;rintro e w2 ⟨rfl,a⟩;replace a:=(ao p (je #[T A (x:jb)] 3)).trans (a.mono (ao p _).size);have t:=ae C a;have m:=ai f a;clear a C f
 go_wp2_with fail
 refine(wn g S w2).mono ?_;rintro e w3 ⟨rfl,a⟩;rw[a2];have u:=ae t a;have C:=ai m a;clear a t m;obtain⟨⟨u3,E⟩,F,n,j⟩:=ko (i:=0) (T A (b:jb)) u G;obtain⟨H,c⟩:=J (w3.setCell ⟨d,0,jc⟩ (T A (b:jb)));have a4:=O c;rw[<-c]at n j;have q:jf (H.heap[d]?=ja (je #[T A (b:jb),T A 0] 32 (0,0))):=O n;have y:=O (C.trans (j.below (by rw[B];exact ju _)));have ba:=O j;have K:=ah (i:=0) q I;clear n c j u
 go_upto_region 7 with fail
 rw[<-a4];clear E F;refine pz ?_;refine dm (λc=>c.cell? ⟨d,0,jc⟩=ja (T A (b:jb))) (.take 0 (.take 1 (.take 2 (.take 3 (.take 7 (.one 4 (.one 5 (.one 6 (.one 8 (.take 9 (.take 10 (.take 11 (.take 12 (.take 13 .done)))))))))))))) af af af G (λ_ _ _ _ h=>h) K ?_;obtain⟨y0,h⟩:=J H.drew;have a:=bX H;rw[<-h]at a⊢;have M:=O (aB K a);have UP:=ae q a;have f:=ai y a;clear a h K q y;iterate 2 refine aP ?_
 (refine aV (v:=?_) I aj (λc h=>?_) ?_;rotate_left;(have h:=h;go_simp;with_reducible rfl);refine L ?_)
 iterate 2 refine aP ?_
 refine aE I (λh c=>?_);go_simp;refine(GQ x P Q y0).mono ?_;rintro e y1 ⟨rfl,a⟩;have K:=O (aB M a);have UG:=ae UP a;have Uf:=ai f a;clear a M UP f;refine c _ _ K.out λ_=>?_
 clear c;refine L ?_;refine aE I (λh c=>?_);go_simp;have a:=ao y1 (je #[T A (b:jb),T A (aX 4 x:jb)] 3);have f:=mp y1 (b:jb) (aX 4 x:jb);obtain⟨y2,aa⟩:=J (y1.alloc (je #[T A (b:jb),T A (aX 4 x:jb)] 3));obtain⟨gi,ac⟩:=J y1.heap.size;rw[<-aa]at a f⊢;rw[<-ac]at f⊢;have M:=O (aB K a);have t:=ae UG a;have m:=ai Uf a;have ad:=O f;clear a K UG Uf aa ac f;refine c _ _ M.out λ_=>?_
 clear c;refine L ?_;refine aE I (λh c=>?_);go_simp;have l:=AE ⟨#[115,105,103,110]⟩ G msg (jg W ml X) U [b,aX 4 x] _ ar (by
  intro z s;simp only[jT,qL,or_false]at s
  rcases s with rfl|rfl
  ·have:=ZZ.out;omega
  have:=vU 4 x;omega) y2 (D.below m) ad (V.below m)
 rw[ax]at l;refine l.mono ?_;clear l;rintro e s ⟨rfl,a⟩;have f:=O (aB M a);have u:=ae t a;have C:=ai m a;clear a M t m ad;refine c _ _ f.out λ_=>?_
 clear c;refine L ?_;refine aE I (λh c=>?_);go_simp;have h:=IU r x s au a3;rw[a1]at h;refine h.mono ?_;clear h;rintro e t ⟨rfl,a⟩;have l:=O (aB f a);have q:=ae u a;have y:=ai C a;clear a f u C;refine c _ _ l.out λ_=>?_
 clear c;refine L ?_;iterate 5 refine aP ?_
 refine jV ?_
 go_wp2_with fail
 have h:=Ky (g:jb) (k:jb) t ⟨by omega,by have:=S.out;omega⟩ ⟨by omega,by have:=ZY.out;omega⟩;rw[show((g:N)+(k:N))%2305843009213688669=(((g+k)%QN:jb):N)from by unfold QN;omega]at h;obtain⟨f,o⟩:=J ((g+k)%QN);rw[<-o]at h;refine h.mono ?_;clear h;rintro e u ⟨rfl,a⟩;have m:=ae q a;have K:=ai y a;have M:=O o;clear a q y l o;obtain⟨⟨u3,E⟩,F,n,j⟩:=ko (i:=1) (T A (f:jb)) m ar;obtain⟨a,h⟩:=J (u.setCell ⟨d,1,jc⟩ (T A (f:jb)));have o:=O h;rw[<-h]at n j;have l:jf (a.heap[d]?=ja (je #[T A (b:jb),T A (f:jb)] 32 (0,0))):=O n;have q:=O (K.trans (j.below (by rw[B];exact ju _)));clear n h j m
 go_upto_region 9 with fail
 rw[<-o];clear E F;refine o8 ?_;refine qh I 32 _ I d I 32 #[T A (b:jb),T A (f:jb)] (0,0) _ l.out underlying32 I I ?_;refine j3 I λ_ h=>?_
 go_simp;refine h _ _ ?_;clear h;refine j3 I λ_ c=>j4 32 _ _ I d #[T A (b:jb),T A (f:jb)] I I 32 _ l.out I I (by simp[n0]) (c _ _ ?_)
 have h:(a.setRow d #[T A (b:jb),T A (f:jb)]).heap[d]?=ja (je #[T A (b:jb),T A (f:jb)] 32 (0,0)):=jQ _ _ _ _ _ _ l.out;have j:jk w w (a.setRow d #[T A (b:jb),T A (f:jb)]):=jZ q.out (by rw[B];exact ju _) _;generalize a.setRow d #[T A (b:jb),T A (f:jb)]=z at h j⊢;have m:=O h;have n:=O j;clear h j c
 go_wp2_with fail
 refine bodyPost_ret_by (fO I _ _ d 32 #[T A (b:jb),T A (f:jb)] (0,0) _ I m underlying32 I I) I ⟨by rw[M];rfl,n⟩
section
open Go Go.RowKit
theorem AY{α β:Type}{f:α->jO β}{g:α->β}:∀(l:jd α),(∀i∈l,f i=ja (g i))->l.mapM f=ja (l.map g)
 |[],_=>by simp
 |a::l,h=>by
  rw[List.mapM_cons,h a ar,AY l (λi b=>h i (by simp[b]))]
  rfl
theorem IG{u F:jI}{k:IntKind}(f:P.underlying u=ja (.array b F))(he:P.underlying F=ja (.int k))(h:P.cellsOf u=b)(j:P.cellsOf F=1)(n:jd N)(d:n.length=b)(m:∀c∈n,(Lit.int k c).wf=jm):
 P.keyLits 2 u (n.map (jn k))=ja (n.map (Lit.int k)):=by
 have o:∀i∈qG b,P.keyLits 1 F (((n.map (jn k)).drop (i*1)).take 1)=ja [Lit.int k (n.getD i 0)]:=λi c=>by
  have a:i<n.length:=by rw[d];exact r4.1 c
  have l:((n.map (jn k)).drop (i*1)).take 1=[jn k n[i]]:=by
   rw[Nat.mul_one,<-List.map_drop,<-List.map_take,xU a,List.take_succ_cons,xQ,qI,List.map_nil]
  have p:n.getD i 0=n[i]:=by simp[jP,a]
  rw[l,p];unfold Program.keyLits;rw[he];simp[m _ (qJ a)]
 unfold Program.keyLits;rw[f];simp only[jC,d,h,j,if_true];rw[AY (g:=λi=>[Lit.int k (n.getD i 0)]) _ o];simp only[xf,Option.some.injEq];have p:∀(l:jd jb),(l.map λi=>[Lit.int k (n.getD i 0)]).flatten=l.map λi=>Lit.int k (n.getD i 0):=λl=>by
  induction l with
  |nil=>rfl
  |cons a l q=>rw[qI,xT,q];rfl
 rw[p]
 apply List.ext_getElem?
 intro i;rw[j8,j8]
 by_cases c:i<b
 ·rw[List.getElem?_range c,ms Y]
  have:i<n.length:=Y;simp[jP,this]
 rw[xV (by simp;omega),xV Y]
 rfl
theorem GZ{t e:jI}{n:jb}{k:IntKind}(d:P.underlying t=ja (.array n e))(he:P.underlying e=ja (.int k))(f:P.cellsOf t=n)(g:P.cellsOf e=1)(o:P.keyTypeAt 2 t=jm)(xs ys:jd N)(i:xs.length=n)(j:ys.length=n)
 (p:∀c∈xs,(Lit.int k c).wf=jm) (q:∀c∈ys,(Lit.int k c).wf=jm) (w:jh):
 (Op.equalIn 10000 t (.agg (xs.map (jn k)).toArray) (.agg (ys.map (jn k)).toArray)).run P w=.ok (decide (xs=ys)) w:=by
 have m:∀l:jd N,l.length=n->(xg (l.map (jn k)).toArray).formed P t=jm:=λl s=>by
  unfold Value.formed;rw[d];simp[f,s]
 obtain⟨r,u,c⟩:=run_equalIn_deep 9998 2 t o w 2 2 (.agg (xs.map (jn k)).toArray) (.agg (ys.map (jn k)).toArray) _ _ (m xs i) (m ys j) (by show P.keyLits 2 t (xs.map (jn k)).toArray.toList=_;rw[xW];exact IG d he f g xs i p) (by show P.keyLits 2 t (ys.map (jn k)).toArray.toList=_;rw[xW];exact IG d he f g ys j q);rw[u]
 congr 1
 have v:xs.map (Lit.int k)=ys.map (Lit.int k)↔xs=ys:=by
  constructor
  ·intro h
   exact(xX (λa b h=>by injection h)).1 h
  intro h;rw[h]
 rw[v]at c
 by_cases h:xs=ys
 ·rw[c.2 h];simp[h]
 have:r=ji:=by cases r with
  |false=>rfl
  |true=>exact jB (c.1 I) h
 rw[this];simp[h]
end
def mw(p r s:N)(msg:LBy):Prop:=bJ p/\bJ r/\InQ s/\aX 4 s.toNat=r.toNat*aX p.toNat (rF r.toNat p.toNat msg)%PN
theorem RA(a b:jb):(((a:N)==(b:N))=jm↔a=b):=by rw[beq_iff_eq];omega
theorem Gc(n:N):cS n=0\/cS n=40:=by
 by_cases h:bJ n
 ·exact .inl (gD h)
 exact .inr (kZ h)
theorem NJ(n:N):lO n=0\/lO n=1:=by unfold lO;split<;>simp
theorem eq3(a b c:N)(f:a=0\/a=40)(g:b=0\/b=40)(i:c=0\/c=1)(z:jh):
 (Op.equalIn 10000 217 (jo #[T A a,T A b,T A c]) (jo #[T A 0,T A 0,T A 0])).run jl z=.ok (decide (a=0/\b=0/\c=0)) z:=by
 have h:=GZ (P:=jl) (t:=217) (e:=84) (n:=3) (k:=.i64) xA underlying84 af af af [a,b,c] [0,0,0] I I (by
  intro x d;simp only[jT,qL,or_false]at d;exact WalkArith.wf_i64 Y) G z
 simpa using h
theorem Hq{p r s:N}{msg:LBy}{a b c:N}(d:a=cS p)(f:b=cS r)(i:c=lO s):(a=0/\b=0/\c=0)↔(bJ p/\bJ r/\InQ s):=by
 have e:∀n,cS n=0↔bJ n:=λn=>⟨λh=>by
  by_cases g:bJ n
  ·exact g
  rw[kZ g]at h;exact jB h G,gD⟩
 have q:lO s=0↔InQ s:=by unfold lO;split<;>simp_all
 rw[d,f,i,e,e,q]
theorem QY{b:jD j0}{c:Exit->Act->jh->Prop}{t:bE}{E:Act}(r:bE){F:jb->Act}{d:jb->jh->Prop}(e:∀x w,d x w->eD P b c S r (F x) w)(h:(∀x w,d x w->eD P b c S r (F x) w)->eD P b c S t E w):eD P b c S t E w:=h e
theorem NP(p r u:N)(msg:LBy)(vm:jj)(k:msg.length<=100000)(w:jh)(hm:bD w vm msg)(l:bP w):
 jq jl 59 #[T A p,vm,jo #[T A r,T A u]] w λe w'=>∃b,e=jp (.bool b)/\jf (b=jm↔mw p r u msg)/\jk w w w':=by
 obtain⟨m,a⟩:=J (cS p);obtain⟨n,c⟩:=J (cS r);obtain⟨o,f⟩:=J (lO u);have KA:=gA p;have KB:=gA r;have W:=N4 u;rw[<-a]at KA;rw[<-c]at KB;rw[<-f]at W;have aa:=O a;have ac:=O c;have ad:=O f;have HM:=O hm;have YL:=O k;have HT:=O l;obtain⟨pm,cm,rfl,WI,-,-⟩:=hm;obtain⟨ml,q⟩:=J msg.length;rw[<-q]at HM WI⊢;have d:=jw w (je #[T A r,T A u] 32);have g:=ao w (je #[T A r,T A u] 32);obtain⟨W1,h⟩:=J (w.alloc (je #[T A r,T A u] 32));obtain⟨F,x⟩:=J w.heap.size;rw[<-h]at d g;rw[<-x]at d;have j:=O d;have X:=O g;have Vq:=O h;have HG:=O x;clear a c f k l q d g h x
 go_enter func59,ntmps59
 have au:=O (eq3 m n o (by rw[aa];exact Gc p) (by rw[ac];exact Gc r) (by rw[ad];exact NJ u))
 go_upto_region 1 with fail
 rw[<-Vq,<-HG];refine pz ?_;refine dm (λf=>f.heap[F]?=ja (je #[T A r,T A u] 32 (0,0))) (.take 0 (.take 2 (.take 3 (.take 5 (.take 6 (.two 1 9 (.two 4 9 (.two 7 9 (.take 8 (.one 9 (.one 10 .done))) (.one 7 (.take 8 (.one 10 .done)))) (.one 4 (.one 7 (.take 8 (.one 10 .done))))) (.one 1 (.one 4 (.one 7 (.take 8 (.one 10 .done))))))))))) af af af G (λ_ _ _ _ h=>h) j ?_;obtain⟨V,c⟩:=J W1.drew;have a:=bX W1;rw[<-c]at a⊢;have UK:=ae j a;have X:=ai X a;clear a c j;iterate 2 refine aP ?_
 (refine aV (v:=?_) I aj (λf c=>?_) ?_;rotate_left;(have c0:=ah (i:=0) c I;have c1:=ah (i:=1) c I;go_simp;with_reducible rfl);refine L ?_)
 refine aP ?_
 (refine aV (v:=?_) I aj (λf c=>?_) ?_;rotate_left;(have c0:=ah (i:=0) c I;have c1:=ah (i:=1) c I;go_simp;with_reducible rfl);refine L ?_)
 apply QY (.one 10 .done)
 rotate_left
 ·intro R
  refine iW ?_ ?_
  ·refine aE I (λl c=>?_)
   go_simp;refine(KA V).mono ?_;rintro e x1 ⟨rfl,a⟩;have S:=ai X a;have H:=ae UK a;clear a;refine c _ _ H.out λ_=>?_
   clear c;refine L ?_;refine iW ?_ ?_
   ·refine aE I (λl c=>?_)
    go_simp;refine(KB x1).mono ?_;rintro e x2 ⟨rfl,a⟩;have y:=ai S a;have j:=ae H a;clear S H;clear a;refine c _ _ j.out λ_=>?_
    clear c;refine L ?_;refine iW ?_ ?_
    ·refine aE I (λl c=>?_)
     go_simp;refine(W x2).mono ?_;rintro e q ⟨rfl,a⟩;have s:=ai y a;have f:=ae j a;clear y j;clear a;refine c _ _ f.out λ_=>?_
     clear c;refine L ?_;refine aP ?_;refine aE I (λl c=>?_);go_simp;have a:=ao q (je #[T A 0,T A 0,T A 0] 217);have d:=jw q (je #[T A 0,T A 0,T A 0] 217);obtain⟨t,z⟩:=J (q.alloc (je #[T A 0,T A 0,T A 0] 217));have B:F<q.heap.size:=(jG.1 f).1;have C:w.heap.size<=q.heap.size:=s.size;rw[<-z]at a d⊢;obtain⟨D,g⟩:=J q.heap.size;rw[<-g]at d⊢;have E:=O g;clear g;have P:=ai s a;have k:=ae f a;clear s f;have K:=O d;have M:jf (F<D):=O (by rw[E];exact B);have Q:jf (w.heap.size<=D):=O (by rw[E];exact C);clear B C;clear d z a;refine c _ _ k.out λ_=>?_
     clear c;refine L ?_;have x:=(And.intro P (And.intro k (And.intro K (And.intro M Q))));exact R D t x
    refine aE I (λl c=>?_);go_simp;have a:=ao x2 (je #[T A 0,T A 0,T A 0] 217);have d:=jw x2 (je #[T A 0,T A 0,T A 0] 217);obtain⟨q,z⟩:=J (x2.alloc (je #[T A 0,T A 0,T A 0] 217));have B:F<x2.heap.size:=(jG.1 j).1;have C:w.heap.size<=x2.heap.size:=y.size;rw[<-z]at a d⊢;obtain⟨D,g⟩:=J x2.heap.size;rw[<-g]at d⊢;have E:=O g;clear g;have s:=ai y a;have f:=ae j a;clear y j;have U:=O d;have M:jf (F<D):=O (by rw[E];exact B);have Q:jf (w.heap.size<=D):=O (by rw[E];exact C);clear B C;clear d z a;refine c _ _ f.out λ_=>?_
    clear c;refine L ?_;refine aE I (λl c=>?_);go_simp;refine(W q).mono ?_;rintro e t ⟨rfl,a⟩;have P:=ai s a;have k:=ae f a;have K:=ae U a;clear s f U;clear a;refine c _ _ k.out λ_=>?_
    clear c;refine L ?_;refine aP ?_;have x:=(And.intro P (And.intro k (And.intro K (And.intro M Q))));exact R D t x
   refine aE I (λl c=>?_);go_simp;have a:=ao x1 (je #[T A 0,T A 0,T A 0] 217);have d:=jw x1 (je #[T A 0,T A 0,T A 0] 217);obtain⟨x2,z⟩:=J (x1.alloc (je #[T A 0,T A 0,T A 0] 217));have B:F<x1.heap.size:=(jG.1 H).1;have C:w.heap.size<=x1.heap.size:=S.size;rw[<-z]at a d⊢;obtain⟨D,g⟩:=J x1.heap.size;rw[<-g]at d⊢;have E:=O g;clear g;have y:=ai S a;have j:=ae H a;clear S H;have Yh:=O d;have M:jf (F<D):=O (by rw[E];exact B);have Q:jf (w.heap.size<=D):=O (by rw[E];exact C);clear B C;clear d z a;refine c _ _ j.out λ_=>?_
   clear c;refine L ?_;refine aE I (λl c=>?_);go_simp;refine(KB x2).mono ?_;rintro e q ⟨rfl,a⟩;have s:=ai y a;have f:=ae j a;have U:=ae Yh a;clear y j Yh;clear a;refine c _ _ f.out λ_=>?_
   clear c;refine L ?_;refine aE I (λl c=>?_);go_simp;refine(W q).mono ?_;rintro e t ⟨rfl,a⟩;have P:=ai s a;have k:=ae f a;have K:=ae U a;clear s f U;clear a;refine c _ _ k.out λ_=>?_
   clear c;refine L ?_;refine aP ?_;have x:=(And.intro P (And.intro k (And.intro K (And.intro M Q))));exact R D t x
  refine aE I (λl c=>?_);go_simp;have a:=ao V (je #[T A 0,T A 0,T A 0] 217);have d:=jw V (je #[T A 0,T A 0,T A 0] 217);obtain⟨x1,z⟩:=J (V.alloc (je #[T A 0,T A 0,T A 0] 217));have B:F<V.heap.size:=(jG.1 UK).1;have C:w.heap.size<=V.heap.size:=X.size;rw[<-z]at a d⊢;obtain⟨D,g⟩:=J V.heap.size;rw[<-g]at d⊢;have E:=O g;clear g;have S:=ai X a;have H:=ae UK a;have g:=O d;have M:jf (F<D):=O (by rw[E];exact B);have Q:jf (w.heap.size<=D):=O (by rw[E];exact C);clear B C;clear d z a;refine c _ _ H.out λ_=>?_
  clear c;refine L ?_;refine aE I (λl c=>?_);go_simp;refine(KA x1).mono ?_;rintro e x2 ⟨rfl,a⟩;have y:=ai S a;have j:=ae H a;have Yh:=ae g a;clear S H g;clear a;refine c _ _ j.out λ_=>?_
  clear c;refine L ?_;refine aE I (λl c=>?_);go_simp;refine(KB x2).mono ?_;rintro e q ⟨rfl,a⟩;have s:=ai y a;have f:=ae j a;have U:=ae Yh a;clear y j Yh;clear a;refine c _ _ f.out λ_=>?_
  clear c;refine L ?_;refine aE I (λl c=>?_);go_simp;refine(W q).mono ?_;rintro e t ⟨rfl,a⟩;have P:=ai s a;have k:=ae f a;have K:=ae U a;clear s f U;clear a;refine c _ _ k.out λ_=>?_
  clear c;refine L ?_;refine aP ?_;have x:=(And.intro P (And.intro k (And.intro K (And.intro M Q))));exact R D t x
 clear X UK;rintro D t ⟨P,k,K,M,Q⟩;refine aE I (λl c=>?_);rw[jt aj];refine j4 217 _ _ I D #[T A m,T A n,T A o] I I 217 _ K.out af aj (by simp[n0]) (c _ _ ((jY _ _ _ _ (xh M)).trans k) λ_=>?_);clear c;have c:(t.setRow D #[T A m,T A n,T A o]).heap[D]?=ja (je #[T A m,T A n,T A o] 217 (0,0)):=jQ _ _ _ _ _ _ K.out;have f:(t.setRow D #[T A m,T A n,T A o]).heap[F]?=ja (je #[T A r,T A u] 32 (0,0)):=(jY _ _ _ _ (xh M)).trans k;have g:jk w w (t.setRow D #[T A m,T A n,T A o]):=jZ P Q _;generalize t.setRow D #[T A m,T A n,T A o]=z at c f g⊢;have C:=O c;have E:=O f;have H:=O g;clear c f g;refine L ?_;refine jV ?_;have eq3:=au.out;clear au KA KB W
 by_cases g:m=0/\n=0/\o=0
 ·have hd:decide (m=0/\n=0/\o=0)=jm:=jR g
  obtain⟨l,q,s⟩:=(Hq (msg:=msg) aa ac ad).1 g;clear g
  go_upto_region 2 with fail
  refine o8 ?_;refine qh I 217 _ I D I 217 #[T A m,T A n,T A o] (0,0) _ C.out xA I af ?_;clear C;obtain⟨c,rfl⟩:=qc (show 0<=p by have:=l.1;omega);obtain⟨f,rfl⟩:=qc (show 0<=r by have:=q.1;omega);obtain⟨y,rfl⟩:=qc s.1;have S:y<2305843009213688669:=by have:=s.2;omega
  have U:f<9223372036854775808:=by have:=q.2.1;omega
  have W:c<9223372036854775808:=by have:=l.2.1;omega
  have HP:=O l;have HR:=O q;have au:=O S;have ax:=O U;have ay:=O W;obtain⟨j,B⟩:=J (rF f c msg);have a1:jf (nX (bZ ⟨#[115,105,103,110]⟩) msg [f,c]=j):=O B.symm;have a2:jf (j<2305843009213688669):=O (by rw[B];exact wV _ _ _);have Zu:jf (∀b:jF,(b=jm↔aX 4 y=f*aX c j%PN)->(b=jm↔mw (c:jb) (f:jb) (y:jb) msg)):=O (λb h=>by
   rw[h];unfold mw;simp only[Int.toNat_natCast,<-B];exact⟨λh=>⟨l,q,s,h⟩,λh=>h.2.2.2⟩)
  clear l q s S U W B;have c1:=ah (i:=1) E I
  go_wp2_with fail
  refine(wn y au z).mono ?_;rintro e l ⟨rfl,a⟩;have B:=ae E a;have s:=ai H a;clear c1 a E H;have c0:=ah (i:=0) B I
  go_wp2_with fail
  have R:=AE ⟨#[115,105,103,110]⟩ G msg (jg pm ml cm) YL [f,c] _ ar (by
   intro q S;simp only[jT,qL,or_false]at S
   rcases S with rfl|rfl
   ·exact ax
   exact ay) (l.alloc (je #[T A (f:jb),T A (c:jb)] 3)) ((HM.below s).below (ao l _)) (mp l (f:jb) (c:jb)) ((HT.below s).below (ao l _))
  rw[a1]at R;refine R.mono ?_;clear R;rintro e U ⟨rfl,a⟩;replace a:=(ao l (je #[T A (f:jb),T A (c:jb)] 3)).trans (a.mono (ao l _).size);have q:=ae B a;have S:=ai s a;clear c0 a B s
  go_wp2_with fail
  refine(AR c j HP a2 U).mono ?_;rintro e W ⟨rfl,a⟩;have s:=ae q a;have B:=ai S a;clear a q S;have c0:=ah (i:=0) s I
  go_wp2_with fail
  refine(OX f (aX c j) HR (o6 HP j) W).mono ?_;rintro e S ⟨rfl,a⟩;have q:=ai B a;clear a s B c0
  go_wp2_with fail
  go_ret;exact⟨_,I,O (Zu _ (RA _ _)),q⟩
 have hd:decide (m=0/\n=0/\o=0)=ji:=decide_eq_false g;have c:jf (¬mw p r u msg):=O (λh=>g ((Hq (msg:=msg) aa ac ad).2 ⟨h.1,h.2.1,h.2.2.1⟩));clear g
 go_upto_region 2 with fail
 refine o8 ?_;refine qh I 217 _ I D I 217 #[T A m,T A n,T A o] (0,0) _ C.out xA I af ?_
 go_wp2_with fail
 go_ret;exact⟨ji,I,O ⟨λh=>jB h G,λh=>jB h c⟩,H⟩
structure D7(F:jb)(x:jb)(b:jb):Prop where
 enter:∀args w,(ow F args).run jl w=.ok (.enter F args) w
 call:∀(a:jb) (w:jh),bJ a->jA w b 3 (T A (x:jb))->jq jl F #[T A a,jz (ja ⟨b,0,jc⟩)] w λe w'=>e=jp (jE #[T A (aX a x:jb),T A 0])/\jk w w w'
theorem R3(x f:jb)(b:x<2305843009213688669):D7 99 x f:=by
 refine⟨λ_ _=>rfl,λa w c d=>?_⟩;have g:=O (AR a x c b);have h:=d.cell;clear c b d
 go_enter func99,ntmps99
 go_wp2_with fail
 refine(g _).mono ?_;rintro e d ⟨rfl,b⟩;have c:=O b;clear b
 go_wp2_with fail
 go_ret2;exact⟨I,c⟩
def nW(p a v:jb):LBy:=dl (bZ ⟨#[119,114,97,112]⟩) (dD [p,a,v])
theorem zx(p u v):(nW p u v).length=32:=iN _ _
theorem zi(l:LBy)(m:jb)(b:BitVec 8):((l++jW (m+1) 0#8).set l.length b)=(l++[b])++jW m 0#8:=by
 rw[List.set_append_right _ _ (ju _),Nat.sub_self,List.replicate_succ,List.set_cons_zero,nn]
 rfl
theorem OL{W:jh}{D:jb}{l:LBy}{n:jb}{t:jI}(h:W.heap[D]?=ja (je (l.map v8).toArray t (0,0)))(a:l.length=n):bD W (jg (ja ⟨D,0,jc⟩) n n) l:=by
 refine⟨_,n,by rw[a],by rw[a];exact ju _,(λh=>by cases h),λ_=>⟨D,0,I,λj b=>ah h ?_⟩⟩;rw[jM];simp[jP,b]
theorem K5(F x M:jb)(l:D7 F x M)(p a e:jb)(t:p<9223372036854775808)(r:a<9223372036854775808)(he:bJ e)(w:jh)(c:jA w M 3 (T A (x:jb)))(u:bP w):
 jq jl 102 #[jo #[T A p,.func (.func F) #[] #[jz (ja ⟨M,0,jc⟩)]],T A a,T A e] w λe' w'=>e'=jp (jo ((nW p a (aX e x)).map v8).toArray)/\jk w w w':=by
 obtain⟨aa,y,z⟩:=Arr.mk' (zx p a (aX e x));rw[<-y];have S:=O z;have ad:=O u;have K:=l.enter;have B:=O l.call;have HE:=O he;have hv:=vU e x;obtain⟨v,m⟩:=J (aX e x);rw[<-m]at hv;have Zu:=O m;have HP:=O t;have HU:=O r;have HV:jf (v<9223372036854775808):=O Y;have f:=jw w (je #[T A p,.func (.func F) #[] #[jz (ja ⟨M,0,jc⟩)]] 188);have b:=ao w (je #[T A p,.func (.func F) #[] #[jz (ja ⟨M,0,jc⟩)]] 188);obtain⟨W0,g⟩:=J (w.alloc (je #[T A p,.func (.func F) #[] #[jz (ja ⟨M,0,jc⟩)]] 188));rw[<-g]at f b;have h:=jw W0 (je a8 27);have d:=ao W0 (je a8 27);obtain⟨W1,o⟩:=J (W0.alloc (je a8 27));obtain⟨q,j⟩:=J w.heap.size;rw[<-o]at h d;have C:W0.heap.size=q+1:=by rw[g,j];simp
 rw[C]at h;rw[<-j]at f;have k:=ae f d;have D:=O h;have E:=O (b.trans (d.mono b.size));have H:jf (jA W1 M 3 (T A (x:jb))):=O (((b.trans (d.mono b.size)).block _ c.lt).trans c);have U:=O j;have bc:=O g;have Vq:=O o;have s:=ah (i:=0) k I;have P:=ah (i:=1) k I;clear y z u l he m t r f b g h d o C j c
 go_enter func102,ntmps102
 go_upto_region 1 with fail
 rw[<-bc,<-Vq,<-U]
 go_wp2_with fail
 refine(B e W1 HE H).mono ?_;rintro e2 z1 ⟨rfl,b⟩;rw[<-Zu];have j:=ae k b;have g:=ae D b;have l:=ai E b;clear b s P k D E H B K;have d:=jw z1 (je #[jn jr 0,jn jr 0,jn jr 0,jn jr 0,jn jr 0,jn jr 0,jn jr 0,jn jr 0,jn jr 0,jn jr 0,jn jr 0,jn jr 0,jn jr 0,jn jr 0,jn jr 0,jn jr 0,jn jr 0,jn jr 0,jn jr 0,jn jr 0,jn jr 0,jn jr 0,jn jr 0,jn jr 0] 252);have b:=ao z1 (je #[jn jr 0,jn jr 0,jn jr 0,jn jr 0,jn jr 0,jn jr 0,jn jr 0,jn jr 0,jn jr 0,jn jr 0,jn jr 0,jn jr 0,jn jr 0,jn jr 0,jn jr 0,jn jr 0,jn jr 0,jn jr 0,jn jr 0,jn jr 0,jn jr 0,jn jr 0,jn jr 0,jn jr 0] 252);obtain⟨W2,h⟩:=J (z1.alloc (je #[jn jr 0,jn jr 0,jn jr 0,jn jr 0,jn jr 0,jn jr 0,jn jr 0,jn jr 0,jn jr 0,jn jr 0,jn jr 0,jn jr 0,jn jr 0,jn jr 0,jn jr 0,jn jr 0,jn jr 0,jn jr 0,jn jr 0,jn jr 0,jn jr 0,jn jr 0,jn jr 0,jn jr 0] 252));obtain⟨D,f⟩:=J z1.heap.size;rw[<-h]at d b;rw[<-f]at d;have Yn:jf (W2.heap[D]?=ja (je (([]++jW 24 0#8).map v8).toArray 252 (0,0))):=O d;have UF:=ae g b;have Uj:=ai l b;have Q:jf (q+1<D):=O (by rw[f];exact(jG.1 g).1);have s:=ah (i:=0) (av j b) I;have bd:=O h;have HD:=O f;clear d b h f j g l
 go_upto_region 3 with fail
 rw[<-bd,<-HD]
 go_wp2_with fail
 have au:∀W:jh,(Instr.index 253 (jo #[T A p,T A a,T A v]) (T A 0)).run jl W=.ok (T A p) W:=λW=>by
  have r:=xB;unfold Instr.index;simp[asIntOf,vi r,part]
 have ax:∀W:jh,(Instr.index 253 (jo #[T A p,T A a,T A v]) (T A 1)).run jl W=.ok (T A a) W:=λW=>by
  have r:=xB;unfold Instr.index;simp[asIntOf,vi r,part]
 have ay:∀W:jh,(Instr.index 253 (jo #[T A p,T A a,T A v]) (T A 2)).run jl W=.ok (T A v) W:=λW=>by
  have r:=xB;unfold Instr.index;simp[asIntOf,vi r,part]
 clear s
 go_loopw [25] (λb wr=>∃i:jb,b=T A i/\i<=3/\jf (wr.heap[D]?=ja (je ((dD ([p,a,v].take i)++jW (24-8*i) 0#8).map v8).toArray 252 (0,0)))/\jf (wr.heap[q+1]?=ja (je a8 27 (0,0)))/\jf (jk w w wr)) (λb _=>(3-jv b).toNat)
 case atStart=>exact⟨0,I,by omega,O Yn,UF,Uj⟩
 obtain⟨i,rfl,hi,UZ,ac,R⟩:=hrel
 rcases(show i=0\/i=1\/i=2\/i=3 by omega)with rfl|rfl|rfl|rfl
 ·have a1:=HP.out
  have a2:q9.wrap (p:N)=(p:N):=by rw[rk];omega
  have a3:(0:N)<=(p:N):=Y;have a4:=au
  go_wp2_with fail
  go_loopw [29] (λg wr2=>∃k:jb,g=T A k/\k<=8/\jf (wr2.heap[D]?=ja (je (((dD ([p,a,v].take 0)++beK p k)++jW (24-0-k) 0#8).map v8).toArray 252 (0,0)))/\jf (wr2.heap[q+1]?=ja (je a8 27 (0,0)))/\jf (jk w w wr2)) (λg _=>(8-jv g).toNat)
  case atStart=>exact⟨0,I,by omega,O (by rw[beK,nv];exact UZ),ac,R⟩
  obtain⟨k,rfl,a5,d,s,t⟩:=hrel
  by_cases ZD:k<8
  ·have V:=az ((k:N)<8)
   obtain⟨m,u⟩:∃m:jb,m=56-8*k:=⟨_,I⟩;have Yx:(56:N)-8*(k:N)=(m:N):=Y;have a6:m<=56:=Y;have hd3:decide ((m:N)<0)=ji:=by simp
   have j:beK p (k+1)=beK p k++[ob 8 (p/2^m)]:=by rw[beK,u]
   obtain⟨b,c⟩:=J (ob 8 (p/2^m));rw[<-c]at j;have ba:jr.wrap ((p:N)/2^m)=(b.toNat:N):=by
    rw[c,rn,rv];have e:(p:N)/2^m=((p/2^m:jb):N):=by simp
    rw[e];omega
   obtain⟨P,f⟩:=J (dD ([p,a,v].take 0)++beK p k);have l:P.length=k:=by rw[f,jH,tm,vX];simp
   have y:dD ([p,a,v].take 0)++beK p (k+1)=P++[b]:=by rw[j,<-nn,f]
   rw[<-f]at d;have z:24-0-k=(24-0-(k+1))+1:=Y;rw[z]at d;obtain⟨⟨u3,bb⟩,Zc,B,C⟩:=ko (i:=k) (v8 b) d (by simp[l]);have E:(wr.setCell ⟨D,k,jc⟩ (v8 b)).heap[D]?=ja (je (((P++[b])++jW (24-0-(k+1)) 0#8).map v8).toArray 252 (0,0)):=by
    rw[B,xi,<-xj,<-l,zi]
   have H:=O E;have o:=O C;have X:=O y;clear j c f l y z B E C u;unfold v8 at H o
   go_wp2_with fail
   refine⟨⟨k+1,by go_num,by omega,O (by rw[X];exact H),O ((o.block _ (aI Q)).trans s),O (t.trans (o.below (ee Q U)))⟩,by simp only[jv];omega⟩
  have K:k=8:=Y;have V:=aw ((k:N)<8);have h:=d.out;rw[K,show dD ([p,a,v].take 0)++beK p 8=dD ([p,a,v].take (0+1))from(vy ([p,a,v].take 0) p).symm]at h;have YQ:=O h;clear h K
  go_wp2_with fail
  refine⟨⟨0+1,by go_num,by omega,YQ,s,t⟩,by simp only[jv];omega⟩
 ·have a1:=HU.out
  have a2:q9.wrap (a:N)=(a:N):=by rw[rk];omega
  have a3:(0:N)<=(a:N):=Y;have a4:=ax
  go_wp2_with fail
  go_loopw [29] (λg wr2=>∃k:jb,g=T A k/\k<=8/\jf (wr2.heap[D]?=ja (je (((dD ([p,a,v].take 1)++beK a k)++jW (24-8-k) 0#8).map v8).toArray 252 (0,0)))/\jf (wr2.heap[q+1]?=ja (je a8 27 (0,0)))/\jf (jk w w wr2)) (λg _=>(8-jv g).toNat)
  case atStart=>exact⟨0,I,by omega,O (by rw[beK,nv];exact UZ),ac,R⟩
  obtain⟨k,rfl,a5,d,s,t⟩:=hrel
  by_cases ZD:k<8
  ·have V:=az ((k:N)<8)
   obtain⟨m,u⟩:∃m:jb,m=56-8*k:=⟨_,I⟩;have Yx:(56:N)-8*(k:N)=(m:N):=Y;have a6:m<=56:=Y;have hd3:decide ((m:N)<0)=ji:=by simp
   have j:beK a (k+1)=beK a k++[ob 8 (a/2^m)]:=by rw[beK,u]
   obtain⟨b,c⟩:=J (ob 8 (a/2^m));rw[<-c]at j;have ba:jr.wrap ((a:N)/2^m)=(b.toNat:N):=by
    rw[c,rn,rv];have e:(a:N)/2^m=((a/2^m:jb):N):=by simp
    rw[e];omega
   obtain⟨P,f⟩:=J (dD ([p,a,v].take 1)++beK a k);have l:P.length=8+k:=by rw[f,jH,tm,vX];simp
   have y:dD ([p,a,v].take 1)++beK a (k+1)=P++[b]:=by rw[j,<-nn,f]
   rw[<-f]at d;have z:24-8-k=(24-8-(k+1))+1:=Y;rw[z]at d;obtain⟨⟨u3,bb⟩,Zc,B,C⟩:=ko (i:=8+k) (v8 b) d (by simp[l]);have E:(wr.setCell ⟨D,8+k,jc⟩ (v8 b)).heap[D]?=ja (je (((P++[b])++jW (24-8-(k+1)) 0#8).map v8).toArray 252 (0,0)):=by
    rw[B,xi,<-xj,<-l,zi]
   have H:=O E;have o:=O C;have X:=O y;clear j c f l y z B E C u;unfold v8 at H o
   go_wp2_with fail
   refine⟨⟨k+1,by go_num,by omega,O (by rw[X];exact H),O ((o.block _ (aI Q)).trans s),O (t.trans (o.below (ee Q U)))⟩,by simp only[jv];omega⟩
  have K:k=8:=Y;have V:=aw ((k:N)<8);have h:=d.out;rw[K,show dD ([p,a,v].take 1)++beK a 8=dD ([p,a,v].take (1+1))from(vy ([p,a,v].take 1) a).symm]at h;have YQ:=O h;clear h K
  go_wp2_with fail
  refine⟨⟨1+1,by go_num,by omega,YQ,s,t⟩,by simp only[jv];omega⟩
 ·have a1:=HV.out
  have a2:q9.wrap (v:N)=(v:N):=by rw[rk];omega
  have a3:(0:N)<=(v:N):=Y;have a4:=ay
  go_wp2_with fail
  go_loopw [29] (λg wr2=>∃k:jb,g=T A k/\k<=8/\jf (wr2.heap[D]?=ja (je (((dD ([p,a,v].take 2)++beK v k)++jW (24-16-k) 0#8).map v8).toArray 252 (0,0)))/\jf (wr2.heap[q+1]?=ja (je a8 27 (0,0)))/\jf (jk w w wr2)) (λg _=>(8-jv g).toNat)
  case atStart=>exact⟨0,I,by omega,O (by rw[beK,nv];exact UZ),ac,R⟩
  obtain⟨k,rfl,a5,d,s,t⟩:=hrel
  by_cases ZD:k<8
  ·have V:=az ((k:N)<8)
   obtain⟨m,u⟩:∃m:jb,m=56-8*k:=⟨_,I⟩;have Yx:(56:N)-8*(k:N)=(m:N):=Y;have a6:m<=56:=Y;have hd3:decide ((m:N)<0)=ji:=by simp
   have j:beK v (k+1)=beK v k++[ob 8 (v/2^m)]:=by rw[beK,u]
   obtain⟨b,c⟩:=J (ob 8 (v/2^m));rw[<-c]at j;have ba:jr.wrap ((v:N)/2^m)=(b.toNat:N):=by
    rw[c,rn,rv];have e:(v:N)/2^m=((v/2^m:jb):N):=by simp
    rw[e];omega
   obtain⟨P,f⟩:=J (dD ([p,a,v].take 2)++beK v k);have l:P.length=16+k:=by rw[f,jH,tm,vX];simp
   have y:dD ([p,a,v].take 2)++beK v (k+1)=P++[b]:=by rw[j,<-nn,f]
   rw[<-f]at d;have z:24-16-k=(24-16-(k+1))+1:=Y;rw[z]at d;obtain⟨⟨u3,bb⟩,Zc,B,C⟩:=ko (i:=16+k) (v8 b) d (by simp[l]);have E:(wr.setCell ⟨D,16+k,jc⟩ (v8 b)).heap[D]?=ja (je (((P++[b])++jW (24-16-(k+1)) 0#8).map v8).toArray 252 (0,0)):=by
    rw[B,xi,<-xj,<-l,zi]
   have H:=O E;have o:=O C;have X:=O y;clear j c f l y z B E C u;unfold v8 at H o
   go_wp2_with fail
   refine⟨⟨k+1,by go_num,by omega,O (by rw[X];exact H),O ((o.block _ (aI Q)).trans s),O (t.trans (o.below (ee Q U)))⟩,by simp only[jv];omega⟩
  have K:k=8:=Y;have V:=aw ((k:N)<8);have h:=d.out;rw[K,show dD ([p,a,v].take 2)++beK v 8=dD ([p,a,v].take (2+1))from(vy ([p,a,v].take 2) v).symm]at h;have YQ:=O h;clear h K
  go_wp2_with fail
  refine⟨⟨2+1,by go_num,by omega,YQ,s,t⟩,by simp only[jv];omega⟩
 have b:=tm [p,a,v];have d:=UZ.out;rw[show dD ([p,a,v].take 3)++jW (24-8*3) 0#8=dD [p,a,v]from nv _]at d;have f:=sg ⟨#[119,114,97,112]⟩ G _ (dD [p,a,v]) (by rw[b];simp) wr (OL (n:=24) d (by rw[b];rfl)) (ad.below R).num (ad.below R).start;rw[show((dl (bZ ⟨#[119,114,97,112]⟩) (dD [p,a,v])).map v8).toArray=aa from by rw[Zu];exact S.eq.symm]at f;have g:=O f;clear b d f au ax ay
 go_wp2_with fail
 refine g.mono ?_;rintro e' f ⟨rfl,b⟩;have d:=ae ac b;have h:=ai R b;clear b g
 go_wp2_with (refine j3 I λ_ b=>j4 27 _ _ I (q+1) aa I I 27 _ d.out (by rw[S.sz];rfl) (by rw[S.sz];rfl) S.one (b _ _ ?_))
 have b:(f.setRow (q+1) aa).heap[q+1]?=ja (je aa 27 (0,0)):=jQ _ _ _ _ _ _ d.out;refine qg (results_cell_row I _ _ (q+1) 27 _ (0,0) _ I b qB I (by rw[S.sz];rfl)) I ?_;exact⟨I,jZ h.out (by rw[U];exact Nat.le_succ _) _⟩
def mu(a:N)(n:jb):Prop:=bJ a/\16<=n/\n<=65552
noncomputable def mA(a:N)(n:jb):N:=by classical exact if mu a n then 0 else 90
theorem Fu(h:mu d b):mA d b=0:=by unfold mA;rw[jt h]
theorem uR(h:¬mu d b):mA d b=90:=by unfold mA;rw[jy h]
theorem F5(a:N)(p:jO j6)(n c:jb)(u:n<4611686018427387904)(w:jh):
 jq jl 122 #[jo #[T A a,jg p n c]] w λe w'=>e=jp (T A (mA a n))/\jk w w w':=by
 have j:=jw w (je #[T A a,jg p n c] 103);have l:=ao w (je #[T A a,jg p n c] 103);have k:=O (gA a);obtain⟨d,b⟩:=J (cS a);rw[<-b]at k;have o:jf (d=0->bJ a):=O (λh=>by
  by_cases g:bJ a
  ·exact g
  rw[b,kZ g]at h;exact jB h G)
 have q:jf (d≠0->¬bJ a):=O (λh g=>h (by rw[b,gD g]));have s:=ah (i:=0) j I;have t:=ah (i:=1) j I;have m:=O l;obtain⟨r,g⟩:=J (mA a n);rw[<-g];have f:=O g;clear b g j l
 go_enter func122,ntmps122
 go_wp2_with fail
 refine(k _).mono ?_;rintro e v ⟨rfl,b⟩;have g:=ai m b;clear b k s t m
 by_cases b:d=0
 ·have k:decide (d=0)=jm:=by simp[b]
  have j:=o b;subst b
  by_cases m:n<16
  ·have l:=az ((n:N)<16)
   obtain rfl:r=90:=by rw[f];exact uR (λh=>by have:=h.2.1;omega)
   go_wp2_with fail
   go_ret;exact⟨I,g⟩
  have l:=aw ((n:N)<16)
  by_cases s:65552<n
  ·have hd2:=az ((65552:N)<(n:N))
   obtain rfl:r=90:=by rw[f];exact uR (λh=>by have:=h.2.2;omega)
   go_wp2_with fail
   go_ret;exact⟨I,g⟩
  have hd2:=aw ((65552:N)<(n:N));obtain rfl:r=0:=by rw[f];exact Fu ⟨j,by omega,by omega⟩
  clear j
  go_wp2_with fail
  go_ret;exact⟨I,g⟩
 have k:decide (d=0)=ji:=by simp[b]
 obtain rfl:r=90:=by rw[f];exact uR (λh=>q b h.1)
 have h:(d !=0)=jm:=ak b;have j:=O b;clear b
 go_wp2_with fail
 go_ret;exact⟨I,g⟩
def sj:LBy:=jW 12 0#8
def gh(seed:LBy):jb:=uT seed ⟨#[119,114,97,112]⟩
def gq(a:jb)(seed b body:LBy):LBy:=oL (nW a (aX 4 (gh seed)) (aX a (gh seed))) sj b body
theorem G9(b:jb)(s:bJ b)(seed m body:LBy)(t:seed.length=32)(E:m.length<=70000)(F:body.length<=65536)(H K:jj)(w:jh)(M:bD w H m)(P:bD w K body)(Q:lq w):
 jq jl 46 #[T A b,jo (seed.map v8).toArray,H,K] w λe w'=>∃c,e=jp (jE #[jo #[T A (aX 4 (gh seed):jb),c],T A 0])/\w'.ownsRow w 5 1 c (body.length+16) ((gq b seed m body).map v8)/\jk w w w':=by
 obtain⟨o,u,R⟩:=Arr.mk' t;rw[<-u];have Yj:=O u;have UI:=O R;have ZI:=O t;have n:=O Q;have U:=O s;have v:=O (gA b);rw[gD s]at v;have ac:=O E;have ad:=O F;have V:=O M;have W:=O P;obtain⟨r,x⟩:=J (gh seed);have y:=O x;have X:jf (r<2305843009213688669):=O (by rw[x];exact(zD _ _).2);obtain⟨d,a⟩:=J (aX 4 (gh seed));have aa:=O a;have au:jf (d<4611686018427377339):=O (by rw[a];exact vU _ _);rw[<-a];have f:=jw w (je o 27);have g:=ao w (je o 27);obtain⟨p,h⟩:=J (w.alloc (je o 27));rw[<-h]at f g;have i:=jw p (je #[T A 0,jg jc 0 0] 103);have k:=ao p (je #[T A 0,jg jc 0 0] 103);obtain⟨W1,z⟩:=J (p.alloc (je #[T A 0,jg jc 0 0] 103));obtain⟨j,l⟩:=J w.heap.size;rw[<-z]at i k;have S:p.heap.size=j+1:=by rw[h,l];simp
 rw[S]at i;rw[<-l]at f;have HK:=ae f k;have HR:=O i;have Uf:=O (g.trans (k.mono g.size));have HG:=O l;have ax:=O h;have Vq:=O z;obtain⟨ph,ch,rfl,-,-,-⟩:=M;obtain⟨B,C,rfl,-,-,-⟩:=P;obtain⟨hl,D⟩:=J m.length;obtain⟨bl,q⟩:=J body.length;rw[<-D]at V⊢;rw[<-q]at W;clear u R t Q s E F x a f g h i k z S l;have a3:=O D;have a4:=O q;rw[show(Value.slice B body.length C)=jg B bl C from by rw[q]];clear D q
 go_enter func46,ntmps46
 go_wp2_with fail
 rw[<-ax,<-Vq,<-HG];refine(v W1).mono ?_;rintro e R ⟨rfl,a⟩;have h:=ae HK a;have i:=ae HR a;have f:=ai Uf a;clear a HK HR Uf v
 go_upto_region 3 with fail
 refine o8 ?_;refine qh I 27 _ I j I 27 o (0,0) _ h.out qB I (by rw[UI.sz];rfl) ?_
 go_wp2_with fail
 have g:=GH seed ZI ⟨#[119,114,97,112]⟩ G R (bP.below ⟨n.num,n.start⟩ f);rw[<-Yj,show uT seed ⟨#[119,114,97,112]⟩=r from y.symm]at g;refine g.mono ?_;clear g;rintro e q ⟨rfl,a⟩;have l:=ae i a;have s:=ai f a;clear a h i f
 go_wp2_with fail
 obtain⟨x,h⟩:=J (q.alloc (je #[T A (r:jb)] 3));obtain⟨f,i⟩:=J q.heap.size;have t:jA x f 3 (T A (r:jb)):=by rw[h,i];exact Boxed.new q _ _
 have a:=ao q (je #[T A (r:jb)] 3);rw[<-h]at a⊢;rw[<-i];have u:=ae l a;have v:=ai s a;have k:=O t;clear a h i t l s;have g:=wn r X x;rw[show aX 4 r=d from by rw[y,aa]]at g;refine g.mono ?_;clear g;rintro e i ⟨rfl,a⟩;have z:=ae u a;have D:=ai v a;have h:jf (jA i f 3 (T A (r:jb))):=O ((a.block _ k.lt).trans k);clear a u v k;obtain⟨S,g⟩:=J (#[jn .i64 b,.func (.func 99) #[] #[jz (ja ⟨f,0,jc⟩)]]);have HS:=O g;have k:S.all (·.oneCell')=jm:=by rw[g];simp[n0]
 have l:S.size=2:=by rw[g];rfl
 have a5:=O k;have a6:=O l;clear g k l
 go_upto_region 6 with(refine j3 I λ_ t=>j4 188 _ _ I i.heap.size #[T A b,.func (.func 99) #[] #[jz (ja ⟨f,0,jc⟩)]] I I 188 #[T A 0,.nilFunc] (jw i _) af aj (by simp[n0]) (t _ _ ?_))
 obtain⟨s,g⟩:=J ((i.alloc (je #[T A 0,.nilFunc] 188)).setRow i.heap.size #[T A b,.func (.func 99) #[] #[jz (ja ⟨f,0,jc⟩)]]);obtain⟨E,k⟩:=J i.heap.size;have u:s.heap[E]?=ja (je #[T A b,.func (.func 99) #[] #[jz (ja ⟨f,0,jc⟩)]] 188 (0,0)):=by rw[g,k];exact jQ _ _ _ _ _ _ (jw i _)
 have a:jk i i s:=by rw[g];exact jZ (ao i _) (ju _) _
 rw[<-g,<-k];have v:=ae z a;have l:=ai D a;have F:jf (jA s f 3 (T A (r:jb))):=O ((a.block _ h.lt).trans h);have Q:=O u;clear a g k u z D h;refine o8 ?_;refine qh I 188 _ I E I 188 #[T A b,.func (.func 99) #[] #[jz (ja ⟨f,0,jc⟩)]] (0,0) _ Q.out underlying188 I af ?_
 go_wp2_with fail
 obtain⟨ba,g,k⟩:=Arr.mk' (zx b d (aX b r));have h:=K5 _ r f (R3 r f X) b d b (cT U.2.1) (aI au) U s F (bP.below ⟨n.num,n.start⟩ l);rw[<-g]at h;have D:=O g;refine h.mono ?_;clear h g k;rintro e w7 ⟨rfl,a⟩;have h:=ae v a;have g:=ai l a;clear a v l F Q
 go_wp2_with fail
 have k:=Nc (nW b d (aX b r)) sj m body (jg ph hl ch) (jg B bl C) w7 (zx _ _ _) I ac ad (V.below g) (W.below g) (n.below g);rw[<-D]at k;refine k.mono ?_;clear k;rintro e u ⟨cv,rfl,v,a⟩;have z:=ae h a;have F:=O v;have Q:=O g.size;have ay:=O h;have Wk:=ai g a;obtain⟨k,l,rfl⟩:=cK v;clear a h g v
 go_upto_region 9 with fail
 go_wp2_with (refine j3 I λ_ t=>j4 103 _ _ I (j+1) #[T A d,jg k (body.length+16) l] I I 103 _ z.out af aj (by simp[n0]) (t _ _ ?_))
 have a:(u.setRow (j+1) #[T A d,jg k (body.length+16) l]).heap[j+1]?=ja (je #[T A d,jg k (body.length+16) l] 103 (0,0)):=jQ _ _ _ _ _ _ z.out;have t:jk w w (u.setRow (j+1) #[T A d,jg k (body.length+16) l]):=jZ Wk.out (by rw[HG];exact Nat.le_succ _) _;have v:(u.setRow (j+1) #[T A d,jg k (body.length+16) l]).ownsRow w.heap.size 5 1 (jg k (body.length+16) l) (body.length+16) ((gq b seed m body).map v8):=by
  have h:=F.out;rw[aa,y]at h;refine⟨h.1,?_⟩
  rcases h.2 with hn|⟨g,a1,Um,e,hb,hg,a2⟩
  ·exact .inl hn
  refine .inr ⟨g,a1,Um,e,jL Q hb,(jY _ _ _ _ ?_).trans hg,a2⟩;have:=(jG.1 ay).1;omega
 exact bodyPost_ret_by (fO I _ _ (j+1) 103 #[T A d,jg k (body.length+16) l] (0,0) _ I a underlying103 I af) I ⟨_,I,v,t⟩
def fF(x:N):Prop:=0<=x/\x<512
def iZ(x:N):Prop:=0<=x/\x<16
instance(x:N):Decidable (fF x):=by unfold fF;infer_instance
instance(x:N):Decidable (iZ x):=by unfold iZ;infer_instance
theorem A7(x:N)(w:jh):
 jq jl 121 #[T A x] w λe w'=>e=jp (.bool (decide (fF x)))/\w=w':=by
 obtain⟨r,a⟩:=J (decide (fF x));rw[<-a]
 by_cases b:0<=x
 ·have c:=az (0<=x)
  obtain rfl:r=decide (x<512):=by rw[a];simp[fF,b]
  clear a
  go_enter func121,ntmps121
  go_wp2
  go_ret;exact⟨I,I⟩
 have c:=aw (0<=x);obtain rfl:r=ji:=by rw[a];simp[fF,b]
 clear a
 go_enter func121,ntmps121
 go_wp2
 go_ret;exact⟨I,I⟩
theorem EF(x:N)(w:jh):
 jq jl 115 #[T A x] w λe w'=>e=jp (.bool (decide (iZ x)))/\w=w':=by
 obtain⟨r,a⟩:=J (decide (iZ x));rw[<-a]
 by_cases b:0<=x
 ·have c:=az (0<=x)
  obtain rfl:r=decide (x<16):=by rw[a];simp[iZ,b]
  clear a
  go_enter func115,ntmps115
  go_wp2
  go_ret;exact⟨I,I⟩
 have c:=aw (0<=x);obtain rfl:r=ji:=by rw[a];simp[iZ,b]
 clear a
 go_enter func115,ntmps115
 go_wp2
 go_ret;exact⟨I,I⟩
def cD(x y:N):N:=if x<y then -1 else if y<x then 1 else 0
theorem BV(x:N)(w:jh):
 jq jl 132 #[T A x] w λe w'=>e=jp (.bool ji)/\w=w':=by
 go_enter func132,ntmps132
 go_wp2
 go_ret;exact⟨by simp,I⟩
theorem tJ(x y:N)(w:jh):
 jq jl 68 #[T A x,T A y] w λe w'=>e=jp (T A (cD x y))/\w=w':=by
 have d:=O (BV x);have f:=O (BV y);obtain⟨r,a⟩:=J (cD x y);rw[<-a];have b:=O a;clear a
 go_enter func68,ntmps68
 go_wp2_with fail
 refine(d _).mono ?_;rintro e g ⟨rfl,rfl⟩
 go_wp2_with fail
 refine(f _).mono ?_;rintro e g ⟨rfl,rfl⟩
 by_cases a:x<y
 ·have h:=az (x<y)
  obtain rfl:r= -1:=by rw[b,cD,jt a]
  go_wp2_with fail
  go_ret;exact⟨I,I⟩
 have h:=aw (x<y)
 by_cases c:y<x
 ·have hd2:=az (y<x)
  obtain rfl:r=1:=by rw[b,cD,jy a,jt c]
  go_wp2_with fail
  go_ret;exact⟨I,I⟩
 have hd2:=aw (y<x);obtain rfl:r=0:=by rw[b,cD,jy a,jy c]
 go_wp2_with fail
 go_ret;exact⟨I,I⟩
def aJ.cells(m:aJ):jd jj:=[T A m.dev,T A m.since,T A m.ver]
theorem CU(m:aJ)(d:N)(w:jh):
 jq jl 149 #[jo m.cells.toArray,T A d] w λe w'=>e=jp (T A (cD m.dev d))/\jk w w w':=by
 obtain⟨md,b,c⟩:=m;unfold aJ.cells;have a:=ao w (je #[T A md,T A b,T A c] 82);have f:=O (tJ md d);have g:=O a;clear a
 go_enter func149,ntmps149
 go_wp2_with fail
 refine(f _).mono ?_;rintro e a ⟨rfl,rfl⟩
 go_wp2_with fail
 go_ret;exact⟨I,g⟩
def nV(w:jh)(v:jj)(l:jd aJ):Prop:=aH (λ_=>True) w v 3 l.length (l.flatMap aJ.cells)
def c8:aJ:=⟨0,0,0⟩
theorem nV.below{v:jj}{l:jd aJ}(h:nV w v l)(a:jk w w w'):nV w' v l:=by
 obtain⟨b,p,c,d,f,i,k⟩:=h;refine⟨b,p,c,d,f,i,λm=>?_⟩;obtain⟨g,o,e,-,n⟩:=k m;exact⟨g,o,e,trivial,λj q r=>aB (n j q r) a⟩
def mo(l:jd aJ):Prop:=∀i j,i<j->j<l.length->(l.getD i c8).dev<(l.getD j c8).dev
theorem nV.cells{v:jj}{l:jd aJ}(h:nV w v l):∃p c,v=jg p l.length c/\l.length<=c/\(0<l.length->∃g o,p=ja ⟨g,o,jc⟩/\∀i,i<l.length->w.cell? ⟨g,o+i*3,jc⟩=ja (T A (l.getD i c8).dev)/\w.cell? ⟨g,o+i*3+1,jc⟩=ja (T A (l.getD i c8).since)/\w.cell? ⟨g,o+i*3+2,jc⟩=ja (T A (l.getD i c8).ver)):=by
 obtain⟨s,p,c,d,f,t,j⟩:=h;refine⟨p,c,d,f,λk=>?_⟩;obtain⟨g,o,e,-,a⟩:=j k;refine⟨g,o,e,λi m=>?_⟩;have b:l[i]?=ja (l.getD i c8):=by simp[jP,m]
 have n:=a (i*3+0) _ ((flat_get aJ.cells 3 (λ_=>rfl) l i 0 (l.getD i c8) b G).trans I);have q:=a (i*3+1) _ ((flat_get aJ.cells 3 (λ_=>rfl) l i 1 (l.getD i c8) b G).trans I);have r:=a (i*3+2) _ ((flat_get aJ.cells 3 (λ_=>rfl) l i 2 (l.getD i c8) b G).trans I);exact⟨n,q,r⟩
theorem CE{x y:jj}(b:a=x)(c:m=y):Ending.returned (jE #[a,m])=jp (jE #[x,y]):=by rw[b,c]
theorem fp{l:jd j}(d:j)(h:b<l.length):l.getD b d=l[b]:=by simp[jP,h]
def lV(l:jd aJ)(d:N):jb:=l.countP λm=>decide (m.dev<d)
def cA(l:jd aJ)(d:N):jF:=l.any λm=>m.dev==d
theorem yJ{l:jd aJ}(h:mo l){i j:jb}(a:i<=j)(b:j<l.length):(l.getD i c8).dev<=(l.getD j c8).dev:=by
 rcases Nat.eq_or_lt_of_le a with rfl|c
 ·exact Int.le_refl _
 exact Int.le_of_lt (h i j c b)
theorem Aw(d:N):∀(l:jd aJ) (i:jb),i<=l.length->(∀t,t<i->(l.getD t c8).dev<d)->(∀t,i<=t->t<l.length->d<=(l.getD t c8).dev)->lV l d=i
 |[],i,b,_,_=>by simp at b;simp[lV,b]
 |a::r,0,_,_,c=>by
  unfold lV;rw[List.countP_eq_zero];intro x f;obtain⟨t,e,rfl⟩:=qo f;have:=c t (j5 _) e;rw[fp _ e]at this;simp;omega
 |a::r,i+1,b,f,c=>by
  have h:a.dev<d:=by simpa using f 0 (Nat.succ_pos _)
  have g:=Aw d r i (ak b) (λt e=>by simpa using f (t+1) Y) (λt j e=>by simpa using c (t+1) Y (ak e));unfold lV at g⊢;rw[List.countP_cons_of_pos (ak h),g]
theorem LG{l:jd aJ}(h:∀t,t<l.length->(l.getD t c8).dev<d):cA l d=ji:=by
 unfold cA;rw[qs];intro x b;obtain⟨t,a,rfl⟩:=qo b;have:=h t a;rw[fp _ a]at this;simp;omega
theorem JI(x y:N):(cD x y==0)=decide (x=y):=by
 unfold cD
 by_cases a:x<y
 ·rw[jt a];simp;omega
 rw[jy a]
 by_cases b:y<x
 ·rw[jt b];simp;omega
 rw[jy b];simp;omega
theorem N8{l:jd aJ}{i:jb}(f:mo l)(e:i<l.length)(h:∀t,t<i->(l.getD t c8).dev<d)(j:d<=(l.getD i c8).dev):cA l d=(cD (l.getD i c8).dev d==0):=by
 rw[JI]
 by_cases he:(l.getD i c8).dev=d
 ·rw[jR he]
  unfold cA;refine xk.2 ⟨l.getD i c8,?_,by simpa using he⟩;rw[fp _ e];exact qJ e
 rw[decide_eq_false he];unfold cA;rw[qs];intro x c;obtain⟨t,b,rfl⟩:=qo c;have c:l[t].dev≠d->¬((l[t].dev==d)=jm):=λh=>by simpa using h
 apply c
 rcases Nat.lt_trichotomy t i with a|a|a
 ·have:=h t a;rw[fp _ b]at this;omega
 ·subst a;rw[fp _ b]at he;exact he
 have g:=f i t a b;rw[fp _ b]at g;omega
theorem SB(l:jd aJ)(f:mo l)(v:jj)(d:N)(w:jh)(h:nV w v l)(U:l.length<=1000000):
 jq jl 148 #[v,T A d,.func (.func 149) #[] #[]] w λe w'=>e=jp (jE #[T A (lV l d:jb),.bool (cA l d)])/\jk w w w':=by
 obtain⟨p,c,rfl,u,s⟩:=h.cells;have R:=O s;have M:=O f;obtain⟨n,b⟩:=J l.length;have a:=O b;rw[<-b]at U u⊢;clear s f h b;have EG:∀args w,(ow 149 args).run jl w=.ok (.enter 149 args) w:=λ_ _=>rfl
 go_enter func148,ntmps148
 go_wp2_with fail
 go_loopw [9,10] (λs9 b wr=>∃i j:jb,s9=T A i/\b=T A j/\i<=j/\j<=n/\jf ((∀t,t<i->(l.getD t c8).dev<d)/\∀t,j<=t->t<n->d<=(l.getD t c8).dev)/\jf (jk w w wr)) (λs9 b _=>(jv b-jv s9).toNat)
 case atStart=>exact⟨0,n,I,I,j5 _,ju _,O ⟨λt P=>jB P Y,λt z F=>jB z Y⟩,O (jK _ _)⟩
 obtain⟨i,j,rfl,rfl,aa,V,x,b⟩:=hrel
 by_cases ac:i<j
 ·have W:=az ((i:N)<(j:N))
  obtain⟨m,q⟩:∃m:jb,m=(i+j)/2:=⟨_,I⟩;have ad:i<=m:=Y;have Yy:m<j:=Y;have e1:((i:N)+(j:N))/2=(m:N):=Y;obtain⟨g,o,rfl,s⟩:=R.out (by rw[<-a];omega);obtain⟨f,h,k⟩:=s m (by rw[<-a];omega);replace f:=aB f b;replace h:=aB h b;replace k:=aB k b;have r:=O (CU (l.getD m c8) d);obtain⟨md,B,C,y⟩:∃md B C,l.getD m c8=⟨md,B,C⟩:=⟨_,_,_,I⟩;rw[y]at f h k r;have X:=O y;unfold aJ.cells at r;clear s q y
  go_wp2_with fail
  refine(r wr).mono ?_;rintro e w1 ⟨rfl,D⟩;have H:=ai b D;clear D r f h k;obtain⟨q,E⟩:=J (cD md d);rw[<-E];have S:=O x;have K:(l.getD m c8).dev=md:=by rw[X]
  by_cases u:md<d
  ·obtain rfl:q= -1:=by rw[E,cD,jt u]
   have Q:jf ((∀t,t<m+1->(l.getD t c8).dev<d)/\∀t,j<=t->t<n->d<=(l.getD t c8).dev):=O ⟨λt P=>Int.lt_of_le_of_lt (yJ M (show t<=m by omega) (by rw[<-a];omega)) (by rw[K];exact u),S.2⟩;clear E u K
   go_wp2_with fail
   exact⟨⟨m+1,j,by go_num,rfl,by omega,by omega,Q,H⟩,by simp only[jv];omega⟩
  have au:0<=q:=by rw[E,cD,jy u];split<;>omega
  have hd3:=aw (q<0);have Q:jf ((∀t,t<i->(l.getD t c8).dev<d)/\∀t,m<=t->t<n->d<=(l.getD t c8).dev):=O ⟨S.1,λt z F=>Int.le_trans (show d<=(l.getD m c8).dev by rw[K];omega) (yJ M z (by rw[<-a];exact F))⟩;clear E u K
  go_wp2_with fail
  exact⟨⟨i,m,I,by go_num,by omega,by omega,Q,H⟩,by simp only[jv];omega⟩
 obtain rfl:i=j:=Y;have W:decide ((i:N)<(i:N))=ji:=by simp
 have q:lV l d=i:=Aw d l i (by rw[<-a];exact V) x.1 (λt z F=>x.2 t z (by rw[a];exact F))
 by_cases E:i<n
 ·have hd2:=az ((i:N)<(n:N))
  obtain⟨g,o,rfl,s⟩:=R.out (by rw[<-a];omega);obtain⟨f,h,k⟩:=s i (by rw[<-a];omega);replace f:=aB f b;replace h:=aB h b;replace k:=aB k b;have r:=O (CU (l.getD i c8) d);have m:=N8 (l:=l) (d:=d) (i:=i) M.out (by rw[<-a];exact E) x.1 (x.2 i (ju _) E);obtain⟨md,B,C,y⟩:∃md B C,l.getD i c8=⟨md,B,C⟩:=⟨_,_,_,I⟩;rw[y]at f h k r m;have K:jf (cA l d=(cD md d==0)):=O m;have Q:=O q;unfold aJ.cells at r;clear s y m q
  go_wp2_with fail
  refine(r wr).mono ?_;rintro e w1 ⟨rfl,D⟩;have H:=ai b D;clear D r f h k
  go_wp2_with fail
  go_ret2;exact⟨CE (js (λn:jb=>jn .i64 (n:N)) Q.symm) (js qt K.symm),H⟩
 have hd2:=aw ((i:N)<(n:N));have m:cA l d=ji:=LG (λt P=>x.1 t (by rw[a]at E;omega));have K:=O m;have Q:=O q;clear m q
 go_wp2_with fail
 go_ret2;exact⟨CE (js (λn:jb=>jn .i64 (n:N)) Q.symm) (js qt K.symm),b⟩
section
variable{a b e f:jb}{W w:jh}
open Go.RowKit Go.Maps Go.Sort
theorem ez{P:jX}{b:jD j0}{c:Exit->Act->jh->Prop}{a:Act}{w:jh}{d:jd j0}{o:j0}{v:jj}(e:Region.wanted o (yielded b a.tmps)=jm)
 (h:(execOp a.eval o).run P w=.ok (.value v) w) (f:wpList P b c d (a.put o.dst v) w):wpList P b c (o::d) a w:=
 wpList_step λK k=>by
  rw[jt e];unfold Oper.wp;rw[h];exact k _ _ f
theorem iy{a b:jF}(h:a=b):Ending.returned (.bool a)=jp (.bool b):=by rw[h]
theorem SQ(n m:N):(n !=m)=decide (n≠m):=by by_cases h:n=m<;>simp[h]
theorem yQ{d b:jj}(h:d=b):Ending.returned d=jp b:=by rw[h]
structure EK(α:Type) where
 cells:α->jd jj
 k:jb
 t:jI
 pos:0<k
 len:∀x,(cells x).length=k
 one:∀x,∀v∈cells x,v.oneCell'=jm
section
variable {α:Type} (E:EK α)
def EK.flat(l:jd α):jd jj:=l.flatMap E.cells
theorem EK.flat_length(l:jd α):(E.flat l).length=l.length*E.k:=by
 unfold EK.flat;exact Go.Proofs.YthonckffmkefdaaGreatDoor.flat_length E.cells E.k E.len l
theorem EK.flat_append(l m:jd α):E.flat (l++m)=E.flat l++E.flat m:=by unfold EK.flat;exact List.flatMap_append
theorem EK.flat_one(x:α):E.flat [x]=E.cells x:=by simp[EK.flat]
theorem EK.flat_cons(x:α)(l:jd α):E.flat (x::l)=E.cells x++E.flat l:=by simp[EK.flat]
theorem EK.flat_get(l:jd α)(j i:jb)(x:α)(h:l[j]?=ja x)(a:i<E.k):(E.flat l)[j*E.k+i]?=(E.cells x)[i]?:=
 Go.Proofs.YthonckffmkefdaaGreatDoor.flat_get E.cells E.k E.len l j i x h a
theorem EK.flat_take(l:jd α)(i:jb):E.flat (l.take i)=(E.flat l).take (i*E.k):=by
 rcases qi i l.length with h|h
 ·have a:(E.flat (l.take i)).length=i*E.k:=by rw[E.flat_length,j9,qd (xl h)]
  have:=List.take_left' (l₂:=E.flat (l.drop i)) a;rw[<-E.flat_append,xm]at this;exact this.symm
 rw[jU h,jU (by rw[E.flat_length];exact qj _ h)]
theorem EK.flat_drop(l:jd α)(i:jb):E.flat (l.drop i)=(E.flat l).drop (i*E.k):=by
 rcases qi i l.length with h|h
 ·have a:(E.flat (l.take i)).length=i*E.k:=by rw[E.flat_length,j9,qd (xl h)]
  have:=List.drop_left' (l₂:=E.flat (l.drop i)) a;rw[<-E.flat_append,xm]at this;exact this.symm
 rw[xa h,xa (by rw[E.flat_length];exact qj _ h)]
 rfl
theorem EK.flat_one'(l:jd α):∀a∈E.flat l,a.oneCell'=jm:=by
 intro a b;unfold EK.flat at b;obtain⟨x,-,c⟩:=xY.1 b;exact E.one x a c
theorem EK.flat_set{d:jd α}{e:α}(i:a<d.length):E.flat (d.set a e)=(E.flat d).take (a*E.k)++E.cells e++(E.flat d).drop (a*E.k+E.k):=by
 rw[List.set_eq_take_append_cons_drop,jt i,E.flat_append,E.flat_cons,E.flat_take,E.flat_drop,show(a+1)*E.k=a*E.k+E.k by rw[Nat.add_mul];omega,nn]
def EK.At(w:jh)(v:jj)(l:jd α):Prop:=cF w v E.k l.length (E.flat l)
variable {E}
theorem EK.At.below{w':jh}{v:jj}{l:jd α}(h:E.At w v l)(a:jk w w w'):E.At w' v l:=cF.below h a
theorem EK.At.of_own{B:jb}{v:jj}{l:jd α}(h:w.ownsRow B E.t E.k v l.length (E.flat l)):E.At w v l:=cF.of_own h
theorem EK.At.of_sl{D:jb->Prop}{v:jj}{l:jd α}(h:aH D w v E.k l.length (E.flat l)):E.At w v l:=h.row
theorem EK.At.form{d:jj}{l:jd α}(h:E.At w d l):∃p c,d=jg p l.length c/\l.length<=c/\(p=jc->c=0):=by
 obtain⟨_,p,c,e,a,b,_⟩:=h;exact⟨p,c,e,a,b⟩
theorem EK.At.nil:E.At w (jg jc 0 0) []:=⟨by simp[EK.flat],jc,0,I,ju _,λ_=>rfl,λh=>jB h (Nat.lt_irrefl _)⟩
theorem EK.At.cells{p:jO j6}{n c:jb}{l:jd α}(h:E.At w (jg p n c) l):n=l.length/\n<=c/\(0<n->∃g o,p=ja ⟨g,o,jc⟩/\∀j x,l[j]?=ja x->∀i a,(E.cells x)[i]?=ja a->w.cell? ⟨g,o+j*E.k+i,jc⟩=ja a):=by
 obtain⟨_,v,y,e,d,z,f⟩:=h;injection e with k m q
 subst k;subst m;subst q;refine⟨I,d,λr=>?_⟩;obtain⟨g,o,e,s⟩:=f r;refine⟨g,o,e,λj x t i a b=>?_⟩;have u:i<E.k:=by rw[<-E.len x];exact(qe.1 b).1
 rw[Nat.add_assoc];exact s (j*E.k+i) a ((E.flat_get l j i x t u).trans b)
theorem dL{l:jd α}{j:jb}(h:j<l.length):∃x,l[j]?=ja x/\l.take (j+1)=l.take j++[x]:=
 ⟨l[j],ms h,qn h⟩
variable (E)
structure dw(a:jb)(w W:jh)(g n c:jb)(d:jd α):Prop where
 own:W.ownsRow a E.t E.k (jg (ja ⟨g,0,jc⟩) n c) n (E.flat d)
 len:n=d.length
 bel:jk a w W
 sz:a<=w.heap.size
variable {E}
theorem dw.later{g:jh}{d:jd α}(h:dw E a w W b e f d)(n:jk W W g):dw E a w g b e f d:=
 ⟨cL h.own n,h.len,h.bel.trans (n.mono (jL h.sz (cT h.bel.size))),h.sz⟩
theorem dw.lt{d:jd α}(h:dw E a w W b e f d):a<=b/\b<W.heap.size:=h.own.lt b I
theorem dw.cap{d:jd α}(h:dw E a w W b e f d):e<=f:=by
 rcases h.own.2 with⟨n,_⟩|⟨g',i,j,n,k,l,g,_⟩
 ·cases n
 injection n with m o c
 subst c;exact g
theorem dw.at{g n c:jb}{d:jd α}(h:dw E a w W g n c d):E.At W (jg (ja ⟨g,0,jc⟩) n c) d:=EK.At.of_own (by rw[<-h.len];exact h.own)
theorem iP{g:jb}(h:jk a w W)(c:a<=g)(b:jD jj):jk a w (W.setRow g b):=
 h.trans ⟨rfl,rfl,rfl,by simp[qU],λk d=>jY _ _ _ _ Y⟩
theorem dw.store{P:jX}{i:jb}{d:jd α}(h:dw E a w W b e f d)(r:i<e)(n:α)(m:jI)(s:(P.info? m).map (·.size)=ja E.k):
 ∃j,(storeVar m ⟨b,0+i*E.k,jc⟩ (jo (E.cells n).toArray)).run P W=.ok () j/\dw E a w j b e f (d.set i n)/\(∀k,k≠b->j.heap[k]?=W.heap[k]?)/\W.heap.size<=j.heap.size:=by
 obtain⟨R,z⟩:=h.own
 rcases z with⟨o,_⟩|⟨g',S,q,o,t,u,v,B,x,C⟩
 ·cases o
 injection o with c U D
 injection c with c
 injection c with c
 subst c;subst D;have V:i*E.k+E.k<=e*E.k:=by rw[<-Nat.succ_mul];exact qj _ r
 have F:e*E.k<=f*E.k:=qj _ v;have X:e*E.k<=q.size:=by rw[x];exact F
 have g:(E.cells n).length=E.k:=E.len n;have y:(storeCells ⟨b,i*E.k,jc⟩ (E.cells n) 0).run P W=.ok () (W.setRow b (q.toList.take (i*E.k)++E.cells n++q.toList.drop (i*E.k+(E.cells n).length)).toArray):=
  run_storeCells_at (P:=P) b (i*E.k) E.t (E.cells n) 0 q W u (by rw[g];omega) (E.one n)
 have p:q.toList.length=f*E.k:=by rw[qb];exact x
 rw[g]at y;refine⟨W.setRow b (q.toList.take (i*E.k)++E.cells n++q.toList.drop (i*E.k+E.k)).toArray,?_,⟨⟨by rw[E.flat_length,r5,<-h.len],.inr ⟨b,f,(q.toList.take (i*E.k)++E.cells n++q.toList.drop (i*E.k+E.k)).toArray,I,t,jQ _ _ _ _ _ _ u,v,B,?_,?_⟩⟩,by rw[r5];exact h.len,iP h.bel t _,h.sz⟩,λk H=>jY _ _ _ _ H,by simp[qU]⟩
 ·cases hq:P.info? m with
  |none=>simp[hq]at s
  |some K=>
   have M:K.size=E.k:=by simpa [hq]using s
   rw[jM];have Q:(xg (E.cells n).toArray).cells=(E.cells n).toArray:=I;simp[storeVar,sizeOf,typeInfo,hq,Q,M,g,y]
 ·simp only[jJ,jH,j9,xZ,p,g]
  omega
 rw[E.flat_set (by rw[<-h.len];exact r),<-C];show List.take (e*E.k) (q.toList.take (i*E.k)++E.cells n++q.toList.drop (i*E.k+E.k))=_;rw[xn,qd Y,List.take_append,jU (l:=q.toList.take (i*E.k)++E.cells n) (by simp only[jH,j9,p,g];omega),List.drop_take];simp only[jH,j9,p,g];rw[qd Y]
theorem CY{P:jX}{f:j0}{a:Act}{w:jh}{K:Act->jh->Prop}{m:Exit->Act->jh->Prop}(j:jI)(x y:qQ)(o:f.op=.store j x y)
 {l:jb} {W:jh} {g n c i:jb} {d:jd α} (h:dw E l W w g n c d) (p:i<n) (e:α) (q:(P.info? j).map (·.size)=ja E.k)
 (r:a.eval x=jz (ja ⟨g,0+i*E.k,jc⟩)) (s:a.eval y=jo (E.cells e).toArray)
 (t:∀b,dw E l W b g n c (d.set i e)->(∀k,k≠g->b.heap[k]?=w.heap[k]?)->w.heap.size<=b.heap.size->K (a.put f.dst jN) b):f.wp P a w K m:=by
 obtain⟨b,k,u,v,z⟩:=h.store p e j q;unfold Oper.wp execOp;simp only[o,r,s,Instr.storeAt,Instr.sureAddr,Sem.run_bind,Sem.run_pure,Result.andThen_ok,k];exact t b u v z
theorem dw.clear{P:jX}{q:jb}{g n c i:jb}{d:jd α}(h:dw E q w W g n c d)(B:i<n)(t e:jI)(C:P.underlying t=ja (.slice e))(z:α)(D:∀w,(zeroValue e).run P w=.ok (jo (E.cells z).toArray) w):
 ∃r,(∀s,(Builtin.clear_ #[t] s #[jg (ja ⟨g,0+i*E.k,jc⟩) (n-i) (c-i)]).run P W=.ok (jE #[]) r)/\dw E q w r g i c (d.take i):=by
 obtain⟨U,F⟩:=h.own
 rcases F with⟨o,_⟩|⟨g',V,a,o,u,x,H,K,f,M⟩
 ·cases o
 injection o with b X Q
 injection b with b
 injection b with b
 subst b;subst Q;have y:a.toList.length=c*E.k:=by rw[qb];exact f
 have p:(Builtin.zeroCells (E.cells z).toArray (n-i)).toList.length=(n-i)*E.k:=by
  rw[qb,size_zeroCells,jJ,E.len]
 obtain⟨Z,k⟩:=J ((Builtin.zeroCells (E.cells z).toArray (n-i)).toList);have R:∀v∈Z,v.oneCell'=jm:=by
  intro v l;rw[k]at l;unfold Builtin.zeroCells at l;rw[Array.toList_map]at l;obtain⟨j,-,rfl⟩:=jS.1 l;have f:j%(E.cells z).toArray.size<(E.cells z).toArray.size:=qK _ (by rw[jJ,E.len];exact E.pos);rw[getElem!_pos (E.cells z).toArray _ f];exact E.one z _ ar
 rw[<-k]at p;have aa:(n-i)*E.k=n*E.k-i*E.k:=Nat.sub_mul n i E.k;have ac:n*E.k<=c*E.k:=qj _ H;have ad:i*E.k<=n*E.k:=qj _ (xl B);have j:(storeCells ⟨g,i*E.k,jc⟩ Z 0).run P W=.ok () (W.setRow g (a.toList.take (i*E.k)++Z++a.toList.drop (i*E.k+Z.length)).toArray):=
  run_storeCells_at (P:=P) g (i*E.k) E.t Z 0 a W x (by rw[p,f];omega) R
 refine⟨W.setRow g (a.toList.take (i*E.k)++Z++a.toList.drop (i*E.k+Z.length)).toArray,?_,⟨⟨by rw[E.flat_length,j9,<-h.len,qd Y],.inr ⟨g,c,(a.toList.take (i*E.k)++Z++a.toList.drop (i*E.k+Z.length)).toArray,I,u,jQ _ _ _ _ _ _ x,by omega,K,?_,?_⟩⟩,by rw[j9,<-h.len,qd Y],iP h.bel u _,h.sz⟩⟩
 ·obtain⟨m,l⟩:∃m,n-i=m+1:=⟨n-i-1,by omega⟩
  have S:(xg (E.cells z).toArray).cells=(E.cells z).toArray:=I;intro s;rw[jM];rw[l]at k⊢;simp[Builtin.clear_,vi C,D,S,<-k,j]
 ·simp only[jJ,jH,j9,xZ,y,p]
  omega
 show List.take (i*E.k) (a.toList.take (i*E.k)++Z++a.toList.drop (i*E.k+Z.length))=_;rw[E.flat_take,<-M,xn,nn,List.take_append_of_le_length (by simp only[j9,y];omega),xn,Nat.min_self,qd Y]
end
theorem eh{p q:Prop}(k:q)(h:q->p:=by intro k;refine ez (v:=?_) (by rfl) ?_ ?_;rotate_left;(go_simp;with_reducible rfl);refine L ?_;exact k):p:=h k
end
section
variable{p:aJ->jF}{d:ap->jF}{a:jD jj}{F b:jb}{t:jh->Prop}
open Go.RowKit Go.Maps Go.Sort
theorem Dh{P:jX}(t e:jI)(k:jb)(b:P.underlying t=ja (.slice e))(d:∀w,(sizeOf e).run P w=.ok k w)(g o n c l:jb)(f:l<=n)(i:n<=c):
 ∃a,(0<n-l->a=⟨g,o+l*k,jc⟩)/\∀W,(Instr.sliceAt t (jg (ja ⟨g,o,jc⟩) n c) (ja (T A (l:N))) jc jc).run P W=.ok (jg (ja a) (n-l) (c-l)) W:=by
 have he:P.elem t=e:=by simp[Program.elem,b]
 refine⟨if c=l then⟨g,o,jc⟩else⟨g,o+l*k,jc⟩,λh=>by rw[jy Y],λW=>?_⟩;rw[run_sliceAt_slice W t _ _ _ _ (by rw[he];exact b),run_slice_l W t _ n c (by rw[he];exact b) .i64 _ Y Y,he];simp[d,Result.andThen,sliced,Addr.add]
 by_cases h:c=l
 ·simp[h]
 simp[h]
theorem Fb{P:jX}(t e:jI)(k:jb)(a:P.underlying t=ja (.slice e))(b:∀w,(sizeOf e).run P w=.ok k w)(g o n c h:jb)(d:h<=c)(W:jh):
 (Instr.sliceAt t (jg (ja ⟨g,o,jc⟩) n c) jc (ja (T A (h:N))) jc).run P W=.ok (jg (ja ⟨g,o,jc⟩) h c) W:=by
 have he:P.elem t=e:=by simp[Program.elem,a]
 rw[run_sliceAt_slice W t _ _ _ _ (by rw[he];exact a),run_slice_h W t _ n c (by rw[he];exact a) .i64 _ Y Y,he];simp[b,Result.andThen,sliced,Addr.add]
section
variable {α:Type}
structure fT(E:EK α)(F:jb)(caps:jD jj)(a:jb)(b:jh->Prop)(p:α->jF):Prop where
 enter:∀args w,(ow F args).run jl w=.ok (.enter F args) w
 keep:∀w w',a<=w.heap.size->b w->jk a w w'->b w'
 call:∀x w,a<=w.heap.size->b w->jq jl F (#[jo (E.cells x).toArray]++caps) w λe w'=>e=jp (.bool (p x))/\jk w w w'
def mU(p:α->jF)(l:jd α)(r:N):Prop:=(r= -1/\∀x∈l,p x=ji)\/∃(k:jb) (x:α),r=k/\l[k]?=ja x/\p x=jm/\∀y∈l.take k,p y=ji
theorem mU.any{p:α->jF}{l:jd α}{r:N}(h:mU p l r):decide (0<=r)=l.any p:=by
 rcases h with⟨rfl,h⟩|⟨k,x,rfl,a,b,d⟩
 ·have:l.any p=ji:=by rw[qs];intro x c;rw[h x c];simp
  rw[this];decide
 have:l.any p=jm:=xk.2 ⟨x,j1 a,b⟩;rw[this];simp
theorem wF{p:α->jF}{l:jd α}(h:∀x∈l,p x=ji):l.filter (λx=> !p x)=l:=
 List.filter_eq_self.2 λx a=>by rw[h x a];rfl
end
def D8:ap:=⟨0,0,0,0,0⟩
def EM:EK aJ:=⟨aJ.cells,3,82,by decide,λ_=>rfl,λx v a=>by simp[aJ.cells]at a;rcases a with rfl|rfl|rfl<;>rfl⟩
def EC:EK ap:=⟨ap.cells,5,61,by decide,λ_=>rfl,λx v a=>by simp[ap.cells]at a;rcases a with rfl|rfl|rfl|rfl|rfl<;>rfl⟩
theorem LL:(jl.info? 82).map (·.size)=ja 3:=by kernel_rfl
theorem OM:(jl.info? 61).map (·.size)=ja 5:=by kernel_rfl
theorem Cm:(jl.info? 82).map (λi=>(i.zero,i.size,i.bytes))=ja (ja (jo #[T A 0,T A 0,T A 0]),3,24):=by kernel_rfl
theorem QF:(jl.info? 61).map (λi=>(i.zero,i.size,i.bytes))=ja (ja (jo #[T A 0,T A 0,T A 0,T A 0,T A 0]),5,40):=by kernel_rfl
theorem oq{P:jX}{t:jI}{z:jj}(h:(P.info? t).map (λi=>(i.zero,i.size,i.bytes))=ja (ja z,F,b)):∃i,P.info? t=ja i/\i.zero=ja z/\i.size=F/\i.bytes=b:=by
 cases hi:P.info? t with
 |none=>rw[hi]at h;cases h
 |some i=>
  rw[hi]at h;simp only[xf,Option.some.injEq,Prod.mk.injEq]at h;exact⟨i,I,h.1,h.2.1,h.2.2⟩
theorem zT(caps:fT EM F a b t p)(l:jd aJ)(v:jj)(w:jh)(h:EM.At w v l)(d:t w)(g:b<=w.heap.size)(K:l.length<=1000000):
 jq jl 37 #[v,.func (.func F) #[] a] w λe w'=>∃r,e=jp (T A r)/\mU p l r/\jk w w w':=by
 obtain⟨q,c,rfl,M,-⟩:=h.form;have u:=O h;have EG:=caps.enter;have z:=O caps;have P:=O d;have f:=O g;obtain⟨n,s⟩:=J l.length;have B:=O s;rw[<-s]at K M u⊢;clear h s caps d g
 go_enter func37,ntmps37
 go_wp2_with fail
 go_loopw [8] (λi wr=>∃k:jb,i=T A k/\k<=n/\jf (∀y∈l.take k,p y=ji)/\jf (jk w w wr)) (λi _=>n-(jv i).toNat)
 case atStart=>exact⟨0,I,j5 _,O ar,O (jK _ _)⟩
 obtain⟨k,rfl,hk,i,caps⟩:=hrel
 by_cases Q:k<n
 ·have R:=az ((k:N)<(n:N))
  have S:=az (k<n);obtain⟨e,he,x⟩:=dL (l:=l) (j:=k) (by rw[<-B];exact Q);obtain⟨g,o,rfl,d⟩:=(u.cells).2.2 Y;have s:=O (z.call e wr (jL f caps.size) (z.keep _ _ f.out P (caps.mono f)));obtain⟨r,m⟩:=J (p e);rw[<-m]at s;have C:=O m;have U:=O x;have V:=O he;obtain⟨D,E,H⟩:=e;have W:wr.cell? ⟨g,o+k*3,jc⟩=ja (T A D):=aB (d k _ he 0 _ I) caps;have X:wr.cell? ⟨g,o+k*3+1,jc⟩=ja (T A E):=aB (d k _ he 1 _ I) caps;have c2:wr.cell? ⟨g,o+k*3+2,jc⟩=ja (T A H):=aB (d k _ he 2 _ I) caps;replace s:jf (jq jl F (#[jo #[T A D,T A E,T A H]]++a) wr λe w'=>e=jp (.bool r)/\jk wr wr w'):=s;clear d he x m
  go_wp2_with fail
  refine(s).mono ?_;rintro x w1 ⟨rfl,d⟩;have m:=ai caps d;clear d s W X c2
  rcases r with _|_
  ·go_wp2_with fail
   exact⟨⟨k+1,by go_num,by omega,O (by
    rw[U];intro y s
    rcases oj.1 s with s|s
    ·exact i y s
    rw[qu]at s;rw[s];exact C.symm),m⟩,by simp only[jv];omega⟩
  go_wp2_with fail
  go_ret;exact⟨_,I,.inr ⟨k,_,I,V,C.symm,i⟩,m⟩
 have R:=aw ((k:N)<(n:N));have S:=aw (k<n);obtain rfl:k=n:=Y
 go_wp2_with fail
 go_ret;exact⟨_,I,.inl ⟨I,by have h:=i.out;rw[jU (by rw[<-B];exact ju _)]at h;exact h⟩,caps⟩
theorem Al(i:fT EM F a b t p)(l:jd aJ)(v:jj)(w:jh)(h:EM.At w v l)(c:t w)(d:b<=w.heap.size)(f:l.length<=1000000):
 jq jl 22 #[v,.func (.func F) #[] a] w λe w'=>e=jp (.bool (l.any p))/\jk w w w':=by
 have g:=O (zT i l v w h c d f);clear h c d f
 go_enter func22,ntmps22
 go_wp2_with fail
 refine(g).mono ?_;rintro x j ⟨r,rfl,c,d⟩;have f:=O c.any;have h:=O d;clear c d g
 go_wp2_with fail
 go_ret;exact⟨iy f,h⟩
theorem Pn(l:jd aJ)(v:jj)(w:jh)(d:EM.At w v l)(q:l.length<=1000000):
 jq jl 65 #[v] w λe w'=>∃h,e=jp h/\w'.ownsRow w EM.t EM.k h l.length (EM.flat l)/\jk w w w':=by
 obtain⟨p,c,rfl,r,i⟩:=d.form;obtain⟨s,t,u,x,y⟩:=oq Cm;have E:∀(w:jh) (a:jO j6) (n c n' f:jb),(binOp .eql 46 (jg a n c) (jg jc n' f)).run jl w=.ok (.bool a.isNone) w:=λw a n c n' f=>Lib.run_eql_slice_nil w _ _ a n c n' f qC
 rcases p with _|a
 ·have j:=i I
  have b:l.length=0:=Y;have g:l=[]:=yl.1 b;subst g
  go_enter func65,ntmps65
  go_wp2_with fail
  go_ret;exact⟨_,I,mb _ _ _ _,jK _ _⟩
 obtain⟨n,j⟩:=J l.length;have b:=O (d.below (ao w (je #[] EM.t)));have g:=O (yn (base:=w.heap.size) (size:=EM.k) (e:=EM.t) w #[] 0 (ju _) (by unfold o1;omega) ar);have k:=O (ao w (je #[] EM.t));unfold EK.At at b;rw[<-j]at r q b⊢;clear d j i
 go_enter func65,ntmps65
 go_wp2_with (at_builtin;refine Hid.out ?_)
 refine O ?_;refine j3 I λ_ i=>?_
 refine Iv _ _ 46 I w.heap.size 82 s (jo #[T A 0,T A 0,T A 0]) 3 24 qC t u x y I G _ _ _ I g _ _ _ I b (EM.flat_one' _) (by unfold o1;omega) Y (by rw[j7];omega) ?_;intro z m d o;have B:jf (m.ownsRow w EM.t EM.k z n (EM.flat l)):=O (by rw[jM]at d;exact d);have C:jf (jk w w m):=O (k.grown o (by rw[j7];omega) (λj D=>by have:=(g.lt j D).1;omega));clear d o g k b;refine i _ _ ?_;clear i
 go_wp2_with fail
 go_ret;exact⟨_,I,B,C⟩
theorem NQ(caps:fT EM F a b t p)(l:jd aJ)(g n c:jb)(w:jh)(h:dw EM b w w g n c l)(d:t w)(hl:n<=1000000):
 jq jl 64 #[jg (ja ⟨g,0,jc⟩) n c,.func (.func F) #[] a] w λe w'=>∃n',e=jp (jg (ja ⟨g,0,jc⟩) n' c)/\dw EM b w w' g n' c (l.filter λx=> !p x):=by
 have i:=O h;have j:=O (zT caps l (jg (ja ⟨g,0,jc⟩) n c) w h.at d h.sz (by rw[<-h.len];exact hl));have ay:=h.cap;have C:=O h.len;have EG:=caps.enter;have HP:=O caps;have a1:=O d;have UX:=O h.sz;clear h caps d
 go_enter func64,ntmps64
 go_wp2_with fail
 refine(j).mono ?_;rintro e w1 ⟨r,rfl,o,f⟩;have ad:=O (i.later f);clear f j i
 rcases o with⟨rfl,au⟩|⟨k,e,rfl,he,d,i⟩
 ·have caps:=O (wF au)
  clear au
  go_wp2_with fail
  go_ret;exact⟨_,I,by rw[caps];exact ad⟩
 have a2:k<n:=by rw[C];exact(qe.1 he).1
 have a3:jf (l.take k=(l.take (k+1)).filter (λx=> !p x)):=O (by
  obtain⟨m,caps,q⟩:=dL (l:=l) (j:=k) (by rw[<-C];exact a2);rw[he]at caps;injection caps with caps
  subst caps;rw[q,qv,wF i,r6 (by rw[d];simp),qw,nv])
 have bc:decide ((k:N)= -1)=ji:=by simp
 have hd2:((k:N)== -1)=ji:=by simp
 clear he d i
 go_wp2_with fail
 go_loopw [5,6] (λm caps wr=>∃(i j:jb) (d:jd aJ),m=T A i/\caps=T A j/\i<j/\j<=n/\jf (d.take i=(l.take j).filter (λx=> !p x))/\jf (d.drop j=l.drop j)/\jf (dw EM b w wr g n c d)) (λ_ caps _=>n-(jv caps).toNat)
 case atStart=>exact⟨k,k+1,l,I,by go_num,by omega,by omega,a3,O rfl,ad⟩
 obtain⟨i,j,d,rfl,rfl,a4,hj,B,M,m⟩:=hrel
 by_cases Q:j<n
 case neg=>
  obtain rfl:j=n:=Y;have hd:=decide_eq_false (show ¬((j:N)<(j:N)) by omega);have UC:=decide_eq_false Q;obtain⟨E,s,z⟩:=Dh (P:=jl) 46 82 3 qC sizeOf82 g 0 j c i Y ay;rw[s Y,jM]at z;have H:=Fb (P:=jl) 46 82 3 qC sizeOf82 g 0 j c i Y;obtain⟨v,caps,u⟩:=m.clear (P:=jl) a4 46 82 qC c8 zeroValue82;rw[jM]at caps;have D:jf (dw EM b w v g i c (l.filter λx=> !p x)):=O (by
   have y:=B.out;rw[jU (l:=l) (by rw[<-C];exact ju _)]at y;rw[<-y];exact u)
  replace caps:∀y,(Builtin.clear_ #[46] y #[jg (ja ⟨g,i*3,jc⟩) (j-i) (c-i)]).run jl wr=.ok (jE #[]) v:=caps;clear u s
  go_wp2_with fail
  go_ret;exact⟨_,I,D⟩
 have hd:=jR (show((j:N)<(n:N)) by omega);have UC:=jR Q;obtain⟨e,he,q⟩:=dL (l:=l) (j:=j) (by rw[<-C];exact Q);have D:d[j]?=ja e:=by
  have h:=js (λz:jd aJ=>z[0]?) M;simp only[AC,xo]at h;rw[h];exact he
 have R:d.drop (j+1)=l.drop (j+1):=by
  have h:=js (List.drop 1) M;rw[r7,r7]at h;exact h
 have a5:i<n:=Y;have a6:=m.len;have z:jf (p e=jm->d.take i=(l.take (j+1)).filter (λx=> !p x)):=O λS=>by
  rw[q,qv,r6 (by rw[S];simp),qw,nv];exact B
 have E:jf (p e=ji->(d.set i e).take (i+1)=(l.take (j+1)).filter (λx=> !p x)):=O λS=>by
  rw[q,qv,AX (by rw[S];rfl),qw,<-B,qn (by rw[r5];omega),Bm,wv (ju _)]
 have ax:jf ((d.set i e).drop (j+1)=l.drop (j+1)):=O (by rw[wx Y];exact R);have Yh:=O R;obtain⟨ga,oa,U,H⟩:=(m.at.cells).2.2 Y;injection U with U
 injection U with ba bb
 subst ba;subst bb;have V:=ao wr (je (EM.cells e).toArray 82);have X:=jw wr (je (EM.cells e).toArray 82);obtain⟨r,o⟩:=J (p e);have K:jf (∀W,b<=W.heap.size->t W->jq jl F (#[jo (EM.cells e).toArray]++a) W λx w'=>x=jp (.bool r)/\jk W W w'):=O (by rw[o];exact HP.call e);have HR:=O o;obtain⟨B0,aa⟩:∃y:aJ,y=e:=⟨_,I⟩;have ac:=O aa;rw[<-aa]at z E ax HR V X;have HA:=O V;have caps:=O X;obtain⟨s,v,u⟩:=e;have c0:wr.cell? ⟨g,j*3,jc⟩=ja (T A s):=by have h:=H j _ D 0 _ I;rw[jM]at h;exact h
 have c1:wr.cell? ⟨g,j*3+1,jc⟩=ja (T A v):=by have h:=H j _ D 1 _ I;rw[jM]at h;exact h
 have c2:wr.cell? ⟨g,j*3+2,jc⟩=ja (T A u):=by have h:=H j _ D 2 _ I;rw[jM]at h;exact h
 replace K:jf (∀W,b<=W.heap.size->t W->jq jl F (#[jo #[T A s,T A v,T A u]]++a) W λx w'=>x=jp (.bool r)/\jk W W w'):=K;clear he q D R a6 B M H o V X aa
 go_upto_region 8 with fail
 obtain⟨B,f⟩:=J wr.heap.size;have M:wr.alloc (je #[T A s,T A v,T A u] 82)=wr.alloc (je (EM.cells B0).toArray 82):=by rw[ac];rfl
 rw[M,<-f];rw[<-f]at caps;obtain⟨H,R⟩:=J (wr.alloc (je (EM.cells B0).toArray 82));rw[<-R]at HA caps⊢;have D:=O (m.later HA);have aa:B<H.heap.size:=(jG.1 caps).1;have a6:g≠B:=by have:=m.lt;omega
 have V:=O (HP.keep _ _ UX.out a1 D.bel);have W:jf (b<=H.heap.size):=O (jL UX D.bel.size);rw[ac]at caps;replace caps:jf (H.heap[B]?=ja (je #[T A s,T A v,T A u] 82 (0,0))):=caps;have X:=ah (i:=0) caps I;have b1:=ah (i:=1) caps I;have b2:=ah (i:=2) caps I;clear M f R m HA c0 c1 c2
 go_wp2_with fail
 refine(K _ W.out V).mono ?_;rintro x R ⟨rfl,f⟩;have M:=O (D.later f);have m:=O ((f.block B aa).trans caps);clear K D caps f V W X b1 b2
 cases r with
 |true=>
  have caps:=O (z HR.symm);clear z E
  go_wp2_with fail
  exact⟨⟨i,j+1,d,I,by go_num,by omega,by omega,caps,Yh,M⟩,by simp only[jv];omega⟩
 |false=>
  have caps:=O (E HR.symm);clear z E;have X:=ah (i:=0) m I;have b1:=ah (i:=1) m I;have b2:=ah (i:=2) m I;have hd3:=jR (show((i:N)<(n:N)) by omega)
  go_wp2_with (refine j3 I λ_ f=>CY 82 _ _ I M a5 ⟨s,v,u⟩ LL (by rw[jM];rfl) I λz D E K=>f _ _ ?_)
  have f:jf (dw EM b w z g n c (d.set i B0)):=O (by rw[ac];exact D);exact⟨⟨i+1,j+1,d.set i B0,by go_num,by go_num,by omega,by omega,caps,ax,f⟩,by simp only[jv];omega⟩
theorem AO(caps:fT EC F a b t d)(l:jd ap)(v:jj)(w:jh)(h:EC.At w v l)(p:t w)(g:b<=w.heap.size)(P:l.length<=1000000):
 jq jl 129 #[v,.func (.func F) #[] a] w λe w'=>∃r,e=jp (T A r)/\mU d l r/\jk w w w':=by
 obtain⟨q,c,rfl,Q,-⟩:=h.form;have u:=O h;have EG:=caps.enter;have z:=O caps;have R:=O p;have f:=O g;obtain⟨n,s⟩:=J l.length;have B:=O s;rw[<-s]at P Q u⊢;clear h s caps p g
 go_enter func129,ntmps129
 go_wp2_with fail
 go_loopw [8] (λi wr=>∃k:jb,i=T A k/\k<=n/\jf (∀y∈l.take k,d y=ji)/\jf (jk w w wr)) (λi _=>n-(jv i).toNat)
 case atStart=>exact⟨0,I,j5 _,O ar,O (jK _ _)⟩
 obtain⟨k,rfl,hk,i,caps⟩:=hrel
 by_cases S:k<n
 ·have U:=az ((k:N)<(n:N))
  have V:=az (k<n);obtain⟨e,he,x⟩:=dL (l:=l) (j:=k) (by rw[<-B];exact S);obtain⟨g,o,rfl,s⟩:=(u.cells).2.2 Y;have p:=O (z.call e wr (jL f caps.size) (z.keep _ _ f.out R (caps.mono f)));obtain⟨r,m⟩:=J (d e);rw[<-m]at p;have C:=O m;have W:=O x;have X:=O he;obtain⟨D,E,H,K,M⟩:=e;have c0:wr.cell? ⟨g,o+k*5,jc⟩=ja (T A D):=aB (s k _ he 0 _ I) caps;have c1:wr.cell? ⟨g,o+k*5+1,jc⟩=ja (T A E):=aB (s k _ he 1 _ I) caps;have c2:wr.cell? ⟨g,o+k*5+2,jc⟩=ja (T A H):=aB (s k _ he 2 _ I) caps;have c3:wr.cell? ⟨g,o+k*5+3,jc⟩=ja (T A K):=aB (s k _ he 3 _ I) caps;have c4:wr.cell? ⟨g,o+k*5+4,jc⟩=ja (T A M):=aB (s k _ he 4 _ I) caps;replace p:jf (jq jl F (#[jo #[T A D,T A E,T A H,T A K,T A M]]++a) wr λe w'=>e=jp (.bool r)/\jk wr wr w'):=p;clear s he x m
  go_wp2_with fail
  refine(p).mono ?_;rintro x w1 ⟨rfl,s⟩;have m:=ai caps s;clear s p c0 c1 c2 c3 c4
  rcases r with _|_
  ·go_wp2_with fail
   exact⟨⟨k+1,by go_num,by omega,O (by
    rw[W];intro y s
    rcases oj.1 s with s|s
    ·exact i y s
    rw[qu]at s;rw[s];exact C.symm),m⟩,by simp only[jv];omega⟩
  go_wp2_with fail
  go_ret;exact⟨_,I,.inr ⟨k,_,I,X,C.symm,i⟩,m⟩
 have U:=aw ((k:N)<(n:N));have V:=aw (k<n);obtain rfl:k=n:=Y
 go_wp2_with fail
 go_ret;exact⟨_,I,.inl ⟨I,by have h:=i.out;rw[jU (by rw[<-B];exact ju _)]at h;exact h⟩,caps⟩
theorem Bg(i:fT EC F a b t d)(l:jd ap)(v:jj)(w:jh)(h:EC.At w v l)(c:t w)(p:b<=w.heap.size)(f:l.length<=1000000):
 jq jl 62 #[v,.func (.func F) #[] a] w λe w'=>e=jp (.bool (l.any d))/\jk w w w':=by
 have g:=O (AO i l v w h c p f);clear h c p f
 go_enter func62,ntmps62
 go_wp2_with fail
 refine(g).mono ?_;rintro x j ⟨r,rfl,c,p⟩;have f:=O c.any;have h:=O p;clear c p g
 go_wp2_with fail
 go_ret;exact⟨iy f,h⟩
theorem Ic(l:jd ap)(v:jj)(w:jh)(d:EC.At w v l)(q:l.length<=1000000):
 jq jl 42 #[v] w λe w'=>∃h,e=jp h/\w'.ownsRow w EC.t EC.k h l.length (EC.flat l)/\jk w w w':=by
 obtain⟨p,c,rfl,r,i⟩:=d.form;obtain⟨s,t,u,x,y⟩:=oq QF;have E:∀(w:jh) (a:jO j6) (n c n' f:jb),(binOp .eql 53 (jg a n c) (jg jc n' f)).run jl w=.ok (.bool a.isNone) w:=λw a n c n' f=>Lib.run_eql_slice_nil w _ _ a n c n' f qD
 rcases p with _|a
 ·have j:=i I
  have b:l.length=0:=Y;have g:l=[]:=yl.1 b;subst g
  go_enter func42,ntmps42
  go_wp2_with fail
  go_ret;exact⟨_,I,mb _ _ _ _,jK _ _⟩
 obtain⟨n,j⟩:=J l.length;have b:=O (d.below (ao w (je #[] EC.t)));have g:=O (yn (base:=w.heap.size) (size:=EC.k) (e:=EC.t) w #[] 0 (ju _) (by unfold o1;omega) ar);have k:=O (ao w (je #[] EC.t));unfold EK.At at b;rw[<-j]at r q b⊢;clear d j i
 go_enter func42,ntmps42
 go_wp2_with (at_builtin;refine Hid.out ?_)
 refine O ?_;refine j3 I λ_ i=>?_
 refine Iv _ _ 53 I w.heap.size 61 s (jo #[T A 0,T A 0,T A 0,T A 0,T A 0]) 5 40 qD t u x y I G _ _ _ I g _ _ _ I b (EC.flat_one' _) (by unfold o1;omega) Y (by rw[j7];omega) ?_;intro z m d o;have B:jf (m.ownsRow w EC.t EC.k z n (EC.flat l)):=O (by rw[jM]at d;exact d);have C:jf (jk w w m):=O (k.grown o (by rw[j7];omega) (λj D=>by have:=(g.lt j D).1;omega));clear d o g k b;refine i _ _ ?_;clear i
 go_wp2_with fail
 go_ret;exact⟨_,I,B,C⟩
theorem Mu(caps:fT EC F a b t d)(l:jd ap)(g n c:jb)(w:jh)(h:dw EC b w w g n c l)(p:t w)(hl:n<=1000000):
 jq jl 107 #[jg (ja ⟨g,0,jc⟩) n c,.func (.func F) #[] a] w λe w'=>∃n',e=jp (jg (ja ⟨g,0,jc⟩) n' c)/\dw EC b w w' g n' c (l.filter λx=> !d x):=by
 have i:=O h;have j:=O (AO caps l (jg (ja ⟨g,0,jc⟩) n c) w h.at p h.sz (by rw[<-h.len];exact hl));have ay:=h.cap;have H:=O h.len;have EG:=caps.enter;have HP:=O caps;have a1:=O p;have UX:=O h.sz;clear h caps p
 go_enter func107,ntmps107
 go_wp2_with fail
 refine(j).mono ?_;rintro e w1 ⟨r,rfl,s,f⟩;have ad:=O (i.later f);clear f j i
 rcases s with⟨rfl,au⟩|⟨k,e,rfl,he,p,i⟩
 ·have caps:=O (wF au)
  clear au
  go_wp2_with fail
  go_ret;exact⟨_,I,by rw[caps];exact ad⟩
 have a2:k<n:=by rw[H];exact(qe.1 he).1
 have a3:jf (l.take k=(l.take (k+1)).filter (λx=> !d x)):=O (by
  obtain⟨m,caps,E⟩:=dL (l:=l) (j:=k) (by rw[<-H];exact a2);rw[he]at caps;injection caps with caps
  subst caps;rw[E,qv,wF i,r6 (by rw[p];simp),qw,nv])
 have bc:decide ((k:N)= -1)=ji:=by simp
 have hd2:((k:N)== -1)=ji:=by simp
 clear he p i
 go_wp2_with fail
 go_loopw [5,6] (λm caps wr=>∃(i j:jb) (p:jd ap),m=T A i/\caps=T A j/\i<j/\j<=n/\jf (p.take i=(l.take j).filter (λx=> !d x))/\jf (p.drop j=l.drop j)/\jf (dw EC b w wr g n c p)) (λ_ caps _=>n-(jv caps).toNat)
 case atStart=>exact⟨k,k+1,l,I,by go_num,by omega,by omega,a3,O rfl,ad⟩
 obtain⟨i,j,p,rfl,rfl,a4,hj,B,R,m⟩:=hrel
 by_cases S:j<n
 case neg=>
  obtain rfl:j=n:=Y;have hd:=decide_eq_false (show ¬((j:N)<(j:N)) by omega);have UC:=decide_eq_false S;obtain⟨C,o,y⟩:=Dh (P:=jl) 53 61 5 qD sizeOf61 g 0 j c i Y ay;rw[o Y,jM]at y;have D:=Fb (P:=jl) 53 61 5 qD sizeOf61 g 0 j c i Y;obtain⟨q,caps,u⟩:=m.clear (P:=jl) a4 53 61 qD D8 zeroValue61;rw[jM]at caps;have z:jf (dw EC b w q g i c (l.filter λx=> !d x)):=O (by
   have v:=B.out;rw[jU (l:=l) (by rw[<-H];exact ju _)]at v;rw[<-v];exact u)
  replace caps:∀v,(Builtin.clear_ #[53] v #[jg (ja ⟨g,i*5,jc⟩) (j-i) (c-i)]).run jl wr=.ok (jE #[]) q:=caps;clear u o
  go_wp2_with fail
  go_ret;exact⟨_,I,z⟩
 have hd:=jR (show((j:N)<(n:N)) by omega);have UC:=jR S;obtain⟨e,he,E⟩:=dL (l:=l) (j:=j) (by rw[<-H];exact S);have o:p[j]?=ja e:=by
  have h:=js (λz:jd ap=>z[0]?) R;simp only[AC,xo]at h;rw[h];exact he
 have U:p.drop (j+1)=l.drop (j+1):=by
  have h:=js (List.drop 1) R;rw[r7,r7]at h;exact h
 have a5:i<n:=Y;have a6:=m.len;have K:jf (d e=jm->p.take i=(l.take (j+1)).filter (λx=> !d x)):=O λV=>by
  rw[E,qv,r6 (by rw[V];simp),qw,nv];exact B
 have M:jf (d e=ji->(p.set i e).take (i+1)=(l.take (j+1)).filter (λx=> !d x)):=O λV=>by
  rw[E,qv,AX (by rw[V];rfl),qw,<-B,qn (by rw[r5];omega),Bm,wv (ju _)]
 have ax:jf ((p.set i e).drop (j+1)=l.drop (j+1)):=O (by rw[wx Y];exact U);have Yh:=O U;obtain⟨ga,oa,X,q⟩:=(m.at.cells).2.2 Y;injection X with X
 injection X with ba bb
 subst ba;subst bb;have hA:=ao wr (je (EC.cells e).toArray 61);have hX:=jw wr (je (EC.cells e).toArray 61);obtain⟨r,s⟩:=J (d e);have Q:jf (∀W,b<=W.heap.size->t W->jq jl F (#[jo (EC.cells e).toArray]++a) W λx w'=>x=jp (.bool r)/\jk W W w'):=O (by rw[s];exact HP.call e);have HR:=O s;obtain⟨B0,aa⟩:∃y:ap,y=e:=⟨_,I⟩;have ac:=O aa;rw[<-aa]at K M ax HR hA hX;have HA:=O hA;have caps:=O hX;obtain⟨u,v,z,C,D⟩:=e;have c0:wr.cell? ⟨g,j*5,jc⟩=ja (T A u):=by have h:=q j _ o 0 _ I;rw[jM]at h;exact h
 have c1:wr.cell? ⟨g,j*5+1,jc⟩=ja (T A v):=by have h:=q j _ o 1 _ I;rw[jM]at h;exact h
 have c2:wr.cell? ⟨g,j*5+2,jc⟩=ja (T A z):=by have h:=q j _ o 2 _ I;rw[jM]at h;exact h
 have c3:wr.cell? ⟨g,j*5+3,jc⟩=ja (T A C):=by have h:=q j _ o 3 _ I;rw[jM]at h;exact h
 have c4:wr.cell? ⟨g,j*5+4,jc⟩=ja (T A D):=by have h:=q j _ o 4 _ I;rw[jM]at h;exact h
 replace Q:jf (∀W,b<=W.heap.size->t W->jq jl F (#[jo #[T A u,T A v,T A z,T A C,T A D]]++a) W λx w'=>x=jp (.bool r)/\jk W W w'):=Q;clear he E o U a6 B R q s hA hX aa
 go_upto_region 8 with fail
 obtain⟨B,f⟩:=J wr.heap.size;have R:wr.alloc (je #[T A u,T A v,T A z,T A C,T A D] 61)=wr.alloc (je (EC.cells B0).toArray 61):=by rw[ac];rfl
 rw[R,<-f];rw[<-f]at caps;obtain⟨q,U⟩:=J (wr.alloc (je (EC.cells B0).toArray 61));rw[<-U]at HA caps⊢;have o:=O (m.later HA);have aa:B<q.heap.size:=(jG.1 caps).1;have a6:g≠B:=by have:=m.lt;omega
 have W:=O (HP.keep _ _ UX.out a1 o.bel);have U5:jf (b<=q.heap.size):=O (jL UX o.bel.size);rw[ac]at caps;replace caps:jf (q.heap[B]?=ja (je #[T A u,T A v,T A z,T A C,T A D] 61 (0,0))):=caps;have b0:=ah (i:=0) caps I;have b1:=ah (i:=1) caps I;have b2:=ah (i:=2) caps I;have b3:=ah (i:=3) caps I;have b4:=ah (i:=4) caps I;clear R f U m HA c0 c1 c2 c3 c4
 go_wp2_with fail
 refine(Q _ U5.out W).mono ?_;rintro x U ⟨rfl,m⟩;have R:=O (o.later m);have f:=O ((m.block B aa).trans caps);clear Q o caps m W U5 b0 b1 b2 b3 b4
 cases r with
 |true=>
  have caps:=O (K HR.symm);clear K M
  go_wp2_with fail
  exact⟨⟨i,j+1,p,I,by go_num,by omega,by omega,caps,Yh,R⟩,by simp only[jv];omega⟩
 |false=>
  have caps:=O (M HR.symm);clear K M;have b0:=ah (i:=0) f I;have b1:=ah (i:=1) f I;have b2:=ah (i:=2) f I;have b3:=ah (i:=3) f I;have b4:=ah (i:=4) f I;have hd3:=jR (show((i:N)<(n:N)) by omega)
  go_wp2_with (refine j3 I λ_ m=>CY 61 _ _ I R a5 ⟨u,v,z,C,D⟩ OM (by rw[jM];rfl) I λo K M Q=>m _ _ ?_)
  have m:jf (dw EC b w o g n c (p.set i B0)):=O (by rw[ac];exact K);exact⟨⟨i+1,j+1,p.set i B0,by go_num,by go_num,by omega,by omega,caps,ax,m⟩,by simp only[jv];omega⟩
end

def Und(n a:N):Prop:=1<=a/\∃j:jb,n/2^j=a
noncomputable def lB(n a:N):jF:=by classical exact decide (Und n a)
theorem uc{B:N}(h:Und d B):lB d B=jm:=by unfold lB;simpa using h
theorem Eh{B:N}(h:¬Und d B):lB d B=ji:=by unfold lB;simpa using h
theorem zU(n a:N):lB n a=jm↔Und n a:=by unfold lB;simp
theorem rM(h:1<=d):Und d d:=⟨h,0,by simp⟩
theorem B4:(bG t d).isSome=jm↔∃e∈t,e.1=d:=by
 unfold bG;rw[Option.isSome_map,List.find?_isSome];simp
theorem B9:∀(k n:jb),1<=n->n<2^k->∀x:jb,(x∈n::(upL k n).map gU↔1<=x/\∃j,n/2^j=x)
 |0,n,d,c,x=>by simp at c;omega
 |k+1,n,d,c,x=>by
  by_cases g:1<n
  ·obtain⟨i,e,h,l⟩:=Ea g c
   obtain rfl:i=k:=Y;have m:=B9 i (n/2) Y l x;rw[h,qI,jT,show gU n=n/2 from I,m];have f:∀j,n/2^(j+1)=n/2/2^j:=λj=>by rw[Nat.pow_succ,qM,Bn]
   constructor
   ·rintro(rfl|⟨b,j,a⟩)
    ·exact⟨d,0,by simp⟩
    exact⟨b,j+1,by rw[f];exact a⟩
   rintro⟨b,j,a⟩
   cases j with
   |zero=>exact .inl (ak a.symm)
   |succ j=>exact .inr ⟨b,j,by rw[<-f];exact a⟩
  have e:n=1:=Y;rw[Fj Y];subst e;simp only[List.map_nil,qu]
  constructor
  ·rintro rfl;exact⟨by omega,0,rfl⟩
  rintro⟨b,j,a⟩;have:1/2^j<=1:=Nat.div_le_self _ _;omega
theorem o7(d:N)(b:0<=d)(g:d<512)(x:N):x∈(512+d)::bS d↔Und (512+d) x:=by
 obtain⟨n,rfl⟩:=qc b;have h:=B9 10 (512+n) Y Y;have e:(512+(n:N))::bS (n:N)=((512+n)::(upL 10 (512+n)).map gU).map λm:jb=>(m:N):=by
  simp[bS,kA]
 rw[e];simp only[jS,h];have c:∀j:jb,(512+(n:N))/2^j=(((512+n)/2^j:jb):N):=λj=>by
  rw[xq];push_cast;rfl
 unfold Und
 constructor
 ·rintro⟨y,⟨f,j,a⟩,rfl⟩
  exact⟨by omega,j,by rw[c,a]⟩
 rintro⟨f,j,a⟩;refine⟨(512+n)/2^j,⟨?_,j,I⟩,by rw[<-c];exact a⟩;rw[c]at a;omega
theorem Fs(a:jd N)(x:N):x∈fL a↔∃d∈a,x∈(512+d)::bS d:=by
 unfold fL;rw[xY]
def og(t:jd (N×N))(a:N):Prop:=∃e∈t,512<=e.1/\Und e.1 a
def rr(t:jd (N×N))(i:jb):Prop:=
 (t.getD i (0,0)).1<1\/1023<(t.getD i (0,0)).1\/(0<i/\(t.getD i (0,0)).1<=(t.getD (i-1) (0,0)).1)\/¬bJ (t.getD i (0,0)).2\/¬og t (t.getD i (0,0)).1
theorem NK(h:d∈fL (cr t)):og t d:=by
 obtain⟨a,b,c⟩:=(Fs _ _).1 h;obtain⟨f,g,e,i,j⟩:=(oA _ _).1 b;exact⟨e,i,by omega,by rw[j];exact(o7 a f g d).1 c⟩
theorem N9(a:b<t.length)(h:rr t b):dc t=210:=by
 refine nM (U:=fL (cr t)) I a ?_
 rcases h with h|h|h|h|h
 ·exact .inl h
 ·exact .inr (.inl h)
 ·exact .inr (.inr (.inl h))
 ·exact .inr (.inr (.inr (.inl h)))
 exact .inr (.inr (.inr (.inr (λi=>h (NK i)))))
theorem Pu(h:∀i,i<t.length->¬rr t i):dc t=0:=by
 refine BS (U:=fL (cr t)) I (λi d a=>?_);have b:=h i d
 rcases a with a|a|a|a|a
 ·exact b (.inl a)
 ·exact b (.inr (.inl a))
 ·exact b (.inr (.inr (.inl a)))
 ·exact b (.inr (.inr (.inr (.inl a))))
 refine b (.inr (.inr (.inr (.inr ?_))));rintro⟨e,he,m,f⟩;obtain⟨k,c,rfl⟩:=qo he;have g:=h k c;have j:t.getD k (0,0)=t[k]:=by simp[jP,c]
 have n:¬1023<t[k].1:=λl=>g (.inr (.inl (by rw[j];exact l)))
 refine a ((Fs _ _).2 ⟨t[k].1-512,(oA _ _).2 ⟨by omega,by omega,t[k],he,by omega⟩,?_⟩);refine(o7 _ Y Y _).2 ?_;rw[show 512+(t[k].1-512)=t[k].1 by omega];exact f
noncomputable def dJ(t:jd (N×N))(d:N):jd (N×N):=t.filter λe=> !lB (512+d) e.1
def en(z:N×N):jd (N×N)->jd (N×N)
 |[]=>[z]
 |x::r=>if z.1<x.1 then z::x::r else x::en z r
theorem Hf(z:N×N):∀l,(en z l).length=l.length+1
 |[]=>rfl
 |x::r=>by
  unfold en
  split
  ·rfl
  simp[Hf z r]
theorem GB{s t:jd j}{x y:j}(h:s.take b=t.take b)(a:s.take (b+1)=s.take b++[x])(k:t.take (b+1)=t.take b++[y])(c:x=y):s.take (b+1)=t.take (b+1):=by
 rw[a,k,h,c]
theorem zR{s t:jd j}{x y:j}(h:s.take b=t.take b)(k:s.take (b+1)=s.take b++[x])(a:t.take (b+1)=t.take b++[y])(c:x≠y):s≠t:=by
 rintro rfl;rw[k]at a;exact c (ak a)
theorem La(s t:jd (N×N))(E v:jj)(w:jh)(Q:bH w E s)(R:bH w v t)(S:s.length<=1000000)(U:t.length<=1000000):
 jq jl 34 #[jo #[E],jo #[v]] w λe w'=>e=jp (.bool (decide (s=t)))/\jk w w w':=by
 obtain⟨p,c,rfl,V,-,d,f⟩:=Q;obtain⟨j,l,rfl,W,-,i,k⟩:=R;have b:jk w w ((w.alloc (je #[jg p s.length c] 49)).alloc (je #[jg j t.length l] 49)):=((jK _ w).alloc (ju _) _).alloc ar _;have X:=O d;have aa:=O f;have Uy:=O i;have ac:=O k;obtain⟨F,a⟩:=J ((w.alloc (je #[jg p s.length c] 49)).alloc (je #[jg j t.length l] 49));have g:F.cell? ⟨w,0,jc⟩=ja (jg p s.length c):=by rw[a];unfold qx;rw[xS _ _ _ ar,jw];rfl
 have o:F.cell? ⟨w.heap.size+1,0,jc⟩=ja (jg j t.length l):=by
  rw[a];unfold qx;have h:=jw (w.alloc (je #[jg p s.length c] 49)) (je #[jg j t.length l] 49);rw[j7]at h;rw[h];rfl
 clear d f i k
 go_enter func34,ntmps34
 go_upto_region 1 with fail
 rw[<-a]at b⊢;have H:=O b;obtain⟨n,d⟩:=J s.length;obtain⟨m,f⟩:=J t.length;have x:=O d;have y:=O f;rw[<-d]at V S g⊢;rw[<-f]at W U o⊢;clear a b d f
 by_cases z:n=m
 case neg=>
  have a:((n:N)==(m:N))=ji:=by simp;omega
  have hd2:=aw ((n:N)=(m:N));have hd3:decide (n=m)=ji:=ak z;have d:jf (decide (s=t)=ji):=O (decide_eq_false (λh=>z (by rw[x,y,h])));clear z
  go_wp2_with fail
  go_ret;exact⟨by rw[d];rfl,H⟩
 subst z
 go_wp2_with fail
 go_loopw [5] (λi wr=>∃k:jb,i=T A k/\k<=n/\jf (s.take k=t.take k)/\jf (jk w w wr)/\wr.cell? ⟨w,0,jc⟩=ja (jg p n c)/\wr.cell? ⟨w.heap.size+1,0,jc⟩=ja (jg j n l)) (λi _=>n-(jv i).toNat)
 case atStart=>exact⟨0,I,j5 _,O I,H,g,o⟩
 obtain⟨k,rfl,hk,B,f,ad,au⟩:=hrel;clear g o
 by_cases K:k<n
 ·have hd:=az ((k:N)<(n:N))
  have UC:=az (k<n);obtain⟨g,o,rfl,i⟩:=X.out (by rw[<-x];omega);obtain⟨g2,o2,rfl,u⟩:=Uy.out (by rw[<-y];omega);obtain⟨a,q,ax,ay,-,-,-,M,-⟩:=tH i aa.out (by rw[<-x];exact K) f;obtain⟨b,r,a1,a2,-,-,-,P,-⟩:=tH u ac.out (by rw[<-y];exact K) f;have C:=O M;have D:=O P;clear i u M P
  by_cases i:a=b
  case neg=>
   have d:jf (decide (s=t)=ji):=O (decide_eq_false (zR B C D (λh=>i (by cases h;rfl))));have M:(a==b)=ji:=ak i;have P:decide (a=b)=ji:=ak i;clear i
   go_upto_region 6 with fail
   go_quiet (fail)
   go_wp2_with fail
   go_ret;exact⟨by rw[d];rfl,f.trans ⟨rfl,rfl,rfl,ju _,λ_ _=>rfl⟩⟩
  subst i
  by_cases u:q=r
  case neg=>
   have d:jf (decide (s=t)=ji):=O (decide_eq_false (zR B C D (λh=>u (by cases h;rfl))));have M:(q==r)=ji:=ak u;have P:decide (q=r)=ji:=ak u;clear u
   go_upto_region 6 with fail
   go_quiet (fail)
   go_wp2_with fail
   go_ret;exact⟨by rw[d];rfl,f.trans ⟨rfl,rfl,rfl,ju _,λ_ _=>rfl⟩⟩
  subst u;have M:=O (GB B C D I)
  go_upto_region 6 with fail
  go_quiet (fail)
  go_wp2_with fail
  exact⟨⟨k+1,by go_num,by omega,M,O (f.trans ⟨rfl,rfl,rfl,ju _,λ_ _=>rfl⟩),ad,au⟩,by simp only[jv];omega⟩
 have hd:=aw ((k:N)<(n:N));have UC:=aw (k<n);obtain rfl:k=n:=Y;have d:jf (decide (s=t)=jm):=O (jR (by
  have h:=B.out;rw[jU (by rw[<-x];exact ju _),jU (by rw[<-y];exact ju _)]at h;exact h))
 go_wp2_with fail
 go_ret;exact⟨by rw[d];rfl,f⟩
theorem IH{H:jb}(e:∀j,j<r.length->w.cell? ⟨b,o+j,jc⟩=ja (T A (r.getD j 0)))(g:H<r.length)(f:jk w w h):
 ∃a,h.cell? ⟨b,o+H,jc⟩=ja (T A a)/\r.getD H 0=a/\r.take (H+1)=r.take H++[a]:=by
 have c:=e H g;have d:r.getD H 0=r[H]:=by simp[jP,g]
 exact⟨r[H],by rw[<-d];exact cH c (f.block b (eH c)),d,qn g⟩
theorem oE(w:jh):bH w (jg jc 0 0) []:=⟨jc,0,I,ju _,λ_=>rfl,λh=>jB h ar,λx h=>by cases h⟩
theorem pU{e:N×N}:∀{l:jd (N×N)},e∈en z l->e=z\/e∈l
 |[],h=>by left;simpa [en]using h
 |x::r,h=>by
  unfold en at h
  split at h
  ·rcases jT.1 h with h|h
   ·exact .inl h
   exact .inr h
  rcases jT.1 h with h|h
  ·exact .inr (h▸qN ..)
  rcases pU h with h|h
  ·exact .inl h
  exact .inr (xr _ h)
noncomputable def kR(t:jd (N×N))(d x:N):jd (N×N):=if gI t d x=0 then en (512+d,x) (dJ t d)else []
noncomputable def kG(t:jd (N×N))(d:N):jd (N×N):=if dG t d jm=0 then dJ t d else []
theorem zb(h:∀e∈t,aO e.1/\aO e.2):∀e∈dJ t d,aO e.1/\aO e.2:=λe he=>h e (CB.1 he).1

def eY(t:jd (N×N))(d:N)(l:jd N):jb->N->jO N
 |0,y=>if y=512+d then ja (l.getD 0 0)else gJ (bG t) ((512+d)::bS d) y
 |k+1,y=>if y=(bS d).getD k 0 then ja (l.getD (k+1) 0)else eY t d l k y
theorem Cf:∀k y,(eY t d r k y).isSome=jm->y∈(512+d)::((qG k).map λj=>(bS d).getD j 0)++t.map (·.1)
 |0,y,h=>by
  unfold eY at h
  split at h
  ·rename_i e;rw[e];simp
  obtain⟨v,a⟩:=CF.1 h;simp only[oj,jT,jS];exact .inr ⟨_,oF (rN a).1,I⟩
 |k+1,y,h=>by
  unfold eY at h
  split at h
  ·rename_i e
   simp only[oj,jT,jS,r4];exact .inl (.inr ⟨k,by omega,e.symm⟩)
  have:=Cf k y h;simp only[oj,jT,jS,r4]at this⊢
  rcases this with(h1|⟨j,h1,h2⟩)|h1
  ·exact .inl (.inl h1)
  ·exact .inl (.inr ⟨j,by omega,h2⟩)
  exact .inr h1
theorem RY{xs:jd N}(h:k6 (eY t d r b) xs):xs.length<=t.length+b+1:=by
 have a:xs⊆(512+d)::((qG b).map λj=>(bS d).getD j 0)++t.map (·.1):=λy k=>Cf b y (h.2.1 y k).2
 have:=h.1.length_le_of_subset a;simp at this;omega
theorem B7(b:∀e∈t,aO e.1/\aO e.2)(a:∀j,aO (r.getD j 0)):∀k y v,aO y->eY t d r k y=ja v->aO v
 |0,y,v,_,h=>by
  unfold eY at h
  split at h
  ·cases h;exact a 0
  exact(b _ (oF (rN h).1)).2
 |k+1,y,v,c,h=>by
  unfold eY at h
  split at h
  ·cases h;exact a (k+1)
  exact B7 b a k y v c h
theorem aY.no_cell{u F:jI}{E:EKind P F j}{f:N->jO j}(h:aY E u w b o f){α:jb}{v:jj}:w.cell? ⟨b,α,jc⟩≠ja v:=by
 obtain⟨D,⟨c,d,a,_⟩,_⟩:=h;unfold qx;rw[a];simp
noncomputable def eZ(t:jd (N×N))(d:N)(l:jd N):N:=by classical exact if dG t d jm=0 then(if l.length=10/\iu l then 0 else 50)else dG t d jm
def My(t:jd (N×N))(d:N)(l:jd N)(w:jh)(E:N)(e:Ending)(w':jh):Prop:=
 jk w w w'/\(E≠0->e=jp (jE #[jo #[jg jc 0 0],T A E]))/\
 (E=0->∃v xs,e=jp (jE #[jo #[v],T A 0])/\k6 (eY t d l 9) xs/\bH w' v (dI (eY t d l 9) (xs.mergeSort leI))/\Fr w.heap.size v)
theorem JE(t:jd (N×N))(v:jj)(d:N)(l:jd N)(a2:jj)(w:jh)(b:bH w v t)(g:t.length<=900000)(i:aO d)(hu:de w a2 l)(k:l.length<=1000000)(m:∀j,aO (l.getD j 0)):
 jq jl 60 #[jo #[v],T A d,a2] w λe w'=>My t d l w (eZ t d l) e w':=by
 have n:∀e∈t,aO e.1/\aO e.2:=by obtain⟨p,c,-,-,-,-,h⟩:=b;exact h
 obtain⟨pl,cl,rfl,au,o⟩:=hu;have u:jk w w ((w.alloc (je #[v] 49)).alloc (je #[jg jc 0 0] 49)):=((jK _ w).alloc (ju _) _).alloc ar _;have S:=O (Ai t v d jm ((w.alloc (je #[v] 49)).alloc (je #[jg jc 0 0] 49)) (b.below u) Y i);have C:jA ((w.alloc (je #[v] 49)).alloc (je #[jg jc 0 0] 49)) (w.heap.size+1) 49 (jg jc 0 0):=by
  have h:=jw (w.alloc (je #[v] 49)) (je #[jg jc 0 0] 49);rw[j7]at h;exact h
 have bf:=O n;have X:=O g;have Wo:=O o;have ax:=O m;have Vn:=O k;obtain⟨E,f⟩:=J (dG t d jm);have HE:=O f;rw[<-f]at S;clear b g f n i o m k
 go_enter func60,ntmps60
 go_wp2_with fail
 obtain⟨W0,b⟩:=J ((w.alloc (je #[v] 49)).alloc (je #[jg jc 0 0] 49));rw[<-b]at S C u⊢;clear b;refine S.mono ?_;rintro e g ⟨aa,ay,a1⟩;have m:jA g (w.heap.size+1) 49 (jg jc 0 0):=(aa.block _ C.lt).trans C;have D:=O (u.trans (aa.mono u.size));have UD:=O m;have bv:w.heap.size+1<g.heap.size:=m.lt
 by_cases o:E=0
 ·obtain⟨b,p,c,rfl,i,f,F⟩:=a1 o
  have HM:=O f;have bw:w.heap.size+1<b:=qf C.lt i;have bg:=yZ (HE.symm.trans o);have HZ:jf (aO (512+d)):=O (aO.of (x:=512+d) Y);have Yf:D1.wrap (512+d)=512+d:=by rw[IntKind.wrap_i64];omega
  have Yn:=O F;have H:jf (∀z,(l.length=10/\iu l->z=0)->(¬(l.length=10/\iu l)->z=50)->eZ t d l=z):=O (λz k n=>by
   unfold eZ;rw[jt (HE.symm.trans o)]
   by_cases h:l.length=10/\iu l
   ·rw[jt h,k h]
   rw[jy h,n h])
  subst o;obtain⟨d0,d1⟩:=bg;have bh:b<g.heap.size:=f.lt;clear ay a1 aa u C m S f i F
  by_cases r:l.length=10
  ·obtain⟨f,U,rfl,i⟩:=Wo Y
   have Vh:=O i;have bi:jf (de g (jg (ja ⟨f,U,jc⟩) l.length cl) l):=O ⟨_,cl,I,au,λ_=>⟨f,U,I,λj K=>cH (i j K) (D.block f (eH (i j K)))⟩⟩;have a3:=O (Tv l _ g bi Vn);have V:=O r;rw[r]at a3 au⊢;clear i r
   go_wp2_with fail
   refine a3.mono ?_;rintro e n ⟨bA,rfl,ac,i⟩;have Wg:jf (jA n (w.heap.size+1) 49 (jg jc 0 0)):=O ((i.block _ Y).trans UD);have Vw:=O (HM.below i bh);have bk:=i.size;have W:=ai D i;have bl:=O (i);clear i
   by_cases M:iu l
   ·obtain rfl:=ac.1 M
    have s:=O (H 0 (λ_=>rfl) (λh=>jB ⟨V,M⟩ h));clear ac M;have WS:jf (∀j,j<10->n.cell? ⟨f,U+j,jc⟩=ja (T A (l.getD j 0))):=O λj K=>cH (Vh j (by rw[V];exact K)) (W.block f (eH (Vh j (by rw[V];exact K))))
    have bB:f<w.heap.size:=eH (Vh 0 (by rw[V];omega));have bC:n.cell? ⟨f,U,jc⟩=ja (T A (l.getD 0 0)):=WS 0 Y;have We:=O (tR d d0 d1);have bm:=O (Ab d d0 d1);have bI:f<n.heap.size:=Y;have q:g.ownsRow W0 3 1 (jg p 9 c) (bS d).length ((bS d).map (jn .i64)):=by rw[We];exact Yn
    obtain⟨p',c',a4,-,i⟩:=pI q;rw[We]at a4 i
    cases a4
    obtain⟨P,rfl,bK,bn,k⟩:=i Y;have Uy:=O k;have a5:P≠b:=λe=>by have h:=k 0 Y;rw[e]at h;exact aY.no_cell HM h
    clear q i k
    go_wp2_with (at_mapUpdate;refine ot (E:=dP mz) I _ _ _ 183 I mz underlying183 b _ _ I Vw (by have:=X.out;unfold o1;omega) (512+d) I HZ (l.getD 0 0) I (ax 0) ?_;intro Q a6 Zz;have Wp:=O a6;have ZL:=O Zz;have Wi:=Zz.grown.size;clear a6 Zz)
    have Uj:jf (jk w w Q):=O (W.grown ZL.grown (cT W.size) (λj e=>by cases e;omega));have bo:jf (aY (dP mz) 3 Q b (t.length+1+0) (eY t d l 0)):=O Wp;have bM:n.heap.size<=Q.heap.size:=Wi;have bN:g.heap.size<=n.heap.size:=bk
    go_wp2_with fail
    go_loopw [39] (λi wr=>∃j:jb,i=T A j/\j<=9/\jf (aY (dP mz) 3 wr b (t.length+1+j) (eY t d l j))/\jf (jk w w wr)/\jf (∀k,k<Q.heap.size->k≠b->wr.heap[k]?=Q.heap[k]?)/\Q.heap.size<=wr.heap.size) (λi _=>9-(jv i).toNat)
    case atStart=>exact⟨0,I,j5 _,bo,Uj,O (λ_ _ _=>rfl),ju _⟩
    obtain⟨j,rfl,K,ba,WB,ad,bO⟩:=hrel
    by_cases bb:j<9
    ·have bp:=az ((j:N)<9)
     have cy:wr.cell? ⟨P,j,jc⟩=ja (T A ((bS d).getD j 0)):=cH (cH (cH (Uy j bb) (bl.block P bn)) (ZL.grown.block P Y (ak a5))) (ad P Y a5);have cz:wr.cell? ⟨f,U+(j+1),jc⟩=ja (T A (l.getD (j+1) 0)):=cH (cH (WS (j+1) Y) (ZL.grown.block f Y (by simp;omega))) (ad f Y Y);have q:j<(bS d).length:=by rw[We];exact bb
     have bc:(bS d).getD j 0=(bS d)[j]:=by simp[jP,q]
     have bd:jf (0<=(bS d).getD j 0/\(bS d).getD j 0<1024):=O (by rw[bc];exact bm _ (qJ q));obtain⟨y,R⟩:=J ((bS d).getD j 0);obtain⟨z,i⟩:=J (l.getD (j+1) 0);rw[<-R]at cy bd;rw[<-i]at cz;have bq:jf (aO y):=O (aO.of (x:=y) (aI bd));have br:jf (aO z):=O (by rw[i];exact ax _);have HY:=O R;have bs:=O i;have bT:P<wr.heap.size:=Y;have b0:f<wr.heap.size:=Y;clear q bc R i
     go_wp2_with (at_mapUpdate;refine ot (E:=dP mz) I _ _ _ 183 I mz underlying183 b _ _ I ba (by have:=X.out;unfold o1;omega) y I bq z I br ?_;intro w5 q i;have bu:=O q;have bc:=O i;have R:=i.grown.size;clear q i)
     refine⟨⟨j+1,by go_num,by omega,O ?_,O (WB.grown bc.grown (cT WB.size) (λj e=>by cases e;omega)),O λk hk R=>(bc.grown.block k Y (ak R)).trans (ad k hk R),by omega⟩,by simp only[jv];omega⟩;refine aY.congr bu (λx _=>?_);show(if x=y then ja z else eY t d l j x)=eY t d l (j+1) x;rw[HY,bs]
     rfl
    have bp:=aw ((j:N)<9);obtain rfl:j=9:=Y;have VZ:jf (jA wr (w.heap.size+1) 49 (jg jc 0 0)):=O ((ad _ Y Y).trans ((ZL.grown.block _ Y (by simp;omega)).trans Wg));have bq:w.heap.size+1<wr.heap.size:=Y
    go_wp2_with fail
    refine(Br b (t.length+1+9) (eY t d l 9) wr ba (aI X) (λxs h=>jL (RY h) (aI X)) (B7 bf ax 9)).mono ?_;rintro e w4 ⟨v',xs,rfl,bc,⟨F,bd⟩,i⟩;obtain⟨q,k,rfl⟩:=uV F;have y:jf (jA w4 (w.heap.size+1) 49 (jg jc 0 0)):=O ((i.block _ bq).trans VZ);have Uq:=ai WB i;have Yl:=O bc;have UZ:=O F;have br:=O bd;have z:=y.cell;have cf:=y.frozen;clear bc F bd i
    go_wp2_with fail
    have bc:=O (qS w4 (w.heap.size+1) (jg q (dI (eY t d l 9) (xs.mergeSort leI)).length k));have i:=(Boxed.set (jg q (dI (eY t d l 9) (xs.mergeSort leI)).length k) y).cell;refine qg (v:=jE #[jo #[jg q (dI (eY t d l 9) (xs.mergeSort leI)).length k],T A 0]) (by simp[results,wi,go_sem,i]) I ?_;refine⟨Uq.grown bc (cT Uq.size) (λj e=>by cases e;omega),λh=>jB s h,λ_=>⟨_,xs,I,Yl,?_,(Fr.of_own UZ).mono Y⟩⟩;exact zC (B:=wr.heap.size) (ownsRow_setCell_below UZ (a:=⟨w.heap.size+1,0,jc⟩) (by show w.heap.size+1<wr.heap.size;omega) _) br
   obtain rfl:=ac.2 M;have s:=O (H 50 (λh=>jB h.2 M) (λ_=>rfl));have z:=Wg.cell;have cf:=Wg.frozen;have i:=(Boxed.set (jg jc 0 0) Wg).cell;clear ac M
   go_wp2_with fail
   refine qg (v:=jE #[jo #[jg jc 0 0],T A 50]) (by simp[results,wi,go_sem,i]) I ?_;exact⟨W.grown (qS n (w.heap.size+1) _) (cT W.size) (λj e=>by cases e;omega),λ_=>by rw[s],λh=>jB (s.symm.trans h) G⟩
  obtain⟨n,R⟩:=J l.length;rw[<-R]at au r⊢;have f:=O R;have k:=aw ((n:N)=10);have hd2:=aw (n=10);have hd3:((n:N)!=10)=jm:=by simp;omega
  have s:=O (H 50 (λh=>jB (f.trans h.1) r) (λ_=>rfl));have V:=O r;have z:=UD.cell;have cf:=UD.frozen;have i:=(Boxed.set (jg jc 0 0) UD).cell;clear R r
  go_wp2_with fail
  refine qg (v:=jE #[jo #[jg jc 0 0],T A 50]) (by simp[results,wi,go_sem,i]) I ?_;exact⟨D.grown (qS g (w.heap.size+1) _) (cT D.size) (λj e=>by cases e;omega),λ_=>by rw[s],λh=>jB (s.symm.trans h) G⟩
 obtain rfl:=ay o;have b:=aw (E=0);have z:=m.cell;have cf:=m.frozen;have i:=(Boxed.set (jg jc 0 0) m).cell;clear ay a1 aa u C m S
 go_wp2_with fail
 have H:jf (eZ t d l=E):=O (by unfold eZ;rw[jy (by rw[<-HE];exact o)];exact HE.symm);refine qg (v:=jE #[jo #[jg jc 0 0],T A E]) (by simp[results,wi,go_sem,i]) I ?_;exact⟨D.grown (qS g (w.heap.size+1) _) (cT D.size) (λj e=>by cases e;omega),λ_=>by rw[H],λh=>jB (H.symm.trans h) o⟩
noncomputable def eF(t:jd (N×N))(d:N)(l:jd N):jb->jd (N×N)
 |0=>dJ t d
 |k+1=>en ((512+d)/2^k,l.getD k 0) (eF t d l k)
noncomputable def gm(t:jd (N×N))(d:N)(l:jd N):jd (N×N):=if eZ t d l=0 then eF t d l 10 else []
theorem Es{k:jb}(a:0<=d)(b:d<512):0<=(512+d)/2^k/\(512+d)/2^k<=1023:=by
 have c:(0:N)<2^k:=by exact_mod_cast Nat.two_pow_pos k
 refine⟨Int.ediv_nonneg Y Y,?_⟩;have:(512+d)/2^k<=512+d:=Int.ediv_le_self _ Y;omega
theorem DZ(h:∀e∈t,aO e.1/\aO e.2)(a:∀j,aO (r.getD j 0))(b:0<=d)(c:d<512):∀k,∀e∈eF t d r k,aO e.1/\aO e.2
 |0,e,he=>zb h e he
 |k+1,e,he=>by
  unfold eF at he
  rcases pU he with rfl|he
  ·exact⟨aO.of (by have:=Es (k:=k) b c;omega),a k⟩
  exact DZ h a b c k e he
def Str(t:jd (N×N)):Prop:=t.Pairwise λa b=>a.1<b.1
def Wf(t:jd (N×N)):Prop:=∀e∈t,aO e.1/\aO e.2
theorem Str.keys(h:Str t):(t.map (·.1)).Pairwise (·<·):=xt.2 h
theorem mj(e:N×N)(t:jd (N×N))(x:N):bG (e::t) x=if e.1=x then ja e.2 else bG t x:=by
 unfold bG;rw[List.find?_cons]
 by_cases h:e.1=x
 ·simp[h]
 have a:(e.1==x)=ji:=ak h;simp[h,a]
theorem Iz:∀{t:jd (N×N)},Str t->∀e∈t,bG t e.1=ja e.2
 |[],_,e,he=>by cases he
 |y::t,h,e,he=>by
  rw[mj];have a:=r8.1 h
  rcases jT.1 he with rfl|he
  ·rw[jt I]
  rw[jy (cT (a.1 e he))];exact Iz a.2 e he
theorem Cb(h:Str t):(t.map (·.1)).map (λx=>(x,(bG t x).getD 0))=t:=by
 rw[xu];have:∀e∈t,((λx=>(x,(bG t x).getD 0))∘(·.1)) e=id e:=λe he=>by
  simp only[Function.comp,Iz h e he,wt,id]
 rw[E2 this,List.map_id]
theorem vJ:(bG t d).isSome=jm↔d∈t.map (·.1):=by
 rw[B4,jS]
theorem N6{s:jd (N×N)}(b:Str t)(c:Str s)(d:Wf t)(f:Wf s)(h:∀x,aO x->bG t x=bG s x):t=s:=by
 have g:t.map (·.1)=s.map (·.1):=Az b.keys c.keys (λx=>by
  rw[<-vJ,<-vJ]
  constructor
  ·intro a
   obtain⟨e,he,rfl⟩:=jS.1 (vJ.1 a);rw[<-h _ (d e he).1];exact a
  intro a;obtain⟨e,he,rfl⟩:=jS.1 (vJ.1 a);rw[h _ (f e he).1];exact a)
 rw[<-Cb b,<-Cb c,<-g];refine E2 λx a=>?_
 obtain⟨e,he,rfl⟩:=jS.1 a;rw[h _ (d e he).1]
def fV(t:jd (N×N)):Prop:=Str t/\∀e∈t,1<=e.1/\e.1<=1023/\bJ e.2/\og t e.1
theorem sa(a:b<t.length):t.getD b (0,0)=t[b]:=by simp[jP,a]
theorem NU(h:∀i,i+1<t.length->(t.getD i (0,0)).1<(t.getD (i+1) (0,0)).1):Str t:=by
 have key:∀j,j<t.length->∀i,i<j->(t.getD i (0,0)).1<(t.getD j (0,0)).1:=by
  intro j
  induction j with
  |zero=>intro _ i a;omega
  |succ j d=>
   intro b i a;have e:=h j b
   rcases E3 (E4 a)with c|c
   ·have:=d Y i c;omega
   rw[c];exact e
 unfold Str;rw[xw];intro i j a b c;have:=key j b i c
 rwa [sa a,sa b]at this
theorem lM(h:dc t=0):fV t:=by
 have c:∀i,i<t.length->¬rr t i:=λi b c=>by rw[N9 b c]at h;exact jB h G
 refine⟨NU (λi b=>?_),λe he=>?_⟩
 ·have:=c (i+1) b
  unfold rr at this;have d:¬(0<i+1/\(t.getD (i+1) (0,0)).1<=(t.getD (i+1-1) (0,0)).1):=λa=>this (.inr (.inr (.inl a)))
  rw[show i+1-1=i by omega]at d;omega
 obtain⟨i,b,rfl⟩:=qo he;have:=c i b;unfold rr at this;rw[sa b]at this;refine⟨?_,?_,?_,?_⟩
 ·exact Classical.byContradiction λa=>this (.inl Y)
 ·exact Classical.byContradiction λa=>this (.inr (.inl Y))
 ·exact Classical.byContradiction λa=>this (.inr (.inr (.inr (.inl a))))
 exact Classical.byContradiction λa=>this (.inr (.inr (.inr (.inr a))))
theorem tu(h:fV t):dc t=0:=by
 refine Pu (λi b a=>?_);have c:=h.2 t[i] (qJ b);unfold rr at a;rw[sa b]at a
 rcases a with a|a|a|a|a
 ·omega
 ·omega
 ·have d:=(xw.1 h.1) (i-1) i Y b Y
  rw[sa Y]at a;omega
 ·exact a c.2.2.1
 exact a c.2.2.2
theorem Bu(t:jd (N×N))(d x:N):bG (dJ t d) x=if lB (512+d) x=jm then jc else bG t x:=by
 induction t with
 |nil=>simp[dJ,bG]
 |cons e t c=>
  unfold dJ at c⊢;rw[List.filter_cons]
  by_cases b:lB (512+d) e.1=jm
  ·rw[jy (by simp[b]),c,mj]
   by_cases a:e.1=x
   ·rw[<-a,jt b,jt b]
   rw[jy a]
  rw[jt (by simp[b]),mj,mj,c]
  by_cases a:e.1=x
  ·rw[<-a,jt I,jy b,jt I]
  rw[jy a,jy a]
theorem uS:∀{t:jd (N×N)},(∀e∈t,e.1≠z.1)->∀x,bG (en z t) x=if x=z.1 then ja z.2 else bG t x
 |[],_,x=>by
  unfold en;rw[mj]
  by_cases h:x=z.1
  ·rw[jt h.symm,jt h]
  rw[jy (λb=>h b.symm),jy h]
 |e::t,h,x=>by
  unfold en
  split
  ·rw[mj]
   by_cases a:x=z.1
   ·rw[jt a.symm,jt a]
   rw[jy (λb=>a b.symm),jy a]
  rw[mj,mj,uS (λe he=>h e (xr _ he))];have b:=h e (qN ..)
  by_cases a:e.1=x
  ·rw[jt a,jt a,jy (by rw[<-a];exact b)]
  rw[jy a,jy a]
theorem su(h:Str t)(d:N):Str (dJ t d):=List.Pairwise.filter _ h
theorem vF:∀{t:jd (N×N)},Str t->(∀e∈t,e.1≠z.1)->Str (en z t)
 |[],_,_=>by unfold en Str;simp
 |e::t,c,h=>by
  have b:=r8.1 c;have f:=h e (qN ..);unfold en
  split
  ·rename_i d
   refine r8.2 ⟨λy a=>?_,c⟩
   rcases jT.1 a with rfl|a
   ·exact d
   have:=b.1 y a;omega
  refine r8.2 ⟨λy a=>?_,vF b.2 (λe he=>h e (xr _ he))⟩
  rcases pU a with rfl|a
  ·omega
  exact b.1 y a
theorem Ho(h:z∈dJ t d):z∈t/\¬Und (512+d) z.1:=by
 unfold dJ at h;obtain⟨b,a⟩:=CB.1 h;refine⟨b,λc=>?_⟩;rw[uc c]at a
 cases a
theorem sA{x:N}(a:Und (512+d) x):∀e∈dJ t d,e.1≠x:=λe he h=>(Ho he).2 (by rw[h];exact a)
theorem Jj(h:r.Nodup):Str (dI p (r.mergeSort leI)):=by
 have c:(r.mergeSort leI).Pairwise (·<·):=by
  have a:=w9 r;have b:(r.mergeSort leI).Nodup:=(qO r leI).nodup_iff.2 h;exact(a.and b).imp λh=>by have:=h.1;have:=h.2;omega
 unfold Str dI;rw[xt];exact c
theorem Qe(a:jd N)(x:N):bG (dI p a) x=if x∈a then ja ((p x).getD 0)else jc:=by
 induction a with
 |nil=>rfl
 |cons y a b=>
  show bG ((y,(p y).getD 0)::dI p a) x=_;rw[mj,b]
  by_cases h:y=x
  ·subst h;simp
  have:¬x=y:=λc=>h c.symm
  simp[h,this]
theorem Rb(h:k6 p r)(x:N)(b:aO x):bG (dI p (r.mergeSort leI)) x=p x:=by
 rw[Qe]
 by_cases a:x∈r
 ·rw[jt ((uN r x).2 a)]
  obtain⟨v,c⟩:=CF.1 (h.2.1 x a).2;rw[c];rfl
 rw[jy (λc=>a ((uN r x).1 c))]
 cases hf:p x with
 |none=>rfl
 |some v=>exact jB (h.2.2 x b (by rw[hf];rfl)) a
theorem pN(h:bH w a t):Wf t:=by obtain⟨p,c,-,-,-,-,h⟩:=h;exact h
theorem AD(h:k6 p r)(b:Wf (dI p (r.mergeSort leI))){t:jd (N×N)}(c:Str t)(d:Wf t)(e:∀x,aO x->p x=bG t x):dI p (r.mergeSort leI)=t:=
 N6 (Jj h.1) c b d (λx a=>by rw[Rb h x a,e x a])
theorem yI(a:0<=d)(b:d<512)(x:N):gJ (bG t) ((512+d)::bS d) x=bG (dJ t d) x:=by
 rw[Bu];unfold gJ
 by_cases h:x∈(512+d)::bS d
 ·rw[jt h,jt (uc ((o7 d a b x).1 h))]
 rw[jy h,jy (λc=>h ((o7 d a b x).2 ((zU _ _).1 c)))]
theorem Kv{B:N}(a:0<=d)(b:d<512)(y:N):iO t d B y=bG (en (512+d,B) (dJ t d)) y:=by
 rw[uS (sA (rM Y))];unfold iO
 by_cases h:y=512+d
 ·rw[jt h,jt h]
 rw[jy h,jy h];exact yI a b y
theorem Ao{m:jF}(h:dG t d m=0):dc t=0/\0<=d/\d<512:=by
 have a:=yZ h;refine⟨?_,a.1,a.2⟩;unfold dG at h
 split at h
 ·assumption
 exact h
theorem rS(l:0<=d)(p:d<512){k:jb}(e:k<=9):1<=(512+d)/2^k/\∀j,j<k->(512+d)/2^k<(512+d)/2^j:=by
 obtain⟨n,rfl⟩:=qc l;have h:∀n:Fin 512,∀k:Fin 10,1<=(512+n.val)/2^k.val:=by decide+kernel
 have c:∀j:jb,(512+(n:N))/2^j=(((512+n)/2^j:jb):N):=λj=>by
  rw[xq];push_cast;rfl
 have i:∀k,k<=9->1<=(512+n)/2^k:=λk e=>h ⟨n,by omega⟩ ⟨k,by omega⟩
 have m:∀k,(512+n)/2^(k+1)=(512+n)/2^k/2:=λk=>by rw[Nat.pow_succ,Bn]
 have key:∀k,k<=9->∀j,j<k->(512+n)/2^k<(512+n)/2^j:=by
  intro k
  induction k with
  |zero=>intro _ j f;omega
  |succ k o=>
   intro e j f;have a:=i k Y;have b:=m k
   rcases E3 (E4 f)with g|g
   ·have:=o Y j g;omega
   rw[g];omega
 refine⟨by rw[c];have:=i k e;omega,λj f=>by rw[c,c];have:=key k e j f;omega⟩
theorem AV(a:0<=d)(b:d<512){k:jb}(c:k<=9):Und (512+d) ((512+d)/2^k):=⟨(rS a b c).1,k,I⟩
theorem JJ{B:N}(b:0<=d)(c:d<512)(h:Und (512+d) B):∃k,k<=9/\B=(512+d)/2^k:=by
 obtain⟨e,j,a⟩:=h;refine⟨j,?_,a.symm⟩
 rcases qi 9 j with h|h
 ·have f:(512+d)/2^j=0:=by
   have g:(1024:N)<=2^j:=by
    have:=Nat.pow_le_pow_right (n:=2) G (show 10<=j from h)
    exact_mod_cast this
   exact Int.ediv_eq_zero_of_lt Y Y
  omega
 exact h
theorem LK(a:0<=d)(c:d<512){k:jb}(f:k<9):(bS d).getD k 0=(512+d)/2^(k+1):=by
 obtain⟨n,rfl⟩:=qc a;have h:∀n:Fin 512,∀k:Fin 9,(kA n.val).getD k.val 0=(512+n.val)/2^(k.val+1):=by decide+kernel
 have b:=h ⟨n,by omega⟩ ⟨k,f⟩;have g:=tR (n:N) a c;have e:bS (n:N)=(kA n).map λm:jb=>(m:N):=by simp[bS]
 have i:k<(kA n).length:=by rw[e,jC]at g;omega
 rw[e];simp only[jP,j8,ms i,xf,wt]at b⊢;rw[b,xq];push_cast;rfl
theorem Au:∀{k:jb} {e:N×N},e∈eF t d r k->e∈dJ t d\/∃j,j<k/\e=((512+d)/2^j,r.getD j 0)
 |0,e,h=>.inl h
 |k+1,e,h=>by
  unfold eF at h
  rcases pU h with rfl|h
  ·exact .inr ⟨k,Nat.lt_succ_self _,I⟩
  rcases Au h with h|⟨j,a,h⟩
  ·exact .inl h
  exact .inr ⟨j,Nat.lt_succ_of_lt a,h⟩
theorem Eb(a:0<=d)(b:d<512){k:jb}(c:k<=9):∀e∈eF t d r k,e.1≠(512+d)/2^k:=by
 intro e he
 rcases Au he with h|⟨j,f,rfl⟩
 ·exact sA (AV a b c) e h
 have:=(rS a b c).2 j f;show(512+d)/2^j≠_;omega
theorem Bo(a:Str t)(b:0<=d)(c:d<512):∀{k:jb},k<=10->Str (eF t d r k)
 |0,_=>su a d
 |k+1,e=>vF (Bo a b c Y) (Eb b c Y)
theorem uf(a:0<=d)(b:d<512){k:jb}(c:k<=9)(x:N):bG (eF t d r (k+1)) x=if x=(512+d)/2^k then ja (r.getD k 0)else bG (eF t d r k) x:=
 uS (Eb a b c) x
theorem IE(a:0<=d)(b:d<512)(x:N):∀k,k<=9->eY t d r k x=bG (eF t d r (k+1)) x
 |0,c=>by
  rw[uf a b c];unfold eY;simp only[Int.pow_zero,Int.ediv_one]
  by_cases h:x=512+d
  ·rw[jt h,jt h]
  rw[jy h,jy h];exact yI a b x
 |k+1,c=>by
  rw[uf a b c];unfold eY;rw[LK a b Y,IE a b x k Y]
theorem Sw(t:jd (N×N))(v:jj)(d x:N)(w:jh)(b:bH w v t)(r:t.length<=800000)(i:aO d)(c:aO x):
 jq jl 95 #[jo #[v],T A d,T A x] w λe w'=>∃a,e=jp (jE #[jo #[a],T A (gI t d x)])/\bH w' a (kR t d x)/\jk w w w':=by
 refine(Tz t v d x w b Y i c).mono ?_;rintro e w' ⟨f,j,k⟩
 by_cases h:gI t d x=0
 ·obtain⟨a,xs,rfl,l,g⟩:=k h
  have m:dG t d ji=0:=by
   unfold gI at h
   split at h
   ·assumption
   exact h
  obtain⟨n,o,p⟩:=Ao m;have q:=lM n;refine⟨a,by rw[h],?_,f⟩;unfold kR;rw[jt h,<-AD l (pN g) (vF (su q.1 d) (sA (rM Y))) (λe he=>?_) (λy _=>Kv o p y)]
  ·exact g
  rcases pU he with rfl|he
  ·exact⟨aO.of (by show -9223372036854775808<=512+d/\512+d<=9223372036854775807;omega),c⟩
  exact zb (pN b) e he
 refine⟨_,j h,?_,f⟩;unfold kR;rw[jy h];exact oE _
theorem Pw(t:jd (N×N))(v:jj)(d:N)(w:jh)(b:bH w v t)(p:t.length<=800000)(g:aO d):
 jq jl 94 #[jo #[v],T A d] w λe w'=>∃a,e=jp (jE #[jo #[a],T A (dG t d jm)])/\bH w' a (kG t d)/\jk w w w':=by
 refine(JR t v d w b Y g).mono ?_;rintro e w' ⟨c,i,j⟩
 by_cases h:dG t d jm=0
 ·obtain⟨a,xs,rfl,k,f⟩:=j h
  obtain⟨l,m,n⟩:=Ao h;have o:=lM l;refine⟨a,by rw[h],?_,c⟩;unfold kG;rw[jt h,<-AD k (pN f) (su o.1 d) (zb (pN b)) (λy _=>yI m n y)];exact f
 refine⟨_,i h,?_,c⟩;unfold kG;rw[jy h];exact oE _
theorem OV(t:jd (N×N))(v:jj)(d:N)(l:jd N)(a:jj)(w:jh)(f:bH w v t)(B:t.length<=800000)(k:aO d)(m:de w a l)(n:l.length<=1000000)(g:∀j,aO (l.getD j 0)):
 jq jl 60 #[jo #[v],T A d,a] w λe w'=>∃x,e=jp (jE #[jo #[x],T A (eZ t d l)])/\(bH w' x (gm t d l)/\Fr w.heap.size x)/\jk w w w':=by
 refine(JE t v d l a w f Y k m n g).mono ?_;rintro e w' ⟨i,o,p⟩
 by_cases h:eZ t d l=0
 ·obtain⟨a,xs,rfl,q,j,r⟩:=p h
  have s:dG t d jm=0:=by
   unfold eZ at h
   split at h
   ·assumption
   exact h
  obtain⟨u,b,c⟩:=Ao s;have z:=lM u;refine⟨a,by rw[h],⟨?_,r⟩,i⟩;unfold gm;rw[jt h,<-AD q (pN j) (Bo z.1 b c (ju 10)) (DZ (pN f) g b c 10) (λy _=>IE b c y 9 Y)];exact j
 refine⟨_,o h,⟨?_,Fr.nil _⟩,i⟩;unfold gm;rw[jy h];exact oE _
structure dC(g:Grp):Prop where
 fol:iZ g.folder
 ep:0<=g.epoch/\g.epoch<=1099511627776
 tree:dc g.tree=0
 zero:g.epoch=0->g.mem=[]/\g.last=jW 32 0#8
 dev:g.mem.map aJ.dev=cr g.tree
 ok:∀m∈g.mem,1<=m.since/\m.since<=g.epoch/\bJ m.ver
def oN(x:ap):Prop:=fF x.d/\((x.k=1/\bJ x.p/\bJ x.v/\x.c=0)\/(x.k=2/\x.p=0/\x.v=0/\0<=x.c/\x.c<=1048576)\/(x.k=3/\bJ x.p/\bJ x.v/\0<=x.c/\x.c<=1048576))
structure eU(l:jd ap):Prop where
 each:∀x∈l,oN x
 once:(l.map ap.d).Nodup
 len:l.length<=64
structure gL(g:Grp)(a:N)(l:jd ap):Prop where
 own:cA g.mem a=decide (0<g.epoch)
 first:g.epoch=0->∃x r,l=x::r/\x.d=a
 each:∀x∈l,cA g.mem x.d=decide (x.k≠1)/\(cA g.mem a=jm->x.d≠a)
noncomputable def ie(t:jd (N×N))(x:ap):jd (N×N):=if x.k=2 then kG t x.d else kR t x.d x.p
noncomputable def aW(t:jd (N×N))(l:jd ap):jd (N×N):=l.foldl ie t
theorem QX(t:jd (N×N))(l:jd ap)(x:ap):aW t (l++[x])=ie (aW t l) x:=by unfold aW;rw[List.foldl_append];rfl
theorem Od(t:jd (N×N))(x:ap):(ie t x).length<=t.length+1:=by
 have a:∀d,(dJ t d).length<=t.length:=λd=>E5 _ _
 unfold ie
 split
 ·unfold kG
  split
  ·have:=a x.d;omega
  simp
 unfold kR
 split
 ·have:=Hf (512+x.d,x.p) (dJ t x.d);have:=a x.d;omega
 simp
theorem wK(t:jd (N×N)):∀l:jd ap,(aW t l).length<=t.length+l.length:=by
 intro l
 induction l generalizing t with
 |nil=>simp[aW]
 |cons x l a=>
  have b:=a (ie t x);have c:=Od t x;show(aW (ie t x) l).length<=_;simp only[lw];omega
def kW(a:N)(x:ap):jF:=decide (x.k=2)||decide (x.d=a)
def fi(l:jd ap):jd ap:=l.mergeSort λx y=>decide (x.d<=y.d)
def du(a:N)(l:jd ap):jd ap:=fi (l.filter λx=> !kW a x)
def ia(a:N):jd N:=(nI a.toNat).map λn:jb=>(n:N)
noncomputable def fw(t:jd (N×N))(l:jd N)(k:jb):jd (N×N):=(l.zipIdx k).flatMap λx=>(fc t x.1).map λn=>((x.2:N),n)
noncomputable def eo(t:jd (N×N))(a:N):jd (N×N):=fw t (ia a) 1
def dQ(g:Grp)(a:N)(l:jd ap):N:=match g.mem.find? (λm=>m.dev==a)with
 |some m=>m.ver
 |none=>match l with|x::_=>x.v|[]=>0
structure mC(c:Cmt):Prop where
 fol:iZ c.folder
 ep:1<=c.epoch/\c.epoch<=1099511627776
 aut:fF c.author
 chg:eU c.chg
 plen:c.path.length=10
 blen:c.box.length<=1024
 wlen:c.wel.length<=512
 path:∀p∈c.path,bJ p
 box:∀b∈c.box,1<=b.node/\b.node<1024/\1<=b.lev/\b.lev<=9/\mu b.u b.body.length
 wel:∀x∈c.wel,fF x.dev/\mu x.u x.body.length
 inc:∀i,0<i->i<c.wel.length->((c.wel.map Wl.dev).getD (i-1) 0)<((c.wel.map Wl.dev).getD i 0)
noncomputable def gV(c:Cmt):N:=by classical exact if mC c then 0 else 220
theorem un{y:Cmt}(h:mC y):gV y=0:=by unfold gV;rw[jt h]
theorem fj{y:Cmt}(h:¬mC y):gV y=220:=by unfold gV;rw[jy h]
noncomputable def dq(g:Grp)(a:N)(l:jd ap):N:=by classical exact if dC g then(if eU l/\gL g a l then 0 else 221)else 1
noncomputable def dT(g:Grp)(a:N)(l:jd ap):jd (N×N):=if dq g a l=0 then eo (aW g.tree l) a else []
theorem lz:dq e d f=0↔dC e/\eU f/\gL e d f:=by
 unfold dq
 by_cases h:dC e
 ·rw[jt h]
  by_cases b:eU f/\gL e d f
  ·rw[jt b];exact⟨λ_=>⟨h,b⟩,λ_=>rfl⟩
  rw[jy b];exact⟨λg=>jB g G,λg=>jB g.2 b⟩
 rw[jy h];exact⟨λg=>jB g G,λg=>jB g.1 h⟩
def aD(g:Grp)(vm vt:jj):jd jj:=T A g.folder::T A g.epoch::(g.last.map v8++[vm,vt])
structure bW(w:jh)(g:Grp)(vm vt:jj):Prop where
 mem:EM.At w vm g.mem
 tree:bH w vt g.tree
 llen:g.last.length=32
theorem bW.below{g:Grp}(h:bW w g vm vt)(a:jk w w w'):bW w' g vm vt:=⟨h.mem.below a,h.tree.below a,h.llen⟩
theorem eX(h:e.last.length=32):(aD e a m).length=36:=by unfold aD;simp[h]
structure dF(w:jh)(b:jb)(g:Grp)(vm vt:jj):Prop where
 blk:w.heap[b]?=ja (je (aD g vm vt).toArray 51 (0,0))
 llen:g.last.length=32
theorem dF.new(w:jh){g:Grp}{vm vt:jj}(h:g.last.length=32):dF (w.alloc (je (aD g vm vt).toArray 51)) w.heap.size g vm vt:=⟨jw w _,h⟩
theorem dF.lt(h:dF w b e a m):b<w.heap.size:=(jG.1 h.blk).1
theorem dF.keep{g:Grp}(h:dF w b g vm vt)(a:w'.heap[b]?=w.heap[b]?):dF w' b g vm vt:=⟨a.trans h.blk,h.llen⟩
theorem dF.below{g:Grp}(h:dF w b g vm vt)(a:jk w w w'):dF w' b g vm vt:=h.keep (a.block b h.lt)
theorem dF.get(h:dF w b e a m){i:jb}{v:jj}(vm:(aD e a m)[i]?=ja v):w.cell? ⟨b,i,jc⟩=ja v:=
 ah h.blk (ak vm)
theorem lN{g:Grp}(h:g.last.length=32):(aD g vm vt)[0]?=ja (T A g.folder)/\(aD g vm vt)[1]?=ja (T A g.epoch)/\(aD g vm vt)[34]?=ja vm/\(aD g vm vt)[35]?=ja vt:=by
 have a:(g.last.map v8).length=32:=by rw[jC];exact h
 unfold aD;refine⟨I,I,?_,?_⟩
 ·show(g.last.map v8++[vm,vt])[32]?=_
  rw[xx Y,a];rfl
 show(g.last.map v8++[vm,vt])[33]?=_;rw[xx Y,a];rfl
theorem dF.at{g:Grp}(h:dF w b g vm vt):w.cell? ⟨b,0,jc⟩=ja (T A g.folder)/\w.cell? ⟨b,1,jc⟩=ja (T A g.epoch)/\w.cell? ⟨b,34,jc⟩=ja vm/\w.cell? ⟨b,35,jc⟩=ja vt:=
 have e:=lN (vm:=vm) (vt:=vt) h.llen
 ⟨h.get e.1,h.get e.2.1,h.get e.2.2.1,h.get e.2.2.2⟩
theorem dF.last{g:Grp}(h:dF w b g vm vt):w.rangeAt b 2 (g.last.map v8):=by
 intro j v a;have c:=(qe.1 a).1;refine h.get ?_;unfold aD;rw[show 2+j=j+1+1 by omega,E6,E6,r9 c];exact a
theorem EK.At.mems{l:jd aJ}(h:EM.At w a l):nV w a l:=by
 obtain⟨v,p,c,b,d,f,i⟩:=h;refine⟨v,p,c,b,d,f,λj=>?_⟩;obtain⟨g,o,e,k⟩:=i j;exact⟨g,o,e,trivial,k⟩
theorem rx{g:Grp}(h:g.last.length=32):(jl.info? 51).map (·.size)=ja (aD g vm vt).toArray.size:=by
 rw[jJ,eX h];kernel_rfl
theorem yK(g:Grp)(vm vt:jj)(d:N)(w:jh)(a:EM.At w vm g.mem)(i:mo g.mem)(q:g.mem.length<=1000000)(r:g.last.length=32):
 jq jl 88 #[jo (aD g vm vt).toArray,T A d] w λe w'=>e=jp (jE #[T A (lV g.mem d:jb),.bool (cA g.mem d)])/\jk w w w':=by
 have j:=dF.new w (vm:=vm) (vt:=vt) r;have b:=ao w (je (aD g vm vt).toArray 51);have f:=O (SB g.mem i vm d _ (a.mems.below b) q);have h:=O b;obtain⟨k,l,m,n⟩:=j.at;obtain⟨p,c,rfl,-,-⟩:=a.form;obtain⟨s,o⟩:=J ((aD g (jg p g.mem.length c) vt).toArray);rw[<-o]at k l m n f h⊢;clear j b a i o
 go_enter func88,ntmps88
 go_wp2_with fail
 refine(f).mono ?_;rintro e i ⟨rfl,a⟩;have b:=ai h a;clear a f k l m n h
 go_wp2_with fail
 go_ret2;exact⟨I,b⟩
noncomputable def gd(ep:N)(m:aJ):jF:=decide (m.since<1)||decide (ep<m.since)||decide (cS m.ver≠0)
theorem OQ(g:Grp)(vm vt:jj)(b:jb)(m:aJ)(w:jh)(l:dF w b g vm vt):
 jq jl 117 #[jo m.cells.toArray,jz (ja ⟨b,0,jc⟩)] w λe w'=>e=jp (.bool (gd g.epoch m))/\jk w w w':=by
 obtain⟨md,a,f⟩:=m;obtain⟨r,c⟩:=J (gd g.epoch ⟨md,a,f⟩);rw[<-c];have i:=O c;unfold aJ.cells;have d:=ao w (je #[T A md,T A a,T A f] 82);obtain⟨-,n,-,-⟩:=(l.below d).at;have h:=O d;have j:=O (gA f);obtain⟨p,k⟩:=J (cS f);rw[<-k]at j;have q:=O k;obtain⟨ep,he⟩:=J g.epoch;rw[<-he]at n;have o:=O he;clear c d l k he
 by_cases c:a<1
 ·have k:decide (a<1)=jm:=ak c
  obtain rfl:r=jm:=by rw[i];unfold gd;simp[c]
  go_enter func117,ntmps117
  go_wp2_with fail
  go_ret;exact⟨I,h⟩
 have k:decide (a<1)=ji:=ak c
 by_cases d:ep<a
 ·have hd2:decide (ep<a)=jm:=ak d
  obtain rfl:r=jm:=by rw[i];unfold gd;rw[<-o];simp[d]
  go_enter func117,ntmps117
  go_wp2_with fail
  go_ret;exact⟨I,h⟩
 have hd2:decide (ep<a)=ji:=ak d;have l:jf (r=decide (p≠0)):=O (by rw[i];unfold gd;rw[<-o,<-q];simp[c,d]);clear c d
 go_enter func117,ntmps117
 go_wp2_with fail
 refine(j _).mono ?_;rintro e s ⟨rfl,c⟩;have d:=ai h c;clear c j h n
 go_wp2_with fail
 go_ret;exact⟨iy (by rw[l];exact SQ _ _),d⟩
theorem Lp(m:aJ)(d:N)(w:jh):
 jq jl 118 #[jo m.cells.toArray,T A d] w λe w'=>e=jp (.bool (m.dev==d))/\jk w w w':=by
 obtain⟨md,a,b⟩:=m;unfold aJ.cells;have c:=O (ao w (je #[T A md,T A a,T A b] 82))
 go_enter func118,ntmps118
 go_wp2_with fail
 go_ret;exact⟨I,c⟩
theorem C7(g:Grp)(vm vt:jj)(b a:jb)(c:b<a):fT EM 117 #[jz (ja ⟨b,0,jc⟩)] a (λW=>dF W b g vm vt) (gd g.epoch) where
 enter _ _:=I
 keep w w' hn h hB:=h.keep (hB.block b c)
 call x w hn h:=OQ g vm vt b x w h
theorem Mh(a:N)(b:jb)(x:ap)(w:jh)(k:jA w b 3 (T A a)):
 jq jl 108 #[jo x.cells.toArray,jz (ja ⟨b,0,jc⟩)] w λe w'=>e=jp (.bool (kW a x))/\jk w w w':=by
 obtain⟨c,f,g,h,i⟩:=x;obtain⟨r,d⟩:=J (kW a ⟨c,f,g,h,i⟩);rw[<-d];have l:=O d;unfold ap.cells;have j:=ao w (je #[T A c,T A f,T A g,T A h,T A i] 61);have n:(w.alloc (je #[T A c,T A f,T A g,T A h,T A i] 61)).cell? ⟨b,0,jc⟩=ja (T A a):=aB k.cell j;have m:=O j;clear d j k
 by_cases d:c=2
 ·subst d
  obtain rfl:r=jm:=by rw[l];unfold kW;simp
  go_enter func108,ntmps108
  go_wp2_with fail
  go_ret;exact⟨I,m⟩
 have k:(c==2)=ji:=ak d;have o:decide (c=2)=ji:=ak d;have j:jf (r=(f==a)):=O (by rw[l];unfold kW;simp[d];rfl);clear d
 go_enter func108,ntmps108
 go_wp2_with fail
 go_ret;exact⟨iy j.symm,m⟩
theorem Sm(a:N)(b c:jb)(d:b<c):fT EC 108 #[jz (ja ⟨b,0,jc⟩)] c (λW=>jA W b 3 (T A a)) (kW a) where
 enter _ _:=I
 keep w w' hn h hB:=(hB.block b d).trans h
 call x w hn h:=Mh a b x w h
theorem uO{P:jX}{b:jD j0}{c:Exit->Act->jh->Prop}{E:Act}{w:jh}{d:jd j0}{o:j0}(e:Region.wanted o (yielded b E.tmps)=jm)
 (h:∀K:Act->jh->Prop,(∀E w,wpList P b c d E w->K E w)->o.wp P E w K c):wpList P b c (o::d) E w:=
 wpList_step λK f=>by rw[jt e];exact h K f
theorem MS(n m:N):(n==m)=decide (n=m):=by by_cases h:n=m<;>simp[h]
theorem TB{l:jd aJ}(c:l.length=r.length)(h:∀t,t<l.length->(l.getD t c8).dev=r.getD t 0):l.map aJ.dev=r:=by
 refine List.ext_getElem (by rw[jC];exact c) λi a d=>?_
 have b:i<l.length:=by rw[jC]at a;exact a
 have:=h i b;rw[fp _ b,fp _ d]at this;rw[sh];exact this
theorem QJ{l:jd aJ}(a:b<l.length)(h:(l.getD b c8).dev≠r.getD b 0):¬l.map aJ.dev=r:=λe=>by
 apply h
 rw[<-e,fp _ a,fp _ (by rw[jC];exact a),sh]
theorem wy(l:jd aJ)(r:jd N)(v M:jj)(w:jh)(h:EM.At w v l)(hu:de w M r)(hl:l.length<=1000000)(hr:r.length<=1000000):
 jq jl 119 #[v,M,.func (.func 118) #[] #[]] w λe w'=>e=jp (.bool (decide (l.map aJ.dev=r)))/\jk w w w':=by
 obtain⟨C,a⟩:=J (decide (l.map aJ.dev=r));rw[<-a];have D:=O a;obtain⟨p,c,rfl,hc,-⟩:=h.form;obtain⟨q,d,rfl,hd,g⟩:=hu;have P:=O h;have HV:=O g;obtain⟨n,b⟩:=J l.length;obtain⟨m,f⟩:=J r.length;have s:=O b;have z:=O f;rw[<-b]at hl hc P⊢;rw[<-f]at hr hd⊢;have EG:∀args w,(ow 118 args).run jl w=.ok (.enter 118 args) w:=λ_ _=>rfl
 clear h g b f a
 by_cases f:n=m
 ·have aa:((n:N)!=(m:N))=ji:=by simp[f]
  have Up:((n:N)==(m:N))=jm:=by simp[f]
  have B:=O f;clear f
  go_enter func119,ntmps119
  go_wp2_with fail
  go_loopw [17] (λi wr=>∃k:jb,i=T A k/\k<=n/\jf (∀t,t<k->(l.getD t c8).dev=r.getD t 0)/\jf (jk w w wr)) (λi _=>n-(jv i).toNat)
  case atStart=>exact⟨0,I,j5 _,O (λt Q=>jB Q Y),O (jK _ _)⟩
  obtain⟨k,rfl,hk,R,b⟩:=hrel
  by_cases E:k<n
  ·have ac:=az ((k:N)<(n:N))
   have ad:=az (k<n);have au:k<m:=aI B;have hd2:=az ((k:N)<(m:N));have ax:=az (k<m);obtain⟨e,he,-⟩:=dL (l:=l) (j:=k) (by rw[<-s];exact E);obtain⟨g,o,rfl,h⟩:=(P.cells).2.2 Y;obtain⟨S,U,rfl,V⟩:=HV.out (by rw[<-z,<-B];omega);have x:=V k (by rw[<-z,<-B];exact E);have X:l.getD k c8=e:=by simp[jP,he]
   have HE:=O X;obtain⟨y,F⟩:=J (r.getD k 0);rw[<-F]at x;have HY:=O F;obtain⟨a,i,u⟩:=e;have c0:wr.cell? ⟨g,o+k*3,jc⟩=ja (T A a):=aB (h k _ he 0 _ I) b;have c1:wr.cell? ⟨g,o+k*3+1,jc⟩=ja (T A i):=aB (h k _ he 1 _ I) b;have c2:wr.cell? ⟨g,o+k*3+2,jc⟩=ja (T A u):=aB (h k _ he 2 _ I) b;have H:=ao wr (je #[T A a,T A i,T A u] 82);have c3:wr.cell? ⟨S,U+k,jc⟩=ja (T A y):=aB x b;have c4:(wr.alloc (je #[T A a,T A i,T A u] 82)).cell? ⟨S,U+k,jc⟩=ja (T A y):=aB c3 H;have HC:jf (∀W,jq jl 118 #[jo #[T A a,T A i,T A u],T A y] W λe w'=>e=jp (.bool (a==y))/\jk W W w'):=O (Lp ⟨a,i,u⟩ y);have K:=O H;clear h V x X F he H
   go_wp2_with fail
   refine(HC _).mono ?_;rintro x W ⟨rfl,h⟩;have F:=O (b.trans ((K.trans (h.mono K.size)).mono b.size));clear h HC c0 c1 c2 c3 c4 K
   by_cases h:a=y
   ·have K:(a==y)=jm:=ak h
    have V:jf (∀t,t<k+1->(l.getD t c8).dev=r.getD t 0):=O (λt Q=>by
     rcases qi t k with H|H
     ·exact R t H
     obtain rfl:t=k:=Y;rw[HE,<-HY];exact h)
    clear h
    go_wp2_with fail
    exact⟨⟨k+1,by go_num,by omega,V,F⟩,by simp only[jv];omega⟩
   have K:(a==y)=ji:=ak h;obtain rfl:C=ji:=by
    rw[D,decide_eq_false_iff_not];exact QJ (by rw[<-s];exact E) (by rw[HE,<-HY];exact h)
   clear h
   go_wp2_with fail
   go_ret;exact⟨I,F⟩
  have ac:=aw ((k:N)<(n:N));have ad:=aw (k<n);obtain rfl:k=n:=Y;obtain rfl:C=jm:=by
   rw[D,decide_eq_true_iff];exact TB (by rw[<-s,<-z];exact B) (by rw[<-s];exact R)
  go_wp2_with fail
  go_ret;exact⟨I,b⟩
 have aa:((n:N)!=(m:N))=jm:=by simp;omega
 have Up:((n:N)==(m:N))=ji:=by simp;omega
 obtain rfl:C=ji:=by
  rw[D,decide_eq_false_iff_not];intro e;have:=js List.length e;rw[jC,<-s,<-z]at this;exact f this
 clear f
 go_enter func119,ntmps119
 go_wp2_with fail
 go_ret;exact⟨I,jK _ _⟩
theorem nQ(a b:LBy)(f:a.length=32)(g:b.length=32)(z:jh):
 (Op.equalIn 10000 23 (jo (a.map v8).toArray) (jo (b.map v8).toArray)).run jl z=.ok (decide (a=b)) z:=by
 have h:=GZ (P:=jl) (t:=23) (e:=5) (n:=32) (k:=.u8) underlying23 wq af af af (a.map λb=>(b.toNat:N)) (b.map λb=>(b.toNat:N)) (by rw[jC];exact f) (by rw[jC];exact g)
  (by
   intro c d;obtain⟨y,-,rfl⟩:=jS.1 d;have:=y.isLt;exact WalkArith.wf_u8 Y) (by
    intro c d;obtain⟨y,-,rfl⟩:=jS.1 d;have:=y.isLt;exact WalkArith.wf_u8 Y) z
 have e:∀l:LBy,(l.map λb=>(b.toNat:N)).map (jn .u8)=l.map v8:=λl=>by rw[xu];rfl
 rw[e,e]at h;rw[h]
 congr 1
 have c:(a.map λb=>(b.toNat:N))=(b.map λb=>(b.toNat:N))↔a=b:=by
  refine xX λx y d=>?_
  have:x.toNat=y.toNat:=xe.inj d;exact BitVec.eq_of_toNat_eq this
 simp only[c]
theorem mR(h:w.ownsRow b 3 1 a r.length (r.map (jn .i64))):de w a r:=by
 obtain⟨m,p,c,B,d,n,f⟩:=cF.of_own h;refine⟨p,c,B,d,λi=>?_⟩;obtain⟨g,o,e,k⟩:=f i;refine⟨g,o,e,λj v=>k j _ ?_⟩;rw[j8,ms v];simp[jP,v]
theorem et(w':de w a r)(v:jk w w h):de h a r:=by
 obtain⟨p,c,b,d,f⟩:=w';refine⟨p,c,b,d,λi=>?_⟩;obtain⟨g,o,e,k⟩:=f i;exact⟨g,o,e,λj m=>aB (k j m) v⟩
noncomputable def fE(g:Grp):jF:=by classical exact decide (dC g)
theorem kh(h:¬dC e):fE e=ji:=by unfold fE;simpa using h
theorem En(h:dC e):fE e=jm:=by unfold fE;simpa using h
theorem Eu{m:aJ}:gd d m=ji↔1<=m.since/\m.since<=d/\bJ m.ver:=by
 unfold gd;have e:(cS m.ver=0)↔bJ m.ver:=⟨λh=>by
  by_cases g:bJ m.ver
  ·exact g
  rw[kZ g]at h;exact jB h G,gD⟩
 simp only[Bool.or_eq_false_iff,decide_eq_false_iff_not,Int.not_lt,ne_eq,Classical.not_not,e];exact⟨λh=>⟨h.1.1,h.1.2,h.2⟩,λh=>⟨⟨h.1,h.2.1⟩,h.2.2⟩⟩
theorem Cd(g:iZ e.folder)(f:0<=e.epoch/\e.epoch<=1099511627776)(h:dc e.tree=0)(i:e.epoch=0->e.mem=[]/\e.last=jW 32 0#8):
 fE e=(decide (e.mem.map aJ.dev=cr e.tree)&& !(e.mem.any (gd e.epoch))):=by
 by_cases a:dC e
 ·rw[En a]
  have b:decide (e.mem.map aJ.dev=cr e.tree)=jm:=jR a.dev;have c:e.mem.any (gd e.epoch)=ji:=by
   rw[qs];intro m d;rw[Eu.2 (a.ok m d)];simp
  rw[b,c];rfl
 rw[kh a]
 by_cases b:e.mem.map aJ.dev=cr e.tree
 ·have c:e.mem.any (gd e.epoch)=jm:=by
   cases hx:e.mem.any (gd e.epoch)with
   |true=>rfl
   |false=>
    exfalso
    apply a
    rw[qs]at hx;exact⟨g,f,h,i,b,λm d=>Eu.1 (by simpa using hx m d)⟩
  rw[c];simp
 simp[b]
theorem F9(t:jd (N×N)):(cr t).length<=512:=by
 have e:=pH t;have c:=λd=>(oA t d).1
 have f:((cr t).map Int.toNat).Nodup:=by
  have g:((cr t).map Int.toNat).Pairwise (·<·):=xt.2 (e.imp_of_mem λ{a b} h i j=>by have:=(c a h).1;have:=(c b i).1;omega);exact g.imp λh=>xh h
 have:=List.Nodup.length_le_of_subset f (l₂:=qG 512) (λx a=>by
  obtain⟨d,b,rfl⟩:=jS.1 a;have g:=c d b;rw[r4];omega)
 simpa using this
theorem BM(g:Grp)(vm vt:jj)(w:jh)(h:bW w g vm vt)(F:g.mem.length<=1000000)(k:g.tree.length<=1000000):
 jq jl 53 #[jo (aD g vm vt).toArray] w λe w'=>e=jp (.bool (fE g))/\jk w w w':=by
 obtain⟨r,o⟩:=J (fE g);rw[<-o];have M:=O o;obtain⟨fo,p⟩:=J (decide (iZ g.folder));have au:=O p;have c:=dF.new w (vm:=vm) (vt:=vt) h.llen;have a:=ao w (je (aD g vm vt).toArray 51);have d:=h.below a;obtain⟨pm,cm,rfl,H,-⟩:=h.mem.form;obtain⟨t,q⟩:=J g.mem.length;rw[<-q]at c a d H⊢;have a1:=O q;obtain⟨aa,f⟩:=J ((aD g (jg pm t cm) vt).toArray);obtain⟨m,P,R,n⟩:=c.at;have i:=c.blk;have s:=lN (g:=g) (vm:=jg pm t cm) (vt:=vt) h.llen;have j:=c.last;have u:jf (aa[34]?=ja (jg pm t cm)):=O (by rw[f];simpa using s.2.2.1);have y:jf (aa[35]?=ja vt):=O (by rw[f];simpa using s.2.2.2);rw[<-f]at m P R n i a d j⊢;obtain⟨b,v⟩:=J w.heap.size;rw[<-v]at m P R n i j;obtain⟨W1,z⟩:=J (w.alloc (je aa 51));rw[<-z]at m P R n i a d j;have Vq:=O z;have a4:=O v;have Yj:=O f;have K:=O i;have B:=O d;have l:=O a;have Vn:=O h.llen;have Wn:=O k;have YL:=O F;have Q:=O j;have ad:jf ((cr g.tree).length<=1000000):=O (jL (F9 _) G);obtain⟨ck,C⟩:=J (dc g.tree);have U:jf (∀W,bH W vt g.tree->jq jl 116 #[jo #[vt]] W λe w'=>e=jp (T A ck)/\jk W W w'):=O (by rw[C];exact λW x=>wW g.tree vt W x k);have WS:=O C;obtain⟨ep,D⟩:=J g.epoch;rw[<-D]at P;have S:=O D;obtain⟨fd,E⟩:=J g.folder;have V:jf (∀e x,e=g.folder->jq jl 115 #[T A e] x λe w'=>e=jp (.bool fo)/\x=w'):=O (by rw[p];rintro e x rfl;exact EF _ x);rw[<-E]at m;have a5:=O E;clear h o p c a d H q f i s j v z F k C D E
 go_enter func53,ntmps53
 go_upto_region 1 with fail
 rw[<-Vq,<-a4]
 go_wp2_with fail
 refine(V fd W1 a5).mono ?_;rintro e w1 ⟨rfl,rfl⟩;clear V
 cases fo with
 |false=>
  obtain rfl:r=ji:=by rw[M];exact kh λh=>by have x:=au.out;rw[jR h.fol]at x;cases x
  go_wp2_with fail
  go_ret;exact⟨I,l⟩
 |true=>
 by_cases a:ep<0
 ·have a6:decide (ep<0)=jm:=ak a
  obtain rfl:r=ji:=by rw[M];exact kh λh=>by have:=h.ep.1;rw[<-S]at this;omega
  clear a
  go_wp2_with fail
  go_ret;exact⟨I,l⟩
 have a6:decide (ep<0)=ji:=ak a
 by_cases x:1099511627776<ep
 ·have hd2:decide (1099511627776<ep)=jm:=ak x
  obtain rfl:r=ji:=by rw[M];exact kh λh=>by have:=h.ep.2;rw[<-S]at this;omega
  clear a x
  go_wp2_with fail
  go_ret;exact⟨I,l⟩
 have hd2:decide (1099511627776<ep)=ji:=ak x;have a2:=O (show 0<=ep/\ep<=1099511627776 by omega);clear a x
 go_wp2_with fail
 refine(U W1 B.tree).mono ?_;rintro e w1 ⟨rfl,a⟩;have f:=ae K a;have i:=O (B.below a);have k:=ai l a;have ba:jf (w1.rangeAt b 2 (g.last.map v8)):=O (λj v c=>aB (Q j v c) a);replace P:=aB P a;replace R:=aB R a;clear a K B l Q m n U
 by_cases B:ck=0
 case neg=>
  have hd3:(ck==0)=ji:=ak B;have c:decide (ck=0)=ji:=ak B;have d:(ck !=0)=jm:=ak B;obtain rfl:r=ji:=by rw[M];exact kh λh=>B (by rw[WS];exact h.tree)
  clear B
  go_wp2_with fail
  go_ret;exact⟨I,k⟩
 subst B;have a3:jf (0=dc g.tree):=WS
 by_cases h4:ep=0
 case pos=>
  subst h4
  by_cases d:0<t
  ·have bb:decide (0<t)=jm:=ak d
   have bc:decide ((0:N)<(t:N))=jm:=ak d;obtain rfl:r=ji:=by rw[M];exact kh λh=>by have:=(h.zero S.symm).1;have e:=a1.out;rw[this]at e;simp at e;omega
   clear d
   go_wp2_with fail
   go_ret;exact⟨I,k⟩
  have bb:decide (0<t)=ji:=ak d;have bc:decide ((0:N)<(t:N))=ji:=ak d;obtain⟨bd,c⟩:=J ((g.last.map v8).toArray);have bf:=O c;obtain⟨Q,p⟩:=J (decide (g.last=jW 32 0#8));have C:=O p;have j:∀z,(Op.equalIn 10000 23 (jo bd) (jo a8)).run jl z=.ok Q z:=by
   rw[c,p];exact λz=>nQ g.last (jW 32 0#8) Vn I z
  clear c p
  go_upto_region 3 with fail
  refine o8 ?_;iterate 10 refine eh ?_
  refine uO aj λ_ c=>wp_load_mid 23 _ I b 2 I (g.last.map v8) _ ba.out underlying23 I (by rw[jC,Vn];kernel_rfl) (c _ _ ?_)
  rw[<-bf];refine L ?_;refine eh ?_
  rcases Q with _|_
  ·obtain rfl:r=ji:=by rw[M];exact kh λh=>by have x:=(h.zero S.symm).2;have B:=C.out;rw[jR x]at B;cases B
   go_wp2_with fail
   go_ret;exact⟨I,k⟩
  have U:jf (r=(decide (g.mem.map aJ.dev=cr g.tree)&& !(g.mem.any (gd g.epoch)))):=O (by
   rw[M];exact Cd (p6 au.symm) (by rw[<-S];exact a2) a3.symm (λe=>⟨sn (by rw[<-a1];simpa using d),p6 C.symm⟩))
  clear C d;obtain⟨Q,p⟩:=J (decide (g.mem.map aJ.dev=cr g.tree));obtain⟨wr,V⟩:=J (g.mem.any (gd g.epoch));rw[<-p,<-V]at U;have C:jf (decide (g.mem.map aJ.dev=cr g.tree)=Q):=O p.symm;have ax:=O V;clear p V
  go_upto_region 7 with fail
  clear P R j;refine pz ?_;refine dm (λn=>n.heap[b]?=ja (je aa 51 (0,0))) (.take 0 (.take 1 (.take 2 (.take 3 (.take 5 (.one 4 (.one 6 (.take 7 (.take 8 (.take 9 (.take 10 (.one 11 (.take 12 (.take 13 (.take 14 .done))))))))))))))) af af af G (λ_ _ _ _ h=>h) f ?_;obtain⟨x0,ac⟩:=J w1.drew;have a:=bX w1;rw[<-ac]at a⊢;have D:=ae f a;have o:=O (i.below a);have l:=ai k a;clear a ac f i k
  cases Q with
  |true=>
   refine aP ?_
   (refine aV (v:=?_) I aj (λn d=>?_) ?_;rotate_left;(have E:=ah d u;have F:=ah d y;go_simp;with_reducible rfl);refine L ?_)
   refine aP ?_
   (refine aV (v:=?_) I aj (λn d=>?_) ?_;rotate_left;(have E:=ah d u;have F:=ah d y;go_simp;with_reducible rfl);refine L ?_)
   refine aP ?_;refine aE I (λq c=>?_);go_simp;refine(tD g.tree vt x0 o.tree Wn).mono ?_;rintro e x1 ⟨ay,rfl,m,a⟩;have s:=O (mR m);obtain⟨pu,cu,rfl,W,X⟩:=mR m;clear m W X;have k:=ai l a;have f:=ae D a;have i:=O (o.below a);clear l D o;clear a;refine c _ _ f.out λ_=>?_
   clear c;refine L ?_;refine aE I (λq c=>?_);go_simp;refine(wy g.mem (cr g.tree) _ _ x1 i.mem s YL ad).mono ?_;rintro e x2 ⟨rfl,a⟩;rw[C];have H:=ai k a;have j:=ae f a;have K:=O (i.below a);clear k f i s;clear a;refine c _ _ j.out λ_=>?_
   clear c;refine L ?_;iterate 2 refine aP ?_
   (refine aV (v:=?_) I aj (λn d=>?_) ?_;rotate_left;(have E:=ah d u;have F:=ah d y;go_simp;with_reducible rfl);refine L ?_)
   refine aP ?_;refine aE I (λq c=>?_);rw[jt aj];go_simp;refine(Al (C7 g (jg pm t cm) vt b x2.heap.size (jG.1 j).1) g.mem _ x2 K.mem ⟨by rw[j,Yj],Vn⟩ (ju _) YL).mono ?_;rintro e x3 ⟨rfl,a⟩;rw[<-ax];have Uj:=ai H a;have YY:=ae j a;have bg:=O (K.below a);clear H j K;clear a;refine c _ _ YY.out λ_=>?_
   clear c;refine L ?_;iterate 3 refine aP ?_
   refine jV ?_
   go_wp2_with fail
   go_ret;exact⟨by rw[U];rfl,Uj⟩
  |false=>
   refine aP ?_
   (refine aV (v:=?_) I aj (λn d=>?_) ?_;rotate_left;(have E:=ah d u;have F:=ah d y;go_simp;with_reducible rfl);refine L ?_)
   refine aP ?_
   (refine aV (v:=?_) I aj (λn d=>?_) ?_;rotate_left;(have E:=ah d u;have F:=ah d y;go_simp;with_reducible rfl);refine L ?_)
   refine aP ?_;refine aE I (λq c=>?_);go_simp;refine(tD g.tree vt x0 o.tree Wn).mono ?_;rintro e x1 ⟨ay,rfl,m,a⟩;have s:=O (mR m);obtain⟨pu,cu,rfl,W,X⟩:=mR m;clear m W X;have k:=ai l a;have f:=ae D a;have i:=O (o.below a);clear l D o;clear a;refine c _ _ f.out λ_=>?_
   clear c;refine L ?_;refine aE I (λq c=>?_);go_simp;refine(wy g.mem (cr g.tree) _ _ x1 i.mem s YL ad).mono ?_;rintro e x2 ⟨rfl,a⟩;rw[C];have H:=ai k a;have j:=ae f a;have K:=O (i.below a);clear k f i s;clear a;refine c _ _ j.out λ_=>?_
   clear c;refine L ?_;refine aP ?_;iterate 3 refine il ?_
   refine aE I (λq c=>?_);rw[jy (sq.1 aj)];refine c _ _ j.out λ_=>?_
   clear c;refine L ?_;refine il ?_;iterate 2 refine aP ?_
   refine jV ?_
   go_wp2_with fail
   go_ret;exact⟨by rw[U];rfl,H⟩
 have z:decide (ep=0)=ji:=ak h4;have bb:(ep==0)=ji:=ak h4;have U:jf (r=(decide (g.mem.map aJ.dev=cr g.tree)&& !(g.mem.any (gd g.epoch)))):=O (by rw[M];exact Cd (p6 au.symm) (by rw[<-S];exact a2) a3.symm (λe=>jB (S.trans e) h4));clear h4;obtain⟨Q,p⟩:=J (decide (g.mem.map aJ.dev=cr g.tree));obtain⟨wr,V⟩:=J (g.mem.any (gd g.epoch));rw[<-p,<-V]at U;have C:jf (decide (g.mem.map aJ.dev=cr g.tree)=Q):=O p.symm;have ax:=O V;clear p V
 go_upto_region 7 with fail
 clear P R;refine pz ?_;refine dm (λn=>n.heap[b]?=ja (je aa 51 (0,0))) (.take 0 (.take 1 (.take 2 (.take 3 (.take 5 (.one 4 (.one 6 (.take 7 (.take 8 (.take 9 (.take 10 (.one 11 (.take 12 (.take 13 (.take 14 .done))))))))))))))) af af af G (λ_ _ _ _ h=>h) f ?_;obtain⟨x0,ac⟩:=J w1.drew;have a:=bX w1;rw[<-ac]at a⊢;have D:=ae f a;have o:=O (i.below a);have l:=ai k a;clear a ac f i k
 cases Q with
 |true=>
  refine aP ?_
  (refine aV (v:=?_) I aj (λn d=>?_) ?_;rotate_left;(have E:=ah d u;have F:=ah d y;go_simp;with_reducible rfl);refine L ?_)
  refine aP ?_
  (refine aV (v:=?_) I aj (λn d=>?_) ?_;rotate_left;(have E:=ah d u;have F:=ah d y;go_simp;with_reducible rfl);refine L ?_)
  refine aP ?_;refine aE I (λq c=>?_);go_simp;refine(tD g.tree vt x0 o.tree Wn).mono ?_;rintro e x1 ⟨ay,rfl,m,a⟩;have s:=O (mR m);obtain⟨pu,cu,rfl,W,X⟩:=mR m;clear m W X;have k:=ai l a;have f:=ae D a;have i:=O (o.below a);clear l D o;clear a;refine c _ _ f.out λ_=>?_
  clear c;refine L ?_;refine aE I (λq c=>?_);go_simp;refine(wy g.mem (cr g.tree) _ _ x1 i.mem s YL ad).mono ?_;rintro e x2 ⟨rfl,a⟩;rw[C];have H:=ai k a;have j:=ae f a;have K:=O (i.below a);clear k f i s;clear a;refine c _ _ j.out λ_=>?_
  clear c;refine L ?_;iterate 2 refine aP ?_
  (refine aV (v:=?_) I aj (λn d=>?_) ?_;rotate_left;(have E:=ah d u;have F:=ah d y;go_simp;with_reducible rfl);refine L ?_)
  refine aP ?_;refine aE I (λq c=>?_);rw[jt aj];go_simp;refine(Al (C7 g (jg pm t cm) vt b x2.heap.size (jG.1 j).1) g.mem _ x2 K.mem ⟨by rw[j,Yj],Vn⟩ (ju _) YL).mono ?_;rintro e x3 ⟨rfl,a⟩;rw[<-ax];have Uj:=ai H a;have YY:=ae j a;have bg:=O (K.below a);clear H j K;clear a;refine c _ _ YY.out λ_=>?_
  clear c;refine L ?_;iterate 3 refine aP ?_
  refine jV ?_
  go_wp2_with fail
  go_ret;exact⟨by rw[U];rfl,Uj⟩
 |false=>
  refine aP ?_
  (refine aV (v:=?_) I aj (λn d=>?_) ?_;rotate_left;(have E:=ah d u;have F:=ah d y;go_simp;with_reducible rfl);refine L ?_)
  refine aP ?_
  (refine aV (v:=?_) I aj (λn d=>?_) ?_;rotate_left;(have E:=ah d u;have F:=ah d y;go_simp;with_reducible rfl);refine L ?_)
  refine aP ?_;refine aE I (λq c=>?_);go_simp;refine(tD g.tree vt x0 o.tree Wn).mono ?_;rintro e x1 ⟨ay,rfl,m,a⟩;have s:=O (mR m);obtain⟨pu,cu,rfl,W,X⟩:=mR m;clear m W X;have k:=ai l a;have f:=ae D a;have i:=O (o.below a);clear l D o;clear a;refine c _ _ f.out λ_=>?_
  clear c;refine L ?_;refine aE I (λq c=>?_);go_simp;refine(wy g.mem (cr g.tree) _ _ x1 i.mem s YL ad).mono ?_;rintro e x2 ⟨rfl,a⟩;rw[C];have H:=ai k a;have j:=ae f a;have K:=O (i.below a);clear k f i s;clear a;refine c _ _ j.out λ_=>?_
  clear c;refine L ?_;refine aP ?_;iterate 3 refine il ?_
  refine aE I (λq c=>?_);rw[jy (sq.1 aj)];refine c _ _ j.out λ_=>?_
  clear c;refine L ?_;refine il ?_;iterate 2 refine aP ?_
  refine jV ?_
  go_wp2_with fail
  go_ret;exact⟨by rw[U];rfl,H⟩
def mh(g:Grp)(a:N)(x:ap):jF:=(cA g.mem x.d==decide (x.k=1))||(cA g.mem a&&decide (x.d=a))
noncomputable def lI(g:Grp)(a:N)(l:jd ap):jF:=by classical exact decide (gL g a l)
theorem tF:lI e d f=jm↔gL e d f:=by unfold lI;simp
theorem tI(h:¬gL e d f):lI e d f=ji:=by unfold lI;simpa using h
theorem EQ(c:cA e.mem d=decide (0<e.epoch))(a:e.epoch=0->∃x r,f=x::r/\x.d=d):lI e d f= !(f.any (mh e d)):=by
 have g:∀x:ap,mh e d x=ji↔(cA e.mem x.d=decide (x.k≠1)/\(cA e.mem d=jm->x.d≠d)):=λx=>by
  unfold mh
  cases cA e.mem x.d<;>cases cA e.mem d<;>by_cases b:x.k=1<;>by_cases l:x.d=d<;>simp[b,l]
 rw[qy,tF,Bool.not_eq_true',qs]
 constructor
 ·intro h x b
  rw[(g x).2 (h.each x b)];simp
 intro h;exact⟨c,a,λx b=>(g x).1 (by simpa using h x b)⟩
theorem JW(g:Grp)(vm vt:jj)(a:N)(f:jF)(s t u:jb)(x:ap)(w:jh)(k:dF w s g vm vt)(K:EM.At w vm g.mem)(M:mo g.mem)(P:g.mem.length<=1000000)
 (v:jA w t 4 (.bool f)) (y:jA w u 3 (T A a)) (Q:f=cA g.mem a):
 jq jl 144 #[jo x.cells.toArray,jz (ja ⟨s,0,jc⟩),jz (ja ⟨t,0,jc⟩),jz (ja ⟨u,0,jc⟩)] w λe w'=>e=jp (.bool (mh g a x))/\jk w w w':=by
 obtain⟨c,b,l,m,n⟩:=x;obtain⟨r,o⟩:=J (mh g a ⟨c,b,l,m,n⟩);rw[<-o];have HR:=O o;unfold ap.cells;have d:=ao w (je #[T A c,T A b,T A l,T A m,T A n] 61);have p:=jw w (je #[T A c,T A b,T A l,T A m,T A n] 61);have j:=O (yK g vm vt b _ (K.below d) M P k.llen);have q:=(k.below d).blk;have z:=rx (vm:=vm) (vt:=vt) k.llen;obtain⟨aa,R⟩:=J ((aD g vm vt).toArray);rw[<-R]at j q z;obtain⟨W0,C⟩:=J (w.alloc (je #[T A c,T A b,T A l,T A m,T A n] 61));obtain⟨B,D⟩:=J w.heap.size;rw[<-C]at j q d p;rw[<-D]at p;have S:=O q;have UX:=O z;have U:=O d;have E:=O p;have V:=O ((d.block _ v.lt).trans v);have W:=O ((d.block _ y.lt).trans y);have ac:=O C;have ad:=O D;obtain⟨F,H⟩:=J (cA g.mem b);rw[<-H]at j;have h:jf (r=((F==decide (c=1))||(f&&decide (b=a)))):=O (by rw[o,H,Q];rfl);have X:=ah (i:=1) E I;clear d p q z R C D o H k K M P v y Q
 go_enter func144,ntmps144
 go_upto_region 1 with fail
 rw[<-ac,<-ad];refine o8 ?_;refine qh I 51 _ I s I 51 aa (0,0) _ S.out qE I UX ?_
 go_wp2_with fail
 refine(j).mono ?_;rintro e p ⟨rfl,k⟩;have q:=ae E k;have v:jf (jA p t 4 (.bool f)):=ae V k;have y:jf (jA p u 3 (T A a)):=ae W k;have d:=ai U k;clear k j E V W U S X;have z:=ah (i:=0) q I;have X:=ah (i:=1) q I;have C:=v.cell;have D:=y.cell
 by_cases j:c=1
 case pos=>
  subst j
  cases F with
  |true=>
   obtain rfl:r=jm:=by rw[h];simp
   go_wp2_with fail
   go_ret;exact⟨I,d⟩
  |false=>
   cases f with
   |true=>
    have k:jf (r=(b==a)):=O (by rw[h];simp;rfl)
    go_wp2_with fail
    go_ret;exact⟨iy k.symm,d⟩
   |false=>
    obtain rfl:r=ji:=by rw[h];simp
    go_wp2_with fail
    go_ret;exact⟨I,d⟩
 have E:(c==1)=ji:=ak j;have o:decide (c=1)=ji:=ak j;clear j
 rcases F with _|_
 ·obtain rfl:r=jm:=by rw[h,o];simp
  go_wp2_with fail
  go_ret;exact⟨I,d⟩
 cases f with
 |true=>
  have k:jf (r=(b==a)):=O (by rw[h,o];simp;rfl)
  go_wp2_with fail
  go_ret;exact⟨iy k.symm,d⟩
 |false=>
  obtain rfl:r=ji:=by rw[h,o];simp
  go_wp2_with fail
  go_ret;exact⟨I,d⟩
theorem Qx(g:Grp)(vm vt:jj)(a:N)(c:jF)(d e f:jb)(b:jh)(k:dF b d g vm vt)(l:EM.At b vm g.mem)(m:mo g.mem)(n:g.mem.length<=1000000)
 (i:jA b e 4 (.bool c)) (j:jA b f 3 (T A a)) (o:c=cA g.mem a):
 fT EC 144 #[jz (ja ⟨d,0,jc⟩),jz (ja ⟨e,0,jc⟩),jz (ja ⟨f,0,jc⟩)] b.heap.size (λW=>jk b b W) (mh g a) where
 enter _ _:=I
 keep w w' hn h hB:=h.trans hB
 call x w hn h:=JW g vm vt a c d e f x w (k.below h) (l.below h) m n ((h.block _ i.lt).trans i) ((h.block _ j.lt).trans j) o
theorem uw(h:dC e):mo e.mem:=by
 intro i j c a;have b:=pH e.tree;rw[<-h.dev]at b;have:=(xw.1 b) i j (by rw[jC];omega) (by rw[jC];exact a) c;rw[sh,sh]at this;rw[fp _ Y,fp _ a];exact this
theorem OR(g:Grp)(vm vt vl:jj)(a:N)(l:jd ap)(w:jh)(h:bW w g vm vt)(f:dC g)(z:g.mem.length<=1000000)(E:EC.At w vl l)(hl:l.length<=1000000):
 jq jl 86 #[jo (aD g vm vt).toArray,T A a,vl] w λe w'=>e=jp (.bool (lI g a l))/\jk w w w':=by
 obtain⟨r,F⟩:=J (lI g a l);rw[<-F];have k:=O F;have j:=ao w (je (aD g vm vt).toArray 51);have H:=dF.new w (vm:=vm) (vt:=vt) h.llen;obtain⟨B,b⟩:=J (w.alloc (je (aD g vm vt).toArray 51));rw[<-b]at j H;have m:=ao B (je #[T A a] 3);have d:=Boxed.new B 3 (T A a);have K:=H.below m;obtain⟨W2,M⟩:=J (B.alloc (je #[T A a] 3));rw[<-M]at m d K;have o:=j.trans (m.mono j.size);have s:=h.below o;have P:=E.below o;have x:=O (yK g vm vt a W2 s.mem (uw f) z s.llen);have Q:=rx (vm:=vm) (vt:=vt) h.llen;have u:=K.blk;obtain⟨au,R⟩:=J ((aD g vm vt).toArray);rw[<-R]at b x Q u⊢;obtain⟨C,y⟩:=J w.heap.size;obtain⟨p,S⟩:=J B.heap.size;rw[<-y]at u;rw[<-S]at d;obtain⟨pl,cl,rfl,Vr,-⟩:=E.form;obtain⟨n,U⟩:=J l.length;obtain⟨q,V⟩:=J (cA g.mem a);obtain⟨ep,D⟩:=J g.epoch;have ax:=O f.ep.1;have ay:=O (uw f);rw[<-V]at x;rw[<-U]at Vr P⊢;have a1:=O b;have a2:=O M;have a3:=O y;have YA:jf (p=C+1):=O (by rw[S,y,b];simp);have Yj:=O R;have UX:=O Q;have W:=O u;have X:=O d;have Ug:=O o;have WH:=O s;have Uy:=O P;have ZK:=O U;have t:=O V;have c:=O D;have YW:=O hl;have VW:=O z;have a5:jf (p<W2.heap.size):=O d.lt;clear F j H b m d K M o s P Q u R y S U V D E hl z h f
 go_enter func86,ntmps86
 go_upto_region 1 with fail
 rw[<-a1,<-a3,<-a2,<-YA];refine o8 ?_;refine qh I 51 _ I C I 51 au (0,0) _ W.out qE I UX ?_;have P:=X.cell
 go_wp2_with fail
 refine(x).mono ?_;rintro e u ⟨rfl,b⟩;have j:=ae W b;have m:jf (jA u p 3 (T A a)):=ae X b;have y:=O (WH.below b);have z:=O (Uy.below b);have E:=ai Ug b;clear b x W X WH Uy Ug P
 go_upto_region 2 with fail
 have b:=ao u (je #[.bool q] 4);have d:=Boxed.new u 4 (.bool q);obtain⟨f,x⟩:=J (u.alloc (je #[.bool q] 4));obtain⟨Q,F⟩:=J u.heap.size;rw[<-x]at b d⊢;rw[<-F]at d⊢;have R:=ae j b;have S:jf (jA f p 3 (T A a)):=ae m b;have U:=O (y.below b);have V:=O (z.below b);have s:=ai E b;have W:=O d;clear b x F d j m y z E;have P:=W.cell;have c1:=S.cell;have c2:=ah (i:=1) (v:=T A ep) R.out (by rw[Yj,c];rfl);have X:jf (∀z:jh,(∃m,z=f.drewN m)->jq jl 62 #[jg pl n cl,.func (.func 144) #[] #[jz (ja ⟨C,0,jc⟩),jz (ja ⟨Q,0,jc⟩),jz (ja ⟨p,0,jc⟩)]] z λe w'=>e=jp (.bool (l.any (mh g a)))/\jk w w w'):=O (by
  rintro z ⟨m,rfl⟩;have b:jk f f (f.drewN m):=(jK _ _).trans ⟨I,I,I,ju _,λ_ _=>rfl⟩;refine(Bg (Qx g vm vt a q C Q p (f.drewN m) ⟨by rw[av R b,Yj],U.llen⟩ (U.mem.below b) ay VW (av W b) (av S b) t) l _ _ (V.below b) (jK _ _) (ju _) YW).mono ?_;rintro e w' ⟨rfl,o⟩;exact⟨I,s.trans ((b.trans (o.mono b.size)).mono s.size)⟩)
 by_cases b:0<ep
 case pos=>
  have m:decide (0<ep)=jm:=ak b;have hd2:(ep==0)=ji:=by simp;omega
  have j:=O b;clear b
  rcases q with _|_
  ·obtain rfl:r=ji:=by
    rw[k];exact tI λh=>by have d:=h.own;rw[<-t,<-c,m]at d;cases d
   go_quiet (fail)
   go_wp2_with fail
   go_ret;exact⟨I,s.trans ⟨I,I,I,ju _,λ_ _=>rfl⟩⟩
  have E:jf (r= !(l.any (mh g a))):=O (by rw[k];exact EQ (by rw[<-t,<-c,m]) (λe=>jB (c.trans e) (aI j)))
  go_quiet (fail)
  go_wp2_with fail
  refine(X _ ⟨_,I⟩).mono ?_;rintro e w5 ⟨rfl,y⟩;have F:=O y;clear y
  go_wp2_with fail
  go_ret;exact⟨iy E.symm,F⟩
 have m:decide (0<ep)=ji:=ak b;have D:ep=0:=by have:=ax.out;rw[<-c]at this;omega
 subst D;clear b
 cases q with
 |true=>
  obtain rfl:r=ji:=by
   rw[k];exact tI λh=>by have d:=h.own;rw[<-t,<-c,m]at d;cases d
  go_quiet (fail)
  go_wp2_with fail
  go_ret;exact⟨I,s.trans ⟨I,I,I,ju _,λ_ _=>rfl⟩⟩
 |false=>
 by_cases d:n=0
 case pos=>
  subst d;obtain rfl:r=ji:=by
   rw[k];exact tI λh=>by
    obtain⟨x,r,b,-⟩:=h.first c.symm;have j:=ZK.out;rw[b]at j;simp at j
  go_quiet (fail)
  go_wp2_with fail
  go_ret;exact⟨I,s.trans ⟨I,I,I,ju _,λ_ _=>rfl⟩⟩
 have hd3:((n:N)==0)=ji:=by simp;omega
 have a4:0<n:=Y;obtain⟨g0,o0,rfl,aa⟩:=(V.cells).2.2 a4;obtain⟨x,H,K⟩:∃x H,l=x::H:=by
  rcases l with _|⟨x,r⟩
  ·have:=ZK.out;simp at this;omega
  exact⟨x,r,I⟩
 have c3:f.cell? ⟨g0,o0+1,jc⟩=ja (T A x.d):=by
  have h:=aa 0 x (by rw[K];rfl) 1 _ I;rw[Nat.zero_mul,xo]at h;exact h
 obtain⟨z,M⟩:=J x.d;rw[<-M]at c3;have ac:=O K;have ad:=O M;clear aa K M d
 by_cases b:z=a
 case neg=>
  have K:(z==a)=ji:=ak b;have M:(z !=a)=jm:=ak b;obtain rfl:r=ji:=by
   rw[k];exact tI λh=>by
    obtain⟨x2,r2,j,h5⟩:=h.first c.symm;rw[ac]at j;injection j with j _
    subst j;exact b (ad.trans h5)
  clear b
  go_quiet (fail)
  go_wp2_with fail
  go_ret;exact⟨I,s.trans ⟨I,I,I,ju _,λ_ _=>rfl⟩⟩
 have K:(z==a)=jm:=ak b;have M:(z !=a)=ji:=ak b;have E:jf (r= !(l.any (mh g a))):=O (by rw[k];exact EQ (by rw[<-t,<-c,m]) (λe=>⟨x,H,ac,by rw[<-ad];exact b⟩));clear b
 go_quiet (fail)
 go_wp2_with fail
 refine(X _ ⟨_,I⟩).mono ?_;rintro e w5 ⟨rfl,y⟩;have F:=O y;clear y
 go_wp2_with fail
 go_ret;exact⟨iy E.symm,F⟩
def oh(x:ap):Prop:=(x.k=1/\bJ x.p/\bJ x.v/\x.c=0)\/(x.k=2/\x.p=0/\x.v=0/\0<=x.c/\x.c<=1048576)\/(x.k=3/\bJ x.p/\bJ x.v/\0<=x.c/\x.c<=1048576)
noncomputable def lT(x:ap):jF:=by classical exact decide (oh x)
noncomputable def tw(x:ap):jF:=decide (cS x.p=0)&&decide (cS x.v=0)
def si(x:ap):jF:=decide (0<=x.c)&&decide (x.c<=1048576)
theorem ze:cS d=0↔bJ d:=⟨λh=>by
 by_cases g:bJ d
 ·exact g
 rw[kZ g]at h;exact jB h G,gD⟩
theorem EZ:tw x=jm↔bJ x.p/\bJ x.v:=by unfold tw;simp[ze]
theorem Fz:si x=jm↔0<=x.c/\x.c<=1048576:=by unfold si;simp
theorem rH:lT x=jm↔oh x:=by unfold lT;simp
theorem Sn(h:x.k=1):lT x=(tw x&&(x.c==0)):=by
 rw[qy,sv,EZ,beq_iff_eq,rH];unfold oh;simp[h,and_assoc]
theorem TT(h:x.k=2):lT x=((x.p==0)&&(x.v==0)&&si x):=by
 rw[qy,sv,sv,Fz,beq_iff_eq,beq_iff_eq,rH];unfold oh;simp[h,and_assoc]
theorem Kw(h:x.k=3):lT x=(tw x&&si x):=by
 rw[qy,sv,EZ,Fz,rH];unfold oh;simp[h,and_assoc]
theorem L3(a:x.k≠1)(b:x.k≠2)(c:x.k≠3):lT x=ji:=by
 have h:¬oh x:=by unfold oh;simp[a,b,c]
 cases hb:lT x with
 |false=>rfl
 |true=>exact jB (rH.1 hb) h
noncomputable def iG(l:jd ap):jF:=by classical exact decide (eU l)
theorem oy:iG f=jm↔eU f:=by unfold iG;simp
theorem EU(h:¬eU f):iG f=ji:=by unfold iG;simpa using h
structure l9(l:jd ap):Prop where
 each:∀x∈l,oN x
 once:(l.map ap.d).Nodup
theorem l9.nil:l9 []:=⟨(λx h=>by cases h),by simp⟩
theorem l9.snoc(h:l9 f)(l:fF x.d)(g:lT x=jm)(i:x.d∉f.map ap.d):l9 (f++[x]):=by
 refine⟨λy c=>?_,?_⟩
 ·rcases oj.1 c with c|c
  ·exact h.each y c
  rw[qu]at c;subst c;refine⟨l,?_⟩;exact rH.1 g
 rw[qa,GX];refine⟨h.once,by simp,λa j b d=>?_⟩;simp at d;subst d;exact λe=>i (e▸j)
theorem yr(a:f[b]?=ja x)(h:¬fF x.d\/lT x=ji\/x.d∈(f.take b).map ap.d):iG f=ji:=by
 refine EU λk=>?_
 have c:=k.each x (j1 a)
 rcases h with h|h|h
 ·exact h c.1
 ·rw[rH.2 c.2]at h;cases h
 have l:f=f.take b++f.drop b:=(xm b f).symm;have g:x∈f.drop b:=by
  obtain⟨d,e⟩:=qe.1 a;rw[xU d,e];exact qN ..
 have d:=k.once;rw[l,qa,GX]at d;exact d.2.2 _ h _ (jS.2 ⟨x,g,I⟩) I
theorem Ox(h:l9 f):iG f=decide (f.length<=64):=by
 rw[qy,oy,decide_eq_true_iff];exact⟨λh=>h.len,λa=>⟨h.each,h.once,a⟩⟩
theorem PX(a:jd N)(y:N):(ef a y).getD ji=decide (y∈a):=by
 unfold ef
 split<;>simp_all
theorem Ah(l:jd ap)(v:jj)(w:jh)(h:EC.At w v l)(hl:l.length<=1000000):
 jq jl 85 #[v] w λe w'=>e=jp (.bool (iG l))/\jk w w w':=by
 obtain⟨W,a⟩:=J (iG l);rw[<-a];have X:=O a;obtain⟨p,c,rfl,hc,-⟩:=h.form;have HU:=O h;obtain⟨n,b⟩:=J l.length;have HN:=O b;rw[<-b]at hl hc HU⊢;have d:=aY.made (ig qF) 3 w;have f:=ao w (.map #[] 0);have ac:=O d;have Uh:=O f;have g:=@run_makeMap jl;clear h b a d f
 go_enter func85,ntmps85
 go_wp2_with fail
 clear g;obtain⟨M,a⟩:=J w.heap.size;have Z5:=O a;rw[<-a]at ac⊢;obtain⟨W0,b⟩:=J (w.alloc (.map #[] 0));rw[<-b]at ac Uh⊢;clear a b
 go_loopw [12] (λi wr=>∃k:jb,i=T A k/\k<=n/\jf (aY (ig qF) 3 wr M k (ef ((l.take k).map ap.d)))/\jf (l9 (l.take k))/\jf (jk w w wr)) (λi _=>n-(jv i).toNat)
 case atStart=>exact⟨0,I,j5 _,O (ac.congr (λx _=>by simp[ef])),O (ak l9.nil),Uh⟩
 obtain⟨k,rfl,hk,z,HP,a⟩:=hrel
 by_cases ax:k<n
 case neg=>
  have y:=aw ((k:N)<(n:N));have ay:=aw (k<n);obtain rfl:k=n:=Y;have b:jf (W=decide (k<=64)):=O (by
   have h:=HP.out;rw[jU (by rw[<-HN];exact ju _)]at h;rw[X,Ox h,<-HN])
  go_wp2_with fail
  go_ret;exact⟨iy (by rw[b,qy,decide_eq_true_iff,decide_eq_true_iff];omega),a⟩
 have y:=az ((k:N)<(n:N));have ay:=az (k<n);obtain⟨e,he,K⟩:=dL (l:=l) (j:=k) (by rw[<-HN];exact ax);obtain⟨g,o,rfl,b⟩:=(HU.cells).2.2 Y;have HE:=O he;have Vf:=O K;have Q:=O (Sn (x:=e));have R:=O (TT (x:=e));have D:=O (Kw (x:=e));have aa:=O (L3 (x:=e));obtain⟨S,B⟩:=J (tw e);obtain⟨F,C⟩:=J (si e);obtain⟨s,H⟩:=J (lT e);have ad:=O B;have Vu:=O C;have au:=O H;rw[<-B]at Q D;rw[<-C]at R D;rw[<-H]at aa Q R D;obtain⟨d,f,ep,u,r⟩:=e;have c0:wr.cell? ⟨g,o+k*5,jc⟩=ja (T A d):=aB (b k _ he 0 _ I) a;have c1:wr.cell? ⟨g,o+k*5+1,jc⟩=ja (T A f):=aB (b k _ he 1 _ I) a;have U:wr.cell? ⟨g,o+k*5+2,jc⟩=ja (T A ep):=aB (b k _ he 2 _ I) a;have c3:wr.cell? ⟨g,o+k*5+3,jc⟩=ja (T A u):=aB (b k _ he 3 _ I) a;have c4:wr.cell? ⟨g,o+k*5+4,jc⟩=ja (T A r):=aB (b k _ he 4 _ I) a;have V:=ao wr (je #[T A d,T A f,T A ep,T A u,T A r] 61);have hX:=jw wr (je #[T A d,T A f,T A ep,T A u,T A r] 61);have m:=O V;have q:=O hX;dsimp only at aa Q R D;clear b he K B C H V hX
 go_upto_region 5 with fail
 obtain⟨B,b⟩:=J wr.heap.size;rw[<-b]at q⊢;obtain⟨W1,C⟩:=J (wr.alloc (je #[T A d,T A f,T A ep,T A u,T A r] 61));rw[<-C]at m q⊢;have K:=O (z.below m z.lt);have Uf:=O (a.trans (m.mono a.size));have a2:=O b;clear b C c0 c1 U c3 c4 z a m
 go_cut [6] (λv b=>v=.bool S/\jf (jk W1 W1 b))
 case first=>
  have b2:=ah (i:=2) q I;have b3:=ah (i:=3) q I;have V:=O (gA ep);have UQ:=O (gA u);have C:jf (S=(decide (cS ep=0)&&decide (cS u=0))):=O ad;obtain⟨U,a⟩:=J (cS ep);obtain⟨c3,m⟩:=J (cS u);rw[<-a]at V C;rw[<-m]at UQ C;clear a m
  go_wp2_with fail
  refine(V _).mono ?_;rintro e w2 ⟨rfl,a⟩;replace b3:=aB b3 a;have z:=O a;clear a b2
  by_cases m:U=0
  ·subst m
   go_wp2_with fail
   refine(UQ _).mono ?_;rintro e w3 ⟨rfl,a⟩;have H:=ai z a;clear a
   go_wp2_with fail
   go_meet
   exact⟨by rw[C,<-MS];rfl,H⟩
  have hd2:(U==0)=ji:=ak m;have a1:decide (U=0)=ji:=ak m;obtain rfl:S=ji:=by rw[C,a1];rfl
  clear m
  go_wp2_with fail
  go_meet
  exact⟨I,z⟩
 obtain⟨rfl,z⟩:=hcut;have V:=O (av q z);have Vw:=O (K.below z K.lt);have H:=O (Uf.trans (z.mono Uf.size));clear q K Uf z;have b4:=ah (i:=4) V I
 go_upto_region 6 with fail
 go_cut [7] (λv b=>v=.bool F/\wc=b)
 case first=>
  have a:jf (F=(decide (0<=r)&&decide (r<=1048576))):=O Vu
  by_cases q:0<=r
  ·have y:decide (0<=r)=jm:=ak q
   have C:jf (F=decide (r<=1048576)):=O (by rw[a,y];rfl)
   go_wp2_with fail
   go_meet
   exact⟨js qt C.symm,I⟩
  have y:decide (0<=r)=ji:=ak q;obtain rfl:F=ji:=by rw[a,y];rfl
  clear q
  go_wp2_with fail
  go_meet
  exact⟨I,I⟩
 obtain⟨rfl,rfl⟩:=hcut;have b0:=ah (i:=0) V I;have b2:=ah (i:=2) V I;have b3:=ah (i:=3) V I
 go_upto_block 2 with fail
 go_cut [8] (λv b=>v=.bool s/\wc=b)
 case first=>
  by_cases q:d=1
  ·have y:(d==1)=jm:=ak q
   have a:=Q q;clear q
   rcases S with _|_
   ·obtain rfl:s=ji:=by rw[a];rfl
    clear a
    go_wp2_with fail
    go_meet
    exact⟨I,I⟩
   have C:jf (s=(r==0)):=O (by rw[a];rfl);clear a
   go_wp2_with fail
   go_meet
   exact⟨js qt C.symm,I⟩
  have y:(d==1)=ji:=ak q
  by_cases m:d=2
  ·have hd2:(d==2)=jm:=ak m
   have a:=R m;clear q m
   by_cases b:ep=0
   ·have hd3:(ep==0)=jm:=ak b
    by_cases K:u=0
    ·have a1:(u==0)=jm:=ak K
     have C:jf (s=F):=O (by rw[a,b,K];simp);clear a b K
     go_wp2_with fail
     go_meet
     exact⟨js qt C.symm,I⟩
    have a1:(u==0)=ji:=ak K;obtain rfl:s=ji:=by rw[a];simp[K]
    clear a b K
    go_wp2_with fail
    go_meet
    exact⟨I,I⟩
   have hd3:(ep==0)=ji:=ak b;obtain rfl:s=ji:=by rw[a];simp[b]
   clear a b
   go_wp2_with fail
   go_meet
   exact⟨I,I⟩
  have hd2:(d==2)=ji:=ak m
  by_cases b:d=3
  ·have hd3:(d==3)=jm:=ak b
   have a:=D b;clear q m b
   rcases S with _|_
   ·obtain rfl:s=ji:=by rw[a];rfl
    clear a
    go_wp2_with fail
    go_meet
    exact⟨I,I⟩
   have C:jf (s=F):=O (by rw[a];rfl);clear a
   go_wp2_with fail
   go_meet
   exact⟨js qt C.symm,I⟩
  have hd3:(d==3)=ji:=ak b;obtain rfl:s=ji:=aa q m b;clear q m b
  go_wp2_with fail
  go_meet
  exact⟨I,I⟩
 obtain⟨rfl,rfl⟩:=hcut;clear b0 b2 b3 b4 aa Q R D ad Vu;have b1:=ah (i:=1) V I
 cases s with
 |false=>
  obtain rfl:W=ji:=by rw[X];exact yr HE (.inr (.inl au.symm))
  go_wp2_with fail
  go_ret;exact⟨I,H⟩
 |true=>
 have a:=O (A7 f);obtain⟨Q,b⟩:=J (decide (fF f));rw[<-b]at a;have q:=O b;clear b
 go_wp2_with fail
 refine(a _).mono ?_;rintro e w4 ⟨rfl,rfl⟩;clear a
 cases Q with
 |false=>
  obtain rfl:W=ji:=by rw[X];exact yr HE (.inl (by have h:=q.symm;simpa using h))
  go_wp2_with fail
  go_ret;exact⟨I,H⟩
 |true=>
 have a:fF f:=p6 q.symm;have b:aO f:=aO.of (by unfold fF at a;omega);have R:=O a;have C:=Vw.look (P:=jl) mz (t:=237) underlying237 (Ba _) b ji;obtain⟨D,m⟩:=J (decide (f∈(l.take k).map ap.d));have a1:(Instr.lookup 237 (.map (ja M)) (T A f) ji).run jl wc=.ok (.bool D) wc:=by
  rw[C,m,<-PX];rfl
 have K:=O m;have aa:=O b;clear a b C m
 cases D with
 |true=>
  obtain rfl:W=ji:=by rw[X];exact yr HE (.inr (.inr (p6 K.symm)))
  go_wp2_with fail
  go_ret;exact⟨I,H⟩
 |false=>
 have C:jf (l9 (l.take (k+1))):=O (by
  rw[Vf];exact HP.snoc R au.symm (of_decide_eq_false K.symm))
 have HS:jf ((l.take (k+1)).map ap.d=(l.take k).map ap.d++[f]):=O (by rw[Vf,qa];rfl);have a3:k<1000001:=Y;have ad:jf (M<wc.heap.size):=O Vw.lt;have a:jf (w.heap.size<=M):=O (by rw[Z5];exact ju _)
 go_wp2_with (at_mapUpdate;refine ot (E:=ig qF) I _ _ _ 237 I mz underlying237 M _ _ I Vw (by unfold o1;omega) f I aa jm I trivial ?_;intro w3 b m;have Wp:=O b;have ZL:=O m;clear b m)
 exact⟨⟨k+1,by go_num,by omega,O (by
  have h:=Wp.out;rw[zh]at h;rw[HS];exact h),C,O (H.grown ZL.grown (ee ad a) (λj e=>by cases e;exact a))⟩,by simp only[jv];omega⟩
theorem gN(h:bH w a t):∃p n c,a=jg p n c:=by
 obtain⟨p,c,v,-⟩:=h;exact⟨p,_,c,v⟩
theorem z8(h:bJ d):aO d:=aO.of (by have:=h.1;have:=h.2.1;omega)
theorem bH.setRow{v:jj}{p:jO j6}{n c:jb}{l:jI}{m:jb×jb}{f:jD jj}(h:bH w v t)(q:w.heap[b]?=ja (je #[jg p n c] l m)):bH (w.setRow b f) v t:=by
 have key:∀(g o:jb) (x:N),w.cell? ⟨g,o,jc⟩=ja (T A x)->(w.setRow b f).cell? ⟨g,o,jc⟩=ja (T A x):=λg o x d=>by
  by_cases e:g=b
  ·subst e
   exfalso
   unfold qx at d;rw[q]at d
   rcases o with _ |o<;>simp at d
  rw[<-d];exact dX (a:=⟨g,o,jc⟩) (jY _ _ _ _ e)
 obtain⟨p,c,r,s,u,y,z⟩:=h;refine⟨p,c,r,s,u,λB=>?_,z⟩;obtain⟨g,o,e,i⟩:=y B;exact⟨g,o,e,λj k=>⟨key _ _ _ (i j k).1,key _ _ _ (i j k).2⟩⟩
theorem rc:(jl.info? 49).map (·.size)=ja 1:=by kernel_rfl
theorem yz(g:Grp)(vm vt vl:jj)(l:jd ap)(w:jh)(h:bW w g vm vt)(u:eU l)(z:g.tree.length<=700000)(v:EC.At w vl l):
 jq jl 44 #[jo (aD g vm vt).toArray,vl] w λe w'=>∃M,e=jp (jo #[M])/\bH w' M (aW g.tree l)/\jk w w w':=by
 obtain⟨f,q,b,rfl⟩:=gN h.tree;obtain⟨r,x⟩:=J ((aD g vm (jg f q b)).toArray);have B:r[35]?=ja (jg f q b):=by rw[x];simpa using(lN (vm:=vm) (vt:=jg f q b) h.llen).2.2.2
 rw[<-x];have ad:=O B;obtain⟨x0,c⟩:=J ((((w.alloc (je r 51)).alloc (je #[jg jc 0 0] 49)).alloc (je #[jg f q b] 49)));obtain⟨d,k⟩:=J w.heap.size;have a:=jw w (je r 51);have m:=ao w (je r 51);have i:=jw (w.alloc (je r 51)) (je #[jg jc 0 0] 49);have o:=ao (w.alloc (je r 51)) (je #[jg jc 0 0] 49);have p:=jw ((w.alloc (je r 51)).alloc (je #[jg jc 0 0] 49)) (je #[jg f q b] 49);have s:=ao ((w.alloc (je r 51)).alloc (je #[jg jc 0 0] 49)) (je #[jg f q b] 49);replace a:=av a o;replace a:=av a s;rw[j7]at i;replace i:=av i s;rw[j7,j7]at p;have t:=((m).trans (o.mono (m).size)).trans (s.mono ((m).trans (o.mono (m).size)).size);rw[<-c]at t;rw[<-c,<-k]at a;rw[<-c,<-k]at i;rw[<-c,<-k]at p;have a4:=O a;have UP:=O i;have au:=O p;have Uh:=O t;have HW:=O c;have P:=O k;obtain⟨pl,cl,rfl,Vr,-⟩:=v.form;obtain⟨n,y⟩:=J l.length;have C:=u.len;have a5:n<=64:=Y;have ax:jf (bH x0 (jg f q b) g.tree):=O (h.tree.below t);have UK:jf (EC.At w (jg pl l.length cl) l):=O v;rw[<-y]at UK Vr⊢;have ZK:=O y;have HF:=O u;have Wn:=O z;clear t c k a m i o p s x y C u z v h B
 go_enter func44,ntmps44
 have a:((w.alloc (je r 51)).alloc (je #[jg jc 0 0] 49)).cell? ⟨w,35,jc⟩=ja (jg f q b):=ah (av (jw w _) (ao _ _)) ad
 go_upto_region 2 with fail
 clear a;rw[<-HW,<-P]
 go_wp2_with fail
 go_loopw [12] (λi wr=>∃(k:jb) (p:jO j6) (m c:jb),i=T A k/\k<=n/\jf (wr.heap[d+1+1]?=ja (je #[jg p m c] 49 (0,0)))/\jf (wr.heap[d+1]?=ja (je #[jg jc 0 0] 49 (0,0)))/\jf (bH wr (jg p m c) (aW g.tree (l.take k)))/\jf (jk w w wr)) (λi _=>n-(jv i).toNat)
 case atStart=>exact⟨0,f,q,b,I,j5 _,au,UP,ax,Uh⟩
 obtain⟨k,p,m,c,rfl,hk,C,v,x,s⟩:=hrel
 by_cases ay:k<n
 case neg=>
  have a1:=aw ((k:N)<(n:N));have a2:=aw (k<n);obtain rfl:k=n:=Y;have b:=ah (i:=0) C I;have a:jf (bH wr (jg p m c) (aW g.tree l)):=O (by have h:=x.out;rw[jU (by rw[<-ZK];exact ju _)]at h;exact h);have t:d+1≠d+1+1:=Y
  go_wp2_with (refine j3 I λ_ y=>j4 49 _ _ I (d+1) #[jg p m c] I I 49 _ v.out rc aj (by simp[n0]) (y _ _ ?_))
  have o:(wr.setRow (d+1) #[jg p m c]).heap[d+1]?=ja (je #[jg p m c] 49 (0,0)):=jQ _ _ _ _ _ _ v.out;refine qg (results_cell_row I _ _ (d+1) 49 _ (0,0) _ I o underlying49 I rc) I ?_;exact⟨_,I,a.setRow v,jZ s.out (by rw[P];omega) _⟩
 have a1:=az ((k:N)<(n:N));have a2:=az (k<n);obtain⟨e,he,D⟩:=dL (l:=l) (j:=k) (by rw[<-ZK];exact ay);obtain⟨z,o,rfl,a⟩:=(UK.cells).2.2 Y;have B:=HF.each e (j1 he);have X:jf (aO e.d):=O (aO.of (by have:=B.1;unfold fF at this;omega));have ac:jf (e.k≠2->aO e.p):=O (λt=>by
  rcases B.2 with h|h|h
  ·exact z8 h.2.1
  ·exact jB h.1 t
  exact z8 h.2.1)
 have VR:jf (aW g.tree (l.take (k+1))=ie (aW g.tree (l.take k)) e):=O (by rw[D,QX]);have WL:jf ((aW g.tree (l.take k)).length<=800000):=O (by have:=wK g.tree (l.take k);have:=Wn.out;have:=qz k l;omega);generalize aW g.tree (l.take k)=Q at VR WL x;obtain⟨u,t,ep,R,S⟩:=e;have H:wr.cell? ⟨z,o+k*5,jc⟩=ja (T A u):=aB (a k _ he 0 _ I) s;have K:wr.cell? ⟨z,o+k*5+1,jc⟩=ja (T A t):=aB (a k _ he 1 _ I) s;have c2:wr.cell? ⟨z,o+k*5+2,jc⟩=ja (T A ep):=aB (a k _ he 2 _ I) s;have c3:wr.cell? ⟨z,o+k*5+3,jc⟩=ja (T A R):=aB (a k _ he 3 _ I) s;have c4:wr.cell? ⟨z,o+k*5+4,jc⟩=ja (T A S):=aB (a k _ he 4 _ I) s;dsimp only at X ac;clear a he D B
 go_upto_region 5 with fail
 obtain⟨y1,a⟩:=J wr;rw[<-a]at C v x s H K c2 c3 c4⊢;clear a;have a:=ao y1 (je #[T A u,T A t,T A ep,T A R,T A S] 61);have D:=jw y1 (je #[T A u,T A t,T A ep,T A R,T A S] 61);obtain⟨y2,hx⟩:=J (y1.alloc (je #[T A u,T A t,T A ep,T A R,T A S] 61));rw[<-hx]at a D⊢;obtain⟨E,F⟩:=J y1.heap.size;rw[<-F]at D⊢;have a6:=O F;have B:=ae C a;have U:=ae v a;have V:=O (x.below a);have W:=ai s a;clear C v x s;have x:=O D;clear D hx a F;have b0:=ah (i:=0) x I;have b1:=ah (i:=1) x I;have b2:=ah (i:=2) x I;have t0:=ah (i:=0) B I;clear H K c2 c3 c4
 by_cases s:u=2
 ·have hd2:(u==2)=jm:=ak s
  have aa:jf (aW g.tree (l.take (k+1))=kG Q t):=O (by rw[VR];exact jt s);clear s
  go_wp2_with fail
  refine(Pw Q (jg p m c) t y2 V WL X).mono ?_;rintro e y3 ⟨M,rfl,C,a⟩;have D:=O C;clear C b0 b1 b2 t0;have v:=ae B a;have U4:=ae U a;have Uj:=ai W a;clear B U V W x;clear a;obtain⟨F,H,K,rfl⟩:=gN D
  go_wp2_with (refine j3 I λ_ y=>j4 49 _ _ I (d+1+1) #[jg F H K] I I 49 _ v.out rc aj (by simp[n0]) (y _ _ ?_))
  exact⟨⟨k+1,F,H,K,by go_num,by omega,O (jQ _ _ _ _ _ _ v.out),O ((jY _ _ _ _ Y).trans U4),O (by rw[aa];exact D.setRow v),O (jZ Uj.out (by rw[P];omega) _)⟩,by simp only[jv];omega⟩
 have hd2:(u==2)=ji:=ak s;have aa:jf (aW g.tree (l.take (k+1))=kR Q t ep):=O (by rw[VR];exact jy s);have a3:=O (ac s);clear s
 go_wp2_with fail
 refine(Sw Q (jg p m c) t ep y2 V WL X a3).mono ?_;rintro e y3 ⟨M,rfl,C,a⟩;have D:=O C;clear C b0 b1 b2 t0;have v:=ae B a;have U4:=ae U a;have Uj:=ai W a;clear B U V W x;clear a;obtain⟨F,H,K,rfl⟩:=gN D
 go_wp2_with (refine j3 I λ_ y=>j4 49 _ _ I (d+1+1) #[jg F H K] I I 49 _ v.out rc aj (by simp[n0]) (y _ _ ?_))
 exact⟨⟨k+1,F,H,K,by go_num,by omega,O (jQ _ _ _ _ _ _ v.out),O ((jY _ _ _ _ Y).trans U4),O (by rw[aa];exact D.setRow v),O (jZ Uj.out (by rw[P];omega) _)⟩,by simp only[jv];omega⟩
section
open Go.Shelf
def Tryzx.laysM_ren:Go.Shelf.Ren:=⟨fun|6=>66|15=>131|14=>130|28=>180|29=>181|20=>172|21=>173|22=>174|23=>175|24=>176|25=>177|26=>178|27=>179|46=>227|47=>228|48=>229|49=>230|50=>231|57=>261|n=>n,fun|22=>46|24=>82|25=>146|3=>3|39=>225|0=>0|53=>281|55=>248|4=>4|46=>275|45=>274|50=>67|5=>5|9=>9|66=>322|70=>326|76=>355|77=>356|n=>n,fun|n=>n⟩
theorem Tryzx.laysM:Go.Proofs.SlLaysF0.n6 jl Tryzx.laysM_ren:={
 mixed:=by kernel_rfl
 f6:=⟨Tryz.f66.name,by decide,func66.trans (js ja af)⟩
 f14:=⟨Tryz.f130.name,by decide,func130.trans (js ja af)⟩
 f15:=func131.trans (js ja af)
 f20:=⟨Tryz.f172.name,by decide,func172.trans (js ja af)⟩
 f21:=⟨Tryz.f173.name,by decide,func173.trans (js ja af)⟩
 f22:=⟨Tryz.f174.name,by decide,func174.trans (js ja af)⟩
 f23:=⟨Tryz.f175.name,by decide,func175.trans (js ja af)⟩
 f24:=⟨Tryz.f176.name,by decide,func176.trans (js ja af)⟩
 f25:=⟨Tryz.f177.name,by decide,func177.trans (js ja af)⟩
 f26:=⟨Tryz.f178.name,by decide,func178.trans (js ja af)⟩
 f27:=⟨Tryz.f179.name,by decide,func179.trans (js ja af)⟩
 f28:=func180.trans (js ja af)
 f29:=func181.trans (js ja af)
 f46:=⟨Tryz.f227.name,by decide,func227.trans (js ja af)⟩
 f47:=func228.trans (js ja af)
 f48:=func229.trans (js ja af)
 f49:=⟨Tryz.f230.name,by decide,func230.trans (js ja af)⟩
 f50:=⟨Tryz.f231.name,by decide,func231.trans (js ja af)⟩
 f57:=⟨Tryz.f261.name,by decide,func261.trans (js ja af)⟩
 t0:=xC
 a0:=isAgg0
 z0:=sizeOf0
 v0:=zeroValue0
 t3:=mz
 a3:=isAgg3
 z3:=sizeOf3
 v3:=zeroValue3
 t4:=qF
 a4:=isAgg4
 z4:=sizeOf4
 v4:=zeroValue4
 t5:=wq
 a5:=isAgg5
 z5:=sizeOf5
 v5:=zeroValue5
 t9:=xD
 a9:=isAgg9
 z9:=sizeOf9
 v9:=zeroValue9
 t22:=qC
 a22:=isAgg46
 z22:=sizeOf46
 v22:=zeroValue46
 t25:=underlying146
 a25:=isAgg146
 z25:=sizeOf146
 v25:=zeroValue146
 t39:=xE
 a39:=isAgg225
 z39:=sizeOf225
 v39:=zeroValue225
 t45:=xG
 a45:=isAgg274
 z45:=sizeOf274
 v45:=zeroValue274
 t46:=xH
 a46:=isAgg275
 z46:=sizeOf275
 v46:=zeroValue275
 t50:=xI
 a50:=isAgg67
 z50:=sizeOf67
 v50:=zeroValue67
 t53:=xJ
 a53:=isAgg281
 z53:=sizeOf281
 v53:=zeroValue281
 t55:=xK
 a55:=isAgg248
 z55:=sizeOf248
 v55:=zeroValue248
 t66:=xL
 a66:=isAgg322
 z66:=sizeOf322
 v66:=zeroValue322
 t70:=xM
 a70:=isAgg326
 z70:=sizeOf326
 v70:=zeroValue326
 t76:=xN
 a76:=isAgg355
 z76:=sizeOf355
 v76:=zeroValue355
 t77:=xO
 a77:=isAgg356
 z77:=sizeOf356
 v77:=zeroValue356}
theorem Tryzx.sortFunc_noneM(p:jO j6)(a:jb)(b:jj)(w:jh):
 jq jl 66 #[jg p 0 a,b] w λe w'=>e=jp (jE #[])/\w'=w:=AnyF.slices_SortFunc_none Tryzx.laysM p a b w
def Tryzx.laysC_ren:Go.Shelf.Ren:=⟨fun|6=>109|15=>131|14=>160|28=>180|29=>181|20=>213|21=>214|22=>215|23=>216|24=>217|25=>218|26=>219|27=>220|46=>248|47=>228|48=>229|49=>249|50=>250|57=>265|n=>n,fun|22=>53|24=>61|25=>209|3=>3|39=>225|0=>0|53=>281|55=>248|4=>4|46=>275|45=>274|50=>67|5=>5|9=>9|66=>322|70=>326|76=>355|77=>356|n=>n,fun|n=>n⟩
theorem Tryzx.laysC:Go.Proofs.SlLaysF0.n6 jl Tryzx.laysC_ren:={
 mixed:=by kernel_rfl
 f6:=⟨Tryz.f109.name,by decide,func109.trans (js ja af)⟩
 f14:=⟨Tryz.f160.name,by decide,func160.trans (js ja af)⟩
 f15:=func131.trans (js ja af)
 f20:=⟨Tryz.f213.name,by decide,func213.trans (js ja af)⟩
 f21:=⟨Tryz.f214.name,by decide,func214.trans (js ja af)⟩
 f22:=⟨Tryz.f215.name,by decide,func215.trans (js ja af)⟩
 f23:=⟨Tryz.f216.name,by decide,func216.trans (js ja af)⟩
 f24:=⟨Tryz.f217.name,by decide,func217.trans (js ja af)⟩
 f25:=⟨Tryz.f218.name,by decide,func218.trans (js ja af)⟩
 f26:=⟨Tryz.f219.name,by decide,func219.trans (js ja af)⟩
 f27:=⟨Tryz.f220.name,by decide,func220.trans (js ja af)⟩
 f28:=func180.trans (js ja af)
 f29:=func181.trans (js ja af)
 f46:=⟨Tryz.f248.name,by decide,func248.trans (js ja af)⟩
 f47:=func228.trans (js ja af)
 f48:=func229.trans (js ja af)
 f49:=⟨Tryz.f249.name,by decide,func249.trans (js ja af)⟩
 f50:=⟨Tryz.f250.name,by decide,func250.trans (js ja af)⟩
 f57:=⟨Tryz.f265.name,by decide,func265.trans (js ja af)⟩
 t0:=xC
 a0:=isAgg0
 z0:=sizeOf0
 v0:=zeroValue0
 t3:=mz
 a3:=isAgg3
 z3:=sizeOf3
 v3:=zeroValue3
 t4:=qF
 a4:=isAgg4
 z4:=sizeOf4
 v4:=zeroValue4
 t5:=wq
 a5:=isAgg5
 z5:=sizeOf5
 v5:=zeroValue5
 t9:=xD
 a9:=isAgg9
 z9:=sizeOf9
 v9:=zeroValue9
 t22:=qD
 a22:=isAgg53
 z22:=sizeOf53
 v22:=zeroValue53
 t25:=underlying209
 a25:=isAgg209
 z25:=sizeOf209
 v25:=zeroValue209
 t39:=xE
 a39:=isAgg225
 z39:=sizeOf225
 v39:=zeroValue225
 t45:=xG
 a45:=isAgg274
 z45:=sizeOf274
 v45:=zeroValue274
 t46:=xH
 a46:=isAgg275
 z46:=sizeOf275
 v46:=zeroValue275
 t50:=xI
 a50:=isAgg67
 z50:=sizeOf67
 v50:=zeroValue67
 t53:=xJ
 a53:=isAgg281
 z53:=sizeOf281
 v53:=zeroValue281
 t55:=xK
 a55:=isAgg248
 z55:=sizeOf248
 v55:=zeroValue248
 t66:=xL
 a66:=isAgg322
 z66:=sizeOf322
 v66:=zeroValue322
 t70:=xM
 a70:=isAgg326
 z70:=sizeOf326
 v70:=zeroValue326
 t76:=xN
 a76:=isAgg355
 z76:=sizeOf355
 v76:=zeroValue355
 t77:=xO
 a77:=isAgg356
 z77:=sizeOf356
 v77:=zeroValue356}
theorem Tryzx.sortFunc_noneC(p:jO j6)(a:jb)(b:jj)(w:jh):
 jq jl 109 #[jg p 0 a,b] w λe w'=>e=jp (jE #[])/\w'=w:=AnyF.slices_SortFunc_none Tryzx.laysC p a b w
def Tryzx.laysK_ren:Go.Shelf.Ren:=⟨fun|6=>79|15=>131|14=>136|28=>180|29=>181|20=>190|21=>191|22=>192|23=>193|24=>194|25=>195|26=>196|27=>197|46=>235|47=>228|48=>229|49=>236|50=>237|57=>262|n=>n,fun|22=>97|24=>79|25=>161|3=>3|39=>225|0=>0|53=>281|55=>248|4=>4|46=>275|45=>274|50=>67|5=>5|9=>9|66=>322|70=>326|76=>355|77=>356|n=>n,fun|n=>n⟩
theorem Tryzx.laysK:Go.Proofs.SlLaysF0.n6 jl Tryzx.laysK_ren:={
 mixed:=by kernel_rfl
 f6:=⟨Tryz.f79.name,by decide,func79.trans (js ja af)⟩
 f14:=⟨Tryz.f136.name,by decide,func136.trans (js ja af)⟩
 f15:=func131.trans (js ja af)
 f20:=⟨Tryz.f190.name,by decide,func190.trans (js ja af)⟩
 f21:=⟨Tryz.f191.name,by decide,func191.trans (js ja af)⟩
 f22:=⟨Tryz.f192.name,by decide,func192.trans (js ja af)⟩
 f23:=⟨Tryz.f193.name,by decide,func193.trans (js ja af)⟩
 f24:=⟨Tryz.f194.name,by decide,func194.trans (js ja af)⟩
 f25:=⟨Tryz.f195.name,by decide,func195.trans (js ja af)⟩
 f26:=⟨Tryz.f196.name,by decide,func196.trans (js ja af)⟩
 f27:=⟨Tryz.f197.name,by decide,func197.trans (js ja af)⟩
 f28:=func180.trans (js ja af)
 f29:=func181.trans (js ja af)
 f46:=⟨Tryz.f235.name,by decide,func235.trans (js ja af)⟩
 f47:=func228.trans (js ja af)
 f48:=func229.trans (js ja af)
 f49:=⟨Tryz.f236.name,by decide,func236.trans (js ja af)⟩
 f50:=⟨Tryz.f237.name,by decide,func237.trans (js ja af)⟩
 f57:=⟨Tryz.f262.name,by decide,func262.trans (js ja af)⟩
 t0:=xC
 a0:=isAgg0
 z0:=sizeOf0
 v0:=zeroValue0
 t3:=mz
 a3:=isAgg3
 z3:=sizeOf3
 v3:=zeroValue3
 t4:=qF
 a4:=isAgg4
 z4:=sizeOf4
 v4:=zeroValue4
 t5:=wq
 a5:=isAgg5
 z5:=sizeOf5
 v5:=zeroValue5
 t9:=xD
 a9:=isAgg9
 z9:=sizeOf9
 v9:=zeroValue9
 t22:=underlying97
 a22:=isAgg97
 z22:=sizeOf97
 v22:=zeroValue97
 t25:=underlying161
 a25:=isAgg161
 z25:=sizeOf161
 v25:=zeroValue161
 t39:=xE
 a39:=isAgg225
 z39:=sizeOf225
 v39:=zeroValue225
 t45:=xG
 a45:=isAgg274
 z45:=sizeOf274
 v45:=zeroValue274
 t46:=xH
 a46:=isAgg275
 z46:=sizeOf275
 v46:=zeroValue275
 t50:=xI
 a50:=isAgg67
 z50:=sizeOf67
 v50:=zeroValue67
 t53:=xJ
 a53:=isAgg281
 z53:=sizeOf281
 v53:=zeroValue281
 t55:=xK
 a55:=isAgg248
 z55:=sizeOf248
 v55:=zeroValue248
 t66:=xL
 a66:=isAgg322
 z66:=sizeOf322
 v66:=zeroValue322
 t70:=xM
 a70:=isAgg326
 z70:=sizeOf326
 v70:=zeroValue326
 t76:=xN
 a76:=isAgg355
 z76:=sizeOf355
 v76:=zeroValue355
 t77:=xO
 a77:=isAgg356
 z77:=sizeOf356
 v77:=zeroValue356}
theorem Tryzx.sortFunc_noneK(p:jO j6)(a:jb)(b:jj)(w:jh):
 jq jl 79 #[jg p 0 a,b] w λe w'=>e=jp (jE #[])/\w'=w:=AnyF.slices_SortFunc_none Tryzx.laysK p a b w
end
section
open Go.RowKit Go.Maps Go.Sort Go.Shelf
section
variable {α:Type} {E:EK α}
theorem L4{l:jd α}[Inhabited {x//x∈l}](t:jb)(d:t<l.length*E.k):(E.flat l)[t]?=ja ((E.cells (l.attach.toArray[t/E.k]!).1)[t%E.k]!):=by
 have b:t/E.k<l.length:=HH (by rw[qM];exact d);have a:t%E.k<E.k:=qK _ E.pos;have h:=E.flat_get l (t/E.k) (t%E.k) l[t/E.k] (ms b) a;rw[show t/E.k*E.k+t%E.k=t by rw[qM];exact H0 t E.k]at h;have e:(l.attach.toArray[t/E.k]!).1=l[t/E.k]:=by rw[getElem!_pos l.attach.toArray _ (ak b)];simp
 rw[h,e];have c:=E.len l[t/E.k];rw[ms (by rw[c];exact a),getElem!_pos _ _ (by rw[c];exact a)]
theorem dw.holds{j:jb}{w W:jh}{g n c:jb}{l:jd α}[Inhabited {x//x∈l}](h:dw E j w W g n c l):HoldsK (λx:{x//x∈l}=>E.cells x.1) E.k W g 0 l.attach.toArray:=by
 obtain⟨p,k⟩:=h.own
 rcases k with⟨b,_⟩|⟨g',q,r,b,s,e,u,v,y,m⟩
 ·cases b
 injection b with a z o
 injection a with a
 injection a with a
 subst a;subst o;intro t d;rw[size_flatK]at d;have f:t<l.length*E.k:=ak d;have i:=L4 (E:=E) t f;rw[get_flatK _ _ _ _ d];refine⟨?_,by simp[World.frozen?,e]⟩;rw[jM,qx,e];rw[<-m,H1 (by rw[h.len];exact f)]at i
 simpa using i
theorem Be{l:jd α}[Inhabited {x//x∈l}]{W:jh}{g n c:jb}{d:jd {x//x∈l}}(h:HoldsK (λx:{x//x∈l}=>E.cells x.1) E.k W g 0 d.toArray)(p:n=(d.map Subtype.val).length)(q:n<=c):E.At W (jg (ja ⟨g,0,jc⟩) n c) (d.map Subtype.val):=by
 refine⟨E.flat_length _,ja ⟨g,0,jc⟩,c,by rw[p],by omega,(λe=>by cases e),λ_=>⟨g,0,rfl,λj r k=>?_⟩⟩;have b:=(qe.1 k).1;rw[E.flat_length,jC]at b;have f:=(h j (by rw[size_flatK];simpa using b)).1;rw[get_flatK _ _ _ _ (ak b)]at f;have m:j/E.k<d.length:=HH (by rw[qM];exact b);have i:j%E.k<E.k:=qK _ E.pos;have a:=E.flat_get (d.map Subtype.val) (j/E.k) (j%E.k) (d[j/E.k]).1 (by rw[j8,ms m];rfl) i;rw[show j/E.k*E.k+j%E.k=j by rw[qM];exact H0 j E.k,k]at a;have e:d.toArray[j/E.k]! =d[j/E.k]:=by rw[getElem!_pos d.toArray _ (ak m)];simp
 rw[e]at f;have o:=E.len (d[j/E.k]).1;rw[ms (by rw[o];exact i)]at a;injection a with a
 rw[getElem!_pos _ _ (by rw[o];exact i),<-a]at f;exact f
theorem AK{β:Type}[Inhabited β]{enc:β->jd jj}{k a:jb}{w:jh}{g n:jb}{d:jD β}{os:jD Obj}(b:a<=g)(c:a<=w.heap.size):jk a w (sortWorldK enc k w g 0 n d os):=by
 unfold sortWorldK putRowK putRow mapBlock Go.Sort.ahead Go.Sort.grow;refine⟨I,I,I,by simp,λk e=>?_⟩;simp only;rw[Array.getElem?_append_left (by simp;omega),Array.getElem?_modify,jy Y]
theorem FK{β:Type}(f:β->N):SWO (ltOf λx y:β=>cD (f x) (f y)) where
 irrefl x:=by simp[ltOf,cD]
 trans x y z h1 h2:=by
  simp only[ltOf,decide_eq_true_eq]at*;unfold cD at*
  by_cases a:f x<f y
  ·by_cases b:f y<f z
   ·rw[jt Y];decide
   rw[jy b]at h2;split at h2<;>omega
  rw[jy a]at h1;split at h1<;>omega
 ntrans x y z h1 h2:=by
  simp only[ltOf,decide_eq_false_iff_not]at*;unfold cD at*
  by_cases a:f x<f z
  ·exfalso
   by_cases b:f x<f y
   ·rw[jt b]at h1;exact h1 G
   by_cases c:f y<f z
   ·rw[jt c]at h2;exact h2 G
   omega
  rw[jy a];split<;>omega
theorem GD(x y:N):(!(decide (cD y x<0)))=decide (x<=y):=by
 unfold cD
 by_cases h:y<x
 ·rw[jt h];simp;omega
 rw[jy h];split<;>simp<;>omega
theorem C9{f:α->N}:∀{l:jd α},(l.map f).Nodup->∀x∈l,∀y∈l,f x=f y->x=y
 |[],_,x,g,_,_,_=>by cases g
 |a::l,d,x,g,y,h,e=>by
  rw[qI,List.nodup_cons]at d
  rcases jT.1 g with c|c
  ·rcases jT.1 h with b|b
   ·rw[c,b]
   exact jB (jS.2 ⟨y,b,by rw[<-e,c]⟩) d.1
  rcases jT.1 h with b|b
  ·exact jB (jS.2 ⟨x,c,by rw[e,b]⟩) d.1
  exact C9 d.2 x c y b e
theorem Hg(w:jh)(a b:Obj):(w.alloc a).alloc b=grow (w.drewN 0) #[a,b]:=by
 show({({w with heap:=w.heap.push a}:jh)with heap:=(w.heap.push a).push b}:jh)={w with heap:=w.heap++ #[a,b]}
 congr 1
theorem BO{l:jd α}{f:α->N}(g:(l.map f).Nodup){x y:α}(h:x∈l)(i:y∈l)(c:decide (cD (f x) (f y)<0)=ji)(d:decide (cD (f y) (f x)<0)=ji):x=y:=by
 have e:f x=f y:=by
  simp only[decide_eq_false_iff_not]at c d;unfold cD at c d
  by_cases a:f x<f y
  ·rw[jt a]at c;exact jB G c
  by_cases b:f y<f x
  ·rw[jt b]at d;exact jB G d
  omega
 exact C9 g x h y i e
end
theorem Pp(x y:aJ)(w:jh):
 jq jl 67 #[jo (EM.cells x).toArray,jo (EM.cells y).toArray] w λe w'=>e=jp (T A (cD x.dev y.dev))/\∃q os,w'=grow (w.drewN q) os:=by
 obtain⟨a,x1,x2⟩:=x;obtain⟨b,y1,y2⟩:=y;show jq jl 67 #[jo #[T A a,T A x1,T A x2],jo #[T A b,T A y1,T A y2]] w λe w'=>e=jp (T A (cD a b))/\∃q os,w'=grow (w.drewN q) os
 have c:=O (tJ a b);have d:jf (∃q os,(w.alloc (je #[T A a,T A x1,T A x2] 82)).alloc (je #[T A b,T A y1,T A y2] 82)=grow (w.drewN q) os):=O ⟨0,#[je #[T A a,T A x1,T A x2] 82,je #[T A b,T A y1,T A y2] 82],Hg _ _ _⟩
 go_enter func67,ntmps67
 go_wp2_with fail
 refine(c _).mono ?_;rintro e f ⟨rfl,rfl⟩
 go_wp2_with fail
 go_ret;exact⟨I,d⟩
def fI(l:jd aJ):jd aJ:=l.mergeSort λx y=>decide (x.dev<=y.dev)
theorem Jf(l:jd aJ)(o:(l.map aJ.dev).Nodup)(d g n c:jb)(w W:jh)(h:dw EM d w W g n c l)(q:n<=1000000):
 jq jl 66 #[jg (ja ⟨g,0,jc⟩) n c,.func (.func 67) #[] #[]] W λe w'=>e=jp (jE #[])/\EM.At w' (jg (ja ⟨g,0,jc⟩) n c) (fI l)/\jk d W w':=by
 rcases xy n with i|i
 ·subst i
  obtain rfl:l=[]:=sn h.len.symm;refine(Tryzx.sortFunc_noneM _ c _ W).mono ?_;rintro e w' ⟨rfl,rfl⟩;have e:fI []=[]:=by unfold fI;simp
  rw[e];exact⟨I,h.at,jK _ _⟩
 have j:l≠[]:=λe=>by have:=h.len;rw[e]at this;simp at this;omega
 haveI:Inhabited {x//x∈l}:=⟨⟨l.head j,List.head_mem j⟩⟩
 have k:=AnyQ.slices_SortFunc_total (α:={x//x∈l}) Tryzx.laysM 3 isAgg82 sizeOf82 (λx=>EM.cells x.1) (λ_=>rfl) (λx v a=>EM.one x.1 v a) (λx y=>cD x.1.dev y.1.dev) (FK (λx:{x//x∈l}=>x.1.dev)) 67 #[] g 0 c l.attach.toArray W
  (enters_of func67 af rfl) (λ_ _ _ _ x y=>Pp x.1 y.1 _) (h.holds) h.lt.2 (by rw[jJ,qA,<-h.len];omega) (λx y a b=>Subtype.ext (BO o x.2 y.2 a b))
 rw[jJ,qA,<-h.len]at k;refine k.mono ?_;rintro e w' ⟨rfl,m,os,rfl⟩;have p:((l.attach.mergeSort λx y=> !ltOf (λx y:{x//x∈l}=>cD x.1.dev y.1.dev) y x).map Subtype.val)=fI l:=by
  refine(H5 (r:=λx y:{x//x∈l}=> !ltOf (λx y:{x//x∈l}=>cD x.1.dev y.1.dev) y x) (s:=λx y:aJ=>decide (x.dev<=y.dev)) (f:=Subtype.val) (λa _ b _=>GD _ _)).trans ?_;rw[Ix]
  rfl
 have a:=holdsK_sortWorldK (λx:{x//x∈l}=>EM.cells x.1) 3 W g 0 m l.attach.toArray (l.attach.mergeSort λx y=> !ltOf (λx y:{x//x∈l}=>cD x.1.dev y.1.dev) y x).toArray os h.lt.2 h.holds (by simp[(qO _ _).length_eq]);refine⟨I,?_,AK h.lt.1 (cT h.lt)⟩;rw[<-p];exact Be (E:=EM) a (by rw[jC,(qO _ _).length_eq,qA];exact h.len) h.cap
theorem Ow(x y:ap)(w:jh):
 jq jl 110 #[jo (EC.cells x).toArray,jo (EC.cells y).toArray] w λe w'=>e=jp (T A (cD x.d y.d))/\∃q os,w'=grow (w.drewN q) os:=by
 obtain⟨a,x1,x2,b,c⟩:=x;obtain⟨d,y1,y2,f,g⟩:=y;show jq jl 110 #[jo #[T A a,T A x1,T A x2,T A b,T A c],jo #[T A d,T A y1,T A y2,T A f,T A g]] w λe w'=>e=jp (T A (cD x1 y1))/\∃q os,w'=grow (w.drewN q) os
 have h:=O (tJ x1 y1);have i:jf (∃q os,(w.alloc (je #[T A a,T A x1,T A x2,T A b,T A c] 61)).alloc (je #[T A d,T A y1,T A y2,T A f,T A g] 61)=grow (w.drewN q) os):=O ⟨0,#[je #[T A a,T A x1,T A x2,T A b,T A c] 61,je #[T A d,T A y1,T A y2,T A f,T A g] 61],Hg _ _ _⟩
 go_enter func110,ntmps110
 go_wp2_with fail
 refine(h _).mono ?_;rintro e j ⟨rfl,rfl⟩
 go_wp2_with fail
 go_ret;exact⟨I,i⟩
theorem Sk(l:jd ap)(o:(l.map ap.d).Nodup)(d g n c:jb)(w W:jh)(h:dw EC d w W g n c l)(q:n<=1000000):
 jq jl 109 #[jg (ja ⟨g,0,jc⟩) n c,.func (.func 110) #[] #[]] W λe w'=>e=jp (jE #[])/\EC.At w' (jg (ja ⟨g,0,jc⟩) n c) (fi l)/\jk d W w':=by
 rcases xy n with i|i
 ·subst i
  obtain rfl:l=[]:=sn h.len.symm;refine(Tryzx.sortFunc_noneC _ c _ W).mono ?_;rintro e w' ⟨rfl,rfl⟩;have e:fi []=[]:=by unfold fi;simp
  rw[e];exact⟨I,h.at,jK _ _⟩
 have j:l≠[]:=λe=>by have:=h.len;rw[e]at this;simp at this;omega
 haveI:Inhabited {x//x∈l}:=⟨⟨l.head j,List.head_mem j⟩⟩
 have k:=AnyQ.slices_SortFunc_total (α:={x//x∈l}) Tryzx.laysC 5 isAgg61 sizeOf61 (λx=>EC.cells x.1) (λ_=>rfl) (λx v a=>EC.one x.1 v a) (λx y=>cD x.1.d y.1.d) (FK (λx:{x//x∈l}=>x.1.d)) 110 #[] g 0 c l.attach.toArray W
  (enters_of func110 af rfl) (λ_ _ _ _ x y=>Ow x.1 y.1 _) (h.holds) h.lt.2 (by rw[jJ,qA,<-h.len];omega) (λx y a b=>Subtype.ext (BO o x.2 y.2 a b))
 rw[jJ,qA,<-h.len]at k;refine k.mono ?_;rintro e w' ⟨rfl,m,os,rfl⟩;have p:((l.attach.mergeSort λx y=> !ltOf (λx y:{x//x∈l}=>cD x.1.d y.1.d) y x).map Subtype.val)=fi l:=by
  refine(H5 (r:=λx y:{x//x∈l}=> !ltOf (λx y:{x//x∈l}=>cD x.1.d y.1.d) y x) (s:=λx y:ap=>decide (x.d<=y.d)) (f:=Subtype.val) (λa _ b _=>GD _ _)).trans ?_;rw[Ix]
  rfl
 have a:=holdsK_sortWorldK (λx:{x//x∈l}=>EC.cells x.1) 5 W g 0 m l.attach.toArray (l.attach.mergeSort λx y=> !ltOf (λx y:{x//x∈l}=>cD x.1.d y.1.d) y x).toArray os h.lt.2 h.holds (by simp[(qO _ _).length_eq]);refine⟨I,?_,AK h.lt.1 (cT h.lt)⟩;rw[<-p];exact Be (E:=EC) a (by rw[jC,(qO _ _).length_eq,qA];exact h.len) h.cap
end
theorem wB{E:EK j}{l:jd j}(h:w.ownsRow b E.t E.k a l.length (E.flat l))(e:b<=w.heap.size):(a=jg jc 0 0/\l=[])\/∃g c,a=jg (ja ⟨g,0,jc⟩) l.length c/\dw E b w w g l.length c l:=by
 have f:=h
 rcases h.2 with⟨rfl,v⟩|⟨g,i,k,rfl,m,n,o,p,q,r⟩
 ·refine .inl ⟨I,sn ?_⟩
  first
   |exact v
   |(have d:=h.1;rw[v]at d;exact(xy l.length).elim id λα=>by have:=Nat.mul_pos α E.pos;simp at d;omega)
 exact .inr ⟨g,i,I,f,I,jK _ _,e⟩
theorem JU{p:aJ->jF}(c:fT EM b i o S p)(w:jh)(d:S w)(g:o<=w.heap.size):
 jq jl 64 #[jg jc 0 0,.func (.func b) #[] i] w λe w'=>e=jp (jg jc 0 0)/\jk w w w':=by
 have f:=O (zT c [] (jg jc 0 0) w EK.At.nil d g ar);clear c d
 go_enter func64,ntmps64
 go_wp2_with fail
 refine(f).mono ?_;rintro e caps ⟨r,rfl,d,c⟩;have h:=O c;clear c f
 rcases d with⟨rfl,-⟩|⟨k,e,-,he,-⟩
 ·go_wp2_with fail
  go_ret;exact⟨I,h⟩
 simp at he
theorem Jt{F:jb}{caps:jD jj}{a:jb}{f:jh->Prop}{p:aJ->jF}(i:fT EM F caps a f p)(l:jd aJ)(v:jj)(w:jh)(h:w.ownsRow a EM.t EM.k v l.length (EM.flat l))(j:f w)(b:a<=w.heap.size)(m:l.length<=1000000):
 jq jl 64 #[v,.func (.func F) #[] caps] w λe w'=>∃k,e=jp k/\w'.ownsRow a EM.t EM.k k (l.filter λx=> !p x).length (EM.flat (l.filter λx=> !p x))/\jk a w w':=by
 rcases wB h b with⟨rfl,rfl⟩|⟨g,c,rfl,n⟩
 ·refine(JU i w j b).mono ?_
  rintro e w' ⟨rfl,d⟩;exact⟨_,I,mb _ _ _ _,d.mono b⟩
 refine(NQ i l g l.length c w n j m).mono ?_;rintro e w' ⟨n',rfl,d⟩;have o:=d.len;subst o;exact⟨_,I,d.own,d.bel⟩
theorem Jk(l:jd aJ)(b:(l.map aJ.dev).Nodup)(a:jb)(v:jj)(w:jh)(h:w.ownsRow a EM.t EM.k v l.length (EM.flat l))(d:a<=w.heap.size)(f:l.length<=1000000):
 jq jl 66 #[v,.func (.func 67) #[] #[]] w λe w'=>e=jp (jE #[])/\EM.At w' v (fI l)/\jk a w w':=by
 rcases wB h d with⟨rfl,rfl⟩|⟨g,c,rfl,i⟩
 ·refine(Tryzx.sortFunc_noneM jc 0 _ w).mono ?_
  rintro e w' ⟨rfl,rfl⟩;have e:fI []=[]:=by unfold fI;simp
  rw[e];exact⟨I,EK.At.nil,jK _ _⟩
 exact Jf l b a g l.length c w w i f
theorem LO{p:ap->jF}(c:fT EC b i o S p)(w:jh)(d:S w)(g:o<=w.heap.size):
 jq jl 107 #[jg jc 0 0,.func (.func b) #[] i] w λe w'=>e=jp (jg jc 0 0)/\jk w w w':=by
 have f:=O (AO c [] (jg jc 0 0) w EK.At.nil d g ar);clear c d
 go_enter func107,ntmps107
 go_wp2_with fail
 refine(f).mono ?_;rintro e caps ⟨r,rfl,d,c⟩;have h:=O c;clear c f
 rcases d with⟨rfl,-⟩|⟨k,e,-,he,-⟩
 ·go_wp2_with fail
  go_ret;exact⟨I,h⟩
 simp at he
theorem Rz{p:ap->jF}(caps:fT EC b i o S p)(l:jd ap)(v:jj)(w:jh)(h:w.ownsRow o EC.t EC.k v l.length (EC.flat l))(j:S w)(F:o<=w.heap.size)(m:l.length<=1000000):
 jq jl 107 #[v,.func (.func b) #[] i] w λe w'=>∃k,e=jp k/\w'.ownsRow o EC.t EC.k k (l.filter λx=> !p x).length (EC.flat (l.filter λx=> !p x))/\jk o w w':=by
 rcases wB h F with⟨rfl,rfl⟩|⟨g,c,rfl,n⟩
 ·refine(LO caps w j F).mono ?_
  rintro e w' ⟨rfl,d⟩;exact⟨_,I,mb _ _ _ _,d.mono F⟩
 refine(Mu caps l g l.length c w n j m).mono ?_;rintro e w' ⟨n',rfl,d⟩;have a:=d.len;subst a;exact⟨_,I,d.own,d.bel⟩
theorem M8(l:jd ap)(b:(l.map ap.d).Nodup)(a:jb)(v:jj)(w:jh)(h:w.ownsRow a EC.t EC.k v l.length (EC.flat l))(d:a<=w.heap.size)(f:l.length<=1000000):
 jq jl 109 #[v,.func (.func 110) #[] #[]] w λe w'=>e=jp (jE #[])/\EC.At w' v (fi l)/\jk a w w':=by
 rcases wB h d with⟨rfl,rfl⟩|⟨g,c,rfl,i⟩
 ·refine(Tryzx.sortFunc_noneC jc 0 _ w).mono ?_
  rintro e w' ⟨rfl,rfl⟩;have e:fi []=[]:=by unfold fi;simp
  rw[e];exact⟨I,EK.At.nil,jK _ _⟩
 exact Sk l b a g l.length c w w i f
theorem zr(a:N)(l:jd ap)(v:jj)(w:jh)(h:EC.At w v l)(r:(l.map ap.d).Nodup)(k:l.length<=1000000):
 jq jl 49 #[T A a,v] w λe w'=>∃d,e=jp d/\EC.At w' d (du a l)/\jk w w w':=by
 obtain⟨p,c,rfl,-,-⟩:=h.form;have f:=ao w (je #[T A a] 3);have g:=Boxed.new w 3 (T A a);obtain⟨n,s⟩:=J l.length;have i:=h.below f;obtain⟨j,m⟩:=J (w.alloc (je #[T A a] 3));obtain⟨b,o⟩:=J w.heap.size;rw[<-m]at f g i;rw[<-o]at g;rw[<-s]at i⊢;have t:=O (Ic l _ j i k);have y:=O m;have z:=O o;have q:=O g;have u:=O f;have x:=O k;have B:=O r;clear h f g s i m o k r
 go_enter func49,ntmps49
 go_upto_region 1 with fail
 rw[<-y,<-z]
 go_wp2_with fail
 refine(t).mono ?_;rintro e x1 ⟨d,rfl,h,f⟩;have i:=O h;have k:jf (jA x1 b 3 (T A a)):=ae q f;have m:=O f;have g:=O f.size;have s:jf (b<j.heap.size):=O q.lt;clear h f t q
 go_wp2_with fail
 refine(Rz (Sm a b j.heap.size s) l d x1 i k g x).mono ?_;rintro e x2 ⟨u2,rfl,h,f⟩;have o:=O h;have q:=O (m.trans f);have r:=O (jL g f.size);clear h f i k m g
 go_wp2_with fail
 refine(M8 _ (B.sublist (List.filter_sublist.map _)) j.heap.size u2 x2 o r (jL (E5 _ _) x)).mono ?_;rintro e k ⟨rfl,f,g⟩;have h:=O f;have i:=O (u.trans ((q.trans g).mono u.size));clear f g o q r
 go_wp2_with fail
 go_ret;exact⟨_,I,h,i⟩
section
attribute [local go_sem] Oper.semAt_some
theorem FB(t:jd (N×N))(x:N):(fc t x).length<=1023:=by
 unfold fc
 split
 ·rename_i h
  have a:1<=x/\x<=1023:=by
   unfold lP at h
   split at h
   ·split at h
    ·cases h
    omega
   exact jB h (by assumption)
  have b:=sX (bG t) (hgt x.toNat) x.toNat;have c:=(vK (n:=x.toNat) Y Y).2;have d:1*2^hgt x.toNat<=x.toNat*2^hgt x.toNat:=qj _ Y;omega
 simp
theorem Sf(t:jd (N×N)):∀(l:jd N) (x:N) (k:jb),fw t (l++[x]) k=fw t l k++(fc t x).map λn=>(((k+l.length:jb):N),n):=by
 intro l
 induction l with
 |nil=>intro x k;simp[fw]
 |cons y l a=>
  intro x k;have h:=a x (k+1);unfold fw at h⊢;rw[ql,q8,xz,q8,xz,h,nn];simp only[lw];rw[show k+1+l.length=k+(l.length+1) by omega]
theorem B5(t:jd (N×N)):∀(l:jd N) (k:jb),(fw t l k).length<=1023*l.length:=by
 intro l
 induction l with
 |nil=>intro k;simp[fw]
 |cons y l a=>
  intro k;have h:=a (k+1);unfold fw at h⊢;rw[q8,xz,jH,jC,lw];have b:(fc t (y,k).1).length<=1023:=FB t y;omega
theorem Aq(b:0<=d)(c:d<512):(ia d).length=9:=by
 unfold ia nI;rw[jC,jC,uB _ Y]
theorem bH.but{v:jj}{d:jb}{p:jO j6}{n c:jb}{l:jI}{m:jb×jb}(h:bH w v t)(q:w.heap[d]?=ja (je #[jg p n c] l m))(r:∀k,k<w.heap.size->k≠d->w'.heap[k]?=w.heap[k]?):bH w' v t:=by
 have key:∀(g o:jb) (x:N),w.cell? ⟨g,o,jc⟩=ja (T A x)->w'.cell? ⟨g,o,jc⟩=ja (T A x):=λg o x b=>by
  by_cases e:g=d
  ·subst e
   exfalso
   unfold qx at b;rw[q]at b
   rcases o with _ |o<;>simp at b
  rw[<-b];exact dX (a:=⟨g,o,jc⟩) (r g (ge b) e)
 obtain⟨p,c,k,s,u,y,z⟩:=h;refine⟨p,c,k,s,u,λB=>?_,z⟩;obtain⟨g,o,e,f⟩:=y B;exact⟨g,o,e,λj i=>⟨key _ _ _ (f j i).1,key _ _ _ (f j i).2⟩⟩
structure ma(w:jh)(a:jb)(Ψ:jb->Prop)(wr:jh):Prop where
 lt:∀k,Ψ k->k<wr.heap.size
 old:∀k,a<=k->k≠a->k<w.heap.size->Ψ k
 kept:∀k,k<w.heap.size->k≠a->wr.heap[k]?=w.heap[k]?
 not:¬Ψ a
 sz:w.heap.size<=wr.heap.size
def oD(Ψ:jb->Prop)(a b:jh)(k:jb):Prop:=Ψ k\/(a.heap.size<=k/\k<b.heap.size)
theorem ma.more{d:jh}(a:ma w b D h)(f:b<w.heap.size)(e:jk h h d):ma w b (oD D h d) d where
 lt k c:=by rcases c with c|c;exact qf (a.lt k c) e.size;exact c.2
 old k h1 h2 h3:=.inl (a.old k h1 h2 h3)
 kept k h1 h2:=(e.block k (qf h1 a.sz)).trans (a.kept k h1 h2)
 not c:=by rcases c with c|c;exact a.not c;have:=a.sz;omega
 sz:=jL a.sz e.size
theorem ma.yield{c:jh}(a:ma w b D h)(d:jk b h c)(f:∀k,D k->c.heap[k]?=h.heap[k]?):ma w b D c where
 lt k h1:=qf (a.lt k h1) d.size
 old:=a.old
 kept k h1 h2:=by
  refine Eq.trans ?_ (a.kept k h1 h2)
  rcases qi k b with e|e
  ·exact d.block k e
  exact f k (a.old k e h2 h1)
 not:=a.not
 sz:=jL a.sz d.size
theorem Ii{d:j->(jb->Prop)->jh->Prop}(h:bY b d){s:j}{Ψ:jb->Prop}{a B0:jh}(e:d s Ψ a)(f:jk a a B0):d s (oD Ψ a B0) B0:=
 h s Ψ (oD Ψ a B0) a B0 e (bL.ofBelow f (λk c _=>c)) (λk c=>.inl c) (λk c=>by rcases c with c|c;exact .inl c;exact .inr c.1)
theorem aH.more{C:jd jj}(sz:aH D w a b o C)(d:∀k,D k->k<w.heap.size)(e:jk w w h):aH (oD D w h) h a b o C:=
 (sz.keep λk c=>e.block k (d k c)).mono λk c=>.inl c
theorem aH.ofMine{Ψ:jb->Prop}{a b:jh}{v:jj}{sz n:jb}{t:jI}{xs:jd jj}(h:b.ownsRow a t sz v n xs):aH (oD Ψ a b) b v sz n xs:=
 aH.of_own h λg c=>.inr (h.lt g c)
theorem OH(t:jd (N×N))(ad:jj)(a:N)(j:0<=a)(D:a<512)(w:jh)(f:jb)(p:jO j6)(n c:jb)(ty:jI)(m:w.heap[f]?=ja (je #[jg p n c] ty (0,0)))(y z:jb)(o:y≠f)(B:z≠f)
 (e:jA w y 3 (T A a)) (q:w.heap[z]?=ja (je #[ad] 49 (0,0))) (s:bH w ad t) (C:t.length<=1000000):
 eO jl 145 #[jz (ja ⟨y,0,jc⟩),jz (ja ⟨z,0,jc⟩)] (λx:N×N=>#[T A x.1,T A x.2]) (λk=>f<=k/\k≠f/\k<w.heap.size) f (λxs=>xs=eo t a) (λ_=>True) (λys=>ys.length<=10000) w:=by
 intro l E Jx W g F H K M;have U:=(jG.1 m).1;have u:ma w f (λk=>f<=k/\k≠f/\k<w.heap.size) W:=⟨λk x=>qf x.2.2 g.size,λk a b c=>⟨a,b,c⟩,λk x _=>g.block k x,λx=>x.2.1 I,g.size⟩;have V:=O u;have VW:=O U;have HG:=O m;have HA:=O e;have HT:=O q;have HN:=O s;have HL:=O C;have ZK:=O o;have a2:=O B;have a3:=O e.lt;have Wn:=O (jG.1 q).1;obtain⟨P,Q,R,rfl⟩:=gN s;have HJ:=O F;have au:=O H;have S:=O K;have X:=O M;have v:=Aq j D;obtain⟨r,rfl⟩:=qc j;have h:=O (KM r Y);have aa:iv (nI r)=(ia (r:N)).map (jn .i64):=by unfold iv ia;rw[xu];rfl
 rw[aa]at h;have ac:eo t (r:N)=fw t (ia (r:N)) 1:=I;rw[ac];generalize ia (r:N)=d at v h⊢;have Vh:=O v;have ca:W.cell? ⟨y,0,jc⟩=ja (T A (r:N)):=by rw[dX (a:=⟨y,0,jc⟩) (u.kept y a3 o)];exact e.cell
 clear m e q s C o B F H K M v u U aa ac j D g;refine(sx (n:=0)).1 ?_;refine callsIn_of_wp func145 I trivial ?_ I;simp only[ntmps145,jJ,lw,qH,qV,qW,qX,qY,qZ,q7,qk,ql]
 gi_wp2_with fail
 refine⟨trivial,I,(callsIn_wide.2 (h W)).mono ?_⟩;rintro e W1 ⟨v,rfl,j,g⟩;have WG:=O (V.more VW g);have UR:=O (Ii HJ X g);have m:=aH.ofMine (Ψ:=λk=>f<=k/\k≠f/\k<w.heap.size) j;obtain⟨pc,cc,rfl⟩:=m.form;have U5:=O m;have a4:=g.size;generalize oD (λk=>f<=k/\k≠f/\k<w.heap.size) W W1=Ψ1 at WG UR U5;clear j g m X V h ca
 gi_wp2_with fail
 gi_loopw [19] (λs wr=>W.heap.size<=wr.heap.size/\∃(k:jb) (Ψ:jb->Prop),s=T A k/\k<=9/\jf (ma w f Ψ wr)/\jf (E (fw t (d.take k) 1) Ψ wr)/\jf (aH Ψ wr (jg pc 9 cc) 1 9 (d.map (jn .i64)))) (λs _=>(9-jv s).toNat)
 case atStart=>exact⟨a4,0,Ψ1,I,by omega,WG,UR,U5⟩
 obtain⟨bb,k,Ψ,rfl,x,g,F,q⟩:=hrel
 by_cases a5:k<9
 case neg=>
  obtain rfl:k=9:=Y;have U:jf (E (fw t d 1) Ψ wr):=O (by have h:=F.out;rw[jU (by rw[Vh];exact ju _)]at h;exact h);clear S au F
  gi_wp2
  refine bodyPost_end (sy I _ _ _) I ?_;exact⟨⟨_,I⟩,.inl ⟨_,_,I,U⟩⟩
 have hd:=az ((k:N)<9);have UC:=az (k<9);have m:k<d.length:=by rw[Vh];exact a5
 have H:=O (Sf t (d.take k) d[k] 1);have Yu:jf (d.take (k+1)=d.take k++[d[k]]):=O (qn m);have ax:jf ((d.take k).length=k):=O (by rw[j9];omega);obtain⟨-,_,_,V,-,-,o⟩:=q.out;injection V with X WQ Zc
 subst X;subst Zc;obtain⟨gc,oc,rfl,-,o⟩:=o Y;have B:=o k (T A d[k]) (by rw[j8,ms m];rfl);obtain⟨sb,u⟩:=J (d[k]);rw[<-u]at B H Yu;have c1:wr.cell? ⟨z,0,jc⟩=ja (jg P Q R):=by rw[dX (a:=⟨z,0,jc⟩) (g.kept z Wn a2)];exact ah (i:=0) HT I
 have aa:jf (bH wr (jg P Q R) t):=O (HN.but HG g.kept);have ac:=O (Nn t (jg P Q R) sb wr aa HL);clear o u m WQ
 gi_wp2_with fail
 refine⟨trivial,I,(callsIn_wide.2 ac).mono ?_⟩;rintro e W2 ⟨vn,rfl,j,C⟩;have Vw:=O (g.more VW C);have VJ:=O (Ii HJ F C);have UE:=O (q.more g.lt C);have U6:=aH.ofMine (Ψ:=Ψ) j;obtain⟨pn,cn,rfl⟩:=U6.form;have K:=O U6;have bc:=C.size;generalize oD Ψ wr W2=Ψ2 at Vw VJ UE K;have M:=O (FB t sb);obtain⟨u,ay⟩:=J (fc t sb);rw[<-ay]at K H M⊢;obtain⟨m,hm⟩:=J u.length;rw[<-hm]at K M⊢;have Z5:=O hm;have We:=O (B5 t (d.take k) 1);obtain⟨Ui,a1⟩:=J (fw t (d.take k) 1);rw[<-a1]at VJ H We;have a6:jf (m<=1023):=M;have bd:=M.out;clear j C U6 ac aa g F q B c1 hm ay a1
 gi_wp2_with fail
 gi_loopw [32] (λs C=>W.heap.size<=C.heap.size/\∃(j:jb) (Ψ:jb->Prop),s=T A j/\j<=m/\jf (ma w f Ψ C)/\jf (E (Ui++(u.take j).map λn=>((k:N)+1,n)) Ψ C)/\jf (aH Ψ C (jg (ja ⟨gc,oc,jc⟩) 9 cc) 1 9 (d.map (jn .i64)))/\jf (aH Ψ C (jg pn m cn) 1 m (u.map (jn .i64)))) (λs _=>(m-jv s).toNat)
 case atStart=>exact⟨by omega,0,Ψ2,rfl,by omega,Vw,O (QG VJ),UE,K⟩
 obtain⟨bf,j,Ψ,rfl,hj,g,s,q,F⟩:=hrel
 by_cases ay:j<m
 case neg=>
  obtain rfl:j=m:=Y;have hd2:decide ((j:N)<(j:N))=ji:=by simp
  have U:jf (E (fw t (d.take (k+1)) 1) Ψ wr):=O (by
   have h:=s.out;rw[jU (by rw[<-Z5];exact ju _)]at h;rw[Yu,H,ax,show((1+k:jb):N)=(k:N)+1 by omega];exact h)
  clear S au s
  gi_wp2_with fail
  exact⟨⟨by omega,k+1,Ψ,by go_num,by omega,g,U,q⟩,by simp only[jv];omega⟩
 have hd2:=az ((j:N)<(m:N));have bg:=az (j<m);obtain⟨U,h,C⟩:=dL (l:=u) (j:=j) (by rw[<-Z5];exact ay);have a1:jf ((u.take (j+1)).map (λn=>((k:N)+1,n))=(u.take j).map (λn=>((k:N)+1,n))++[((k:N)+1,U)]):=O (by rw[C,qa];rfl);obtain⟨-,_,_,V,-,-,o⟩:=F.out;injection V with X WQ Zc
 subst X;subst Zc;obtain⟨gn,on,rfl,-,o⟩:=o Y;have B:=o j (T A U) (by rw[j8,h];rfl);have aa:=S (Ui++(u.take j).map λn=>((k:N)+1,n)) ((k:N)+1,U) Ψ wr s g.lt (by
  rw[jH,jH,jC,j9];have D:=We.out;rw[ax]at D;have h2:=a6.out;simp only[lw,qH]
  omega)
 rw[nn,<-a1]at aa;dsimp only at aa;obtain⟨fn,tmps,assign,body,hy,hR⟩:=aa;have HR:=O hR;clear o h C WQ hR
 gi_wp2_with fail
 refine⟨I,HR.mono ?_⟩;rintro e W3 (⟨rfl,YU,C,h⟩|⟨rfl,ZA,C,h⟩)
 ·have Wp:=O (g.yield C h)
  have VL:=O (q.keep h);have ba:=O (F.keep h);have ac:=O YU;have Wi:=C.size;clear YU C h HR g q F s hy B
  gi_wp2_with fail
  exact⟨⟨by omega,j+1,Ψ,by go_num,by omega,Wp,ac,VL,ba⟩,by simp only[jv];omega⟩
 have ac:=O ZA;clear ZA C h HR g q F s hy B
 gi_wp2
 refine qg (sy I _ _ _) I ?_;exact⟨⟨_,I⟩,.inr ⟨_,_,trivial,ac⟩⟩
end
section
attribute [local go_sem] Oper.semAt_some
def EB0:EK (N×N):=⟨λx=>[T A x.2,T A x.1,T A 0,jg jc 0 0],4,105,by decide,λ_=>rfl,λx v a=>by simp at a;rcases a with rfl|rfl|rfl|rfl<;>rfl⟩
theorem Hk:(jl.info? 105).map (λi=>(i.zero,i.size,i.bytes))=ja (ja (jo #[T A 0,T A 0,T A 0,jg jc 0 0]),4,48):=by kernel_rfl
theorem Om(b:jj)(a:N)(w:jh):jq jl 87 #[jo #[b],T A a] w λe w'=>e=jp (.func (.func 145) #[] #[jz (ja ⟨w.heap.size+1,0,jc⟩),jz (ja ⟨w,0,jc⟩)])/\w'=(w.alloc (je #[b] 49)).alloc (je #[T A a] 3):=by
 go_enter func87,ntmps87
 go_wp2_with fail
 go_ret;exact⟨I,I⟩
section
variable {P:jX} {F:Fence} {nF:jb}
theorem EJ{f:jD j0}{j:jd j0}{o:j0}{a:Act}{w:jh}{k:Exit->Act->jh->Prop}(m:Region.wanted o (yielded f a.tmps)=jm)(b:jI)(x:qQ)(i:o.op=.load b x)
 (g:jb) (n:a.eval x=jz (ja ⟨g,0,jc⟩)) (t:jI) (e:jD jj) (l:jb×jb) (d:TypeDesc) (p:w.heap[g]?=ja (je e t l))
 (q:P.underlying b=ja d) (r:(match d with| .struct _ | .array _ _=>jm|_=>ji)=jm) (s:(P.info? b).map (·.size)=ja e.size)
 (h:wpListIn F nF P f k j (a.put o.dst (jo e)) w):wpListIn F nF P f k (o::j) a w:=by
 refine wpListIn_step λy u=>?_
 rw[jt m];unfold Oper.wpIn;refine⟨by simp[Oper.about,i],?_⟩;rw[Oper.semAt_plain F _ _ (by rw[i];intro c v;cases v)];simp only[execOp,i,n,Instr.loadAt,Instr.sureAddr,Sem.run_bind,Sem.run_pure,Result.andThen_ok,run_loadVar_row w g t b e l d p q r s];exact u _ _ h
end
theorem vO{g:Grp}{a:N}{l:jd ap}(c:dC g)(f:eU l)(d:gL g a l):0<=a/\a<512:=by
 by_cases h:0<g.epoch
 ·have b:=d.own
  rw[jR h]at b;unfold cA at b;obtain⟨m,i,j⟩:=xk.1 b;have k:a∈cr g.tree:=by rw[<-c.dev];exact jS.2 ⟨m,i,by simpa using j⟩
  have e:=(oA g.tree a).1 k;exact⟨e.1,e.2.1⟩
 have he:g.epoch=0:=by have:=c.ep.1;omega
 obtain⟨x,r,rfl,b⟩:=d.first he;have:=(f.each x (qN ..)).1;rw[<-b];exact this
theorem yA(g:Grp)(a:N)(l:jd ap):(fE g=ji/\dq g a l=1)\/(fE g=jm/\(iG l=ji\/lI g a l=ji)/\dq g a l=221)\/(fE g=jm/\iG l=jm/\lI g a l=jm/\dq g a l=0):=by
 unfold dq
 by_cases h:dC g
 ·rw[En h,jt h]
  by_cases b:eU l/\gL g a l
  ·rw[jt b];exact .inr (.inr ⟨I,oy.2 b.1,tF.2 b.2,I⟩)
  rw[jy b];refine .inr (.inl ⟨I,?_,I⟩)
  by_cases c:eU l
  ·right;exact tI λd=>b ⟨c,d⟩
  left;exact EU c
 rw[kh h,jy h];exact .inl ⟨I,I⟩
theorem Gf(g:Grp)(vm vt vl:jj)(a:N)(l:jd ap)(w:jh)(h:bW w g vm vt)(j:EC.At w vl l)(k:g.mem.length<=1000000)(C:g.tree.length<=700000)(m:l.length<=1000000):
 jq jl 38 #[jo (aD g vm vt).toArray,T A a,vl] w λe w'=>∃y,e=jp (jE #[y,T A (dq g a l)])/\w'.ownsRow w 105 4 y (dT g a l).length (EB0.flat (dT g a l))/\jk w w w':=by
 have D:=yA g a l;have s:=rx (vm:=vm) (vt:=vt) h.llen;obtain⟨o,c⟩:=J ((aD g vm vt).toArray);rw[<-c]at s⊢;have E:=av (jw w (je o 51)) (ao (w.alloc (je o 51)) (je #[jg jc 0 0] 54));have t:=jw (w.alloc (je o 51)) (je #[jg jc 0 0] 54);rw[j7]at t;have i:jk w w ((w.alloc (je o 51)).alloc (je #[jg jc 0 0] 54)):=(ao w _).trans ((ao (w.alloc (je o 51)) (je #[jg jc 0 0] 54)).mono (ao w _).size);have u:=O E;have F:=O t;have H:=O i;have z:=O (h.below i);have B:=O (j.below i);obtain⟨r,cl,rfl,-,-⟩:=j.form;obtain⟨n,v⟩:=J l.length;rw[<-v]at B⊢;have HV:jf (∀W,bW W g vm vt->jq jl 53 #[jo o] W λe w'=>e=jp (.bool (fE g))/\jk W W w'):=O (by rw[c];exact λW d=>BM g vm vt W d k Y);have HP:jf (∀W,dC g->bW W g vm vt->EC.At W (jg r n cl) l->jq jl 86 #[jo o,T A a,jg r n cl] W λe w'=>e=jp (.bool (lI g a l))/\jk W W w'):=O (by rw[c];exact λW f d x=>OR g vm vt _ a l W d f k x m);have a4:jf (∀W,eU l->bW W g vm vt->EC.At W (jg r n cl) l->jq jl 44 #[jo o,jg r n cl] W λe w'=>∃y,e=jp (jo #[y])/\bH w' y (aW g.tree l)/\jk W W w'):=O (by rw[c];exact λW q d x=>yz g vm vt _ l W d q C x);have P:=O s;have HL:=O m;have ZK:=O v;have Wn:=O C;have Wo:=O D;obtain⟨er,d⟩:=J (dq g a l);have ZN:jf (er≠0->dT g a l=[]):=O (λh=>by unfold dT;rw[jy (by rw[<-d];exact h)]);have a5:jf (er=0->dT g a l=eo (aW g.tree l) a):=O (λh=>by unfold dT;rw[jt (by rw[<-d];exact h)]);rw[<-d]at Wo⊢;clear D s c E t i h j k C m v d;refine(sx (n:=0)).1 ?_;refine IA func38 I trivial ?_ I;simp only[ntmps38,jJ,lw,qH,qV,qW,qX,qY,qZ,q7,qk,ql]
 gi_wp2_with (refine oB I 51 _ I w.heap.size I 51 o (0,0) _ u.out qE I P ?_)
 refine⟨trivial,I,(callsIn_wide.2 (HV _ z.out)).mono ?_⟩;rintro e x1 ⟨rfl,c⟩;have D:=ae u c;have v:=ae F c;have Q:=O (z.below c);have x:=O (B.below c);have E:=ai H c;clear c u F z B H;obtain⟨d,i⟩:=J w.heap.size;rw[<-i]at D v⊢;have F:=O i;clear i
 rcases Wo.out with⟨f,he⟩|⟨f,z,he⟩|⟨f,q,z,he⟩
 ·subst he
  rw[f];have H:jf (dT g a l=[]):=O (ZN G);have i:jA x1 (d+1) 54 (jg jc 0 0):=v.out;clear f;have V:=i.cell;have X:=i.frozen
  gi_wp2_with fail
  have u:(x1.setCell ⟨d+1,0,jc⟩ (jg jc 0 0)).cell? ⟨d+1,0,jc⟩=ja (jg jc 0 0):=(i.set _).cell;exact⟨jE #[jg jc 0 0,T A 1],by simp[results,qT,go_sem,u],_,I,by rw[H];exact mb _ _ _ _,E.setCell (p:=⟨d+1,0,jc⟩) (by rw[F];show w.heap.size<=w.heap.size+1;omega) _⟩
 ·subst he
  rw[f];have K:dC g:=by
   by_cases M:dC g
   ·exact M
   rw[kh M]at f;cases f
  have R:=O K;have H:jf (dT g a l=[]):=O (ZN G);clear f K;have ax:=O z;clear z;have aa:=O (Ah l (jg r n cl))
  gi_wp2_with fail
  refine⟨trivial,I,(callsIn_wide.2 (aa x1 x HL)).mono ?_⟩;rintro e x2 ⟨rfl,c⟩;have j:=ae D c;have k:=ae v c;have m:=O (Q.below c);have s:=O (x.below c);have t:=ai E c;clear D v Q x E;clear c
  rcases ax.out with q|q
  ·rw[q]
   clear q;have i:jA x2 (d+1) 54 (jg jc 0 0):=k.out;have V:=i.cell;have X:=i.frozen
   gi_wp2_with fail
   refine⟨trivial,?_⟩
   gi_wp2_with fail
   have u:(x2.setCell ⟨d+1,0,jc⟩ (jg jc 0 0)).cell? ⟨d+1,0,jc⟩=ja (jg jc 0 0):=(i.set _).cell;exact⟨jE #[jg jc 0 0,T A 221],by simp[results,qT,go_sem,u],_,I,by rw[H];exact mb _ _ _ _,t.setCell (p:=⟨d+1,0,jc⟩) (by rw[F];show w.heap.size<=w.heap.size+1;omega) _⟩
  by_cases B:iG l=ji
  ·rw[B]
   clear B q;have i:jA x2 (d+1) 54 (jg jc 0 0):=k.out;have V:=i.cell;have X:=i.frozen
   gi_wp2_with fail
   refine⟨trivial,?_⟩
   gi_wp2_with fail
   have u:(x2.setCell ⟨d+1,0,jc⟩ (jg jc 0 0)).cell? ⟨d+1,0,jc⟩=ja (jg jc 0 0):=(i.set _).cell;exact⟨jE #[jg jc 0 0,T A 221],by simp[results,qT,go_sem,u],_,I,by rw[H];exact mb _ _ _ _,t.setCell (p:=⟨d+1,0,jc⟩) (by rw[F];show w.heap.size<=w.heap.size+1;omega) _⟩
  have B:iG l=jm:=ak B;rw[B];have ac:=O q;clear B q
  gi_wp2_with (refine EJ aj 51 _ I d I 51 o (0,0) _ j.out qE I P ?_)
  refine⟨trivial,I,(callsIn_wide.2 (HP x2 R m s)).mono ?_⟩;rintro e B ⟨rfl,c⟩;have ad:=ae j c;have S:=ae k c;have au:=O (m.below c);have UQ:=O (s.below c);have U:=ai t c;clear j k m s t;clear c;rw[ac];have i:jA B (d+1) 54 (jg jc 0 0):=S.out;have V:=i.cell;have X:=i.frozen
  gi_wp2_with fail
  have u:(B.setCell ⟨d+1,0,jc⟩ (jg jc 0 0)).cell? ⟨d+1,0,jc⟩=ja (jg jc 0 0):=(i.set _).cell;exact⟨jE #[jg jc 0 0,T A 221],by simp[results,qT,go_sem,u],_,I,by rw[H];exact mb _ _ _ _,U.setCell (p:=⟨d+1,0,jc⟩) (by rw[F];show w.heap.size<=w.heap.size+1;omega) _⟩
 subst he;rw[f];have K:dC g:=by
  by_cases M:dC g
  ·exact M
  rw[kh M]at f;cases f
 have R:=O K;have V:=O (oy.1 q);have We:=O (tF.1 z);have a6:=O q;have ac:=O z;have aa:=O (Ah l (jg r n cl));clear f K q z
 gi_wp2_with fail
 refine⟨trivial,I,(callsIn_wide.2 (aa x1 x HL)).mono ?_⟩;rintro e x2 ⟨rfl,c⟩;have j:=ae D c;have k:=ae v c;have m:=O (Q.below c);have s:=O (x.below c);have t:=ai E c;clear D v Q x E;clear c;rw[a6]
 gi_wp2_with (refine EJ aj 51 _ I d I 51 o (0,0) _ j.out qE I P ?_)
 refine⟨trivial,I,(callsIn_wide.2 (HP x2 R m s)).mono ?_⟩;rintro e B ⟨rfl,c⟩;have ad:=ae j c;have S:=ae k c;have au:=O (m.below c);have UQ:=O (s.below c);have U:=ai t c;clear j k m s t;clear c;rw[ac]
 gi_wp2_with (refine oB I 51 _ I d I 51 o (0,0) _ ad.out qE I P ?_)
 refine⟨trivial,I,(callsIn_wide.2 (a4 B V au UQ)).mono ?_⟩;rintro e i ⟨y,rfl,j,c⟩;have k:=O j;have m:=ae S c;have t:=ai U c;clear ad S au UQ U;clear c j;obtain⟨z,E,H,rfl⟩:=gN k
 gi_wp2_with fail
 refine⟨trivial,I,(callsIn_wide.2 (Om _ a i)).mono ?_⟩;rintro e s ⟨rfl,c⟩
 gi_wp2_with fail
 rw[<-c];have j:jk i i s:=by rw[c];exact(ao i _).trans ((ao _ _).mono (ao i _).size)
 have bT:s.heap[i.heap.size]?=ja (je #[jg z E H] 49 (0,0)):=by rw[c];exact av (jw i _) (ao _ _)
 have bA:jA s (i.heap.size+1) 3 (T A a):=by
  have h:=Boxed.new (i.alloc (je #[jg z E H] 49)) 3 (T A a);rw[j7]at h;rw[c];exact h
 have X:jA s (d+1) 54 (jg jc 0 0):=av m j;have ba:=k.below j;have bb:jk w w s:=t.trans (j.mono t.size);have bk:i.heap.size+2<=s.heap.size:=by rw[c];simp
 have bl:d+1<i.heap.size:=(jG.1 m).1;have bc:w.heap.size=d:=F.symm;have ax:=O bc;obtain⟨h0,h1⟩:=vO R V We;have C:(aW g.tree l).length<=1000000:=by have:=wK g.tree l;have:=Wn.out;have:=V.len;omega
 have bd:jf (dT g a l=eo (aW g.tree l) a):=O (a5 (by trivial));have bm:jf (d+1<=s.heap.size):=O Y;obtain⟨i0,hi,UA,bf,bg⟩:=oq Hk;clear c m k j t;refine rh (n:=0) (gf:=145) (lb:=#[jz (ja ⟨i.heap.size+1,0,jc⟩),jz (ja ⟨i,0,jc⟩)]) I (enters_of func145 af I)
  (OH (aW g.tree l) (jg z E H) a h0 h1 s (d+1) jc 0 0 54 X (i.heap.size+1) i.heap.size Y Y bA bT ba C) Y (λ_=>rfl) (λk c=>c.2.2)
  (λt Ψ W=>gP (d+1) 54 (d+1) 105 4 t.length (EB0.flat t) (λ_=>True) Ψ W/\(jk w w W/\∀k,Ψ k->w.heap.size<=k))
  (λ_ _ _ _=>False)
  ((mY s.heap.size (d+1) 54 (d+1) 105 4 (λt=>t.length) (λt=>EB0.flat t) (λ_ _=>True)).and (kH _ _ w (ju _) Y))
  (λ_=>fk _ _)
  ⟨⟨_,X,λh=>h.2.1 rfl,mb _ _ _ _,by simp[xR],trivial⟩,bb,λk c=>by omega⟩
  (λx D _ _=>D={tmps:=#[jo o,T A a,jg r n cl,jz (ja ⟨d,0,jc⟩),jN,jN,jz (ja ⟨d+1,0,jc⟩),T A 0,T A x.1,T A x.2,
   jo o,.bool jm,.bool ji,jg r n cl,.bool jm,.bool ji,.bool ji,jo o,T A a,jg r n cl,.bool jm,.bool ji,.bool ji,jo o,jg r n cl,jo #[jg z E H],T A a,
   .func (.func 145) #[] #[jz (ja ⟨i.heap.size+1,0,jc⟩),jz (ja ⟨i,0,jc⟩)],T A x.1,T A x.2,jN,jN,jN,jN,jN,jN,jN],defers:=[]}) (fk _ _)
  ?assign ?body ?done ?stop
 case assign=>
  intro l' t x Ψ j K c _ M
  gi_wp2
  exact M _ _ (jK _ _) c I
 case body=>
  rintro l' t ⟨Q,nd⟩ Ψ D Z ⟨⟨v,f,ay,c,x,-⟩,k,hΨ⟩ rfl j Ye bn bo;have bp:t.length<=10000:=by have:=j;rw[jH]at this;omega
  have hc:=f.cell;have K:=O k;have bq:=k.size;have bh:=O (Fv Z [T A nd,T A Q,T A 0,jg jc 0 0] 105);clear k j
  gi_wp2_with (gi_at_builtin;refine KC _ I _ _ 54 I (d+1) 105 i0 (jo #[T A 0,T A 0,T A 0,jg jc 0 0]) 4 48 underlying54 hi UA bf bg I G _ _ _ I (c.alloc _) ⟨Z,0,jc⟩ 1 1 [T A nd,T A Q,T A 0,jg jc 0 0] I I bh (by simp[n0]) (by unfold o1;omega) Y (by simp;omega) ?_;intro v' w1 a1 a2 br a3;obtain⟨g',bs,rfl⟩:=ownsRow_succ a1;obtain⟨m,bi⟩:=se (B0:=s.heap.size) f G c Y (ju _) ay x Ye a1 a2 (by intro j hj;rw[hj]at a3;rcases a3 with h|h;exact .inl h.symm;exact .inr (ak h));have j:jA w1 (d+1) 54 v:=(f.alloc _).kept a2 (by have:=f.not_row (e:=105) G c;exact this);have bu:=j.cell;have bv:=j.frozen)
  obtain⟨v',j,b2,b3,b4,b5⟩:=bi;refine⟨⟨m.1,m.2.1,m.2.2⟩,⟨v',j,b2,?_,b4,trivial⟩,K.trans (m.2.1.mono (by rw[ax];omega)),hΨ⟩;rw[EB0.flat_append,jH];exact b3
 case done=>
  rintro D xs Ψ W hD hS ⟨⟨v,f,ay,c,x,-⟩,k,hΨ⟩ M;have hc:=f.cell;have q:=f.frozen;have K:=O k;clear k;obtain⟨j,k,rfl⟩:=cK c;obtain⟨m,Q⟩:=J xs.length;rw[<-Q]at f c x hc;have a1:=O Q;have a2:=O hS;clear Q hS
  gi_wp2
  refine⟨by simp,.inl ⟨_,_,I,run_takeDeferred (b:=D) (ds:=[]) ?_,?_⟩⟩
  ·exact(KeepsOthers.setCell W _ _).same D _ M I
  have Q:jA (W.setCell ⟨d+1,0,jc⟩ (jg j m k)) (d+1) 54 (jg j m k):=f.set _;have U2:(W.setCell ⟨d+1,0,jc⟩ (jg j m k)).heap[D]?=ja (.deferred (ja [])):=(KeepsOthers.setCell W _ _).same D _ M I;have a3:(W.setCell ⟨d+1,0,jc⟩ (jg j m k)).ownsRow (d+1) 105 4 (jg j m k) m (EB0.flat xs):=
   c.kept (qS W _ _) (.inr (f.not_row (e:=105) G c).symm)
  have bh:jA ((W.setCell ⟨d+1,0,jc⟩ (jg j m k)).putObj D (.deferred jc)) (d+1) 54 (jg j m k):=
   (World.putObj_heap_other Y).trans Q
  have u:=bh.cell;refine⟨jE #[jg j m k,T A 0],by simp[results,qT,go_sem,u],_,I,?_,?_⟩
  ·have h:=ownsRow_putObj a3 (.deferred jc) U2 I
   rw[ax,bd,<-a2,<-a1];exact uE h Y
  exact(K.setCell (p:=⟨d+1,0,jc⟩) (by show w.heap.size<=d+1;omega) _).trans (iA Y)
 intro D c t Ψ W _ _ h;exact h.elim
end
theorem dV.at{c:Cmt}{q:CQ}(h:dV w b c q):w.cell? ⟨b,0,jc⟩=ja (T A c.folder)/\w.cell? ⟨b,1,jc⟩=ja (T A c.epoch)/\w.cell? ⟨b,34,jc⟩=ja (T A c.author)/\w.cell? ⟨b,35,jc⟩=ja q.vc/\w.cell? ⟨b,36,jc⟩=ja q.vp/\
 w.cell? ⟨b,37,jc⟩=ja q.vb/\w.cell? ⟨b,38,jc⟩=ja q.vw/\w.cell? ⟨b,71,jc⟩=ja (T A c.r)/\w.cell? ⟨b,72,jc⟩=ja (T A c.s):=by
 obtain⟨a,d,e,f,g,i,j,k,l⟩:=ku c q h.plen h.clen;exact⟨h.get a,h.get d,h.get e,h.get f,h.get g,h.get i,h.get j,h.get k,h.get l⟩
theorem dV.new(w:jh){c:Cmt}{q:CQ}(a:c.parent.length=32)(b:c.confirm.length=32):dV (w.alloc (je (aF c q).toArray 57)) w.heap.size c q:=⟨jw w _,a,b⟩
theorem dV.lt{y:Cmt}{K:CQ}(h:dV w b y K):b<w.heap.size:=(jG.1 h.blk).1
theorem dV.below{c:Cmt}{q:CQ}(h:dV w b c q)(a:jk w w w'):dV w' b c q:=h.keep (a.block b h.lt)
theorem oC{l:jd j}{C:jd jj}{f:j->jj->jd jj}(h:aH D w a b l.length (dR f l C))(d:∀x v,(f x v).length=b){α:jb}{x:j}{v:jj}(e:l[α]?=ja x)(n:C[α]?=ja v):∃g o c,a=jg (ja ⟨g,o,jc⟩) l.length c/\∀i y,(f x v)[i]?=ja y->w.cell? ⟨g,o+α*b+i,jc⟩=ja y:=by
 obtain⟨t,p,c,rfl,u,z,q⟩:=h;have B:=(qe.1 e).1;obtain⟨g,o,rfl,-,r⟩:=q Y;refine⟨g,o,c,I,λi y m=>?_⟩;have s:i<b:=by rw[<-d x v];exact(qe.1 m).1
 rw[Nat.add_assoc];exact r (α*b+i) y ((wR f b d l C α i x v e n s).trans m)
def zJ(b:Bx):Prop:=1<=b.node/\b.node<1024/\1<=b.lev/\b.lev<=9/\mu b.u b.body.length
def uD(x:Wl):Prop:=fF x.dev/\mu x.u x.body.length
structure lS(l:jd Wl):Prop where
 each:∀x∈l,uD x
 inc:∀i,0<i->i<l.length->((l.map Wl.dev).getD (i-1) 0)<((l.map Wl.dev).getD i 0)
theorem lS.snoc{l:jd Wl}{x:Wl}(h:lS l)(e:uD x)(f:l=[]\/∃y,l[l.length-1]?=ja y/\y.dev<x.dev):lS (l++[x]):=by
 refine⟨λy a=>?_,λi c g=>?_⟩
 ·rcases oj.1 a with a|a
  ·exact h.each y a
  rw[qu]at a;subst a;exact e
 rw[jH,xd]at g;rw[qa]
 rcases qi i l.length with b|b
 ·have d:=h.inc i c b
  simp only[jP,r9 (show i<(l.map Wl.dev).length by rw[jC];exact b),r9 (show i-1<(l.map Wl.dev).length by rw[jC];omega)]at d⊢;exact d
 obtain rfl:i=l.length:=Y
 rcases f with rfl|⟨y,a,d⟩
 ·exact jB c ar
 simp only[jP,r9 (show l.length-1<(l.map Wl.dev).length by rw[jC];omega),xx (show(l.map Wl.dev).length<=l.length by rw[jC];exact ju _),j8,a,jC,Nat.sub_self]
 simpa using d
theorem lS.nil:lS []:=⟨(λx h=>by cases h),λi b a=>jB a ar⟩
theorem pM:mA d b=0↔mu d b:=⟨λh=>by
 by_cases g:mu d b
 ·exact g
 rw[uR g]at h;exact jB h G,Fu⟩
theorem Oz(c:Cmt)(q:CQ)(w:jh)(a:aZ (·<w.heap.size) w c q)(l1:c.chg.length<=1000000)(l2:c.path.length<=1000000)(l3:c.box.length<=1000000)(l4:c.wel.length<=1000000)(l5:∀b∈c.box,b.body.length<4611686018427387904)(l6:∀b∈c.wel,b.body.length<4611686018427387904):
 jq jl 54 #[jo (aF c q).toArray] w λe w'=>e=jp (T A (gV c))/\jk w w w':=by
 obtain⟨r,B⟩:=J (gV c);rw[<-B];have C:=O B;have D:=dV.new w (q:=q) a.plen a.clen;have f:=ao w (je (aF c q).toArray 57);obtain⟨pc,cc,F⟩:=a.chg.form;obtain⟨pp,cp,j⟩:=a.path.form;obtain⟨pb,cb,k⟩:∃p c',q.vb=jg p c.box.length c':=by obtain⟨us,h,-⟩:=a.box;exact h.form
 obtain⟨pw,cw,n⟩:∃p c',q.vw=jg p c.wel.length c':=by obtain⟨us,h,-⟩:=a.wel;exact h.form
 obtain⟨o,t,c2,g,m,s,x,-,-⟩:=D.at;rw[F]at g;rw[j]at m;rw[k]at s;rw[n]at x;have VA:=O (EK.At.of_sl (E:=EC) a.chg);have bA:=O a.path;have YA:=O a.box;have WM:=O a.wel;have bB:=O l5;have bC:=O l6;rw[F]at VA;obtain⟨nc,u⟩:=J c.chg.length;obtain⟨np,y⟩:=J c.path.length;obtain⟨nb,a6⟩:=J c.box.length;obtain⟨P,ba⟩:=J c.wel.length;rw[<-u]at g VA l1;rw[<-y]at m l2;rw[<-a6]at s l3;rw[<-ba]at x l4;obtain⟨fd,H⟩:=J c.folder;obtain⟨ep,K⟩:=J c.epoch;obtain⟨au,M⟩:=J c.author;rw[<-H]at o;rw[<-K]at t;rw[<-M]at c2;obtain⟨x0,i⟩:=J (w.alloc (je (aF c q).toArray 57));obtain⟨b,S⟩:=J w.heap.size;have z:=D.blk;obtain⟨ac,d⟩:=J ((aF c q).toArray);rw[<-d]at i f z⊢;rw[<-d]at o t c2 g m s x;rw[<-i,<-S]at o t c2 g m s x z;rw[<-i]at f;have HX:=O i;have bI:=O S;have Q:=O z;have R:=O f;have UK:=O (VA.below f);have ci:jf (ac[36]?=ja (jg pp np cp)):=O (by rw[d,y,<-j];simpa using(ku c q a.plen a.clen).2.2.2.2.1);have bK:jf (ac[37]?=ja (jg pb nb cb)):=O (by rw[d,a6,<-k];simpa using(ku c q a.plen a.clen).2.2.2.2.2.1);have aa:jf (ac[38]?=ja (jg pw P cw)):=O (by rw[d,ba,<-n];simpa using(ku c q a.plen a.clen).2.2.2.2.2.2.1);have cj:=O u;have bf:=O y;have ZN:=O a6;have Ym:=O ba;have bp:=O H;have WO:=O K;have bq:=O M;have bM:=O j;have bN:=O k;have br:=O n;have U:=O (EF fd);have ax:=O (A7 au);obtain⟨fo,V⟩:=J (decide (iZ fd));obtain⟨dv,a2⟩:=J (decide (fF au));rw[<-V]at U;rw[<-a2]at ax;have bs:=O V;have bu:=O a2;have W:=O (Ah c.chg (jg pc nc cc));obtain⟨fm,X⟩:=J (iG c.chg);rw[<-X]at W;have bv:=O X;have bO:jf (c.chg.length<=1000000):=O (by rw[<-u];exact l1);clear B D f F j k n a u y a6 ba H K M i S z d V a2 X l5 l6
 go_enter func54,ntmps54
 go_upto_region 1 with fail
 rw[<-HX,<-bI]
 go_wp2_with fail
 refine(U x0).mono ?_;rintro e x1 ⟨rfl,rfl⟩
 cases fo with
 |false=>
  obtain rfl:r=220:=by rw[C];exact fj λh=>by have h2:=h.fol;rw[<-bp]at h2;have h3:=bs.out;rw[jR h2]at h3;cases h3
  go_wp2_with fail
  go_ret;exact⟨I,R⟩
 |true=>
 by_cases f:ep<1
 ·have bT:decide (ep<1)=jm:=ak f
  obtain rfl:r=220:=by rw[C];exact fj λh=>by have:=h.ep.1;rw[<-WO]at this;omega
  clear f
  go_wp2_with fail
  go_ret;exact⟨I,R⟩
 have bT:decide (ep<1)=ji:=ak f;have bg:=O f;clear f
 by_cases f:1099511627776<ep
 ·have hd2:decide (1099511627776<ep)=jm:=ak f
  obtain rfl:r=220:=by rw[C];exact fj λh=>by have:=h.ep.2;rw[<-WO]at this;omega
  clear f
  go_wp2_with fail
  go_ret;exact⟨I,R⟩
 have hd2:decide (1099511627776<ep)=ji:=ak f;have B:=O f;clear f
 go_wp2_with fail
 refine(ax x0).mono ?_;rintro e x1 ⟨rfl,rfl⟩
 cases dv with
 |false=>
  obtain rfl:r=220:=by rw[C];exact fj λh=>by have h2:=h.aut;rw[<-bq]at h2;have h3:=bu.out;rw[jR h2]at h3;cases h3
  go_wp2_with fail
  go_ret;exact⟨I,R⟩
 |true=>
 go_wp2_with fail
 refine(W x0 UK bO).mono ?_;rintro e x1 ⟨rfl,d⟩;have X:=ae Q d;have H:=ai R d;replace m:=aB m d;replace s:=aB s d;replace x:=aB x d;clear d Q R UK o t c2 g W ax U
 cases fm with
 |false=>
  obtain rfl:r=220:=by rw[C];exact fj λh=>by have h2:=oy.2 h.chg;rw[<-bv]at h2;cases h2
  go_wp2_with fail
  go_ret;exact⟨I,H⟩
 |true=>
 by_cases f:¬np=10
 ·have hd3:((np:N)==10)=ji:=by simp;omega
  have a:((np:N)!=10)=jm:=by simp;omega
  obtain rfl:r=220:=by rw[C];exact fj λh=>f (bf.trans h.plen)
  clear f
  go_wp2_with fail
  go_ret;exact⟨I,H⟩
 have b3:np=10:=Y;clear f;subst b3
 by_cases f:1024<nb
 ·have b4:=az (1024<(nb:N))
  obtain rfl:r=220:=by rw[C];exact fj λh=>by have:=h.blen;rw[<-ZN]at this;omega
  clear f
  go_wp2_with fail
  go_ret;exact⟨I,H⟩
 have b4:=aw (1024<(nb:N));have a6:nb<=1024:=Y;clear f
 by_cases f:512<P
 ·have b5:=az (512<(P:N))
  obtain rfl:r=220:=by rw[C];exact fj λh=>by have:=h.wlen;rw[<-Ym]at this;omega
  clear f
  go_wp2_with fail
  go_ret;exact⟨I,H⟩
 have b5:=aw (512<(P:N));have ba:P<=512:=Y;clear f
 go_wp2_with fail
 go_loopw [56] (λi wr=>∃k:jb,i=T A k/\k<=10/\jf (∀j,j<k->bJ (c.path.getD j 0))/\jf (wr.heap[b]?=ja (je ac 57 (0,0)))/\jf (jk w w wr)) (λi _=>10-(jv i).toNat)
 case atStart=>exact⟨0,I,j5 _,O (λj hj=>jB hj Y),X,H⟩
 obtain⟨k,rfl,hk,HP,HK,z⟩:=hrel
 by_cases bb:k<10
 case pos=>
  have b6:=az ((k:N)<10);have U:=az (k<10);obtain⟨y,K⟩:∃y,c.path[k]?=ja y:=⟨_,ms (by rw[<-bf];exact bb)⟩;obtain⟨-,V,c',F,-,-,D⟩:=bA.out;rw[bM]at F;injection F with e1 e2 e3
  obtain⟨g,o,hg,-,D⟩:=D (by rw[<-bf];omega);rw[hg]at e1;subst e1;have d0:wr.cell? ⟨g,o+k,jc⟩=ja (T A y):=aB (D k (T A y) (by rw[j8,K];rfl)) z;have HY:=O K;have a:=O (gA y);obtain⟨u,t⟩:=J (cS y);rw[<-t]at a;have VM:=O t;clear K D e2 e3 hg t
  go_wp2_with fail
  refine(a _).mono ?_;rintro e W ⟨rfl,d⟩;have S:=ae HK d;have M:=ai z d;clear d a HK z d0
  by_cases n:u=0
  ·have a3:(u !=0)=ji:=ak n
   have a4:(u==0)=jm:=ak n;have a5:jf (∀j,j<k+1->bJ (c.path.getD j 0)):=O (λj hj=>by
    rcases qi j k with a|a
    ·exact HP j a
    obtain rfl:j=k:=Y;rw[show c.path.getD j 0=y by simp[jP,HY.out]];exact ze.1 (VM.symm.trans n))
   clear n
   go_wp2_with fail
   exact⟨⟨k+1,by go_num,by omega,a5,S,M⟩,by simp only[jv];omega⟩
  have a3:(u !=0)=jm:=ak n;have a4:(u==0)=ji:=ak n;obtain rfl:r=220:=by rw[C];exact fj λh=>n (by rw[VM];exact ze.2 (h.path y (j1 HY)))
  clear n
  go_wp2_with fail
  go_ret;exact⟨I,M⟩
 have b6:=aw ((k:N)<10);have b7:jf (∀j,j<10->bJ (c.path.getD j 0)):=O (λj hj=>HP j Y);have a:=ah HK bK;clear m s x X H HP
 go_wp2_with fail
 go_loopw [67] (λi wz=>∃k:jb,i=T A k/\k<=nb/\jf (∀x∈c.box.take k,zJ x)/\jf (wz.heap[b]?=ja (je ac 57 (0,0)))/\jf (jk w w wz)) (λi _=>nb-(jv i).toNat)
 case atStart=>exact⟨0,I,j5 _,O ar,HK,z⟩
 clear a HK z;obtain⟨k,rfl,hk,HP,HK,z⟩:=hrel
 by_cases bb:k<nb
 case pos=>
  have bk:=az ((k:N)<(nb:N));have bl:=az (k<nb);obtain⟨x,f,WT⟩:=dL (l:=c.box) (j:=k) (by rw[<-ZN];exact bb);obtain⟨us,bc,bd⟩:=YA.out;obtain⟨b8,hu,bh⟩:=bd.at (i:=k) (b:=x.body) (by rw[j8,f];rfl);obtain⟨g,o,c',hq,D⟩:=oC bc (λ_ _=>rfl) f hu;rw[bN]at hq;injection hq with e1 e2 e3
  subst e1;subst e3;obtain⟨U,V,rfl⟩:=bh.form;have ay:=bB x (j1 f);have ad:=O f;have Yu:=O WT;obtain⟨m,hm⟩:=J x.body.length;have HM:=O hm;obtain⟨a,s,F,xb⟩:=x;dsimp only at ay hm D;rw[<-hm]at ay D;have d0:wr.cell? ⟨g,o+k*4,jc⟩=ja (T A a):=aB (D 0 _ I) z;have d1:wr.cell? ⟨g,o+k*4+1,jc⟩=ja (T A s):=aB (D 1 _ I) z;have d2:wr.cell? ⟨g,o+k*4+2,jc⟩=ja (T A F):=aB (D 2 _ I) z;have M:wr.cell? ⟨g,o+k*4+3,jc⟩=ja (jg U m V):=aB (D 3 _ I) z;have a1:=O (F5 F U m V ay);obtain⟨u,t⟩:=J (mA F m);rw[<-t]at a1;have VM:=O t;clear D bc bd hu bh f WT e2 hm t ay
  go_upto_region 12 with fail
  obtain⟨y1,Y4⟩:=J wr;have X:jf (y1.heap[b]?=ja (je ac 57 (0,0))):=by rw[Y4];exact HK
  have H:jf (jk w w y1):=by rw[Y4];exact z
  rw[<-Y4]at d0 d1 d2 M⊢;clear Y4 HK z;have d:=ao y1 (je #[T A a,T A s,T A F,jg U m V] 105);have Ul:=jw y1 (je #[T A a,T A s,T A F,jg U m V] 105);obtain⟨y2,f⟩:=J (y1.alloc (je #[T A a,T A s,T A F,jg U m V] 105));rw[<-f]at d Ul⊢;obtain⟨E,hg⟩:=J y1.heap.size;rw[<-hg]at Ul⊢;have b9:=O hg;have W:=ae X d;have S:=ai H d;clear X H;have B:=O Ul;clear Ul f d hg;have b0:=ah (i:=0) B I;have b1:=ah (i:=1) B I;have b2:=ah (i:=2) B I;have bi:=ah (i:=3) B I;clear d0 d1 d2 M
  by_cases f:a<1
  ·have g1:decide (a<1)=jm:=ak f
   obtain rfl:r=220:=by rw[C];exact fj λh=>by have M:=h.box _ (j1 ad);exact by have:=M.1;dsimp only at this;omega
   clear f
   go_wp2_with fail
   go_ret;exact⟨I,S⟩
  have g1:decide (a<1)=ji:=ak f;have bm:1<=a:=Y;clear f
  by_cases f:1024<=a
  ·have g2:decide (1024<=a)=jm:=ak f
   obtain rfl:r=220:=by rw[C];exact fj λh=>by have M:=h.box _ (j1 ad);exact by have:=M.2.1;dsimp only at this;omega
   clear f
   go_wp2_with fail
   go_ret;exact⟨I,S⟩
  have g2:decide (1024<=a)=ji:=ak f;have bn:a<1024:=Y;clear f
  by_cases f:s<1
  ·have g3:decide (s<1)=jm:=ak f
   obtain rfl:r=220:=by rw[C];exact fj λh=>by have M:=h.box _ (j1 ad);exact by have:=M.2.2.1;dsimp only at this;omega
   clear f
   go_wp2_with fail
   go_ret;exact⟨I,S⟩
  have g3:decide (s<1)=ji:=ak f;have bo:1<=s:=Y;clear f
  by_cases f:9<s
  ·have g4:decide (9<s)=jm:=ak f
   obtain rfl:r=220:=by rw[C];exact fj λh=>by have M:=h.box _ (j1 ad);exact by have:=M.2.2.2.1;dsimp only at this;omega
   clear f
   go_wp2_with fail
   go_ret;exact⟨I,S⟩
  have g4:decide (9<s)=ji:=ak f;have bw:s<=9:=Y;clear f
  go_wp2_with fail
  refine(a1 y2).mono ?_;rintro e y3 ⟨rfl,d⟩;have Yt:=ae W d;have Uj:=ai S d;clear d a1 W S B b0 b1 b2 bi
  by_cases n:u=0
  ·have a3:(u !=0)=ji:=ak n
   have a4:(u==0)=jm:=ak n;have a5:jf (∀y∈c.box.take (k+1),zJ y):=O (λy K=>by
    rw[Yu]at K
    rcases oj.1 K with K|K
    ·exact HP y K
    rw[qu]at K;subst K;exact⟨by omega,by omega,by omega,by omega,by rw[<-HM];exact pM.1 (VM.symm.trans n)⟩)
   clear n
   go_wp2_with fail
   exact⟨⟨k+1,by go_num,by omega,a5,Yt,Uj⟩,by simp only[jv];omega⟩
  have a3:(u !=0)=jm:=ak n;have a4:(u==0)=ji:=ak n;obtain rfl:r=220:=by rw[C];exact fj λh=>by have M:=h.box _ (j1 ad);exact n (by rw[VM,HM];exact pM.2 M.2.2.2.2)
  clear n
  go_wp2_with fail
  go_ret;exact⟨I,Uj⟩
 have bk:=aw ((k:N)<(nb:N));have bl:=aw (k<nb);obtain rfl:k=nb:=Y;have ca:jf (∀x∈c.box,zJ x):=O (by have h:=HP.out;rw[jU (by rw[<-ZN];exact ju _)]at h;exact h);have f6:=ah HK aa;clear HP
 go_wp2_with fail
 go_loopw [99] (λi wz=>∃k:jb,i=T A k/\k<=P/\jf (lS (c.wel.take k))/\jf (wz.heap[b]?=ja (je ac 57 (0,0)))/\jf (jk w w wz)) (λi _=>P-(jv i).toNat)
 case atStart=>exact⟨0,I,j5 _,O (ak lS.nil),HK,z⟩
 clear f6 HK z;obtain⟨k,rfl,hk,bi,HK,z⟩:=hrel
 by_cases bb:k<P
 case pos=>
  have bk:=az ((k:N)<(P:N));have bl:=az (k<P);obtain⟨x,f,WT⟩:=dL (l:=c.wel) (j:=k) (by rw[<-Ym];exact bb);obtain⟨us,bc,bd⟩:=WM.out;obtain⟨b8,hu,bh⟩:=bd.at (i:=k) (b:=x.body) (by rw[j8,f];rfl);obtain⟨g,o,c',hq,D⟩:=oC bc (λ_ _=>rfl) f hu;rw[br]at hq;injection hq with e1 e2 e3
  subst e1;subst e3;have cd:jf (∀j y,c.wel[j]?=ja y->w.cell? ⟨g,o+j*3,jc⟩=ja (T A y.dev)):=O (λj y K=>by
   obtain⟨u2,M,-⟩:=bd.at (i:=j) (b:=y.body) (by rw[j8,K];rfl);obtain⟨g2,o2,c2,s,bm⟩:=oC bc (λ_ _=>rfl) K M;rw[br]at s;injection s with a bw ce
   injection a with a
   injection a with bn bo
   subst bn;subst bo;exact bm 0 _ I)
  obtain⟨U,V,rfl⟩:=bh.form;have ay:=bC x (j1 f);have ad:=O f;have Yu:=O WT;obtain⟨m,hm⟩:=J x.body.length;have HM:=O hm;obtain⟨M,F,xb⟩:=x;dsimp only at ay hm D;rw[<-hm]at ay D;have d0:wr.cell? ⟨g,o+k*3,jc⟩=ja (T A M):=aB (D 0 _ I) z;have d1:wr.cell? ⟨g,o+k*3+1,jc⟩=ja (T A F):=aB (D 1 _ I) z;have d2:wr.cell? ⟨g,o+k*3+2,jc⟩=ja (jg U m V):=aB (D 2 _ I) z;have a1:=O (F5 F U m V ay);obtain⟨u,t⟩:=J (mA F m);rw[<-t]at a1;have VM:=O t;have ax:=O (A7 M);obtain⟨dv,a2⟩:=J (decide (fF M));rw[<-a2]at ax;have bm:=O a2;clear D bc bd hu bh f WT e2 hm t ay a2
  go_upto_region 18 with fail
  obtain⟨y1,Y4⟩:=J wr;have X:jf (y1.heap[b]?=ja (je ac 57 (0,0))):=by rw[Y4];exact HK
  have H:jf (jk w w y1):=by rw[Y4];exact z
  rw[<-Y4]at d0 d1 d2⊢;clear Y4 HK z;have d:=ao y1 (je #[T A M,T A F,jg U m V] 107);have Ul:=jw y1 (je #[T A M,T A F,jg U m V] 107);obtain⟨y2,f⟩:=J (y1.alloc (je #[T A M,T A F,jg U m V] 107));rw[<-f]at d Ul⊢;obtain⟨E,hg⟩:=J y1.heap.size;rw[<-hg]at Ul⊢;have b9:=O hg;have W:=ae X d;have S:=ai H d;clear X H;have B:=O Ul;clear Ul f d hg;clear d0 d1 d2
  cases dv with
  |false=>
   obtain rfl:r=220:=by rw[C];exact fj λh=>by have h2:=(h.wel _ (j1 ad)).1;have h3:=bm.out;rw[jR h2]at h3;cases h3
   refine pz ?_;refine dm (λs=>s.heap[E]?=ja (je #[T A M,T A F,jg U m V] 107 (0,0))/\s.heap[b]?=ja (je ac 57 (0,0))) (.take 0 (.take 1 (.one 2 (.take 3 (.take 4 (.take 5 (.take 6 (.take 7 (.take 8 (.take 9 (.take 10 (.take 11 (.take 12 (.take 13 (.take 14 (.take 15 (.take 16 (.take 17 (.take 18 (.take 19 (.take 20 (.take 21 (.take 22 (.one 23 (.take 24 (.take 25 .done)))))))))))))))))))))))))) af af af G (λ_ _ _ _ h=>h) ⟨B,W⟩ ?_;obtain⟨z0,UA⟩:=J y2.drew;have d:=bX y2;rw[<-UA]at d⊢;have Wq:=ae B d;have Q:=ae W d;have R:=ai S d;clear d UA B W S;refine aP ?_
   (refine aV (v:=?_) I aj (λs a=>?_) ?_;rotate_left;(have b0:=ah (i:=0) a.1 I;have b1:=ah (i:=1) a.1 I;have b2:=ah (i:=2) a.1 I;have f6:=ah a.2 aa;go_simp;with_reducible rfl);refine L ?_)
   refine aE I (λK' t=>?_);go_simp;refine(ax _).mono ?_;rintro e _ ⟨rfl,rfl⟩;refine t _ _ ⟨Wq,Q⟩ λ_=>?_
   clear t;refine L ?_;iterate 2 refine aP ?_
   iterate 14 refine il ?_
   iterate 2 refine aP ?_
   iterate 2 refine il ?_
   refine aE I (λK' t=>?_);rw[jy (sq.1 aj)];refine t _ _ ⟨Wq,Q⟩ λ_=>?_
   clear t;refine L ?_;refine il ?_;refine aP ?_;refine jV ?_
   go_wp2_with fail
   go_ret;exact⟨I,R⟩
  |true=>
  by_cases bc:k=0
  ·have ce:=aw ((0:N)<(k:N))
   have cf:=aw (0<k);have ay:=O bc;clear bc;refine pz ?_;refine dm (λs=>s.heap[E]?=ja (je #[T A M,T A F,jg U m V] 107 (0,0))/\s.heap[b]?=ja (je ac 57 (0,0))) (.take 0 (.take 1 (.one 2 (.take 3 (.take 4 (.take 5 (.take 6 (.take 7 (.take 8 (.take 9 (.take 10 (.take 11 (.take 12 (.take 13 (.take 14 (.take 15 (.take 16 (.take 17 (.take 18 (.take 19 (.take 20 (.take 21 (.take 22 (.one 23 (.take 24 (.take 25 .done)))))))))))))))))))))))))) af af af G (λ_ _ _ _ h=>h) ⟨B,W⟩ ?_;obtain⟨z0,UA⟩:=J y2.drew;have d:=bX y2;rw[<-UA]at d⊢;have Wq:=ae B d;have Q:=ae W d;have R:=ai S d;clear d UA B W S;refine aP ?_
   (refine aV (v:=?_) I aj (λs a=>?_) ?_;rotate_left;(have b0:=ah (i:=0) a.1 I;have b1:=ah (i:=1) a.1 I;have b2:=ah (i:=2) a.1 I;have f6:=ah a.2 aa;go_simp;with_reducible rfl);refine L ?_)
   refine aE I (λK' t=>?_);go_simp;refine(ax _).mono ?_;rintro e _ ⟨rfl,rfl⟩;refine t _ _ ⟨Wq,Q⟩ λ_=>?_
   clear t;refine L ?_;iterate 5 refine aP ?_
   iterate 10 refine il ?_
   iterate 4 refine aP ?_
   (refine aV (v:=?_) I aj (λs a=>?_) ?_;rotate_left;(have b0:=ah (i:=0) a.1 I;have b1:=ah (i:=1) a.1 I;have b2:=ah (i:=2) a.1 I;have f6:=ah a.2 aa;go_simp;with_reducible rfl);refine L ?_)
   refine aE I (λK' t=>?_);rw[jt aj];go_simp;refine(a1 z0).mono ?_;rintro e z1 ⟨rfl,d⟩;have bg:=ae Wq d;have X:=ae Q d;have H:=ai R d;clear Wq Q R;clear d;refine t _ _ ⟨bg,X⟩ λ_=>?_
   clear t;refine L ?_;iterate 2 refine aP ?_
   refine jV ?_;clear a1
   by_cases n:u=0
   ·have a3:(u !=0)=ji:=ak n
    have a4:(u==0)=jm:=ak n;have bn:jf (uD ⟨M,F,xb⟩):=O ⟨p6 bm.symm,by rw[<-HM];exact pM.1 (VM.symm.trans n)⟩;have a5:jf (lS (c.wel.take (k+1))):=O (by rw[Yu];exact bi.snoc bn (by exact .inl (by rw[ay];rfl)));clear n
    go_wp2_with fail
    exact⟨⟨k+1,by go_num,by omega,a5,X,H⟩,by simp only[jv];omega⟩
   have a3:(u !=0)=jm:=ak n;have a4:(u==0)=ji:=ak n;obtain rfl:r=220:=by rw[C];exact fj λh=>n (by rw[VM,HM];exact pM.2 (h.wel _ (j1 ad)).2)
   clear n
   go_wp2_with fail
   go_ret;exact⟨I,H⟩
  have ce:=az ((0:N)<(k:N));have cf:=az (0<k);obtain⟨j,hj⟩:=J (k-1);have bh:k=j+1:=Y;have ck:D1.wrap ((k:N)-1)=(j:N):=by rw[bh,show(((j+1:jb):N)-1)=(j:N) by omega];exact IntWalk.i64_in _ Y
  have ZX:=az ((j:N)<(P:N));have cm:=az (j<P);have cn:decide ((0:N)<=(j:N))=jm:=by simp
  have cq:j<P:=Y;obtain⟨y,K⟩:∃y,c.wel[j]?=ja y:=⟨_,ms (by rw[<-Ym];omega)⟩;obtain⟨pd,bo⟩:=J y.dev;have ay:jf (y2.cell? ⟨g,o+j*3,jc⟩=ja (T A pd)):=O (by rw[bo];exact aB (cd j y K) S);have HY:=O K;have bw:=O bo;have bd:=O bh;clear bc hj bh K bo
  by_cases bh:M<=pd
  ·have bo:decide (M<=pd)=jm:=ak bh
   obtain rfl:r=220:=by
    rw[C];refine fj λh=>?_
    have h2:=h.inc k (aI bd) (by rw[<-Ym];exact bb);rw[show k-1=j by have:=bd.out;omega]at h2;rw[show(c.wel.map Wl.dev).getD j 0=pd by rw[bw];simp[jP,HY.out],show(c.wel.map Wl.dev).getD k 0=M by simp[jP,ad.out]]at h2;omega
   clear bh;refine pz ?_;refine dm (λs=>s.heap[E]?=ja (je #[T A M,T A F,jg U m V] 107 (0,0))/\s.heap[b]?=ja (je ac 57 (0,0))/\s.cell? ⟨g,o+j*3,jc⟩=ja (T A pd)) (.take 0 (.take 1 (.one 2 (.take 3 (.take 4 (.take 5 (.take 6 (.take 7 (.take 8 (.take 9 (.take 10 (.take 11 (.take 12 (.take 13 (.take 14 (.take 15 (.take 16 (.take 17 (.take 18 (.take 19 (.take 20 (.take 21 (.take 22 (.one 23 (.take 24 (.take 25 .done)))))))))))))))))))))))))) af af af G (λ_ _ _ _ h=>h) ⟨B,W,ay⟩ ?_;obtain⟨z0,UA⟩:=J y2.drew;have d:=bX y2;rw[<-UA]at d⊢;have Wq:=ae B d;have Q:=ae W d;have R:=ai S d;have bc:=O (aB ay d);clear d UA B W S ay;refine aP ?_
   (refine aV (v:=?_) I aj (λs a=>?_) ?_;rotate_left;(have b0:=ah (i:=0) a.1 I;have b1:=ah (i:=1) a.1 I;have b2:=ah (i:=2) a.1 I;have f6:=ah a.2.1 aa;have p0:=a.2.2;go_simp;with_reducible rfl);refine L ?_)
   refine aE I (λK' t=>?_);go_simp;refine(ax _).mono ?_;rintro e _ ⟨rfl,rfl⟩;refine t _ _ ⟨Wq,Q,bc⟩ λ_=>?_
   clear t;refine L ?_;iterate 6 refine aP ?_
   (refine aV (v:=?_) I aj (λs a=>?_) ?_;rotate_left;(have b0:=ah (i:=0) a.1 I;have b1:=ah (i:=1) a.1 I;have b2:=ah (i:=2) a.1 I;have f6:=ah a.2.1 aa;have p0:=a.2.2;go_simp;with_reducible rfl);refine L ?_)
   iterate 4 refine aP ?_
   (refine aV (v:=?_) I aj (λs a=>?_) ?_;rotate_left;(have b0:=ah (i:=0) a.1 I;have b1:=ah (i:=1) a.1 I;have b2:=ah (i:=2) a.1 I;have f6:=ah a.2.1 aa;have p0:=a.2.2;go_simp;with_reducible rfl);refine L ?_)
   refine aP ?_
   (refine aV (v:=?_) I aj (λs a=>?_) ?_;rotate_left;(have b0:=ah (i:=0) a.1 I;have b1:=ah (i:=1) a.1 I;have b2:=ah (i:=2) a.1 I;have f6:=ah a.2.1 aa;have p0:=a.2.2;go_simp;with_reducible rfl);refine L ?_)
   iterate 4 refine aP ?_
   iterate 2 refine il ?_
   refine aE I (λK' t=>?_);rw[jy (sq.1 aj)];refine t _ _ ⟨Wq,Q,bc⟩ λ_=>?_
   clear t;refine L ?_;refine il ?_;refine aP ?_;refine jV ?_
   go_wp2_with fail
   go_ret;exact⟨I,R⟩
  have bo:decide (M<=pd)=ji:=ak bh;have cg:jf (pd<M):=O Y;clear bh;refine pz ?_;refine dm (λs=>s.heap[E]?=ja (je #[T A M,T A F,jg U m V] 107 (0,0))/\s.heap[b]?=ja (je ac 57 (0,0))/\s.cell? ⟨g,o+j*3,jc⟩=ja (T A pd)) (.take 0 (.take 1 (.one 2 (.take 3 (.take 4 (.take 5 (.take 6 (.take 7 (.take 8 (.take 9 (.take 10 (.take 11 (.take 12 (.take 13 (.take 14 (.take 15 (.take 16 (.take 17 (.take 18 (.take 19 (.take 20 (.take 21 (.take 22 (.one 23 (.take 24 (.take 25 .done)))))))))))))))))))))))))) af af af G (λ_ _ _ _ h=>h) ⟨B,W,ay⟩ ?_;obtain⟨z0,UA⟩:=J y2.drew;have d:=bX y2;rw[<-UA]at d⊢;have Wq:=ae B d;have Q:=ae W d;have R:=ai S d;have bc:=O (aB ay d);clear d UA B W S ay;refine aP ?_
  (refine aV (v:=?_) I aj (λs a=>?_) ?_;rotate_left;(have b0:=ah (i:=0) a.1 I;have b1:=ah (i:=1) a.1 I;have b2:=ah (i:=2) a.1 I;have f6:=ah a.2.1 aa;have p0:=a.2.2;go_simp;with_reducible rfl);refine L ?_)
  refine aE I (λK' t=>?_);go_simp;refine(ax _).mono ?_;rintro e _ ⟨rfl,rfl⟩;refine t _ _ ⟨Wq,Q,bc⟩ λ_=>?_
  clear t;refine L ?_;iterate 6 refine aP ?_
  (refine aV (v:=?_) I aj (λs a=>?_) ?_;rotate_left;(have b0:=ah (i:=0) a.1 I;have b1:=ah (i:=1) a.1 I;have b2:=ah (i:=2) a.1 I;have f6:=ah a.2.1 aa;have p0:=a.2.2;go_simp;with_reducible rfl);refine L ?_)
  iterate 4 refine aP ?_
  (refine aV (v:=?_) I aj (λs a=>?_) ?_;rotate_left;(have b0:=ah (i:=0) a.1 I;have b1:=ah (i:=1) a.1 I;have b2:=ah (i:=2) a.1 I;have f6:=ah a.2.1 aa;have p0:=a.2.2;go_simp;with_reducible rfl);refine L ?_)
  refine aP ?_
  (refine aV (v:=?_) I aj (λs a=>?_) ?_;rotate_left;(have b0:=ah (i:=0) a.1 I;have b1:=ah (i:=1) a.1 I;have b2:=ah (i:=2) a.1 I;have f6:=ah a.2.1 aa;have p0:=a.2.2;go_simp;with_reducible rfl);refine L ?_)
  iterate 5 refine aP ?_
  (refine aV (v:=?_) I aj (λs a=>?_) ?_;rotate_left;(have b0:=ah (i:=0) a.1 I;have b1:=ah (i:=1) a.1 I;have b2:=ah (i:=2) a.1 I;have f6:=ah a.2.1 aa;have p0:=a.2.2;go_simp;with_reducible rfl);refine L ?_)
  refine aE I (λK' t=>?_);rw[jt aj];go_simp;refine(a1 z0).mono ?_;rintro e z1 ⟨rfl,d⟩;have bg:=ae Wq d;have X:=ae Q d;have H:=ai R d;have a:=O (aB bc d);clear Wq Q R bc;clear d;refine t _ _ ⟨bg,X,a⟩ λ_=>?_
  clear t;refine L ?_;iterate 2 refine aP ?_
  refine jV ?_;clear a1
  by_cases n:u=0
  ·have a3:(u !=0)=ji:=ak n
   have a4:(u==0)=jm:=ak n;have bn:jf (uD ⟨M,F,xb⟩):=O ⟨p6 bm.symm,by rw[<-HM];exact pM.1 (VM.symm.trans n)⟩;have a5:jf (lS (c.wel.take (k+1))):=O (by rw[Yu];exact bi.snoc bn (by exact .inr ⟨y,by rw[j9,qd (by rw[<-Ym];omega),show k-1=j by have:=bd.out;omega,H1 (aI bd)];exact HY,by rw[<-bw];exact cg⟩));clear n
   go_wp2_with fail
   exact⟨⟨k+1,by go_num,by omega,a5,X,H⟩,by simp only[jv];omega⟩
  have a3:(u !=0)=jm:=ak n;have a4:(u==0)=ji:=ak n;obtain rfl:r=220:=by rw[C];exact fj λh=>n (by rw[VM,HM];exact pM.2 (h.wel _ (j1 ad)).2)
  clear n
  go_wp2_with fail
  go_ret;exact⟨I,H⟩
 have bk:=aw ((k:N)<(P:N));have bl:=aw (k<P);obtain rfl:k=P:=Y;have a:jf (lS c.wel):=O (by have h:=bi.out;rw[jU (by rw[<-Ym];exact ju _)]at h;exact h);have g:jf (mC c):=O ⟨by rw[<-bp];exact p6 bs.symm,by rw[<-WO];have:=bg.out;have:=B.out;omega,by rw[<-bq];exact p6 bu.symm,
  oy.1 bv.symm,bf.symm,by rw[<-ZN];exact a6,by rw[<-Ym];exact ba,λp i=>by
   obtain⟨j,hj,rfl⟩:=qo i;have h:=b7 j (by rw[bf];exact hj);rw[fp _ hj]at h;exact h,ca,a.each,a.inc⟩
 obtain rfl:r=0:=by rw[C];exact un g
 clear bi
 go_wp2_with fail
 go_ret;exact⟨I,z⟩
theorem fS{x:Val}(w':aU (·<w.heap.size) w x a)(d:jk w w h):aU (·<h.heap.size) h x a:=
 aU.mono (λb (c:b<w.heap.size)=>qf c d.size) _ _ (aU.keep (λb c=>d.block b c) _ _ w')
theorem sW(w':de w a r)(v:jk w w h):de h a r:=by
 obtain⟨p,c,b,d,f⟩:=w';refine⟨p,c,b,d,λi=>?_⟩;obtain⟨g,o,e,k⟩:=f i;exact⟨g,o,e,λj m=>aB (k j m) v⟩
def grp:jd Val->jd jj->jd (jd jj)
 |x::xs,a::b=>gT x a::grp xs b
 |_,_=>[]
theorem tc:∀(l:jd Val) (a:jd jj),(grp l a).flatten=cR l a
 |[],a=>by cases a<;>simp[grp,cR]
 |x::l,[]=>by simp[grp,cR]
 |x::l,b::a=>by simp[grp,cR,tc l a]
theorem AA:∀(l:jd Val) (a:jd jj),a.length=l.length->(grp l a).length=l.length
 |[],a,h=>by cases a<;>simp[grp]
 |x::l,[],h=>by simp at h
 |x::l,b::a,h=>by simp[grp,AA l a (ak h)]
theorem yT:∀{l:jd Val} {a:jd jj},aM D w l a->∀e∈grp l a,∀b∈e,b.oneCell'=jm
 |[],a,h,e,he,b,d=>by cases a<;>simp[grp]at he
 |x::l,a,h,e,he,b,d=>by
  rw[aM]at h;obtain⟨v,i,rfl,f,g⟩:=h;simp only[grp,jT]at he
  rcases he with rfl|he
  ·obtain⟨p,c,rfl⟩:=f.form
   simp only[gT,jT,qL,or_false]at d
   rcases d with rfl|rfl|rfl|rfl<;>rfl
  exact yT g e he b d
theorem tx(s:jb)(a c:jd Val)(k l:jO j6)(m n o p:jb)(w:jh)(C:aU (·<w.heap.size) w (vL a) (jg k m n))(D:aU (·<w.heap.size) w (vL c) (jg l o p))
 (t:w.heap[s]?=ja (je #[jg k m n,jg l o p] 93 (0,0))) (E:a.length+c.length<=1000000):
 jq jl 106 #[jg (ja ⟨s,0,jc⟩) 2 2] w λe w'=>∃v,e=jp v/\aU (·<w'.heap.size) w' (vL (a++c)) v/\jk w w w':=by
 obtain⟨d,u,j⟩:=C.slice;obtain⟨f,x,q⟩:=D.slice;replace j:aM (·<w.heap.size) w a d:=j;replace q:aM (·<w.heap.size) w c f:=q;replace u:aH (·<w.heap.size) w (jg k m n) 4 a.length (cR a d):=u;replace x:aH (·<w.heap.size) w (jg l o p) 4 c.length (cR c f):=x;have y:=AA _ _ j.len;have z:=AA _ _ q.len;have F:sS w (jg k m n) (grp a d):=by unfold sS;rw[y,tc];exact u.row
 have H:sS w (jg l o p) (grp c f):=by unfold sS;rw[z,tc];exact x.row
 have B:[grp a d,grp c f].flatten=grp a d++grp c f:=by simp
 have K:∀e∈[grp a d,grp c f].flatten,∀r∈e,r.oneCell'=jm:=by
  intro e he r b;rw[B]at he
  rcases oj.1 he with h|h
  ·exact yT j e h r b
  exact yT q e h r b
 refine(Qa s 2 93 [jg k m n,jg l o p] [grp a d,grp c f] I I (by rw[B,jH,y,z];exact E) w t (λi b=>by match i,b with|0,_=>exact F|1,_=>exact H) G K).mono ?_;rintro e w' ⟨M,rfl,i,h⟩;refine⟨M,I,?_,h⟩;rw[B,jH,y,z,List.flatten_append,tc,tc,<-sK _ _ _ _ j.len,<-jH]at i;rw[vL,aU];refine⟨d++f,aH.of_own i (λg t=>(i.lt g t).2),aM.append ?_ ?_⟩
 ·exact aM.mono (λb (g:b<w.heap.size)=>qf g h.size) _ _ (aM.keep (λb g=>h.block b g) _ _ j)
 exact aM.mono (λb (g:b<w.heap.size)=>qf g h.size) _ _ (aM.keep (λb g=>h.block b g) _ _ q)
theorem OO{E:Act}{o:j0}{x:qQ}(e:i.size=73)(f:o.op=.load 57 x)(g:E.eval x=jz (ja ⟨b,0,jc⟩))(c:w.heap[b]?=ja (je i 57 (0,0))):
 (execOp E.eval o).run jl w=.ok (.value (jo i)) w:=by
 have h:=fx (P:=jl) o E 57 x f b 0 g i.toList _ (vM (t:=57) (l:=i.toList) (ak c)) underlying57 I (by rw[qb,e];exact mM)
 simpa using h
def iV(c:Cmt)(a:ByteArray)(nums:jd N):LBy:=cW a ((aR c).take 4++nums.map vI)
theorem Ek(c:Cmt)(q:CQ)(n:ByteArray)(nums:jd N)(v:jj)(w:jh)(j:n.size<=1000)(a:aZ (·<w.heap.size) w c q)(hI:de w v nums)(hn:nums.length<=1000)
 (hl:c.chg.length<=1000000/\c.path.length<=1000000/\c.box.length<=1000000/\c.wel.length<=1000000) (k:da ((aR c).take 4++nums.map vI)) (l:bP w):
 jq jl 48 #[jo (aF c q).toArray,.string n,v] w λe w'=>∃D,e=jp (jg (ja ⟨D,0,jc⟩) 32 32)/\bD w' (jg (ja ⟨D,0,jc⟩) 32 32) (iV c n nums)/\jk w w w':=by
 obtain⟨l1,l2,l3,l4⟩:=hl;have m:=O a;have UN:=O k;have HT:=O l;have ba:=O j;have o:=O hI;obtain⟨pv,cv,rfl,-,-⟩:=hI;obtain⟨Uz,d⟩:=J ((aF c q).toArray);rw[<-d];have bb:=O d;have p:Uz.size=73:=by rw[d,jJ,dz c q a.plen a.clen]
 have YC:=O p;have S:=jw w (je Uz 57);have f:=ao w (je Uz 57);obtain⟨W1,g⟩:=J (w.alloc (je Uz 57));obtain⟨b,h⟩:=J w.heap.size;rw[<-g]at f S;rw[<-h]at S;have i:=O f;have r:=O S;have s:=O g;have VT:=O h;clear f g h S d p a k l j
 go_enter func48,ntmps48
 go_upto_region 1 with fail
 rw[<-s,<-VT];clear s;have Uh:jf (jk w w W1.drew):=O (i.trans ((bX W1).mono i.size));have Z9:jf (W1.drew.heap[b]?=ja (je Uz 57 (0,0))):=O r;have UK:jf (aZ (·<W1.drew.heap.size) W1.drew c q):=O (m.below Uh);have YH:jf (de W1.drew (jg pv nums.length cv) nums):=O (sW o Uh);clear i r m o;refine pz ?_;refine dm (λa=>a.heap[b]?=ja (je Uz 57 (0,0))) (.take 0 (.take 1 (.take 4 (.two 2 9 (.take 3 (.two 5 9 (.two 6 9 (.two 7 9 (.two 8 9 (.one 9 (.one 10 .done)) (.one 8 (.one 10 .done))) (.one 7 (.one 8 (.one 10 .done)))) (.one 6 (.one 7 (.one 8 (.one 10 .done))))) (.one 5 (.one 6 (.one 7 (.one 8 (.one 10 .done))))))) (.one 2 (.take 3 (.one 5 (.one 6 (.one 7 (.one 8 (.one 10 .done))))))))))) af af af G (λ_ _ _ _ h=>h) Z9 ?_;generalize W1.drew=x0 at Uh Z9 UK YH⊢;refine fG ?_
 (refine aV (v:=jo Uz) I aj (λa d=>OO YC I I d) (L ?_))
 refine fG ?_;refine iW ?_ ?_
 ·refine aE I (λk d=>?_)
  go_simp;rw[bb];refine(tl c q x0 UK l1 l2 l3 l4).mono ?_;rintro e x1 ⟨v,rfl,a6,a⟩;obtain⟨E,o,rfl,Vr⟩:∃g o,v=jg (ja ⟨g,0,jc⟩) 11 o/\11<=o:=by
   obtain⟨us,ho,-⟩:=a6;obtain⟨g,c,h1,h2,-⟩:=vf ho G;exact⟨g,c,h1,h2⟩
  have bi:∀W,(Instr.sliceAt 93 (jg (ja ⟨E,0,jc⟩) 11 o) jc (ja (T A 4)) jc).run jl W=.ok (jg (ja ⟨E,0,jc⟩) 4 o) W:=λW=>wj 93 152 4 underlying93 wQ E 0 11 o 4 Y W
  have Uf:=ai Uh a;have a3:=ae Z9 a;have Ww:=O (sW YH a);clear Uh Z9 UK YH;clear a;have bc:=O (a6.val 4 G).2;clear a6;rw[<-bb];refine d _ _ a3.out λ_=>?_
  clear d;refine L ?_;refine fG ?_;refine iW ?_ ?_
  ·refine aE I (λk d=>?_)
   go_simp;refine(tC nums _ x1 Ww Y).mono ?_;rintro e x2 ⟨bh,rfl,U,a⟩;obtain⟨V,X,rfl⟩:=cK U;have a5:=sc (D:=(·<x2.heap.size)) U (λg i=>(U.lt g i).2);have Ug:=ai Uf a;have Wg:=ae a3 a;have a4:=O (fS bc a);clear Uf a3 Ww bc;have bd:=O a5;clear a U a5;refine d _ _ Wg.out λ_=>?_
   clear d;refine L ?_;refine iW ?_ ?_
   ·refine aE I (λk d=>?_)
    go_simp;have a:=ao x2 (je #[jg (ja ⟨E,0,jc⟩) 4 o,jg V nums.length X] 93);have f:=jw x2 (je #[jg (ja ⟨E,0,jc⟩) 4 o,jg V nums.length X] 93);obtain⟨B,l⟩:=J (x2.alloc (je #[jg (ja ⟨E,0,jc⟩) 4 o,jg V nums.length X] 93));rw[<-l]at a f⊢;obtain⟨gl,i⟩:=J x2.heap.size;rw[<-i]at f⊢;have bg:=O i;clear i;have Uj:=ai Ug a;have K:=ae Wg a;have ad:=O (fS a4 a);have au:=O (fS bd a);clear Ug Wg a4 bd;have Zl:=O f;clear f;clear l a;refine d _ _ K.out λ_=>?_
    clear d;refine L ?_;refine iW ?_ ?_
    ·refine aE I (λk d=>?_)
     go_simp;refine(tx gl ((aR c).take 4) (nums.map vI) _ _ _ _ _ _ B ad au Zl.out (by rw[jC];exact jL (qP (qz _ _) hn) G)).mono ?_;rintro e x4 ⟨vc,rfl,F,a⟩;obtain⟨pc,bf,rfl⟩:=F.form;have H:=ai Uj a;have C:=ae K a;clear Uj K ad au Zl;have ay:=O F;clear a F;refine d _ _ C.out λ_=>?_
     clear d;refine L ?_;refine iW ?_ ?_
     ·refine aE I (λk d=>?_)
      go_simp;refine(mF n ba ((aR c).take 4++nums.map vI) _ x4 ay UN (HT.below H).num (HT.below H).start).mono ?_;rintro e x5 ⟨rfl,a⟩;have r:((cW n ((aR c).take 4++nums.map vI)).map v8).toArray.size=32:=by rw[jJ,jC,eQ]
      have s:=eR (cW n ((aR c).take 4++nums.map vI));obtain⟨j,t⟩:=J (((cW n ((aR c).take 4++nums.map vI)).map v8).toArray);rw[<-t]at r s⊢;have Vd:=O t;have M:=O r;have Va:=O s;clear t r s;have m:=ai H a;have p:=ae C a;clear H C ay;clear a;refine d _ _ p.out λ_=>?_
      clear d;refine L ?_;refine aE I (λk d=>?_);go_simp;have a:=ao x5 (je a8 23);have f:=jw x5 (je a8 23);obtain⟨u,l⟩:=J (x5.alloc (je a8 23));rw[<-l]at a f⊢;obtain⟨D,i⟩:=J x5.heap.size;rw[<-i]at f⊢;have P:=O i;clear i;have Vp:=ai m a;have Q:=ae p a;have R:=O f;have WF:jf (w.heap.size<=D):=O (by rw[P];exact m.size);have ax:jf (b<D):=O (by rw[P];exact(jG.1 p).1);clear f l a;clear m p;refine d _ _ Q.out λ_=>?_
      clear d;refine L ?_;refine aE I (λk d=>?_);rw[jt aj];refine j4 23 _ _ I D j I I 23 _ R.out (by rw[M];rfl) (by rw[M];simp) Va (d _ _ ((jY _ _ _ _ (aI ax)).trans Q) λ_=>?_);clear d;have x:(u.setRow D j).heap[D]?=ja (je j 23 (0,0)):=jQ _ _ _ _ _ _ R.out;have y:jk w w (u.setRow D j):=jZ Vp WF _;generalize u.setRow D j=z at x y⊢;have WU:=O x;have Wk:=O y;clear x y;refine L ?_;refine jV ?_
      go_wp2_with fail
      go_ret;have h:=WU.out;rw[Vd]at h;have S:=nU h (eQ _ _);refine⟨D,I,?_,Wk⟩;exact S
     refine aE I (λk d=>?_);go_simp;have a:=ao x4 (je a8 23);have f:=jw x4 (je a8 23);obtain⟨x5,l⟩:=J (x4.alloc (je a8 23));rw[<-l]at a f⊢;obtain⟨D,i⟩:=J x4.heap.size;rw[<-i]at f⊢;have P:=O i;clear i;have m:=ai H a;have p:=ae C a;have aa:=O (fS ay a);have ac:=O f;have WF:jf (w.heap.size<=D):=O (by rw[P];exact H.size);have ax:jf (b<D):=O (by rw[P];exact(jG.1 C).1);clear f l a;clear H C ay;refine d _ _ p.out λ_=>?_
     clear d;refine L ?_;refine aE I (λk d=>?_);go_simp;refine(mF n ba ((aR c).take 4++nums.map vI) _ x5 aa UN (HT.below m).num (HT.below m).start).mono ?_;rintro e u ⟨rfl,a⟩;have r:((cW n ((aR c).take 4++nums.map vI)).map v8).toArray.size=32:=by rw[jJ,jC,eQ]
     have s:=eR (cW n ((aR c).take 4++nums.map vI));obtain⟨j,t⟩:=J (((cW n ((aR c).take 4++nums.map vI)).map v8).toArray);rw[<-t]at r s⊢;have Vd:=O t;have M:=O r;have Va:=O s;clear t r s;have Vp:=ai m a;have Q:=ae p a;have R:=ae ac a;clear m p aa ac;clear a;refine d _ _ Q.out λ_=>?_
     clear d;refine L ?_;refine aE I (λk d=>?_);rw[jt aj];refine j4 23 _ _ I D j I I 23 _ R.out (by rw[M];rfl) (by rw[M];simp) Va (d _ _ ((jY _ _ _ _ (aI ax)).trans Q) λ_=>?_);clear d;have x:(u.setRow D j).heap[D]?=ja (je j 23 (0,0)):=jQ _ _ _ _ _ _ R.out;have y:jk w w (u.setRow D j):=jZ Vp WF _;generalize u.setRow D j=z at x y⊢;have WU:=O x;have Wk:=O y;clear x y;refine L ?_;refine jV ?_
     go_wp2_with fail
     go_ret;have h:=WU.out;rw[Vd]at h;have S:=nU h (eQ _ _);refine⟨D,I,?_,Wk⟩;exact S
    refine aE I (λk d=>?_);go_simp;have a:=ao B (je a8 23);have f:=jw B (je a8 23);obtain⟨x4,l⟩:=J (B.alloc (je a8 23));rw[<-l]at a f⊢;obtain⟨D,i⟩:=J B.heap.size;rw[<-i]at f⊢;have P:=O i;clear i;have H:=ai Uj a;have C:=ae K a;have ay:=O (fS ad a);have a1:=O (fS au a);have a2:=ae Zl a;have Wm:=O f;have WF:jf (w.heap.size<=D):=O (by rw[P];exact Uj.size);have ax:jf (b<D):=O (by rw[P];exact(jG.1 K).1);clear f l a;clear Uj K ad au Zl;refine d _ _ C.out λ_=>?_
    clear d;refine L ?_;refine aE I (λk d=>?_);go_simp;refine(tx gl ((aR c).take 4) (nums.map vI) _ _ _ _ _ _ x4 ay a1 a2.out (by rw[jC];exact jL (qP (qz _ _) hn) G)).mono ?_;rintro e x5 ⟨vc,rfl,F,a⟩;obtain⟨pc,bf,rfl⟩:=F.form;have m:=ai H a;have p:=ae C a;have ac:=ae Wm a;clear H C ay a1 a2 Wm;have aa:=O F;clear a F;refine d _ _ p.out λ_=>?_
    clear d;refine L ?_;refine aE I (λk d=>?_);go_simp;refine(mF n ba ((aR c).take 4++nums.map vI) _ x5 aa UN (HT.below m).num (HT.below m).start).mono ?_;rintro e u ⟨rfl,a⟩;have r:((cW n ((aR c).take 4++nums.map vI)).map v8).toArray.size=32:=by rw[jJ,jC,eQ]
    have s:=eR (cW n ((aR c).take 4++nums.map vI));obtain⟨j,t⟩:=J (((cW n ((aR c).take 4++nums.map vI)).map v8).toArray);rw[<-t]at r s⊢;have Vd:=O t;have M:=O r;have Va:=O s;clear t r s;have Vp:=ai m a;have Q:=ae p a;have R:=ae ac a;clear m p ac aa;clear a;refine d _ _ Q.out λ_=>?_
    clear d;refine L ?_;refine aE I (λk d=>?_);rw[jt aj];refine j4 23 _ _ I D j I I 23 _ R.out (by rw[M];rfl) (by rw[M];simp) Va (d _ _ ((jY _ _ _ _ (aI ax)).trans Q) λ_=>?_);clear d;have x:(u.setRow D j).heap[D]?=ja (je j 23 (0,0)):=jQ _ _ _ _ _ _ R.out;have y:jk w w (u.setRow D j):=jZ Vp WF _;generalize u.setRow D j=z at x y⊢;have WU:=O x;have Wk:=O y;clear x y;refine L ?_;refine jV ?_
    go_wp2_with fail
    go_ret;have h:=WU.out;rw[Vd]at h;have S:=nU h (eQ _ _);refine⟨D,I,?_,Wk⟩;exact S
   refine aE I (λk d=>?_);go_simp;have a:=ao x2 (je a8 23);have f:=jw x2 (je a8 23);obtain⟨B,l⟩:=J (x2.alloc (je a8 23));rw[<-l]at a f⊢;obtain⟨D,i⟩:=J x2.heap.size;rw[<-i]at f⊢;have P:=O i;clear i;have Uj:=ai Ug a;have K:=ae Wg a;have ad:=O (fS a4 a);have au:=O (fS bd a);have WV:=O f;have WF:jf (w.heap.size<=D):=O (by rw[P];exact Ug.size);have ax:jf (b<D):=O (by rw[P];exact(jG.1 Wg).1);clear f l a;clear Ug Wg a4 bd;refine d _ _ K.out λ_=>?_
   clear d;refine L ?_;refine aE I (λk d=>?_);go_simp;have a:=ao B (je #[jg (ja ⟨E,0,jc⟩) 4 o,jg V nums.length X] 93);have f:=jw B (je #[jg (ja ⟨E,0,jc⟩) 4 o,jg V nums.length X] 93);obtain⟨x4,l⟩:=J (B.alloc (je #[jg (ja ⟨E,0,jc⟩) 4 o,jg V nums.length X] 93));rw[<-l]at a f⊢;obtain⟨gl,i⟩:=J B.heap.size;rw[<-i]at f⊢;have bg:=O i;clear i;have H:=ai Uj a;have C:=ae K a;have ay:=O (fS ad a);have a1:=O (fS au a);have Wm:=ae WV a;clear Uj K ad au WV;have a2:=O f;clear f;clear l a;refine d _ _ C.out λ_=>?_
   clear d;refine L ?_;refine aE I (λk d=>?_);go_simp;refine(tx gl ((aR c).take 4) (nums.map vI) _ _ _ _ _ _ x4 ay a1 a2.out (by rw[jC];exact jL (qP (qz _ _) hn) G)).mono ?_;rintro e x5 ⟨vc,rfl,F,a⟩;obtain⟨pc,bf,rfl⟩:=F.form;have m:=ai H a;have p:=ae C a;have ac:=ae Wm a;clear H C ay a1 Wm a2;have aa:=O F;clear a F;refine d _ _ p.out λ_=>?_
   clear d;refine L ?_;refine aE I (λk d=>?_);go_simp;refine(mF n ba ((aR c).take 4++nums.map vI) _ x5 aa UN (HT.below m).num (HT.below m).start).mono ?_;rintro e u ⟨rfl,a⟩;have r:((cW n ((aR c).take 4++nums.map vI)).map v8).toArray.size=32:=by rw[jJ,jC,eQ]
   have s:=eR (cW n ((aR c).take 4++nums.map vI));obtain⟨j,t⟩:=J (((cW n ((aR c).take 4++nums.map vI)).map v8).toArray);rw[<-t]at r s⊢;have Vd:=O t;have M:=O r;have Va:=O s;clear t r s;have Vp:=ai m a;have Q:=ae p a;have R:=ae ac a;clear m p ac aa;clear a;refine d _ _ Q.out λ_=>?_
   clear d;refine L ?_;refine aE I (λk d=>?_);rw[jt aj];refine j4 23 _ _ I D j I I 23 _ R.out (by rw[M];rfl) (by rw[M];simp) Va (d _ _ ((jY _ _ _ _ (aI ax)).trans Q) λ_=>?_);clear d;have x:(u.setRow D j).heap[D]?=ja (je j 23 (0,0)):=jQ _ _ _ _ _ _ R.out;have y:jk w w (u.setRow D j):=jZ Vp WF _;generalize u.setRow D j=z at x y⊢;have WU:=O x;have Wk:=O y;clear x y;refine L ?_;refine jV ?_
   go_wp2_with fail
   go_ret;have h:=WU.out;rw[Vd]at h;have S:=nU h (eQ _ _);refine⟨D,I,?_,Wk⟩;exact S
  refine aE I (λk d=>?_);go_simp;have a:=ao x1 (je a8 23);have f:=jw x1 (je a8 23);obtain⟨x2,l⟩:=J (x1.alloc (je a8 23));rw[<-l]at a f⊢;obtain⟨D,i⟩:=J x1.heap.size;rw[<-i]at f⊢;have P:=O i;clear i;have Ug:=ai Uf a;have Wg:=ae a3 a;have WH:=O (sW Ww a);have a4:=O (fS bc a);have Yh:=O f;have WF:jf (w.heap.size<=D):=O (by rw[P];exact Uf.size);have ax:jf (b<D):=O (by rw[P];exact(jG.1 a3).1);clear f l a;clear Uf a3 Ww bc;refine d _ _ Wg.out λ_=>?_
  clear d;refine L ?_;refine aE I (λk d=>?_);go_simp;refine(tC nums _ x2 WH Y).mono ?_;rintro e B ⟨bh,rfl,U,a⟩;obtain⟨V,X,rfl⟩:=cK U;have a5:=sc (D:=(·<B.heap.size)) U (λg i=>(U.lt g i).2);have Uj:=ai Ug a;have K:=ae Wg a;have ad:=O (fS a4 a);have WV:=ae Yh a;clear Ug Wg WH a4 Yh;have au:=O a5;clear a U a5;refine d _ _ K.out λ_=>?_
  clear d;refine L ?_;refine aE I (λk d=>?_);go_simp;have a:=ao B (je #[jg (ja ⟨E,0,jc⟩) 4 o,jg V nums.length X] 93);have f:=jw B (je #[jg (ja ⟨E,0,jc⟩) 4 o,jg V nums.length X] 93);obtain⟨x4,l⟩:=J (B.alloc (je #[jg (ja ⟨E,0,jc⟩) 4 o,jg V nums.length X] 93));rw[<-l]at a f⊢;obtain⟨gl,i⟩:=J B.heap.size;rw[<-i]at f⊢;have bg:=O i;clear i;have H:=ai Uj a;have C:=ae K a;have ay:=O (fS ad a);have Wm:=ae WV a;have a1:=O (fS au a);clear Uj K ad WV au;have a2:=O f;clear f;clear l a;refine d _ _ C.out λ_=>?_
  clear d;refine L ?_;refine aE I (λk d=>?_);go_simp;refine(tx gl ((aR c).take 4) (nums.map vI) _ _ _ _ _ _ x4 ay a1 a2.out (by rw[jC];exact jL (qP (qz _ _) hn) G)).mono ?_;rintro e x5 ⟨vc,rfl,F,a⟩;obtain⟨pc,bf,rfl⟩:=F.form;have m:=ai H a;have p:=ae C a;have ac:=ae Wm a;clear H C ay Wm a1 a2;have aa:=O F;clear a F;refine d _ _ p.out λ_=>?_
  clear d;refine L ?_;refine aE I (λk d=>?_);go_simp;refine(mF n ba ((aR c).take 4++nums.map vI) _ x5 aa UN (HT.below m).num (HT.below m).start).mono ?_;rintro e u ⟨rfl,a⟩;have r:((cW n ((aR c).take 4++nums.map vI)).map v8).toArray.size=32:=by rw[jJ,jC,eQ]
  have s:=eR (cW n ((aR c).take 4++nums.map vI));obtain⟨j,t⟩:=J (((cW n ((aR c).take 4++nums.map vI)).map v8).toArray);rw[<-t]at r s⊢;have Vd:=O t;have M:=O r;have Va:=O s;clear t r s;have Vp:=ai m a;have Q:=ae p a;have R:=ae ac a;clear m p ac aa;clear a;refine d _ _ Q.out λ_=>?_
  clear d;refine L ?_;refine aE I (λk d=>?_);rw[jt aj];refine j4 23 _ _ I D j I I 23 _ R.out (by rw[M];rfl) (by rw[M];simp) Va (d _ _ ((jY _ _ _ _ (aI ax)).trans Q) λ_=>?_);clear d;have x:(u.setRow D j).heap[D]?=ja (je j 23 (0,0)):=jQ _ _ _ _ _ _ R.out;have y:jk w w (u.setRow D j):=jZ Vp WF _;generalize u.setRow D j=z at x y⊢;have WU:=O x;have Wk:=O y;clear x y;refine L ?_;refine jV ?_
  go_wp2_with fail
  go_ret;have h:=WU.out;rw[Vd]at h;have S:=nU h (eQ _ _);refine⟨D,I,?_,Wk⟩;exact S
 refine aE I (λk d=>?_);go_simp;have a:=ao x0 (je a8 23);have f:=jw x0 (je a8 23);obtain⟨x1,l⟩:=J (x0.alloc (je a8 23));rw[<-l]at a f⊢;obtain⟨D,i⟩:=J x0.heap.size;rw[<-i]at f⊢;have P:=O i;clear i;have Uf:=ai Uh a;have a3:=ae Z9 a;have UB:=O (UK.below a);have Ww:=O (sW YH a);have bc:=O f;have WF:jf (w.heap.size<=D):=O (by rw[P];exact Uh.size);have ax:jf (b<D):=O (by rw[P];exact(jG.1 Z9).1);clear f l a;clear Uh Z9 UK YH;refine d _ _ a3.out λ_=>?_
 clear d;refine L ?_;refine aE I (λk d=>?_);go_simp;rw[bb];refine(tl c q x1 UB l1 l2 l3 l4).mono ?_;rintro e x2 ⟨v,rfl,a6,a⟩;obtain⟨E,o,rfl,Vr⟩:∃g o,v=jg (ja ⟨g,0,jc⟩) 11 o/\11<=o:=by
  obtain⟨us,ho,-⟩:=a6;obtain⟨g,c,h1,h2,-⟩:=vf ho G;exact⟨g,c,h1,h2⟩
 have bi:∀W,(Instr.sliceAt 93 (jg (ja ⟨E,0,jc⟩) 11 o) jc (ja (T A 4)) jc).run jl W=.ok (jg (ja ⟨E,0,jc⟩) 4 o) W:=λW=>wj 93 152 4 underlying93 wQ E 0 11 o 4 Y W
 have Ug:=ai Uf a;have Wg:=ae a3 a;have WH:=O (sW Ww a);have Yh:=ae bc a;clear Uf a3 UB Ww bc;clear a;have a4:=O (a6.val 4 G).2;clear a6;rw[<-bb];refine d _ _ Wg.out λ_=>?_
 clear d;refine L ?_;refine fG ?_;refine aE I (λk d=>?_);go_simp;refine(tC nums _ x2 WH Y).mono ?_;rintro e B ⟨bh,rfl,U,a⟩;obtain⟨V,X,rfl⟩:=cK U;have a5:=sc (D:=(·<B.heap.size)) U (λg i=>(U.lt g i).2);have Uj:=ai Ug a;have K:=ae Wg a;have WV:=ae Yh a;have ad:=O (fS a4 a);clear Ug Wg WH Yh a4;have au:=O a5;clear a U a5;refine d _ _ K.out λ_=>?_
 clear d;refine L ?_;refine aE I (λk d=>?_);go_simp;have a:=ao B (je #[jg (ja ⟨E,0,jc⟩) 4 o,jg V nums.length X] 93);have f:=jw B (je #[jg (ja ⟨E,0,jc⟩) 4 o,jg V nums.length X] 93);obtain⟨x4,l⟩:=J (B.alloc (je #[jg (ja ⟨E,0,jc⟩) 4 o,jg V nums.length X] 93));rw[<-l]at a f⊢;obtain⟨gl,i⟩:=J B.heap.size;rw[<-i]at f⊢;have bg:=O i;clear i;have H:=ai Uj a;have C:=ae K a;have Wm:=ae WV a;have ay:=O (fS ad a);have a1:=O (fS au a);clear Uj K WV ad au;have a2:=O f;clear f;clear l a;refine d _ _ C.out λ_=>?_
 clear d;refine L ?_;refine aE I (λk d=>?_);go_simp;refine(tx gl ((aR c).take 4) (nums.map vI) _ _ _ _ _ _ x4 ay a1 a2.out (by rw[jC];exact jL (qP (qz _ _) hn) G)).mono ?_;rintro e x5 ⟨vc,rfl,F,a⟩;obtain⟨pc,bf,rfl⟩:=F.form;have m:=ai H a;have p:=ae C a;have ac:=ae Wm a;clear H C Wm ay a1 a2;have aa:=O F;clear a F;refine d _ _ p.out λ_=>?_
 clear d;refine L ?_;refine aE I (λk d=>?_);go_simp;refine(mF n ba ((aR c).take 4++nums.map vI) _ x5 aa UN (HT.below m).num (HT.below m).start).mono ?_;rintro e u ⟨rfl,a⟩;have r:((cW n ((aR c).take 4++nums.map vI)).map v8).toArray.size=32:=by rw[jJ,jC,eQ]
 have s:=eR (cW n ((aR c).take 4++nums.map vI));obtain⟨j,t⟩:=J (((cW n ((aR c).take 4++nums.map vI)).map v8).toArray);rw[<-t]at r s⊢;have Vd:=O t;have M:=O r;have Va:=O s;clear t r s;have Vp:=ai m a;have Q:=ae p a;have R:=ae ac a;clear m p ac aa;clear a;refine d _ _ Q.out λ_=>?_
 clear d;refine L ?_;refine aE I (λk d=>?_);rw[jt aj];refine j4 23 _ _ I D j I I 23 _ R.out (by rw[M];rfl) (by rw[M];simp) Va (d _ _ ((jY _ _ _ _ (aI ax)).trans Q) λ_=>?_);clear d;have x:(u.setRow D j).heap[D]?=ja (je j 23 (0,0)):=jQ _ _ _ _ _ _ R.out;have y:jk w w (u.setRow D j):=jZ Vp WF _;generalize u.setRow D j=z at x y⊢;have WU:=O x;have Wk:=O y;clear x y;refine L ?_;refine jV ?_
 go_wp2_with fail
 go_ret;have h:=WU.out;rw[Vd]at h;have S:=nU h (eQ _ _);refine⟨D,I,?_,Wk⟩;exact S
end Go.Proofs.YthonckffmkefdaaGreatDoor
