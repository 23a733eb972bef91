/- Contracts of functions that the law reaches, part 4 of 7; no condition. -/
import Derived.Shelf.SlSortCmp.NoneTotal
import Derived.Test.YtpmlopbaafjefaaGreatDoorZJ3
namespace Go.Proofs.YtpmlopbaafjefaaGreatDoor
set_option maxHeartbeats 64000000
set_option maxRecDepth 100000
set_option linter.unusedVariables false
set_option linter.unusedSimpArgs false
set_option linter.unusedSectionVars false
open Go.RowKit
open Go.Proofs.Tryz
open _root_ renaming rfl->I,Int->N,Nat->jb,List->jd,congrArg->js,if_pos->jt,if_neg->jy,absurd->jB,Array->jD,Bool->jF,decide_eq_true->jO,Option->jP,of_decide_eq_true->qa
open Go.Value renaming int->T
open Go.IntKind renaming i64->A
open _root_.Option renaming some->ja,none->jc,getD_some->wi,map_some->xd,isSome_iff_exists->AX
open Go.Obj renaming cells->je
open Go.RowKit renaming Hid->jf,Below->jk
open Go.Value renaming slice->jg,agg->jn,pointer->jz,tuple->jE
open Go renaming World->jh,Value->jj,Calls->jq,Boxed->jA,TypeId->jJ,undef->jN,setRow_heap->jR,Program->jX,setRow_other->jY,below_setRow->jZ,Oper->j0,wpList_plain->j3,wp_store_row->j4,Addr->j6,maxLen->oj,callFunc->o8,wp_region_lit->pz,wp_region_noPanic->p6,bodyPost_ret->qh,wpList_load_row->qi,Operand->qS,grownBy_setCell'->qT,callsIn_wide->sx,results_none->sy,run_underlying->sA,callsIn_of_wp_marks->H0,wpListIn_append_own_at->H1
open _root_.Bool renaming false->ji,true->jm,eq_iff_iff->qz,eq_false_iff->sq,and_eq_true->sv
open Go.Proofs.Tryz renaming prog->jl
open Go.Value renaming int->jo,oneCell'->ob,bool->qu,agg->xe,ownBlock->xP
open Go.Ending renaming returned->jp
open Go.IntKind renaming u8->jr,u64->rk,wrap_u64->rn,wrap_u8->r4,i64->Bm
open _root_.Nat renaming le_refl->ju,le_trans->jL,zero_add->jM,zero_le->j5,min_eq_left->qe,lt_of_lt_of_le->qg,lt_or_ge->qj,mul_le_mul_right->qk,mod_lt->qL,mul_comm->qN,add_le_add->qQ,reduceAdd->qW,reduceSub->qX,ne_of_lt->xf,le_of_lt->xj,add_zero->xm,eq_zero_or_pos->xw,div_div_eq_div_mul->AB,lt_or_eq_of_le->CB,le_of_lt_succ->CF,div_lt_of_lt_mul->E4,div_add_mod->E5
open Go.Proofs renaming intOf->jv
open Go.World renaming alloc_heap_new->jw,size_alloc->j7,ownsRow_nil->ms,cell?->qy,setRow->qV,ownsRow_lit->xZ
open _root_.List renaming length_map->jC,length_append->jI,size_toArray->jK,getD->jQ,mem_map->jS,mem_cons->jT,take_of_length_le->jU,replicate->jW,mem_of_getElem?->j1,getElem?_map->j8,length_take->j9,length_cons->mb,getElem?_eq_getElem->mz,append_assoc->nv,append_nil->n0,mem_append->o1,map_append->qb,getElem?_eq_some_iff->qf,nil_append->ql,cons_append->qn,take_succ_eq_append_getElem->qo,getElem_of_mem->qs,any_eq_false->qt,mem_singleton->qv,filter_append->qw,filter_nil->qx,length_take_le->qA,length_attach->qB,range->qH,length_nil->qI,map_cons->qJ,getElem_mem->qK,mem_nil_iff->qM,mem_cons_self->qO,mergeSort_perm->qP,push_toArray->q7,append_toArray->q8,zipIdx_cons->q9,mem_range->r5,length_set->r6,filter_cons_of_neg->r7,drop_drop->r8,pairwise_cons->r9,getElem?_append_left->sa,getElem_map->sh,eq_nil_of_length_eq_zero->sn,take_set_of_le->wq,drop_set_of_lt->wt,drop_of_length_le->wv,length_singleton->wx,setIfInBounds_toArray->xg,map_set->xh,any_eq_true->xi,take_append_drop->xk,take_take->xl,mem_cons_of_mem->xo,pairwise_map->xq,map_map->xr,pairwise_iff_getElem->xt,getElem?_append_right->xu,flatMap_cons->xx,take_zero->xO,flatten_cons->xR,drop_eq_getElem_cons->xS,getElem?_eq_none->xT,toList_toArray->xU,map_inj_right->xV,mem_flatMap->xW,length_drop->xX,length_eq_zero_iff->xY,getElem?_drop->yl,filter_cons_of_pos->yn,getElem_set_self->AA,mem_filter->AC,map_congr_left->Bn,length_filter_le->D1,getElem?_cons_succ->E2,nodup_append->E3,getElem?_take_of_lt->E6,map_mergeSort->GX,attach_map_subtype_val->HH
open _root_.Array renaming getElem?_eq_some_iff->jG,length_toList->qc,replicate_succ->qY,replicate_zero->qZ
open Go.RowKit.Below renaming refl->jH,heap_setCell->xN,heap_alloc->xQ
open Go.NoPanic renaming normal->jV
open Go.Proofs.Tryz renaming underlying3->nn,underlying65->qC,underlying24->qD,underlying30->qE,underlying29->qF,underlying4->qG,results28->qU,results37->sB,underlying5->vi,underlying155->xy,underlying309->xz,underlying0->xA,underlying9->xB,underlying171->xC,underlying226->xD,underlying227->xE,underlying48->xG,underlying233->xH,underlying206->xI,underlying297->xJ,underlying301->xK,underlying342->xL,underlying343->xM
open _root_.BitVec renaming ofNat->ow,toNat_ofNat->rv
open _root_.Int renaming eq_ofNat_of_zero_le->qd,ofNat->xa,natCast_ediv->xn
variable{e:Grp}{d:N}{z:N×N}{p:N->jP N}{j:Type}{x:ar}{i:jD jj}{P:jX}{b o:jb}{D:jb->Prop}{t:jd (N×N)}{r:jd N}{f:jd ar}{h w w':jh}{S:jh->Prop}{a m vm vt:jj}
section
attribute [local go_sem] Oper.semAt_some
section
variable {P:jX} {F:Fence} {nF:jb}
theorem Ap{f:jD j0}{i:jd j0}{o:j0}{a:Act}{w:jh}{j:Exit->Act->jh->Prop}(k:o.guard=jc)(b:jJ)(x y:qS)(d:o.op=.store b x y)
 (g:jb) (cells:jD jj) (l:a.eval x=jz (ja ⟨g,0,jc⟩)) (m:a.eval y=jn cells) (t:jJ) (e:jD jj) (n:w.heap[g]?=ja (je e t (0,0))) (p:(P.info? b).map (·.size)=ja cells.size)
 (q:e.size=cells.size) (r:cells.all (·.oneCell')=jm) (h:wpListIn F nF P f j i (a.put o.dst jN) (w.setRow g cells)):wpListIn F nF P f j (o::i) a w:=by
 refine wpListIn_plain k λv s=>?_
 unfold Oper.wpIn;refine⟨by simp[Oper.about,d],?_⟩;rw[Oper.semAt_plain F _ _ (by rw[d];intro c u;cases u)];simp only[execOp,d,l,m,Instr.storeAt,Instr.sureAddr,Sem.run_bind,Sem.run_pure,Result.andThen_ok,run_storeVar_row w g t b e cells n p q r];exact s _ _ h
end
def DV(k:LBy):LBy:=dX k ⟨#[112,97,116,104]⟩ []
def aA(k:LBy):jb->LBy
 |0=>k
 |i+1=>DV (aA k i)
def gI(k:LBy)(n:jb):jd (LBy):=(qH n).map (aA k)
theorem fK(k:LBy)(h:k.length=32):∀i,(aA k i).length=32
 |0=>h
 |i+1=>by
  rw[aA,DV];exact pE _ _ _
theorem CE(k:LBy)(n:jb):gI k (n+1)=gI k n++[aA k n]:=by unfold gI;rw[List.range_succ,qb];rfl
theorem Gg(k:LBy)(n:jb):(gI k n).length=n:=by unfold gI;simp
def kI(k:LBy):jj:=jn (k.map v8).toArray
theorem bP.setRow{B0:jb}{Ψ:jb->Prop}(a:jh)(g:jb)(b:jD jj)(c:Ψ g):bP B0 Ψ a (a.setRow g b):=
 ⟨rfl,rfl,rfl,by simp[qV],λk _ d=>.inl (jY _ _ _ _ (λe=>d (e▸c)))⟩
theorem bP.setCell{B0:jb}{Ψ:jb->Prop}(a:jh)(p:j6)(v:jj)(b:Ψ p.block):bP B0 Ψ a (a.setCell p v):=
 ⟨rfl,rfl,rfl,by simp[World.setCell],λk _ c=>.inl (xN _ _ _ _ (λe=>c (e▸b)))⟩
theorem L0(c:LBy)(h:c.length=32)(w0:jh)(i:bS w0)(b a:jb)(j:w0.heap.size<=b)(m:w0.heap.size<=a)(p:b≠a)(w:jh)(e:jk w0 w0 w)
 (f:jA w b 3 (T A (0:jb))) (g:w.heap[a]?=ja (je (c.map v8).toArray 65 (0,0))):
 eR jl 210 #[jz (ja ⟨b,0,jc⟩),jz (ja ⟨a,0,jc⟩)] (λx:LBy=>#[kI x]) (λk=>k=b\/k=a) w0.heap.size (λxs=>xs=gI c 10) (λ_=>True) (λys=>ys.length<=10/\∀x∈ys,x.length=32) w:=by
 intro l Q Jx W d q r s t;have u:jA W b 3 (T A (0:jb)):=(d.block b f.lt).trans f;have v:=(d.block a (jG.1 g).1).trans g;have Us:=O (e.trans (d.mono e.size));have HT:=O i;have o:=O h;have R:=O p;have au:=O j;have ax:=O m;have ay:=O u;have a1:=O v;clear f g e i h p j m u v d;have B:=O q;have a2:=O r;have S:=O s;have U:=O t;clear q r s t;refine(sx (n:=0)).1 ?_;refine callsIn_of_wp func210 I trivial ?_ I;simp only[ntmps210,jK,mb,qI,qW,qX,qY,qZ,q7,q8,ql,qn]
 gi_wp2_with fail
 gi_loopw [4] (λs wr=>W.heap.size<=wr.heap.size/\∃i:jb,i<=10/\jf (jA wr b 3 (T A (i:jb)))/\jf (wr.heap[a]?=ja (je ((aA c i).map v8).toArray 65 (0,0)))/\jf (jk w0 w0 wr)/\jf (Q (gI c i) (λk=>k=b\/k=a) wr))
  (λs wr=>(10-jv ((wr.cell? ⟨b,0,jc⟩).getD jN)).toNat)
 case atStart=>
  exact⟨ju _,0,by omega,ay,a1,Us,U⟩
 obtain⟨a4,i,hi,f,p,C,q⟩:=hrel;have D:=f.cell;have E:=O D
 by_cases h1:i<10
 ·have hd:=az ((i:N)<=9)
  obtain⟨r,d,e⟩:=Arr.mk' (fK c o i);obtain⟨s,m,h⟩:=Arr.mk' (fK c o (i+1));have t:=S (gI c i) (aA c i) (λk=>k=b\/k=a) wr q (by
   rintro k (rfl|rfl)
   ·exact f.lt
   exact(jG.1 p).1) (by
   rw[<-CE];refine⟨by rw[Gg];omega,λx g=>?_⟩;unfold gI at g;obtain⟨j,-,rfl⟩:=jS.1 g;exact fK c o j)
  rw[<-CE]at t;unfold kI at t;rw[<-d]at t;obtain⟨fn,tmps,assign,body,V,j⟩:=t;have u:jf (wr.heap[a]?=ja (je r 65 (0,0))):=O (by rw[d];exact p);have F:=O e;have V8:=O d;have g:=O h;have H:=O j;clear d e m h j
  gi_wp2_with (refine oI I 65 _ I a I 65 r (0,0) _ u.out qC I (by rw[F.sz];rfl) ?_)
  refine⟨I,H.mono ?_⟩;rintro e v (⟨rfl,X,h,j⟩|⟨rfl,ZL,h,j⟩)
  ·have m:jf (jA v b 3 (T A (i:jb))):=O ((j b (.inl I)).trans f)
   have K:=O ((j a (.inr I)).trans u);have M:=O (C.trans h);have y:=O X;have Ws:wr.heap.size<=v.heap.size:=h.size;clear D f p C q u H X h j V
   gi_wp2_with (refine oI I 65 _ I a I 65 r (0,0) _ K.out qC I (by rw[F.sz];rfl) ?_)
   have d:=sI (aA c i) (fK c o i) ⟨#[112,97,116,104]⟩ [] _ v (zU _) (AN _ L) (HT.below M);rw[<-V8]at d;have z:((dX (aA c i) ⟨#[112,97,116,104]⟩ []).map v8).toArray=s:=g.eq.symm;rw[z]at d;refine⟨trivial,I,(callsIn_wide.2 d).mono ?_⟩;clear d z;rintro e z ⟨rfl,d⟩;have aa:jf (jA z b 3 (T A (i:jb))):=O ((d.block _ m.lt).trans m);have P:=ae K d;have UB:=aj M d;have ad:=O (B.keep y (bP.ofBelow d (λk hk _=>hk)));have a5:v.heap.size<=z.heap.size:=d.size;clear m K M y d
   gi_wp2_with (refine Ap I 65 _ _ I a s I I 65 r P.out (by rw[g.sz];rfl) (by rw[F.sz,g.sz]) g.one ?_;obtain⟨m,d⟩:∃x,x=z.setRow a s:=⟨_,I⟩;have a6:=O d;rw[<-d];have M:jf (m.heap[a]?=ja (je s 65 (0,0))):=O (by rw[d];exact jR _ _ _ _ _ _ P.out);have K:jf (jA m b 3 (T A (i:jb))):=O (by rw[d];exact(jY _ _ _ _ R.out).trans aa);have a3:jf (Q (gI c (i+1)) (λk=>k=b\/k=a) m):=O (by rw[d];exact B.keep ad (bP.setRow _ _ _ (.inr I)));have UH:jf (jk w0 w0 m):=O (by rw[d];exact jZ UB ax _);have k:z.heap.size<=m.heap.size:=(by rw[d];simp[qV]);have ba:=K.cell;have bb:=K.frozen;clear d P aa ad UB)
   have k:=K.set (T A ((i:N)+1));have x:=k.cell;refine⟨⟨by rw[World.size_setCell];omega,i+1,by omega,O k,O ?_,O ?_,O ?_⟩,?_⟩
   ·rw[<-g.eq];exact(xN _ _ _ _ (Ne.symm R.out)).trans M
   ·exact UH.setCell au.out _
   ·exact B.keep a3 (bP.setCell _ _ _ (.inl I))
   rw[x,E];simp only[wi,jv];omega
  have y:=O ZL;clear D f p C q u H ZL h j V E
  gi_wp2
  refine qh (sy I _ _ _) I ?_;exact⟨⟨_,I⟩,.inr ⟨_,_,trivial,y⟩⟩
 have hd:=aw ((i:N)<=9);obtain rfl:i=10:=Y;clear S U a2 E
 gi_wp2
 refine bodyPost_end (sy I _ _ _) I ?_;exact⟨⟨_,I⟩,.inl ⟨_,_,I,q⟩⟩
end
section
variable {P:jX}
theorem K9{α:Type}{g:qS}{q:jD Tmp}{assign body:Code}{u:Exit->Act->jh->Prop}{a:Act}{w:jh}{n:jb}
 {gf:jb} {lb:jD jj} (E:a.eval g=.func (.func gf) #[] lb) (F:∀args w,(o8 gf args).run P w=.ok (.enter gf args) w)
 {encs:α->jD jj} {y:jb->Prop} {z:jb} {S C V:jd α->Prop} (H:eR P gf lb encs y z S C V w)
 (M:z<=w.heap.size) (Q:∀x,(encs x).size=q.size) (R:∀k,y k->k<w.heap.size)
 (f:jd α->(jb->Prop)->jh->Prop) (m:Code->jd α->(jb->Prop)->jh->Prop) (U:bZ w.heap.size f) (X:∀c,bZ w.heap.size (m c)) (h0:f [] y w)
 (o:α->Act->(jb->Prop)->jh->Prop) (aa:bZ w.heap.size (fun(s:α×Act) Ψ W=>o s.1 s.2 Ψ W))
 (ad:∀(l:jb) (d:jd α) (x:α) (Ψ:jb->Prop) (b:jh) (K:Act->jh->Prop),f d Ψ b->V (d++[x])->(∀k,Ψ k->k<b.heap.size)->
  (∀i e,jk b b e->f d Ψ e->o x i Ψ e->K i e)->
  assign.wpIn (Fence.wide.inRound l) 0 P (Exit.then K (λ_ _ _=>False)) {tmps:=(q.zip (encs x)).foldl (λt (p,v)=>t.setIfInBounds p v) a.tmps,defers:=[]} b)
 (t:∀(l:jb) (d:jd α) (x:α) (Ψ:jb->Prop) (i:Act) (b:jh),f d Ψ b->o x i Ψ b->V (d++[x])->(∀k,Ψ k->k<b.heap.size)->w.heap.size<=b.heap.size->(∃r,b.heap[l]?=ja (.loop r))->
  body.wpIn (Fence.wide.inRound l) 0 P (rj w.heap.size z f m (d++[x]) Ψ b) i b)
 (v:∀(D:jb) (xs:jd α) (Ψ:jb->Prop) (W:jh),w.heap.size<=D->S xs->f xs Ψ W->W.heap[D]?=ja (.deferred (ja []))->u .normal {a with defers:={target:=.collected D,args:=#[]}::a.defers} W)
 (au:∀(D:jb) (c:Code) (d:jd α) (Ψ:jb->Prop) (W:jh),w.heap.size<=D->C d->m c d Ψ W->W.heap[D]?=ja (.deferred (ja []))->c.wpIn Fence.wide n P u {a with defers:={target:=.collected D,args:=#[]}::a.defers} W):
 (Code.rangeFunc g q assign body).wpIn Fence.wide n P u a w:=by
 refine rJ E F H.v M Q R f m U (λ_ _ _ _=>trivial) X h0 o aa (λl d x Ψ b K p _ j s e=>ad l d x Ψ b K p j s e) (λl d x Ψ i b p K j s e h h1 k=>?_) (λD xs Ψ W e=>v D xs Ψ W (Nat.le_of_eq e.symm)) (λD c d Ψ W e=>au D c d Ψ W (Nat.le_of_eq e.symm));obtain⟨-,-,j⟩:=j;obtain⟨r,k⟩:=k;exact wpIn_mono (t l d x Ψ i b p K j s Y ⟨r,by rw[h];exact k⟩) λe a B h=>rj.two h1 k h
end
section
attribute [local go_sem] Oper.semAt_some
def io(l:jd (LBy)):jd jj:=(l.map λk=>k.map v8).flatten
theorem Px(l:jd (LBy))(k:LBy):io (l++[k])=io l++k.map v8:=by unfold io;simp
theorem Jr:(jl.info? 65).map (λi=>(i.zero,i.size,i.bytes))=ja (ja (jn a8),32,32):=by kernel_rfl
def Ct(f:LBy->jb->Act)(x:LBy)(a:Act)(Ψ:jb->Prop)(W:jh):Prop:=∃g,a=f x g/\W.heap[g]?=ja (je (x.map v8).toArray 65 (0,0))/\¬Ψ g
theorem Tj(B0:jb)(f:LBy->jb->Act):bZ B0 (fun(s:LBy×Act) Ψ W=>Ct f s.1 s.2 Ψ W):=by
 rintro s Ψ c l B ⟨g,e,h,d⟩ i m j;have a:¬c g:=λk=>by
  rcases j _ k with b|b
  ·exact d b
  have:=(jG.1 h).1;omega
 exact⟨g,e,i.cells h a,a⟩
theorem Cz:∀(xs:jd jj) (k:jb) (a:jD jj),k+xs.length<=a.size->((xs.zipIdx k).foldl (λa x=>a.setIfInBounds x.2 x.1) a).toList=a.toList.take k++xs++a.toList.drop (k+xs.length)
 |[],k,a,h=>by simp
 |x::xs,k,a,h=>by
  rw[mb]at h;have b:k<a.toList.length:=by rw[qc];omega
  rw[q9,List.foldl_cons,Cz xs (k+1) _ (by rw[Array.size_setIfInBounds];omega),Array.toList_setIfInBounds,List.take_add_one,wq (ju _),List.getElem?_set_self b,wt Y,mb];simp only[Option.toList_some,nv,List.singleton_append,qn,ql];rw[show k+1+xs.length=k+(xs.length+1) by omega]
theorem Kh(X Z:jD jj)(h:X.size=32)(d:Z.size=32):Array.foldl (λa x=>a.setIfInBounds x.2 x.1) Z X.zipIdx 0 32=X:=by
 have b:X.zipIdx.size=32:=by simp[h]
 have c:Array.foldl (λa (x:jj×jb)=>a.setIfInBounds x.2 x.1) Z X.zipIdx 0 32=X.zipIdx.toList.foldl (λa x=>a.setIfInBounds x.2 x.1) Z:=by
  rw[Array.foldl_toList,b]
 rw[c,Array.toList_zipIdx]
 apply Array.ext'
 rw[Cz _ _ _ (by rw[qc];omega)];rw[qc,xO,ql,wv (by rw[qc];omega),n0]
theorem QL{gf:jb}{lb:jD jj}(a:∀args w,(o8 gf args).run jl w=.ok (.enter gf args) w){p:jb->Prop}{H:jb}{S Sp V:jd (LBy)->Prop}{w:jh}
 (b:eR jl gf lb (λx:LBy=>#[kI x]) p H S Sp V w) (ZH:H<=w.heap.size) (M:∀k,p k->k<w.heap.size) (c:∀ys,V ys->ys.length<=100000/\∀x∈ys,x.length=32) (f:jb) (s:f<=w.heap.size) (au:∀k,p k->f<=k):
 jq jl 209 #[jg jc 0 0,.func (.func gf) #[] lb] w λe w'=>∃v xs,e=jp v/\S xs/\w'.ownsRow w 65 32 v xs.length (io xs)/\jk f w w':=by
 have ax:=O b;have ay:=O a;have z:=O c;clear b a c;refine(sx (n:=0)).1 ?_;refine H0 func209 I trivial ?_ I;simp only[ntmps209,jK,mb,qI,qW,qX,qY,qZ,q7,q8,ql,qn]
 gi_wp2_with fail
 obtain⟨d,a⟩:=J (w.alloc (je #[jg jc 0 0] 176));have bN:jA d w.heap.size 176 (jg jc 0 0):=by rw[a];exact Boxed.new w _ _
 have P:jk w w d:=by rw[a];exact(jH _ w).alloc (ju _) _
 have bc:w.heap.size+1<=d.heap.size:=by rw[a];simp
 rw[<-a];clear a;have a1:gQ w.heap.size 176 w.heap.size 65 32 ([]:jd (LBy)).length (io []) (λ_=>True) p d/\(jk f w d/\∀k,p k->f<=k):=by
  refine⟨⟨_,bN,λh=>by have:=M _ h;omega,ms _ _ _ _,by simp[xP],trivial⟩,P.mono s,au⟩
 have Q:bZ d.heap.size (fun(b:jd (LBy)) Ψ W=>gQ w.heap.size 176 w.heap.size 65 32 b.length (io b) (λ_=>True) Ψ W):=m8 (β:=jd (LBy)) d.heap.size w.heap.size 176 w.heap.size 65 32 (λb=>b.length) (λb=>io b) (λ_ _=>True);refine K9 (n:=0) (gf:=gf) (lb:=lb) I ay (ax.later P) Y (λ_=>rfl) (λk o=>by have:=M k o;omega)
  (λb Ψ W=>gQ w.heap.size 176 w.heap.size 65 32 b.length (io b) (λ_=>True) Ψ W/\(jk f w W/\∀k,Ψ k->f<=k))
  (λ_ _ _ _=>False)
  (Q.and (kL _ _ w s Y))
  (λ_=>fj _ _)
  a1
  (Ct (λx g=>{tmps:=#[jg jc 0 0,.func (.func gf) #[] lb,jz (ja ⟨w,0,jc⟩),jN,jg jc 0 0,jz (ja ⟨g,0,jc⟩),.func (.func gf) #[] lb,kI x,jN,jN,jN,jN,jN],defers:=[]})) (Tj _ _)
  ?assign ?body ?done ?stop
 case assign=>
  intro l b x Ψ a K D q E t;have u:=(z _ q).2 x ao;obtain⟨X,c,j⟩:=Arr.mk' u;have i:kI x=jn X:=by unfold kI;rw[c]
  rw[i];have y:=O c;have m:=O j;clear c j i
  gi_wp2_with (refine Ap I 65 _ _ I a.heap.size X I I 65 _ (jw a _) (by rw[m.sz];rfl) (by rw[m.sz];rfl) m.one ?_)
  obtain⟨B,r⟩:=J ((a.alloc (je a8 65)).setRow a.heap.size X);rw[<-r];have F:B.heap[a.heap.size]?=ja (je X 65 (0,0)):=by rw[r];exact jR _ _ _ _ _ _ (jw a _)
  have C:jk a a B:=by rw[r];exact jZ (ap a _) (ju _) _
  refine t _ _ C ((Q.and (kL _ _ w s Y)).keep D (bP.ofBelow C (λk o _=>o))) ⟨a.heap.size,?_,by rw[<-y];exact F,λh=>jB (E _ h) (Nat.lt_irrefl _)⟩;have i:kI x=jn X:=by unfold kI;rw[y]
  simp only[i]
  rfl
 case body=>
  rintro l b x Ψ bd a ⟨⟨v,k,K,r,R,-⟩,o,U⟩ ⟨g,rfl,B,bf⟩ q Yt bg bh;have a2:=(z _ q).1;have u:=(z _ q).2 x ao;rw[jI,wx]at a2;obtain⟨X,c,j⟩:=Arr.mk' u;have i:kI x=jn X:=by unfold kI;rw[c]
  simp only[i];rw[<-c]at B;have y:=O c;have m:=O j;have hc:=k.cell;have C:=O o;have bi:=o.size;obtain⟨i0,hi,UL,a3,a4⟩:=info_parts Jr;have aa:=m.sz;have a5:=Kh X a8 aa I;clear o q c j i
  gi_wp2_with (first|(refine oI I 65 _ I g I 65 X (0,0) _ B qC I (by rw[m.sz];rfl) ?_)|(gi_at_builtin;refine Hid.out ?_))
  refine O ?_;refine H1 _ I _ _ 176 I w.heap.size 65 i0 (jn a8) 32 32 underlying176 hi UL a3 a4 I L v _ _ I (r.alloc _) ⟨a,0,jc⟩ 1 1 (x.map v8) I (by rw[jC,u]) (IM x a.heap.size (by rw[<-y];exact jw a _)) (iu _) (by unfold oj;omega) Y (by simp;omega) ?_;intro v' w1 D E a6 F;obtain⟨g',bk,rfl⟩:=ownsRow_succ D;obtain⟨c,ad⟩:=sl (B0:=d.heap.size) k L r Y (ju _) K R Yt D E (by intro j hj;rw[hj]at F;rcases F with h|h;exact .inl h.symm;exact .inr (ak h));have j:jA w1 w.heap.size 176 v:=(k.alloc _).kept E (by have:=k.not_row (e:=65) L r;exact this);have bl:=j.cell;have bm:=j.frozen;have ba:=O c;have bb:=O ad;clear c ad D E a6 F hc a5 aa B
  gi_wp2_with fail
  obtain⟨v',B,D,E,F,b5⟩:=bb.out;have c:=ba.out;refine⟨⟨c.1,c.2.1.mono ZH,c.2.2⟩,⟨v',B,D,?_,F,trivial⟩,C.trans (c.2.1.mono s),U⟩;rw[Px,jI,wx];exact E
 case done=>
  rintro D xs Ψ W c a ⟨⟨v,k,K,r,R,-⟩,o,U⟩ t;have hc:=k.cell;have C:=O o;clear o
  gi_wp2
  refine⟨by simp,.inl ⟨_,_,I,run_takeDeferred t,?_⟩⟩;exact⟨_,results_tmp I _ _ _,_,xs,I,a,ownsRow_putObj r _ t I,C.trans (iD Y)⟩
 intro D c b Ψ W _ _ h;exact h.elim
theorem Q9{i:jD jj}(c:∀args w,(o8 b args).run jl w=.ok (.enter b args) w){gf:jb->Prop}{d:jb}{S l V:jd (LBy)->Prop}{w:jh}
 (f:eR jl b i (λx:LBy=>#[kI x]) gf d S l V w) (g:d<=w.heap.size) (h:∀k,gf k->k<w.heap.size) (lb:∀ys,V ys->ys.length<=100000/\∀x∈ys,x.length=32) (a:jb) (m:a<=w.heap.size) (j:∀k,gf k->a<=k):
 jq jl 155 #[.func (.func b) #[] i] w λe w'=>∃v xs,e=jp v/\S xs/\w'.ownsRow w 65 32 v xs.length (io xs)/\jk a w w':=by
 have k:=O (QL c f g h lb a m j);clear c f g h lb j
 go_enter func155,ntmps155
 go_wp2_with fail
 refine k.mono ?_;rintro e j ⟨v,xs,rfl,g,c,f⟩;have h:=O c;have lb:=O f;clear c f
 go_wp2
 go_ret;exact⟨v,xs,I,g,h,lb⟩
end
theorem Li(a:jD jj)(b:a.size=32)(w:jh):
 jq jl 156 #[jn a,T A 0] w λe w'=>e=jp (.func (.func 210) #[] #[jz (ja ⟨w.heap.size+1,0,jc⟩),jz (ja ⟨w,0,jc⟩)])/\w'=(w.alloc (je a 65)).alloc (je #[T A 0] 3):=by
 go_enter func156,ntmps156
 go_wp2
 go_ret;exact⟨I,I⟩
theorem LB(k:LBy)(d:k.length=32)(w:jh)(j:bS w):
 jq jl 104 #[jn (k.map v8).toArray] w λe w'=>∃v,e=jp v/\w'.ownsRow w 65 32 v 10 (io (gI k 10))/\jk w w w':=by
 obtain⟨b,f,l⟩:=Arr.mk' d;rw[<-f];have s:=O d;have t:=O f;have m:=O l;have u:=O j;have c:=jw w (je b 65);have g:=ap w (je b 65);obtain⟨a,h⟩:=J (w.alloc (je b 65));obtain⟨x,i⟩:=J w.heap.size;rw[<-h]at g c;rw[<-i]at c;have y:=O c;have n:=O g;have z:=O h;have B:=O i;clear f l d j c g h i
 go_enter func104,ntmps104
 go_upto_region 1 with fail
 rw[<-z,<-B];refine pz ?_;refine qi I 65 _ I x I 65 b (0,0) _ y.out qC I (by rw[m.sz];rfl) ?_
 go_wp2_with fail
 refine(Li b m.sz a).mono ?_;rintro e c ⟨rfl,d⟩;have i:c.heap[a.heap.size]?=ja (je (k.map v8).toArray 65 (0,0)):=by
  rw[d,<-t];exact(xQ _ _ _ ao).trans (jw a _)
 have l:jA c (a.heap.size+1) 3 (T A (0:jb)):=by
  have h:=Boxed.new (a.alloc (je b 65)) 3 (T A (0:jb));rw[j7]at h;rw[d];exact h
 have o:jk a a c:=by rw[d];exact((jH _ a).alloc (ju _) _).alloc ao _
 have C:a.heap.size+1<c.heap.size:=by rw[d];simp
 have g:=n.size;have f:=n.trans (o.mono g);have p:=L0 k s w u (a.heap.size+1) a.heap.size Y g Y c f l i;have q:=Q9 (λ_ _=>rfl) p (cV f.size) (by rintro j (rfl|rfl)<;>omega) (λys h=>⟨by omega,h.2⟩) w.heap.size (cV f.size) (by rintro j (rfl|rfl)<;>omega);have j:=O q;have r:=O f;clear i l o C g f p q d
 go_wp2_with fail
 refine j.mono ?_;rintro e o ⟨v,xs,rfl,d,f,i⟩;have l:o.ownsRow w 65 32 v 10 (io (gI k 10)):=by
  have h:=f;rw[d,Gg]at h;refine⟨h.1,?_⟩
  rcases h.2 with p|⟨g,q,C,e,D,E⟩
  ·exact .inl p
  exact .inr ⟨g,q,C,e,jL r.size D,E⟩
 have g:=O l;have h:=O (r.trans i);clear f l i j d
 go_wp2_with fail
 go_ret;exact⟨_,I,g,h⟩
def beK(n:jb):jb->LBy
 |0=>[]
 |k+1=>beK n k++[ow 8 (n/2^(56-8*k))]
def be8(n:jb):LBy:=beK n 8
theorem wj(n k:jb):(beK n k).length=k:=by induction k with
 |zero=>rfl
 |succ k a=>simp[beK,a]
def dD(l:jd jb):LBy:=(l.map be8).flatten
theorem ts(l:jd jb):(dD l).length=8*l.length:=by
 unfold dD
 induction l with
 |nil=>rfl
 |cons a l b=>
  have h:(be8 a).length=8:=wj a 8;rw[qJ,xR,jI,b,mb,h];omega
theorem vD(l:jd jb)(a:jb):dD (l++[a])=dD l++be8 a:=by unfold dD;simp
def oq(a:LBy)(msg:LBy)(nums:jd jb):jb:=oZ a (dD nums++msg)
theorem AM(s:ByteArray)(d:s.size<=1000)(msg:LBy)(vm:jj)(f:msg.length<=100000)(nums:jd jb)(E:jj)(F:nums.length<=1000)(g:∀x∈nums,x<9223372036854775808)(w:jh)(t:bj w vm msg)(hn:dh w E (nums.map xa))(h:bS w):
 jq jl 86 #[.string s,vm,E] w λe w'=>e=jp (T A (oq (co s) msg nums:jb))/\jk w w w':=by
 obtain⟨p,c,rfl,H,a⟩:=hn;rw[jC]at H a⊢;obtain⟨n,l⟩:=J nums.length;rw[<-l]at H F a⊢;have q:=O l;have K:=O a;have aa:=O g;have M:=O t;have YY:=O f;obtain⟨P,Q,rfl,WV,-,-⟩:=t;have ad:=O d;have R:=O h;obtain⟨S,b⟩:=J msg.length;rw[<-b]at M WV⊢;have ay:=O b;clear l a g f d h b
 go_enter func86,ntmps86
 go_wp2_with fail
 go_loopw [7,10,13] (λj b a wr=>∃(i:jb) (u:jj),j=u/\a=T A i/\i<=n/\jf (wr.ownsRow w 5 1 u (8*i) ((dD (nums.take i)).map v8))/\jf (jk w w wr)) (λ_ _ a _=>n-(jv a).toNat)
 case atStart=>exact⟨0,_,I,I,j5 _,O (ms _ _ _ _),O (jH _ _)⟩
 obtain⟨i,u,rfl,rfl,hi,U,f⟩:=hrel
 by_cases V:i<n
 ·have hd:=az ((i:N)<(n:N))
  have UN:=az (i<n);obtain⟨g,o,rfl,k⟩:=K Y;have a:i<nums.length:=by rw[<-q];exact V
  have m:(nums.map xa).getD i 0=((nums[i]:jb):N):=by simp[jQ,a]
  obtain⟨y,d⟩:=J (nums[i]);have a1:y<9223372036854775808:=by rw[d];exact aa _ (qK a)
  have h:=k i V;rw[m,<-d]at h;have c1:wr.cell? ⟨g,o+i,jc⟩=ja (T A (y:jb)):=(dV (f.block g (gg h))).trans h;have YX:jf (dD (nums.take (i+1))=dD (nums.take i)++be8 y):=O (by
   rw[qo a,vD,d])
  have v:=f.size;have a2:(0:N)<=(y:N):=Y;have a3:rk.wrap (y:N)=(y:N):=by rw[rn];omega
  clear m d h k a K
  go_wp2_with fail
  go_loopw [7,10] (λj b wr2=>∃(k:jb) (x:jj) (a:N),j=x/\b=T A a/\ -8<=a/\a<=56/\jf (a=56-8*(k:N))/\jf (wr2.ownsRow w 5 1 x (8*i+k) ((dD (nums.take i)++beK y k).map v8))/\jf (jk w w wr2)) (λ_ b _=>(jv b+8).toNat)
  case atStart=>exact⟨0,_,_,I,I,by omega,by omega,O rfl,O (by rw[beK,n0];exact U),f⟩
  obtain⟨k,x,a,rfl,rfl,a4,a5,r,z,B⟩:=hrel
  by_cases W:0<=a
  ·obtain⟨m,rfl⟩:=qd W
   have hd2:decide ((0:N)<=(m:N))=jm:=by simp
   have t:m<=56:=Y;have C:k<8:=aI r;have d:beK y (k+1)=beK y k++[ow 8 (y/2^m)]:=by rw[beK,show 56-8*k=m by have:=r.out;omega]
   obtain⟨b,h⟩:=J (ow 8 (y/2^m));rw[<-h]at d;have a6:jr.wrap ((y:N)/2^m)=(b.toNat:N):=by
    rw[h,rv,r4];have e:(y:N)/2^m=((y/2^m:jb):N):=by simp
    rw[e];omega
   have au:=O d;have D:=B.size;have hd3:decide ((m:N)<0)=ji:=by simp
   clear h d W
   go_wp2_with (at_builtin;refine Hid.out ?_)
   refine O ?_;refine j3 I λ_ h=>oQ _ _ I w.heap.size _ _ _ I (cP z (ap wr _)) _ 1 [T .u8 b.toNat] I (rU wr (T .u8 b.toNat)) (by simp[ob]) Y (jL D (ap wr _).size) λX w5 d=>h _ _ ?_
   have j:=O (B.trans (((ap wr _).mono D).trans (d.below (cP z (ap wr _)) (jL D (ap wr _).size))));have ax:=O d.own;clear h d
   go_wp2_with fail
   refine⟨⟨k+1,_,_,I,I,by omega,by omega,O (aI r),?_,j⟩,?_⟩
   ·exact O (by rw[au,<-nv,qb];exact ax)
   simp only[jv];omega
  have hd2:=aw ((0:N)<=a);have C:k=8:=aI r;have b:=z.out;rw[C]at b;have m:=O b;clear b C
  go_wp2_with fail
  refine⟨⟨i+1,_,I,by go_num,by omega,O ?_,B⟩,?_⟩
  ·rw[YX];exact m
  simp only[jv];omega
 have hd:=aw ((i:N)<(n:N));have UN:=aw (i<n);have a:i=n:=Y;have b:=U.out;rw[a,jU (by rw[<-q];exact ju _)]at b;have m:=O b;have v:=f.size;have g:bj wr (jg P S Q) msg:=M.below f;have r:=O g.row;clear b a g
 go_wp2_with (at_builtin;refine Hid.out ?_)
 refine O ?_;have x:=ts nums;have l:nums.length<=1000:=by rw[<-q];exact F
 have y:=YY.out;refine j3 I λ_ h=>oQ _ _ I w.heap.size _ _ _ I m (jg P S Q) msg.length (msg.map v8) I r (iu _) Y v λX w5 d=>h _ _ ?_
 have j:=O (f.trans ((d.below m v)));have a:=d.own;rw[<-qb]at a;have b:8*n+msg.length=(dD nums++msg).length:=by rw[jI,x,<-q]
 rw[b]at a;have g:=bj.of_own a;have k:=Iw s (aI ad) X _ (by rw[jI];omega) w5 g (R.below j).num (R.below j).start;have o:=O k;clear h d a b g k
 go_wp2_with fail
 refine o.mono ?_;rintro e d ⟨rfl,a⟩;have b:=aj j a;clear a o
 go_wp2_with fail
 go_ret;exact⟨I,b⟩
theorem fP{P:jX}{fn:Func}{p c:Tmp}{a:jJ}(h:fn.results= #[.cell p a,.tmp c])(tmps:jD jj)(w:jh)(g:jb)(t:jJ)(b:jD jj)(e:jb×jb)(d:TypeDesc)
 (f:tmps.getD p jN=jz (ja ⟨g,0,jc⟩)) (i:w.heap[g]?=ja (je b t e))
 (j:P.underlying a=ja d) (k:(match d with| .struct _ | .array _ _=>jm|_=>ji)=jm) (l:(P.info? a).map (·.size)=ja b.size):
 (results fn tmps).run P w=.ok (jE #[jn b,tmps.getD c jN]) w:=by
 rw[results_cell_tmp h,f];simp[asAddr,run_loadVar_row w g t a b e d i j k l]
def k7(x:N):Prop:=1<=x/\x<2305843009213688669
instance(x:N):Decidable (k7 x):=by unfold k7;infer_instance
theorem vZ(a k:jb):aY a k<4611686018427377339:=by
 have h:aY a k<PN:=qL _ (by rw[fk];decide)
 rwa [fk]at h
theorem Ar(x:N)(w:jh):
 jq jl 113 #[T A x] w λe w'=>e=jp (.bool (decide (k7 x)))/\w=w':=by
 obtain⟨r,a⟩:=J (decide (k7 x));rw[<-a]
 by_cases b:1<=x
 ·have c:=az (1<=x)
  obtain rfl:r=decide (x<2305843009213688669):=by rw[a];simp[k7,b]
  clear a
  go_enter func113,ntmps113
  go_wp2
  go_ret;exact⟨I,I⟩
 have c:=aw (1<=x);obtain rfl:r=ji:=by rw[a];simp[k7,b]
 clear a
 go_enter func113,ntmps113
 go_wp2
 go_ret;exact⟨I,I⟩
theorem He(x:jb)(f:1<=x)(b:x<2305843009213688669)(w:jh):
 jq jl 114 #[T A x] w λe w'=>e=jp (T A (aY 4 x:jb))/\jk w w w':=by
 have c:=O (wB x b)
 go_enter func114,ntmps114
 go_wp2_with fail
 refine(c _).mono ?_;rintro e g ⟨rfl,a⟩;have d:=O a;clear a
 go_wp2_with fail
 go_ret;exact⟨I,d⟩
theorem Ac(x:jb)(c:1<=x)(d:x<2305843009213688669)(w:jh):
 jq jl 51 #[T A x] w λe w'=>e=jp (jE #[T A (aY 4 x:jb),T A 0])/\jk w w w':=by
 have a:=O (Ar (x:N));have b:k7 (x:N):=⟨by omega,by omega⟩;rw[jO b]at a;have f:=O (He x c d);clear b
 go_enter func51,ntmps51
 go_wp2_with fail
 refine(a _).mono ?_;rintro e h ⟨rfl,rfl⟩
 go_wp2_with fail
 refine(f _).mono ?_;rintro e i ⟨rfl,b⟩;have g:=O b;clear b
 go_wp2_with fail
 go_ret2;exact⟨I,g⟩
theorem Jn(x:N)(h:¬k7 x)(w:jh):
 jq jl 51 #[T A x] w λe w'=>e=jp (jE #[T A 0,T A 50])/\w=w':=by
 have a:=O (Ar x);rw[decide_eq_false h]at a;clear h
 go_enter func51,ntmps51
 go_wp2_with fail
 refine(a _).mono ?_;rintro e b ⟨rfl,rfl⟩
 go_wp2_with fail
 go_ret2;exact⟨I,I⟩
def iU(x:jb)(msg:LBy):jb:=oq (co ⟨#[110,111,110,99,101]⟩) msg [x]
def kt(x:jb)(msg:LBy):jb:=aY 4 (iU x msg)
def rL(r p:jb)(msg:LBy):jb:=oq (co ⟨#[115,105,103,110]⟩) msg [r,p]
def kH(x:jb)(msg:LBy):jb:=(iU x msg+rL (kt x msg) (aY 4 x) msg*x%QN)%QN
theorem w9(t m l):oq t m l<2305843009213688669:=(zJ _ _).2
theorem R0(x:jb)(P:1<=x)(Q:x<2305843009213688669)(msg:LBy)(vm:jj)(u:msg.length<=100000)(w:jh)(R:bj w vm msg)(y:bS w):
 jq jl 112 #[T A x,vm] w λe w'=>e=jp (jE #[jn #[T A (kt x msg:jb),T A (kH x msg:jb)],T A 0])/\jk w w w':=by
 obtain⟨b,a⟩:=J (kt x msg);obtain⟨g,c⟩:=J (iU x msg);obtain⟨r,h⟩:=J (rL b (aY 4 x) msg);obtain⟨k,j⟩:=J (r*x%QN);have o:kH x msg=(g+k)%QN:=by rw[j,h,a,c];rfl
 have S:jf (g<2305843009213688669):=O (by rw[c];exact w9 _ _ _);have ax:jf (r<2305843009213688669):=O (by rw[h];exact w9 _ _ _);have Z7:jf (k<2305843009213688669):=O (by rw[j];exact qL _ L);have Z8:jf (b<4611686018427377339):=O (by rw[a];exact vZ _ _);have ay:jf (oq (co ⟨#[115,105,103,110]⟩) msg [b,aY 4 x]=r):=O h.symm;have a1:jf (oq (co ⟨#[110,111,110,99,101]⟩) msg [x]=g):=O c.symm;have a2:jf (r*x%QN=k):=O j.symm;have a3:jf (aY 4 g=b):=O (by rw[c,a];rfl);rw[o,<-a];have a4:=O Q;have U5:=O P;have D:=O R;have U:=O u;have V:=O y;obtain⟨W,X,rfl,WV,-,-⟩:=R;obtain⟨ml,m⟩:=J msg.length;rw[<-m]at D WV⊢;have a6:=O m;have n:=Ar (x:N);have z:k7 (x:N):=⟨by omega,by omega⟩;rw[jO z]at n;have HV:=O n;have EG:∀args w,(o8 113 args).run jl w=.ok (.enter 113 args) w:=λ_ _=>rfl
 have ba:∀args w,(o8 114 args).run jl w=.ok (.enter 114 args) w:=λ_ _=>rfl
 have l:=jw w (je #[T A 0,T A 0] 35);have q:=ap w (je #[T A 0,T A 0] 35);obtain⟨p,s⟩:=J (w.alloc (je #[T A 0,T A 0] 35));obtain⟨d,t⟩:=J w.heap.size;rw[<-s]at l q;rw[<-t]at l;have C:=O l;have f:=O q;have VI:=O s;have B:=O t;clear a c h j o u y m n z l q s t
 go_enter func112,ntmps112
 go_wp2_with fail
 rw[<-VI,<-B];refine(HV _).mono ?_;rintro e w1 ⟨rfl,rfl⟩
 go_wp2_with fail
 have l:=AM ⟨#[110,111,110,99,101]⟩ L msg (jg W ml X) U [x] _ ao (by
  intro z s;simp only[jT,qM,or_false]at s;rw[s];omega) (p.alloc (je #[T A (x:jb)] 3)) ((D.below f).below (ap p _)) (ox p (x:jb)) ((V.below f).below (ap p _))
 rw[a1]at l;refine l.mono ?_;clear l;rintro e w2 ⟨rfl,a⟩;replace a:=(ap p (je #[T A (x:jb)] 3)).trans (a.mono (ap p _).size);have t:=ae C a;have m:=aj f a;clear a C f
 go_wp2_with fail
 refine(wB g S w2).mono ?_;rintro e w3 ⟨rfl,a⟩;rw[a3];have u:=ae t a;have C:=aj m a;clear a t m;obtain⟨⟨u3,E⟩,F,n,j⟩:=ku (i:=0) (T A (b:jb)) u L;obtain⟨H,c⟩:=J (w3.setCell ⟨d,0,jc⟩ (T A (b:jb)));have a5:=O c;rw[<-c]at n j;have q:jf (H.heap[d]?=ja (je #[T A (b:jb),T A 0] 35 (0,0))):=O n;have y:=O (C.trans (j.below (by rw[B];exact ju _)));have bb:=O j;have K:=ah (i:=0) q I;clear n c j u
 go_upto_region 7 with fail
 rw[<-a5];clear E F;refine p6 ?_;refine dj (λc=>c.cell? ⟨d,0,jc⟩=ja (T A (b:jb))) (.t 0 (.t 1 (.t 2 (.t 3 (.t 7 (.o 4 (.o 5 (.o 6 (.o 8 (.t 9 (.t 10 (.t 11 (.t 12 (.t 13 .done)))))))))))))) af af af L (λ_ _ _ _ h=>h) K ?_;obtain⟨y0,h⟩:=J H.drew;have a:=bX H;rw[<-h]at a⊢;have M:=O (aC K a);have U1:=ae q a;have f:=aj y a;clear a h K q y;iterate 2 refine aK ?_
 (refine aS (v:=?_) I ai (λc h=>?_) ?_;rotate_left;(have h:=h;go_simp;with_reducible rfl);refine G ?_)
 iterate 2 refine aK ?_
 refine aE I (λh c=>?_);go_simp;refine(He x P Q y0).mono ?_;rintro e y1 ⟨rfl,a⟩;have K:=O (aC M a);have UR:=ae U1 a;have Uq:=aj f a;clear a M U1 f;refine c _ _ K.out λ_=>?_
 clear c;refine G ?_;refine aE I (λh c=>?_);go_simp;have a:=ap y1 (je #[T A (b:jb),T A (aY 4 x:jb)] 3);have f:=mw y1 (b:jb) (aY 4 x:jb);obtain⟨y2,aa⟩:=J (y1.alloc (je #[T A (b:jb),T A (aY 4 x:jb)] 3));obtain⟨gi,ad⟩:=J y1.heap.size;rw[<-aa]at a f⊢;rw[<-ad]at f⊢;have M:=O (aC K a);have t:=ae UR a;have m:=aj Uq a;have au:=O f;clear a K UR Uq aa ad f;refine c _ _ M.out λ_=>?_
 clear c;refine G ?_;refine aE I (λh c=>?_);go_simp;have l:=AM ⟨#[115,105,103,110]⟩ L msg (jg W ml X) U [b,aY 4 x] _ ao (by
  intro z s;simp only[jT,qM,or_false]at s
  rcases s with rfl|rfl
  ·have:=Z8.out;omega
  have:=vZ 4 x;omega) y2 (D.below m) au (V.below m)
 rw[ay]at l;refine l.mono ?_;clear l;rintro e s ⟨rfl,a⟩;have f:=O (aC M a);have u:=ae t a;have C:=aj m a;clear a M t m au;refine c _ _ f.out λ_=>?_
 clear c;refine G ?_;refine aE I (λh c=>?_);go_simp;have h:=Jm r x s ax a4;rw[a2]at h;refine h.mono ?_;clear h;rintro e t ⟨rfl,a⟩;have l:=O (aC f a);have q:=ae u a;have y:=aj C a;clear a f u C;refine c _ _ l.out λ_=>?_
 clear c;refine G ?_;iterate 5 refine aK ?_
 refine jV ?_
 go_wp2_with fail
 have h:=K5 (g:jb) (k:jb) t ⟨by omega,by have:=S.out;omega⟩ ⟨by omega,by have:=Z7.out;omega⟩;rw[show((g:N)+(k:N))%2305843009213688669=(((g+k)%QN:jb):N)from by unfold QN;omega]at h;obtain⟨f,o⟩:=J ((g+k)%QN);rw[<-o]at h;refine h.mono ?_;clear h;rintro e u ⟨rfl,a⟩;have m:=ae q a;have K:=aj y a;have M:=O o;clear a q y l o;obtain⟨⟨u3,E⟩,F,n,j⟩:=ku (i:=1) (T A (f:jb)) m ao;obtain⟨a,h⟩:=J (u.setCell ⟨d,1,jc⟩ (T A (f:jb)));have o:=O h;rw[<-h]at n j;have l:jf (a.heap[d]?=ja (je #[T A (b:jb),T A (f:jb)] 35 (0,0))):=O n;have q:=O (K.trans (j.below (by rw[B];exact ju _)));clear n h j m
 go_upto_region 9 with fail
 rw[<-o];clear E F;refine pz ?_;refine qi I 35 _ I d I 35 #[T A (b:jb),T A (f:jb)] (0,0) _ l.out underlying35 I I ?_;refine j3 I λ_ h=>?_
 go_simp;refine h _ _ ?_;clear h;refine j3 I λ_ c=>j4 35 _ _ I d #[T A (b:jb),T A (f:jb)] I I 35 _ l.out I I (by simp[ob]) (c _ _ ?_)
 have h:(a.setRow d #[T A (b:jb),T A (f:jb)]).heap[d]?=ja (je #[T A (b:jb),T A (f:jb)] 35 (0,0)):=jR _ _ _ _ _ _ l.out;have j:jk w w (a.setRow d #[T A (b:jb),T A (f:jb)]):=jZ q.out (by rw[B];exact ju _) _;generalize a.setRow d #[T A (b:jb),T A (f:jb)]=z at h j⊢;have m:=O h;have n:=O j;clear h j c
 go_wp2_with fail
 refine bodyPost_ret_by (fP I _ _ d 35 #[T A (b:jb),T A (f:jb)] (0,0) _ I m underlying35 I I) I ⟨by rw[M];rfl,n⟩
section
open Go Go.RowKit
theorem Bc{α β:Type}{f:α->jP β}{g:α->β}:∀(l:jd α),(∀i∈l,f i=ja (g i))->l.mapM f=ja (l.map g)
 |[],_=>by simp
 |a::l,h=>by
  rw[List.mapM_cons,h a ao,Bc l (λi b=>h i (by simp[b]))]
  rfl
theorem Ja{u F:jJ}{k:IntKind}(f:P.underlying u=ja (.array b F))(he:P.underlying F=ja (.int k))(h:P.cellsOf u=b)(j:P.cellsOf F=1)(n:jd N)(d:n.length=b)(m:∀c∈n,(Lit.int k c).wf=jm):
 P.keyLits 2 u (n.map (jo k))=ja (n.map (Lit.int k)):=by
 have o:∀i∈qH b,P.keyLits 1 F (((n.map (jo k)).drop (i*1)).take 1)=ja [Lit.int k (n.getD i 0)]:=λi c=>by
  have a:i<n.length:=by rw[d];exact r5.1 c
  have l:((n.map (jo k)).drop (i*1)).take 1=[jo k n[i]]:=by
   rw[Nat.mul_one,<-List.map_drop,<-List.map_take,xS a,List.take_succ_cons,xO,qJ,List.map_nil]
  have p:n.getD i 0=n[i]:=by simp[jQ,a]
  rw[l,p];unfold Program.keyLits;rw[he];simp[m _ (qK a)]
 unfold Program.keyLits;rw[f];simp only[jC,d,h,j,if_true];rw[Bc (g:=λi=>[Lit.int k (n.getD i 0)]) _ o];simp only[xd,Option.some.injEq];have p:∀(l:jd jb),(l.map λi=>[Lit.int k (n.getD i 0)]).flatten=l.map λi=>Lit.int k (n.getD i 0):=λl=>by
  induction l with
  |nil=>rfl
  |cons a l q=>rw[qJ,xR,q];rfl
 rw[p]
 apply List.ext_getElem?
 intro i;rw[j8,j8]
 by_cases c:i<b
 ·rw[List.getElem?_range c,mz Y]
  have:i<n.length:=Y;simp[jQ,this]
 rw[xT (by simp;omega),xT Y]
 rfl
theorem Hl{t e:jJ}{n:jb}{k:IntKind}(d:P.underlying t=ja (.array n e))(he:P.underlying e=ja (.int k))(f:P.cellsOf t=n)(g:P.cellsOf e=1)(o:P.keyTypeAt 2 t=jm)(xs ys:jd N)(i:xs.length=n)(j:ys.length=n)
 (p:∀c∈xs,(Lit.int k c).wf=jm) (q:∀c∈ys,(Lit.int k c).wf=jm) (w:jh):
 (Op.equalIn 10000 t (.agg (xs.map (jo k)).toArray) (.agg (ys.map (jo k)).toArray)).run P w=.ok (decide (xs=ys)) w:=by
 have m:∀l:jd N,l.length=n->(xe (l.map (jo k)).toArray).formed P t=jm:=λl s=>by
  unfold Value.formed;rw[d];simp[f,s]
 obtain⟨r,u,c⟩:=run_equalIn_deep 9998 2 t o w 2 2 (.agg (xs.map (jo k)).toArray) (.agg (ys.map (jo k)).toArray) _ _ (m xs i) (m ys j) (by show P.keyLits 2 t (xs.map (jo k)).toArray.toList=_;rw[xU];exact Ja d he f g xs i p) (by show P.keyLits 2 t (ys.map (jo k)).toArray.toList=_;rw[xU];exact Ja d he f g ys j q);rw[u]
 congr 1
 have v:xs.map (Lit.int k)=ys.map (Lit.int k)↔xs=ys:=by
  constructor
  ·intro h
   exact(xV (λa b h=>by injection h)).1 h
  intro h;rw[h]
 rw[v]at c
 by_cases h:xs=ys
 ·rw[c.2 h];simp[h]
 have:r=ji:=by cases r with
  |false=>rfl
  |true=>exact jB (c.1 I) h
 rw[this];simp[h]
end
def mE(p r s:N)(msg:LBy):Prop:=bL p/\bL r/\InQ s/\aY 4 s.toNat=r.toNat*aY p.toNat (rL r.toNat p.toNat msg)%PN
theorem RX(a b:jb):(((a:N)==(b:N))=jm↔a=b):=by rw[beq_iff_eq];omega
theorem Gw(n:N):cU n=0\/cU n=40:=by
 by_cases h:bL n
 ·exact .inl (gF h)
 exact .inr (k8 h)
theorem N3(n:N):lR n=0\/lR n=1:=by unfold lR;split<;>simp
theorem eq3(a b c:N)(f:a=0\/a=40)(g:b=0\/b=40)(i:c=0\/c=1)(z:jh):
 (Op.equalIn 10000 155 (jn #[T A a,T A b,T A c]) (jn #[T A 0,T A 0,T A 0])).run jl z=.ok (decide (a=0/\b=0/\c=0)) z:=by
 have h:=Hl (P:=jl) (t:=155) (e:=44) (n:=3) (k:=.i64) xy underlying44 af af af [a,b,c] [0,0,0] I I (by
  intro x d;simp only[jT,qM,or_false]at d;exact WalkArith.wf_i64 Y) L z
 simpa using h
theorem Ik{p r s:N}{msg:LBy}{a b c:N}(d:a=cU p)(f:b=cU r)(i:c=lR s):(a=0/\b=0/\c=0)↔(bL p/\bL r/\InQ s):=by
 have e:∀n,cU n=0↔bL n:=λn=>⟨λh=>by
  by_cases g:bL n
  ·exact g
  rw[k8 g]at h;exact jB h L,gF⟩
 have q:lR s=0↔InQ s:=by unfold lR;split<;>simp_all
 rw[d,f,i,e,e,q]
theorem Re{b:jD j0}{c:Exit->Act->jh->Prop}{t:bE}{E:Act}(r:bE){F:jb->Act}{d:jb->jh->Prop}(e:∀x w,d x w->eJ P b c S r (F x) w)(h:(∀x w,d x w->eJ P b c S r (F x) w)->eJ P b c S t E w):eJ P b c S t E w:=h e
theorem N7(p r u:N)(msg:LBy)(vm:jj)(k:msg.length<=100000)(w:jh)(hm:bj w vm msg)(l:bS w):
 jq jl 34 #[T A p,vm,jn #[T A r,T A u]] w λe w'=>∃b,e=jp (.bool b)/\jf (b=jm↔mE p r u msg)/\jk w w w':=by
 obtain⟨m,a⟩:=J (cU p);obtain⟨n,c⟩:=J (cU r);obtain⟨o,f⟩:=J (lR u);have KA:=gD p;have KB:=gD r;have W:=On u;rw[<-a]at KA;rw[<-c]at KB;rw[<-f]at W;have aa:=O a;have ad:=O c;have au:=O f;have HM:=O hm;have YY:=O k;have HT:=O l;obtain⟨pm,cm,rfl,WV,-,-⟩:=hm;obtain⟨ml,q⟩:=J msg.length;rw[<-q]at HM WV⊢;have d:=jw w (je #[T A r,T A u] 35);have g:=ap w (je #[T A r,T A u] 35);obtain⟨W1,h⟩:=J (w.alloc (je #[T A r,T A u] 35));obtain⟨F,x⟩:=J w.heap.size;rw[<-h]at d g;rw[<-x]at d;have j:=O d;have X:=O g;have VI:=O h;have HG:=O x;clear a c f k l q d g h x
 go_enter func34,ntmps34
 have ax:=O (eq3 m n o (by rw[aa];exact Gw p) (by rw[ad];exact Gw r) (by rw[au];exact N3 u))
 go_upto_region 1 with fail
 rw[<-VI,<-HG];refine p6 ?_;refine dj (λf=>f.heap[F]?=ja (je #[T A r,T A u] 35 (0,0))) (.t 0 (.t 2 (.t 3 (.t 5 (.t 6 (.w 1 9 (.w 4 9 (.w 7 9 (.t 8 (.o 9 (.o 10 .done))) (.o 7 (.t 8 (.o 10 .done)))) (.o 4 (.o 7 (.t 8 (.o 10 .done))))) (.o 1 (.o 4 (.o 7 (.t 8 (.o 10 .done))))))))))) af af af L (λ_ _ _ _ h=>h) j ?_;obtain⟨V,c⟩:=J W1.drew;have a:=bX W1;rw[<-c]at a⊢;have UU:=ae j a;have X:=aj X a;clear a c j;iterate 2 refine aK ?_
 (refine aS (v:=?_) I ai (λf c=>?_) ?_;rotate_left;(have c0:=ah (i:=0) c I;have c1:=ah (i:=1) c I;go_simp;with_reducible rfl);refine G ?_)
 refine aK ?_
 (refine aS (v:=?_) I ai (λf c=>?_) ?_;rotate_left;(have c0:=ah (i:=0) c I;have c1:=ah (i:=1) c I;go_simp;with_reducible rfl);refine G ?_)
 apply Re (.o 10 .done)
 rotate_left
 ·intro R
  refine iZ ?_ ?_
  ·refine aE I (λl c=>?_)
   go_simp;refine(KA V).mono ?_;rintro e x1 ⟨rfl,a⟩;have S:=aj X a;have H:=ae UU a;clear a;refine c _ _ H.out λ_=>?_
   clear c;refine G ?_;refine iZ ?_ ?_
   ·refine aE I (λl c=>?_)
    go_simp;refine(KB x1).mono ?_;rintro e x2 ⟨rfl,a⟩;have y:=aj S a;have j:=ae H a;clear S H;clear a;refine c _ _ j.out λ_=>?_
    clear c;refine G ?_;refine iZ ?_ ?_
    ·refine aE I (λl c=>?_)
     go_simp;refine(W x2).mono ?_;rintro e q ⟨rfl,a⟩;have s:=aj y a;have f:=ae j a;clear y j;clear a;refine c _ _ f.out λ_=>?_
     clear c;refine G ?_;refine aK ?_;refine aE I (λl c=>?_);go_simp;have a:=ap q (je #[T A 0,T A 0,T A 0] 155);have d:=jw q (je #[T A 0,T A 0,T A 0] 155);obtain⟨t,z⟩:=J (q.alloc (je #[T A 0,T A 0,T A 0] 155));have B:F<q.heap.size:=(jG.1 f).1;have C:w.heap.size<=q.heap.size:=s.size;rw[<-z]at a d⊢;obtain⟨D,g⟩:=J q.heap.size;rw[<-g]at d⊢;have E:=O g;clear g;have P:=aj s a;have k:=ae f a;clear s f;have K:=O d;have M:jf (F<D):=O (by rw[E];exact B);have Q:jf (w.heap.size<=D):=O (by rw[E];exact C);clear B C;clear d z a;refine c _ _ k.out λ_=>?_
     clear c;refine G ?_;have x:=(And.intro P (And.intro k (And.intro K (And.intro M Q))));exact R D t x
    refine aE I (λl c=>?_);go_simp;have a:=ap x2 (je #[T A 0,T A 0,T A 0] 155);have d:=jw x2 (je #[T A 0,T A 0,T A 0] 155);obtain⟨q,z⟩:=J (x2.alloc (je #[T A 0,T A 0,T A 0] 155));have B:F<x2.heap.size:=(jG.1 j).1;have C:w.heap.size<=x2.heap.size:=y.size;rw[<-z]at a d⊢;obtain⟨D,g⟩:=J x2.heap.size;rw[<-g]at d⊢;have E:=O g;clear g;have s:=aj y a;have f:=ae j a;clear y j;have U:=O d;have M:jf (F<D):=O (by rw[E];exact B);have Q:jf (w.heap.size<=D):=O (by rw[E];exact C);clear B C;clear d z a;refine c _ _ f.out λ_=>?_
    clear c;refine G ?_;refine aE I (λl c=>?_);go_simp;refine(W q).mono ?_;rintro e t ⟨rfl,a⟩;have P:=aj s a;have k:=ae f a;have K:=ae U a;clear s f U;clear a;refine c _ _ k.out λ_=>?_
    clear c;refine G ?_;refine aK ?_;have x:=(And.intro P (And.intro k (And.intro K (And.intro M Q))));exact R D t x
   refine aE I (λl c=>?_);go_simp;have a:=ap x1 (je #[T A 0,T A 0,T A 0] 155);have d:=jw x1 (je #[T A 0,T A 0,T A 0] 155);obtain⟨x2,z⟩:=J (x1.alloc (je #[T A 0,T A 0,T A 0] 155));have B:F<x1.heap.size:=(jG.1 H).1;have C:w.heap.size<=x1.heap.size:=S.size;rw[<-z]at a d⊢;obtain⟨D,g⟩:=J x1.heap.size;rw[<-g]at d⊢;have E:=O g;clear g;have y:=aj S a;have j:=ae H a;clear S H;have Yv:=O d;have M:jf (F<D):=O (by rw[E];exact B);have Q:jf (w.heap.size<=D):=O (by rw[E];exact C);clear B C;clear d z a;refine c _ _ j.out λ_=>?_
   clear c;refine G ?_;refine aE I (λl c=>?_);go_simp;refine(KB x2).mono ?_;rintro e q ⟨rfl,a⟩;have s:=aj y a;have f:=ae j a;have U:=ae Yv a;clear y j Yv;clear a;refine c _ _ f.out λ_=>?_
   clear c;refine G ?_;refine aE I (λl c=>?_);go_simp;refine(W q).mono ?_;rintro e t ⟨rfl,a⟩;have P:=aj s a;have k:=ae f a;have K:=ae U a;clear s f U;clear a;refine c _ _ k.out λ_=>?_
   clear c;refine G ?_;refine aK ?_;have x:=(And.intro P (And.intro k (And.intro K (And.intro M Q))));exact R D t x
  refine aE I (λl c=>?_);go_simp;have a:=ap V (je #[T A 0,T A 0,T A 0] 155);have d:=jw V (je #[T A 0,T A 0,T A 0] 155);obtain⟨x1,z⟩:=J (V.alloc (je #[T A 0,T A 0,T A 0] 155));have B:F<V.heap.size:=(jG.1 UU).1;have C:w.heap.size<=V.heap.size:=X.size;rw[<-z]at a d⊢;obtain⟨D,g⟩:=J V.heap.size;rw[<-g]at d⊢;have E:=O g;clear g;have S:=aj X a;have H:=ae UU a;have g:=O d;have M:jf (F<D):=O (by rw[E];exact B);have Q:jf (w.heap.size<=D):=O (by rw[E];exact C);clear B C;clear d z a;refine c _ _ H.out λ_=>?_
  clear c;refine G ?_;refine aE I (λl c=>?_);go_simp;refine(KA x1).mono ?_;rintro e x2 ⟨rfl,a⟩;have y:=aj S a;have j:=ae H a;have Yv:=ae g a;clear S H g;clear a;refine c _ _ j.out λ_=>?_
  clear c;refine G ?_;refine aE I (λl c=>?_);go_simp;refine(KB x2).mono ?_;rintro e q ⟨rfl,a⟩;have s:=aj y a;have f:=ae j a;have U:=ae Yv a;clear y j Yv;clear a;refine c _ _ f.out λ_=>?_
  clear c;refine G ?_;refine aE I (λl c=>?_);go_simp;refine(W q).mono ?_;rintro e t ⟨rfl,a⟩;have P:=aj s a;have k:=ae f a;have K:=ae U a;clear s f U;clear a;refine c _ _ k.out λ_=>?_
  clear c;refine G ?_;refine aK ?_;have x:=(And.intro P (And.intro k (And.intro K (And.intro M Q))));exact R D t x
 clear X UU;rintro D t ⟨P,k,K,M,Q⟩;refine aE I (λl c=>?_);rw[jt ai];refine j4 155 _ _ I D #[T A m,T A n,T A o] I I 155 _ K.out af ai (by simp[ob]) (c _ _ ((jY _ _ _ _ (xf M)).trans k) λ_=>?_);clear c;have c:(t.setRow D #[T A m,T A n,T A o]).heap[D]?=ja (je #[T A m,T A n,T A o] 155 (0,0)):=jR _ _ _ _ _ _ K.out;have f:(t.setRow D #[T A m,T A n,T A o]).heap[F]?=ja (je #[T A r,T A u] 35 (0,0)):=(jY _ _ _ _ (xf M)).trans k;have g:jk w w (t.setRow D #[T A m,T A n,T A o]):=jZ P Q _;generalize t.setRow D #[T A m,T A n,T A o]=z at c f g⊢;have C:=O c;have E:=O f;have H:=O g;clear c f g;refine G ?_;refine jV ?_;have eq3:=ax.out;clear ax KA KB W
 by_cases g:m=0/\n=0/\o=0
 ·have hd:decide (m=0/\n=0/\o=0)=jm:=jO g
  obtain⟨l,q,s⟩:=(Ik (msg:=msg) aa ad au).1 g;clear g
  go_upto_region 2 with fail
  refine pz ?_;refine qi I 155 _ I D I 155 #[T A m,T A n,T A o] (0,0) _ C.out xy I af ?_;clear C;obtain⟨c,rfl⟩:=qd (show 0<=p by have:=l.1;omega);obtain⟨f,rfl⟩:=qd (show 0<=r by have:=q.1;omega);obtain⟨y,rfl⟩:=qd s.1;have S:y<2305843009213688669:=by have:=s.2;omega
  have U:f<9223372036854775808:=by have:=q.2.1;omega
  have W:c<9223372036854775808:=by have:=l.2.1;omega
  have HP:=O l;have HR:=O q;have ax:=O S;have ay:=O U;have a1:=O W;obtain⟨j,B⟩:=J (rL f c msg);have a2:jf (oq (co ⟨#[115,105,103,110]⟩) msg [f,c]=j):=O B.symm;have a3:jf (j<2305843009213688669):=O (by rw[B];exact w9 _ _ _);have ZF:jf (∀b:jF,(b=jm↔aY 4 y=f*aY c j%PN)->(b=jm↔mE (c:jb) (f:jb) (y:jb) msg)):=O (λb h=>by
   rw[h];unfold mE;simp only[Int.toNat_natCast,<-B];exact⟨λh=>⟨l,q,s,h⟩,λh=>h.2.2.2⟩)
  clear l q s S U W B;have c1:=ah (i:=1) E I
  go_wp2_with fail
  refine(wB y ax z).mono ?_;rintro e l ⟨rfl,a⟩;have B:=ae E a;have s:=aj H a;clear c1 a E H;have c0:=ah (i:=0) B I
  go_wp2_with fail
  have R:=AM ⟨#[115,105,103,110]⟩ L msg (jg pm ml cm) YY [f,c] _ ao (by
   intro q S;simp only[jT,qM,or_false]at S
   rcases S with rfl|rfl
   ·exact ay
   exact a1) (l.alloc (je #[T A (f:jb),T A (c:jb)] 3)) ((HM.below s).below (ap l _)) (mw l (f:jb) (c:jb)) ((HT.below s).below (ap l _))
  rw[a2]at R;refine R.mono ?_;clear R;rintro e U ⟨rfl,a⟩;replace a:=(ap l (je #[T A (f:jb),T A (c:jb)] 3)).trans (a.mono (ap l _).size);have q:=ae B a;have S:=aj s a;clear c0 a B s
  go_wp2_with fail
  refine(A6 c j HP a3 U).mono ?_;rintro e W ⟨rfl,a⟩;have s:=ae q a;have B:=aj S a;clear a q S;have c0:=ah (i:=0) s I
  go_wp2_with fail
  refine(Pe f (aY c j) HR (pi HP j) W).mono ?_;rintro e S ⟨rfl,a⟩;have q:=aj B a;clear a s B c0
  go_wp2_with fail
  go_ret;exact⟨_,I,O (ZF _ (RX _ _)),q⟩
 have hd:decide (m=0/\n=0/\o=0)=ji:=decide_eq_false g;have c:jf (¬mE p r u msg):=O (λh=>g ((Ik (msg:=msg) aa ad au).2 ⟨h.1,h.2.1,h.2.2.1⟩));clear g
 go_upto_region 2 with fail
 refine pz ?_;refine qi I 155 _ I D I 155 #[T A m,T A n,T A o] (0,0) _ C.out xy I af ?_
 go_wp2_with fail
 go_ret;exact⟨ji,I,O ⟨λh=>jB h L,λh=>jB h c⟩,H⟩
structure Em(F:jb)(x:jb)(b:jb):Prop where
 enter:∀args w,(o8 F args).run jl w=.ok (.enter F args) w
 call:∀(a:jb) (w:jh),bL a->jA w b 3 (T A (x:jb))->jq jl F #[T A a,jz (ja ⟨b,0,jc⟩)] w λe w'=>e=jp (jE #[T A (aY a x:jb),T A 0])/\jk w w w'
theorem Sg(x f:jb)(b:x<2305843009213688669):Em 160 x f:=by
 refine⟨λ_ _=>rfl,λa w c d=>?_⟩;have g:=O (A6 a x c b);have h:=d.cell;clear c b d
 go_enter func160,ntmps160
 go_wp2_with fail
 refine(g _).mono ?_;rintro e d ⟨rfl,b⟩;have c:=O b;clear b
 go_wp2_with fail
 go_ret2;exact⟨I,c⟩
def oo(p a v:jb):LBy:=dn (co ⟨#[119,114,97,112]⟩) (dD [p,a,v])
theorem zD(p u v):(oo p u v).length=32:=iQ _ _
theorem zo(l:LBy)(m:jb)(b:BitVec 8):((l++jW (m+1) 0#8).set l.length b)=(l++[b])++jW m 0#8:=by
 rw[List.set_append_right _ _ (ju _),Nat.sub_self,List.replicate_succ,List.set_cons_zero,nv]
 rfl
theorem O0{W:jh}{D:jb}{l:LBy}{n:jb}{t:jJ}(h:W.heap[D]?=ja (je (l.map v8).toArray t (0,0)))(a:l.length=n):bj W (jg (ja ⟨D,0,jc⟩) n n) l:=by
 refine⟨_,n,by rw[a],by rw[a];exact ju _,(λh=>by cases h),λ_=>⟨D,0,I,λj b=>ah h ?_⟩⟩;rw[jM];simp[jQ,b]
theorem Lt(F x M:jb)(l:Em F x M)(p a e:jb)(t:p<9223372036854775808)(r:a<9223372036854775808)(he:bL e)(w:jh)(c:jA w M 3 (T A (x:jb)))(u:bS w):
 jq jl 162 #[jn #[T A p,.func (.func F) #[] #[jz (ja ⟨M,0,jc⟩)]],T A a,T A e] w λe' w'=>e'=jp (jn ((oo p a (aY e x)).map v8).toArray)/\jk w w w':=by
 obtain⟨aa,y,z⟩:=Arr.mk' (zD p a (aY e x));rw[<-y];have S:=O z;have au:=O u;have K:=l.enter;have B:=O l.call;have HE:=O he;have hv:=vZ e x;obtain⟨v,m⟩:=J (aY e x);rw[<-m]at hv;have ZF:=O m;have HP:=O t;have HU:=O r;have HV:jf (v<9223372036854775808):=O Y;have f:=jw w (je #[T A p,.func (.func F) #[] #[jz (ja ⟨M,0,jc⟩)]] 246);have b:=ap w (je #[T A p,.func (.func F) #[] #[jz (ja ⟨M,0,jc⟩)]] 246);obtain⟨W0,g⟩:=J (w.alloc (je #[T A p,.func (.func F) #[] #[jz (ja ⟨M,0,jc⟩)]] 246));rw[<-g]at f b;have h:=jw W0 (je a8 65);have d:=ap W0 (je a8 65);obtain⟨W1,o⟩:=J (W0.alloc (je a8 65));obtain⟨q,j⟩:=J w.heap.size;rw[<-o]at h d;have C:W0.heap.size=q+1:=by rw[g,j];simp
 rw[C]at h;rw[<-j]at f;have k:=ae f d;have D:=O h;have E:=O (b.trans (d.mono b.size));have H:jf (jA W1 M 3 (T A (x:jb))):=O (((b.trans (d.mono b.size)).block _ c.lt).trans c);have U:=O j;have bd:=O g;have VI:=O o;have s:=ah (i:=0) k I;have P:=ah (i:=1) k I;clear y z u l he m t r f b g h d o C j c
 go_enter func162,ntmps162
 go_upto_region 1 with fail
 rw[<-bd,<-VI,<-U]
 go_wp2_with fail
 refine(B e W1 HE H).mono ?_;rintro e2 z1 ⟨rfl,b⟩;rw[<-ZF];have j:=ae k b;have g:=ae D b;have l:=aj E b;clear b s P k D E H B K;have d:=jw z1 (je #[jo jr 0,jo jr 0,jo jr 0,jo jr 0,jo jr 0,jo jr 0,jo jr 0,jo jr 0,jo jr 0,jo jr 0,jo jr 0,jo jr 0,jo jr 0,jo jr 0,jo jr 0,jo jr 0,jo jr 0,jo jr 0,jo jr 0,jo jr 0,jo jr 0,jo jr 0,jo jr 0,jo jr 0] 308);have b:=ap z1 (je #[jo jr 0,jo jr 0,jo jr 0,jo jr 0,jo jr 0,jo jr 0,jo jr 0,jo jr 0,jo jr 0,jo jr 0,jo jr 0,jo jr 0,jo jr 0,jo jr 0,jo jr 0,jo jr 0,jo jr 0,jo jr 0,jo jr 0,jo jr 0,jo jr 0,jo jr 0,jo jr 0,jo jr 0] 308);obtain⟨W2,h⟩:=J (z1.alloc (je #[jo jr 0,jo jr 0,jo jr 0,jo jr 0,jo jr 0,jo jr 0,jo jr 0,jo jr 0,jo jr 0,jo jr 0,jo jr 0,jo jr 0,jo jr 0,jo jr 0,jo jr 0,jo jr 0,jo jr 0,jo jr 0,jo jr 0,jo jr 0,jo jr 0,jo jr 0,jo jr 0,jo jr 0] 308));obtain⟨D,f⟩:=J z1.heap.size;rw[<-h]at d b;rw[<-f]at d;have YB:jf (W2.heap[D]?=ja (je (([]++jW 24 0#8).map v8).toArray 308 (0,0))):=O d;have UQ:=ae g b;have Uu:=aj l b;have Q:jf (q+1<D):=O (by rw[f];exact(jG.1 g).1);have s:=ah (i:=0) (av j b) I;have bf:=O h;have HD:=O f;clear d b h f j g l
 go_upto_region 3 with fail
 rw[<-bf,<-HD]
 go_wp2_with fail
 have ax:∀W:jh,(Instr.index 309 (jn #[T A p,T A a,T A v]) (T A 0)).run jl W=.ok (T A p) W:=λW=>by
  have r:=xz;unfold Instr.index;simp[asIntOf,sA r,part]
 have ay:∀W:jh,(Instr.index 309 (jn #[T A p,T A a,T A v]) (T A 1)).run jl W=.ok (T A a) W:=λW=>by
  have r:=xz;unfold Instr.index;simp[asIntOf,sA r,part]
 have a1:∀W:jh,(Instr.index 309 (jn #[T A p,T A a,T A v]) (T A 2)).run jl W=.ok (T A v) W:=λW=>by
  have r:=xz;unfold Instr.index;simp[asIntOf,sA r,part]
 clear s
 go_loopw [25] (λb wr=>∃i:jb,b=T A i/\i<=3/\jf (wr.heap[D]?=ja (je ((dD ([p,a,v].take i)++jW (24-8*i) 0#8).map v8).toArray 308 (0,0)))/\jf (wr.heap[q+1]?=ja (je a8 65 (0,0)))/\jf (jk w w wr)) (λb _=>(3-jv b).toNat)
 case atStart=>exact⟨0,I,by omega,O YB,UQ,Uu⟩
 obtain⟨i,rfl,hi,Vd,ad,R⟩:=hrel
 rcases(show i=0\/i=1\/i=2\/i=3 by omega)with rfl|rfl|rfl|rfl
 ·have a2:=HP.out
  have a3:rk.wrap (p:N)=(p:N):=by rw[rn];omega
  have a4:(0:N)<=(p:N):=Y;have a5:=ax
  go_wp2_with fail
  go_loopw [29] (λg wr2=>∃k:jb,g=T A k/\k<=8/\jf (wr2.heap[D]?=ja (je (((dD ([p,a,v].take 0)++beK p k)++jW (24-0-k) 0#8).map v8).toArray 308 (0,0)))/\jf (wr2.heap[q+1]?=ja (je a8 65 (0,0)))/\jf (jk w w wr2)) (λg _=>(8-jv g).toNat)
  case atStart=>exact⟨0,I,by omega,O (by rw[beK,n0];exact Vd),ad,R⟩
  obtain⟨k,rfl,a6,d,s,t⟩:=hrel
  by_cases ZN:k<8
  ·have V:=az ((k:N)<8)
   obtain⟨m,u⟩:∃m:jb,m=56-8*k:=⟨_,I⟩;have YK:(56:N)-8*(k:N)=(m:N):=Y;have ba:m<=56:=Y;have hd3:decide ((m:N)<0)=ji:=by simp
   have j:beK p (k+1)=beK p k++[ow 8 (p/2^m)]:=by rw[beK,u]
   obtain⟨b,c⟩:=J (ow 8 (p/2^m));rw[<-c]at j;have bb:jr.wrap ((p:N)/2^m)=(b.toNat:N):=by
    rw[c,rv,r4];have e:(p:N)/2^m=((p/2^m:jb):N):=by simp
    rw[e];omega
   obtain⟨P,f⟩:=J (dD ([p,a,v].take 0)++beK p k);have l:P.length=k:=by rw[f,jI,ts,wj];simp
   have y:dD ([p,a,v].take 0)++beK p (k+1)=P++[b]:=by rw[j,<-nv,f]
   rw[<-f]at d;have z:24-0-k=(24-0-(k+1))+1:=Y;rw[z]at d;obtain⟨⟨u3,bc⟩,Zk,B,C⟩:=ku (i:=k) (v8 b) d (by simp[l]);have E:(wr.setCell ⟨D,k,jc⟩ (v8 b)).heap[D]?=ja (je (((P++[b])++jW (24-0-(k+1)) 0#8).map v8).toArray 308 (0,0)):=by
    rw[B,xg,<-xh,<-l,zo]
   have H:=O E;have o:=O C;have X:=O y;clear j c f l y z B E C u;unfold v8 at H o
   go_wp2_with fail
   refine⟨⟨k+1,by go_num,by omega,O (by rw[X];exact H),O ((o.block _ (aI Q)).trans s),O (t.trans (o.below (dY Q U)))⟩,by simp only[jv];omega⟩
  have K:k=8:=Y;have V:=aw ((k:N)<8);have h:=d.out;rw[K,show dD ([p,a,v].take 0)++beK p 8=dD ([p,a,v].take (0+1))from(vD ([p,a,v].take 0) p).symm]at h;have Y6:=O h;clear h K
  go_wp2_with fail
  refine⟨⟨0+1,by go_num,by omega,Y6,s,t⟩,by simp only[jv];omega⟩
 ·have a2:=HU.out
  have a3:rk.wrap (a:N)=(a:N):=by rw[rn];omega
  have a4:(0:N)<=(a:N):=Y;have a5:=ay
  go_wp2_with fail
  go_loopw [29] (λg wr2=>∃k:jb,g=T A k/\k<=8/\jf (wr2.heap[D]?=ja (je (((dD ([p,a,v].take 1)++beK a k)++jW (24-8-k) 0#8).map v8).toArray 308 (0,0)))/\jf (wr2.heap[q+1]?=ja (je a8 65 (0,0)))/\jf (jk w w wr2)) (λg _=>(8-jv g).toNat)
  case atStart=>exact⟨0,I,by omega,O (by rw[beK,n0];exact Vd),ad,R⟩
  obtain⟨k,rfl,a6,d,s,t⟩:=hrel
  by_cases ZN:k<8
  ·have V:=az ((k:N)<8)
   obtain⟨m,u⟩:∃m:jb,m=56-8*k:=⟨_,I⟩;have YK:(56:N)-8*(k:N)=(m:N):=Y;have ba:m<=56:=Y;have hd3:decide ((m:N)<0)=ji:=by simp
   have j:beK a (k+1)=beK a k++[ow 8 (a/2^m)]:=by rw[beK,u]
   obtain⟨b,c⟩:=J (ow 8 (a/2^m));rw[<-c]at j;have bb:jr.wrap ((a:N)/2^m)=(b.toNat:N):=by
    rw[c,rv,r4];have e:(a:N)/2^m=((a/2^m:jb):N):=by simp
    rw[e];omega
   obtain⟨P,f⟩:=J (dD ([p,a,v].take 1)++beK a k);have l:P.length=8+k:=by rw[f,jI,ts,wj];simp
   have y:dD ([p,a,v].take 1)++beK a (k+1)=P++[b]:=by rw[j,<-nv,f]
   rw[<-f]at d;have z:24-8-k=(24-8-(k+1))+1:=Y;rw[z]at d;obtain⟨⟨u3,bc⟩,Zk,B,C⟩:=ku (i:=8+k) (v8 b) d (by simp[l]);have E:(wr.setCell ⟨D,8+k,jc⟩ (v8 b)).heap[D]?=ja (je (((P++[b])++jW (24-8-(k+1)) 0#8).map v8).toArray 308 (0,0)):=by
    rw[B,xg,<-xh,<-l,zo]
   have H:=O E;have o:=O C;have X:=O y;clear j c f l y z B E C u;unfold v8 at H o
   go_wp2_with fail
   refine⟨⟨k+1,by go_num,by omega,O (by rw[X];exact H),O ((o.block _ (aI Q)).trans s),O (t.trans (o.below (dY Q U)))⟩,by simp only[jv];omega⟩
  have K:k=8:=Y;have V:=aw ((k:N)<8);have h:=d.out;rw[K,show dD ([p,a,v].take 1)++beK a 8=dD ([p,a,v].take (1+1))from(vD ([p,a,v].take 1) a).symm]at h;have Y6:=O h;clear h K
  go_wp2_with fail
  refine⟨⟨1+1,by go_num,by omega,Y6,s,t⟩,by simp only[jv];omega⟩
 ·have a2:=HV.out
  have a3:rk.wrap (v:N)=(v:N):=by rw[rn];omega
  have a4:(0:N)<=(v:N):=Y;have a5:=a1
  go_wp2_with fail
  go_loopw [29] (λg wr2=>∃k:jb,g=T A k/\k<=8/\jf (wr2.heap[D]?=ja (je (((dD ([p,a,v].take 2)++beK v k)++jW (24-16-k) 0#8).map v8).toArray 308 (0,0)))/\jf (wr2.heap[q+1]?=ja (je a8 65 (0,0)))/\jf (jk w w wr2)) (λg _=>(8-jv g).toNat)
  case atStart=>exact⟨0,I,by omega,O (by rw[beK,n0];exact Vd),ad,R⟩
  obtain⟨k,rfl,a6,d,s,t⟩:=hrel
  by_cases ZN:k<8
  ·have V:=az ((k:N)<8)
   obtain⟨m,u⟩:∃m:jb,m=56-8*k:=⟨_,I⟩;have YK:(56:N)-8*(k:N)=(m:N):=Y;have ba:m<=56:=Y;have hd3:decide ((m:N)<0)=ji:=by simp
   have j:beK v (k+1)=beK v k++[ow 8 (v/2^m)]:=by rw[beK,u]
   obtain⟨b,c⟩:=J (ow 8 (v/2^m));rw[<-c]at j;have bb:jr.wrap ((v:N)/2^m)=(b.toNat:N):=by
    rw[c,rv,r4];have e:(v:N)/2^m=((v/2^m:jb):N):=by simp
    rw[e];omega
   obtain⟨P,f⟩:=J (dD ([p,a,v].take 2)++beK v k);have l:P.length=16+k:=by rw[f,jI,ts,wj];simp
   have y:dD ([p,a,v].take 2)++beK v (k+1)=P++[b]:=by rw[j,<-nv,f]
   rw[<-f]at d;have z:24-16-k=(24-16-(k+1))+1:=Y;rw[z]at d;obtain⟨⟨u3,bc⟩,Zk,B,C⟩:=ku (i:=16+k) (v8 b) d (by simp[l]);have E:(wr.setCell ⟨D,16+k,jc⟩ (v8 b)).heap[D]?=ja (je (((P++[b])++jW (24-16-(k+1)) 0#8).map v8).toArray 308 (0,0)):=by
    rw[B,xg,<-xh,<-l,zo]
   have H:=O E;have o:=O C;have X:=O y;clear j c f l y z B E C u;unfold v8 at H o
   go_wp2_with fail
   refine⟨⟨k+1,by go_num,by omega,O (by rw[X];exact H),O ((o.block _ (aI Q)).trans s),O (t.trans (o.below (dY Q U)))⟩,by simp only[jv];omega⟩
  have K:k=8:=Y;have V:=aw ((k:N)<8);have h:=d.out;rw[K,show dD ([p,a,v].take 2)++beK v 8=dD ([p,a,v].take (2+1))from(vD ([p,a,v].take 2) v).symm]at h;have Y6:=O h;clear h K
  go_wp2_with fail
  refine⟨⟨2+1,by go_num,by omega,Y6,s,t⟩,by simp only[jv];omega⟩
 have b:=ts [p,a,v];have d:=Vd.out;rw[show dD ([p,a,v].take 3)++jW (24-8*3) 0#8=dD [p,a,v]from n0 _]at d;have f:=su ⟨#[119,114,97,112]⟩ L _ (dD [p,a,v]) (by rw[b];simp) wr (O0 (n:=24) d (by rw[b];rfl)) (au.below R).num (au.below R).start;rw[show((dn (co ⟨#[119,114,97,112]⟩) (dD [p,a,v])).map v8).toArray=aa from by rw[ZF];exact S.eq.symm]at f;have g:=O f;clear b d f ax ay a1
 go_wp2_with fail
 refine g.mono ?_;rintro e' f ⟨rfl,b⟩;have d:=ae ad b;have h:=aj R b;clear b g
 go_wp2_with (refine j3 I λ_ b=>j4 65 _ _ I (q+1) aa I I 65 _ d.out (by rw[S.sz];rfl) (by rw[S.sz];rfl) S.one (b _ _ ?_))
 have b:(f.setRow (q+1) aa).heap[q+1]?=ja (je aa 65 (0,0)):=jR _ _ _ _ _ _ d.out;refine qh (results_cell_row I _ _ (q+1) 65 _ (0,0) _ I b qC I (by rw[S.sz];rfl)) I ?_;exact⟨I,jZ h.out (by rw[U];exact Nat.le_succ _) _⟩
def mD(a:N)(n:jb):Prop:=bL a/\16<=n/\n<=65552
noncomputable def mG(a:N)(n:jb):N:=by classical exact if mD a n then 0 else 90
theorem FN(h:mD d b):mG d b=0:=by unfold mG;rw[jt h]
theorem uW(h:¬mD d b):mG d b=90:=by unfold mG;rw[jy h]
theorem Gp(a:N)(p:jP j6)(n c:jb)(u:n<4611686018427387904)(w:jh):
 jq jl 75 #[jn #[T A a,jg p n c]] w λe w'=>e=jp (T A (mG a n))/\jk w w w':=by
 have j:=jw w (je #[T A a,jg p n c] 83);have l:=ap w (je #[T A a,jg p n c] 83);have k:=O (gD a);obtain⟨d,b⟩:=J (cU a);rw[<-b]at k;have o:jf (d=0->bL a):=O (λh=>by
  by_cases g:bL a
  ·exact g
  rw[b,k8 g]at h;exact jB h L)
 have q:jf (d≠0->¬bL a):=O (λh g=>h (by rw[b,gF g]));have s:=ah (i:=0) j I;have t:=ah (i:=1) j I;have m:=O l;obtain⟨r,g⟩:=J (mG a n);rw[<-g];have f:=O g;clear b g j l
 go_enter func75,ntmps75
 go_wp2_with fail
 refine(k _).mono ?_;rintro e v ⟨rfl,b⟩;have g:=aj m b;clear b k s t m
 by_cases b:d=0
 ·have k:decide (d=0)=jm:=by simp[b]
  have j:=o b;subst b
  by_cases m:n<16
  ·have l:=az ((n:N)<16)
   obtain rfl:r=90:=by rw[f];exact uW (λh=>by have:=h.2.1;omega)
   go_wp2_with fail
   go_ret;exact⟨I,g⟩
  have l:=aw ((n:N)<16)
  by_cases s:65552<n
  ·have hd2:=az ((65552:N)<(n:N))
   obtain rfl:r=90:=by rw[f];exact uW (λh=>by have:=h.2.2;omega)
   go_wp2_with fail
   go_ret;exact⟨I,g⟩
  have hd2:=aw ((65552:N)<(n:N));obtain rfl:r=0:=by rw[f];exact FN ⟨j,by omega,by omega⟩
  clear j
  go_wp2_with fail
  go_ret;exact⟨I,g⟩
 have k:decide (d=0)=ji:=by simp[b]
 obtain rfl:r=90:=by rw[f];exact uW (λh=>q b h.1)
 have h:(d !=0)=jm:=ak b;have j:=O b;clear b
 go_wp2_with fail
 go_ret;exact⟨I,g⟩
def sC:LBy:=jW 12 0#8
def gj(seed:LBy):jb:=uY seed ⟨#[119,114,97,112]⟩
def gs(a:jb)(seed b body:LBy):LBy:=oR (oo a (aY 4 (gj seed)) (aY a (gj seed))) sC b body
theorem Hu(b:jb)(s:bL b)(seed m body:LBy)(t:seed.length=32)(E:m.length<=70000)(F:body.length<=65536)(H K:jj)(w:jh)(M:bj w H m)(P:bj w K body)(Q:ly w):
 jq jl 108 #[T A b,jn (seed.map v8).toArray,H,K] w λe w'=>∃c,e=jp (jE #[jn #[T A (aY 4 (gj seed):jb),c],T A 0])/\w'.ownsRow w 5 1 c (body.length+16) ((gs b seed m body).map v8)/\jk w w w':=by
 obtain⟨o,u,R⟩:=Arr.mk' t;rw[<-u];have V8:=O u;have UW:=O R;have Ye:=O t;have n:=O Q;have U:=O s;have v:=O (gD b);rw[gF s]at v;have ad:=O E;have au:=O F;have V:=O M;have W:=O P;obtain⟨r,x⟩:=J (gj seed);have y:=O x;have X:jf (r<2305843009213688669):=O (by rw[x];exact(zJ _ _).2);obtain⟨d,a⟩:=J (aY 4 (gj seed));have aa:=O a;have ax:jf (d<4611686018427377339):=O (by rw[a];exact vZ _ _);rw[<-a];have f:=jw w (je o 65);have g:=ap w (je o 65);obtain⟨p,h⟩:=J (w.alloc (je o 65));rw[<-h]at f g;have i:=jw p (je #[T A 0,jg jc 0 0] 83);have k:=ap p (je #[T A 0,jg jc 0 0] 83);obtain⟨W1,z⟩:=J (p.alloc (je #[T A 0,jg jc 0 0] 83));obtain⟨j,l⟩:=J w.heap.size;rw[<-z]at i k;have S:p.heap.size=j+1:=by rw[h,l];simp
 rw[S]at i;rw[<-l]at f;have HK:=ae f k;have HR:=O i;have Uq:=O (g.trans (k.mono g.size));have HG:=O l;have ay:=O h;have VI:=O z;obtain⟨ph,ch,rfl,-,-,-⟩:=M;obtain⟨B,C,rfl,-,-,-⟩:=P;obtain⟨hl,D⟩:=J m.length;obtain⟨bl,q⟩:=J body.length;rw[<-D]at V⊢;rw[<-q]at W;clear u R t Q s E F x a f g h i k z S l;have a4:=O D;have YJ:=O q;rw[show(Value.slice B body.length C)=jg B bl C from by rw[q]];clear D q
 go_enter func108,ntmps108
 go_wp2_with fail
 rw[<-ay,<-VI,<-HG];refine(v W1).mono ?_;rintro e R ⟨rfl,a⟩;have h:=ae HK a;have i:=ae HR a;have f:=aj Uq a;clear a HK HR Uq v
 go_upto_region 3 with fail
 refine pz ?_;refine qi I 65 _ I j I 65 o (0,0) _ h.out qC I (by rw[UW.sz];rfl) ?_
 go_wp2_with fail
 have g:=Ha seed Ye ⟨#[119,114,97,112]⟩ L R (bS.below ⟨n.num,n.start⟩ f);rw[<-V8,show uY seed ⟨#[119,114,97,112]⟩=r from y.symm]at g;refine g.mono ?_;clear g;rintro e q ⟨rfl,a⟩;have l:=ae i a;have s:=aj f a;clear a h i f
 go_wp2_with fail
 obtain⟨x,h⟩:=J (q.alloc (je #[T A (r:jb)] 3));obtain⟨f,i⟩:=J q.heap.size;have t:jA x f 3 (T A (r:jb)):=by rw[h,i];exact Boxed.new q _ _
 have a:=ap q (je #[T A (r:jb)] 3);rw[<-h]at a⊢;rw[<-i];have u:=ae l a;have v:=aj s a;have k:=O t;clear a h i t l s;have g:=wB r X x;rw[show aY 4 r=d from by rw[y,aa]]at g;refine g.mono ?_;clear g;rintro e i ⟨rfl,a⟩;have z:=ae u a;have D:=aj v a;have h:jf (jA i f 3 (T A (r:jb))):=O ((a.block _ k.lt).trans k);clear a u v k;obtain⟨S,g⟩:=J (#[jo .i64 b,.func (.func 160) #[] #[jz (ja ⟨f,0,jc⟩)]]);have HS:=O g;have k:S.all (·.oneCell')=jm:=by rw[g];simp[ob]
 have l:S.size=2:=by rw[g];rfl
 have a5:=O k;have a6:=O l;clear g k l
 go_upto_region 6 with(refine j3 I λ_ t=>j4 246 _ _ I i.heap.size #[T A b,.func (.func 160) #[] #[jz (ja ⟨f,0,jc⟩)]] I I 246 #[T A 0,.nilFunc] (jw i _) af ai (by simp[ob]) (t _ _ ?_))
 obtain⟨s,g⟩:=J ((i.alloc (je #[T A 0,.nilFunc] 246)).setRow i.heap.size #[T A b,.func (.func 160) #[] #[jz (ja ⟨f,0,jc⟩)]]);obtain⟨E,k⟩:=J i.heap.size;have u:s.heap[E]?=ja (je #[T A b,.func (.func 160) #[] #[jz (ja ⟨f,0,jc⟩)]] 246 (0,0)):=by rw[g,k];exact jR _ _ _ _ _ _ (jw i _)
 have a:jk i i s:=by rw[g];exact jZ (ap i _) (ju _) _
 rw[<-g,<-k];have v:=ae z a;have l:=aj D a;have F:jf (jA s f 3 (T A (r:jb))):=O ((a.block _ h.lt).trans h);have Q:=O u;clear a g k u z D h;refine pz ?_;refine qi I 246 _ I E I 246 #[T A b,.func (.func 160) #[] #[jz (ja ⟨f,0,jc⟩)]] (0,0) _ Q.out underlying246 I af ?_
 go_wp2_with fail
 obtain⟨ba,g,k⟩:=Arr.mk' (zD b d (aY b r));have h:=Lt _ r f (Sg r f X) b d b (cV U.2.1) (aI ax) U s F (bS.below ⟨n.num,n.start⟩ l);rw[<-g]at h;have D:=O g;refine h.mono ?_;clear h g k;rintro e w7 ⟨rfl,a⟩;have h:=ae v a;have g:=aj l a;clear a v l F Q
 go_wp2_with fail
 have k:=Nx (oo b d (aY b r)) sC m body (jg ph hl ch) (jg B bl C) w7 (zD _ _ _) I ad au (V.below g) (W.below g) (n.below g);rw[<-D]at k;refine k.mono ?_;clear k;rintro e u ⟨cv,rfl,v,a⟩;have z:=ae h a;have F:=O v;have Q:=O g.size;have a1:=O h;have Wu:=aj g a;obtain⟨k,l,rfl⟩:=cO v;clear a h g v
 go_upto_region 9 with fail
 go_wp2_with (refine j3 I λ_ t=>j4 83 _ _ I (j+1) #[T A d,jg k (body.length+16) l] I I 83 _ z.out af ai (by simp[ob]) (t _ _ ?_))
 have a:(u.setRow (j+1) #[T A d,jg k (body.length+16) l]).heap[j+1]?=ja (je #[T A d,jg k (body.length+16) l] 83 (0,0)):=jR _ _ _ _ _ _ z.out;have t:jk w w (u.setRow (j+1) #[T A d,jg k (body.length+16) l]):=jZ Wu.out (by rw[HG];exact Nat.le_succ _) _;have v:(u.setRow (j+1) #[T A d,jg k (body.length+16) l]).ownsRow w.heap.size 5 1 (jg k (body.length+16) l) (body.length+16) ((gs b seed m body).map v8):=by
  have h:=F.out;rw[aa,y]at h;refine⟨h.1,?_⟩
  rcases h.2 with hn|⟨g,a2,Ux,e,hb,hg,a3⟩
  ·exact .inl hn
  refine .inr ⟨g,a2,Ux,e,jL Q hb,(jY _ _ _ _ ?_).trans hg,a3⟩;have:=(jG.1 a1).1;omega
 exact bodyPost_ret_by (fP I _ _ (j+1) 83 #[T A d,jg k (body.length+16) l] (0,0) _ I a underlying83 I af) I ⟨_,I,v,t⟩
def fG(x:N):Prop:=0<=x/\x<512
def kp(x:N):Prop:=0<=x/\x<16
instance(x:N):Decidable (fG x):=by unfold fG;infer_instance
instance(x:N):Decidable (kp x):=by unfold kp;infer_instance
theorem Bg(x:N)(w:jh):
 jq jl 73 #[T A x] w λe w'=>e=jp (.bool (decide (fG x)))/\w=w':=by
 obtain⟨r,a⟩:=J (decide (fG x));rw[<-a]
 by_cases b:0<=x
 ·have c:=az (0<=x)
  obtain rfl:r=decide (x<512):=by rw[a];simp[fG,b]
  clear a
  go_enter func73,ntmps73
  go_wp2
  go_ret;exact⟨I,I⟩
 have c:=aw (0<=x);obtain rfl:r=ji:=by rw[a];simp[fG,b]
 clear a
 go_enter func73,ntmps73
 go_wp2
 go_ret;exact⟨I,I⟩
theorem Fa(x:N)(w:jh):
 jq jl 66 #[T A x] w λe w'=>e=jp (.bool (decide (kp x)))/\w=w':=by
 obtain⟨r,a⟩:=J (decide (kp x));rw[<-a]
 by_cases b:0<=x
 ·have c:=az (0<=x)
  obtain rfl:r=decide (x<16):=by rw[a];simp[kp,b]
  clear a
  go_enter func66,ntmps66
  go_wp2
  go_ret;exact⟨I,I⟩
 have c:=aw (0<=x);obtain rfl:r=ji:=by rw[a];simp[kp,b]
 clear a
 go_enter func66,ntmps66
 go_wp2
 go_ret;exact⟨I,I⟩
def cE(x y:N):N:=if x<y then -1 else if y<x then 1 else 0
theorem B8(x:N)(w:jh):
 jq jl 99 #[T A x] w λe w'=>e=jp (.bool ji)/\w=w':=by
 go_enter func99,ntmps99
 go_wp2
 go_ret;exact⟨by simp,I⟩
theorem tO(x y:N)(w:jh):
 jq jl 46 #[T A x,T A y] w λe w'=>e=jp (T A (cE x y))/\w=w':=by
 have d:=O (B8 x);have f:=O (B8 y);obtain⟨r,a⟩:=J (cE x y);rw[<-a];have b:=O a;clear a
 go_enter func46,ntmps46
 go_wp2_with fail
 refine(d _).mono ?_;rintro e g ⟨rfl,rfl⟩
 go_wp2_with fail
 refine(f _).mono ?_;rintro e g ⟨rfl,rfl⟩
 by_cases a:x<y
 ·have h:=az (x<y)
  obtain rfl:r= -1:=by rw[b,cE,jt a]
  go_wp2_with fail
  go_ret;exact⟨I,I⟩
 have h:=aw (x<y)
 by_cases c:y<x
 ·have hd2:=az (y<x)
  obtain rfl:r=1:=by rw[b,cE,jy a,jt c]
  go_wp2_with fail
  go_ret;exact⟨I,I⟩
 have hd2:=aw (y<x);obtain rfl:r=0:=by rw[b,cE,jy a,jy c]
 go_wp2_with fail
 go_ret;exact⟨I,I⟩
def aJ.cells(m:aJ):jd jj:=[T A m.dev,T A m.since,T A m.ver]
theorem C9(m:aJ)(d:N)(w:jh):
 jq jl 137 #[jn m.cells.toArray,T A d] w λe w'=>e=jp (T A (cE m.dev d))/\jk w w w':=by
 obtain⟨md,b,c⟩:=m;unfold aJ.cells;have a:=ap w (je #[T A md,T A b,T A c] 100);have f:=O (tO md d);have g:=O a;clear a
 go_enter func137,ntmps137
 go_wp2_with fail
 refine(f _).mono ?_;rintro e a ⟨rfl,rfl⟩
 go_wp2_with fail
 go_ret;exact⟨I,g⟩
def oh(w:jh)(v:jj)(l:jd aJ):Prop:=aH (λ_=>True) w v 3 l.length (l.flatMap aJ.cells)
def de:aJ:=⟨0,0,0⟩
theorem oh.below{v:jj}{l:jd aJ}(h:oh w v l)(a:jk w w w'):oh w' v l:=by
 obtain⟨b,p,c,d,f,i,k⟩:=h;refine⟨b,p,c,d,f,i,λm=>?_⟩;obtain⟨g,o,e,-,n⟩:=k m;exact⟨g,o,e,trivial,λj q r=>aC (n j q r) a⟩
def mu(l:jd aJ):Prop:=∀i j,i<j->j<l.length->(l.getD i de).dev<(l.getD j de).dev
theorem oh.cells{v:jj}{l:jd aJ}(h:oh w v l):∃p c,v=jg p l.length c/\l.length<=c/\(0<l.length->∃g o,p=ja ⟨g,o,jc⟩/\∀i,i<l.length->w.cell? ⟨g,o+i*3,jc⟩=ja (T A (l.getD i de).dev)/\w.cell? ⟨g,o+i*3+1,jc⟩=ja (T A (l.getD i de).since)/\w.cell? ⟨g,o+i*3+2,jc⟩=ja (T A (l.getD i de).ver)):=by
 obtain⟨s,p,c,d,f,t,j⟩:=h;refine⟨p,c,d,f,λk=>?_⟩;obtain⟨g,o,e,-,a⟩:=j k;refine⟨g,o,e,λi m=>?_⟩;have b:l[i]?=ja (l.getD i de):=by simp[jQ,m]
 have n:=a (i*3+0) _ ((flat_get aJ.cells 3 (λ_=>rfl) l i 0 (l.getD i de) b L).trans I);have q:=a (i*3+1) _ ((flat_get aJ.cells 3 (λ_=>rfl) l i 1 (l.getD i de) b L).trans I);have r:=a (i*3+2) _ ((flat_get aJ.cells 3 (λ_=>rfl) l i 2 (l.getD i de) b L).trans I);exact⟨n,q,r⟩
theorem CS{x y:jj}(b:a=x)(c:m=y):Ending.returned (jE #[a,m])=jp (jE #[x,y]):=by rw[b,c]
theorem fp{l:jd j}(d:j)(h:b<l.length):l.getD b d=l[b]:=by simp[jQ,h]
def lY(l:jd aJ)(d:N):jb:=l.countP λm=>decide (m.dev<d)
def cD(l:jd aJ)(d:N):jF:=l.any λm=>m.dev==d
theorem yP{l:jd aJ}(h:mu l){i j:jb}(a:i<=j)(b:j<l.length):(l.getD i de).dev<=(l.getD j de).dev:=by
 rcases Nat.eq_or_lt_of_le a with rfl|c
 ·exact Int.le_refl _
 exact Int.le_of_lt (h i j c b)
theorem AF(d:N):∀(l:jd aJ) (i:jb),i<=l.length->(∀t,t<i->(l.getD t de).dev<d)->(∀t,i<=t->t<l.length->d<=(l.getD t de).dev)->lY l d=i
 |[],i,b,_,_=>by simp at b;simp[lY,b]
 |a::r,0,_,_,c=>by
  unfold lY;rw[List.countP_eq_zero];intro x f;obtain⟨t,e,rfl⟩:=qs f;have:=c t (j5 _) e;rw[fp _ e]at this;simp;omega
 |a::r,i+1,b,f,c=>by
  have h:a.dev<d:=by simpa using f 0 (Nat.succ_pos _)
  have g:=AF d r i (ak b) (λt e=>by simpa using f (t+1) Y) (λt j e=>by simpa using c (t+1) Y (ak e));unfold lY at g⊢;rw[List.countP_cons_of_pos (ak h),g]
theorem L2{l:jd aJ}(h:∀t,t<l.length->(l.getD t de).dev<d):cD l d=ji:=by
 unfold cD;rw[qt];intro x b;obtain⟨t,a,rfl⟩:=qs b;have:=h t a;rw[fp _ a]at this;simp;omega
theorem J7(x y:N):(cE x y==0)=decide (x=y):=by
 unfold cE
 by_cases a:x<y
 ·rw[jt a];simp;omega
 rw[jy a]
 by_cases b:y<x
 ·rw[jt b];simp;omega
 rw[jy b];simp;omega
theorem Ou{l:jd aJ}{i:jb}(f:mu l)(e:i<l.length)(h:∀t,t<i->(l.getD t de).dev<d)(j:d<=(l.getD i de).dev):cD l d=(cE (l.getD i de).dev d==0):=by
 rw[J7]
 by_cases he:(l.getD i de).dev=d
 ·rw[jO he]
  unfold cD;refine xi.2 ⟨l.getD i de,?_,by simpa using he⟩;rw[fp _ e];exact qK e
 rw[decide_eq_false he];unfold cD;rw[qt];intro x c;obtain⟨t,b,rfl⟩:=qs c;have c:l[t].dev≠d->¬((l[t].dev==d)=jm):=λh=>by simpa using h
 apply c
 rcases Nat.lt_trichotomy t i with a|a|a
 ·have:=h t a;rw[fp _ b]at this;omega
 ·subst a;rw[fp _ b]at he;exact he
 have g:=f i t a b;rw[fp _ b]at g;omega
theorem SN(l:jd aJ)(f:mu l)(v:jj)(d:N)(w:jh)(h:oh w v l)(U:l.length<=1000000):
 jq jl 136 #[v,T A d,.func (.func 137) #[] #[]] w λe w'=>e=jp (jE #[T A (lY l d:jb),.bool (cD l d)])/\jk w w w':=by
 obtain⟨p,c,rfl,u,s⟩:=h.cells;have R:=O s;have M:=O f;obtain⟨n,b⟩:=J l.length;have a:=O b;rw[<-b]at U u⊢;clear s f h b;have EG:∀args w,(o8 137 args).run jl w=.ok (.enter 137 args) w:=λ_ _=>rfl
 go_enter func136,ntmps136
 go_wp2_with fail
 go_loopw [9,10] (λs9 b wr=>∃i j:jb,s9=T A i/\b=T A j/\i<=j/\j<=n/\jf ((∀t,t<i->(l.getD t de).dev<d)/\∀t,j<=t->t<n->d<=(l.getD t de).dev)/\jf (jk w w wr)) (λs9 b _=>(jv b-jv s9).toNat)
 case atStart=>exact⟨0,n,I,I,j5 _,ju _,O ⟨λt P=>jB P Y,λt z F=>jB z Y⟩,O (jH _ _)⟩
 obtain⟨i,j,rfl,rfl,aa,V,x,b⟩:=hrel
 by_cases ad:i<j
 ·have W:=az ((i:N)<(j:N))
  obtain⟨m,q⟩:∃m:jb,m=(i+j)/2:=⟨_,I⟩;have au:i<=m:=Y;have Ys:m<j:=Y;have e1:((i:N)+(j:N))/2=(m:N):=Y;obtain⟨g,o,rfl,s⟩:=R.out (by rw[<-a];omega);obtain⟨f,h,k⟩:=s m (by rw[<-a];omega);replace f:=aC f b;replace h:=aC h b;replace k:=aC k b;have r:=O (C9 (l.getD m de) d);obtain⟨md,B,C,y⟩:∃md B C,l.getD m de=⟨md,B,C⟩:=⟨_,_,_,I⟩;rw[y]at f h k r;have X:=O y;unfold aJ.cells at r;clear s q y
  go_wp2_with fail
  refine(r wr).mono ?_;rintro e w1 ⟨rfl,D⟩;have H:=aj b D;clear D r f h k;obtain⟨q,E⟩:=J (cE md d);rw[<-E];have S:=O x;have K:(l.getD m de).dev=md:=by rw[X]
  by_cases u:md<d
  ·obtain rfl:q= -1:=by rw[E,cE,jt u]
   have Q:jf ((∀t,t<m+1->(l.getD t de).dev<d)/\∀t,j<=t->t<n->d<=(l.getD t de).dev):=O ⟨λt P=>Int.lt_of_le_of_lt (yP M (show t<=m by omega) (by rw[<-a];omega)) (by rw[K];exact u),S.2⟩;clear E u K
   go_wp2_with fail
   exact⟨⟨m+1,j,by go_num,rfl,by omega,by omega,Q,H⟩,by simp only[jv];omega⟩
  have ax:0<=q:=by rw[E,cE,jy u];split<;>omega
  have hd3:=aw (q<0);have Q:jf ((∀t,t<i->(l.getD t de).dev<d)/\∀t,m<=t->t<n->d<=(l.getD t de).dev):=O ⟨S.1,λt z F=>Int.le_trans (show d<=(l.getD m de).dev by rw[K];omega) (yP M z (by rw[<-a];exact F))⟩;clear E u K
  go_wp2_with fail
  exact⟨⟨i,m,I,by go_num,by omega,by omega,Q,H⟩,by simp only[jv];omega⟩
 obtain rfl:i=j:=Y;have W:decide ((i:N)<(i:N))=ji:=by simp
 have q:lY l d=i:=AF d l i (by rw[<-a];exact V) x.1 (λt z F=>x.2 t z (by rw[a];exact F))
 by_cases E:i<n
 ·have hd2:=az ((i:N)<(n:N))
  obtain⟨g,o,rfl,s⟩:=R.out (by rw[<-a];omega);obtain⟨f,h,k⟩:=s i (by rw[<-a];omega);replace f:=aC f b;replace h:=aC h b;replace k:=aC k b;have r:=O (C9 (l.getD i de) d);have m:=Ou (l:=l) (d:=d) (i:=i) M.out (by rw[<-a];exact E) x.1 (x.2 i (ju _) E);obtain⟨md,B,C,y⟩:∃md B C,l.getD i de=⟨md,B,C⟩:=⟨_,_,_,I⟩;rw[y]at f h k r m;have K:jf (cD l d=(cE md d==0)):=O m;have Q:=O q;unfold aJ.cells at r;clear s y m q
  go_wp2_with fail
  refine(r wr).mono ?_;rintro e w1 ⟨rfl,D⟩;have H:=aj b D;clear D r f h k
  go_wp2_with fail
  go_ret2;exact⟨CS (js (λn:jb=>jo .i64 (n:N)) Q.symm) (js qu K.symm),H⟩
 have hd2:=aw ((i:N)<(n:N));have m:cD l d=ji:=L2 (λt P=>x.1 t (by rw[a]at E;omega));have K:=O m;have Q:=O q;clear m q
 go_wp2_with fail
 go_ret2;exact⟨CS (js (λn:jb=>jo .i64 (n:N)) Q.symm) (js qu K.symm),b⟩
section
variable{a b e f:jb}{W w:jh}
open Go.RowKit Go.Maps Go.Sort
theorem eD{P:jX}{b:jD j0}{c:Exit->Act->jh->Prop}{a:Act}{w:jh}{d:jd j0}{o:j0}{v:jj}(e:Region.wanted o (yielded b a.tmps)=jm)
 (h:(execOp a.eval o).run P w=.ok (.value v) w) (f:wpList P b c d (a.put o.dst v) w):wpList P b c (o::d) a w:=
 wpList_step λK k=>by
  rw[jt e];unfold Oper.wp;rw[h];exact k _ _ f
theorem iC{a b:jF}(h:a=b):Ending.returned (.bool a)=jp (.bool b):=by rw[h]
theorem S3(n m:N):(n !=m)=decide (n≠m):=by by_cases h:n=m<;>simp[h]
theorem yW{d b:jj}(h:d=b):Ending.returned d=jp b:=by rw[h]
structure EK(α:Type) where
 cells:α->jd jj
 k:jb
 t:jJ
 pos:0<k
 len:∀x,(cells x).length=k
 one:∀x,∀v∈cells x,v.oneCell'=jm
section
variable {α:Type} (E:EK α)
def EK.flat(l:jd α):jd jj:=l.flatMap E.cells
theorem EK.flat_length(l:jd α):(E.flat l).length=l.length*E.k:=by
 unfold EK.flat;exact Go.Proofs.YtpmlopbaafjefaaGreatDoor.flat_length E.cells E.k E.len l
theorem EK.flat_append(l m:jd α):E.flat (l++m)=E.flat l++E.flat m:=by unfold EK.flat;exact List.flatMap_append
theorem EK.flat_one(x:α):E.flat [x]=E.cells x:=by simp[EK.flat]
theorem EK.flat_cons(x:α)(l:jd α):E.flat (x::l)=E.cells x++E.flat l:=by simp[EK.flat]
theorem EK.flat_get(l:jd α)(j i:jb)(x:α)(h:l[j]?=ja x)(a:i<E.k):(E.flat l)[j*E.k+i]?=(E.cells x)[i]?:=
 Go.Proofs.YtpmlopbaafjefaaGreatDoor.flat_get E.cells E.k E.len l j i x h a
theorem EK.flat_take(l:jd α)(i:jb):E.flat (l.take i)=(E.flat l).take (i*E.k):=by
 rcases qj i l.length with h|h
 ·have a:(E.flat (l.take i)).length=i*E.k:=by rw[E.flat_length,j9,qe (xj h)]
  have:=List.take_left' (l₂:=E.flat (l.drop i)) a;rw[<-E.flat_append,xk]at this;exact this.symm
 rw[jU h,jU (by rw[E.flat_length];exact qk _ h)]
theorem EK.flat_drop(l:jd α)(i:jb):E.flat (l.drop i)=(E.flat l).drop (i*E.k):=by
 rcases qj i l.length with h|h
 ·have a:(E.flat (l.take i)).length=i*E.k:=by rw[E.flat_length,j9,qe (xj h)]
  have:=List.drop_left' (l₂:=E.flat (l.drop i)) a;rw[<-E.flat_append,xk]at this;exact this.symm
 rw[wv h,wv (by rw[E.flat_length];exact qk _ h)]
 rfl
theorem EK.flat_one'(l:jd α):∀a∈E.flat l,a.oneCell'=jm:=by
 intro a b;unfold EK.flat at b;obtain⟨x,-,c⟩:=xW.1 b;exact E.one x a c
theorem EK.flat_set{d:jd α}{e:α}(i:a<d.length):E.flat (d.set a e)=(E.flat d).take (a*E.k)++E.cells e++(E.flat d).drop (a*E.k+E.k):=by
 rw[List.set_eq_take_append_cons_drop,jt i,E.flat_append,E.flat_cons,E.flat_take,E.flat_drop,show(a+1)*E.k=a*E.k+E.k by rw[Nat.add_mul];omega,nv]
def EK.At(w:jh)(v:jj)(l:jd α):Prop:=cH w v E.k l.length (E.flat l)
variable {E}
theorem EK.At.below{w':jh}{v:jj}{l:jd α}(h:E.At w v l)(a:jk w w w'):E.At w' v l:=cH.below h a
theorem EK.At.of_own{B:jb}{v:jj}{l:jd α}(h:w.ownsRow B E.t E.k v l.length (E.flat l)):E.At w v l:=cH.of_own h
theorem EK.At.of_sl{D:jb->Prop}{v:jj}{l:jd α}(h:aH D w v E.k l.length (E.flat l)):E.At w v l:=h.row
theorem EK.At.form{d:jj}{l:jd α}(h:E.At w d l):∃p c,d=jg p l.length c/\l.length<=c/\(p=jc->c=0):=by
 obtain⟨_,p,c,e,a,b,_⟩:=h;exact⟨p,c,e,a,b⟩
theorem EK.At.nil:E.At w (jg jc 0 0) []:=⟨by simp[EK.flat],jc,0,I,ju _,λ_=>rfl,λh=>jB h (Nat.lt_irrefl _)⟩
theorem EK.At.cells{p:jP j6}{n c:jb}{l:jd α}(h:E.At w (jg p n c) l):n=l.length/\n<=c/\(0<n->∃g o,p=ja ⟨g,o,jc⟩/\∀j x,l[j]?=ja x->∀i a,(E.cells x)[i]?=ja a->w.cell? ⟨g,o+j*E.k+i,jc⟩=ja a):=by
 obtain⟨_,v,y,e,d,z,f⟩:=h;injection e with k m q
 subst k;subst m;subst q;refine⟨I,d,λr=>?_⟩;obtain⟨g,o,e,s⟩:=f r;refine⟨g,o,e,λj x t i a b=>?_⟩;have u:i<E.k:=by rw[<-E.len x];exact(qf.1 b).1
 rw[Nat.add_assoc];exact s (j*E.k+i) a ((E.flat_get l j i x t u).trans b)
theorem dK{l:jd α}{j:jb}(h:j<l.length):∃x,l[j]?=ja x/\l.take (j+1)=l.take j++[x]:=
 ⟨l[j],mz h,qo h⟩
variable (E)
structure dw(a:jb)(w W:jh)(g n c:jb)(d:jd α):Prop where
 own:W.ownsRow a E.t E.k (jg (ja ⟨g,0,jc⟩) n c) n (E.flat d)
 len:n=d.length
 bel:jk a w W
 sz:a<=w.heap.size
variable {E}
theorem dw.later{g:jh}{d:jd α}(h:dw E a w W b e f d)(n:jk W W g):dw E a w g b e f d:=
 ⟨cP h.own n,h.len,h.bel.trans (n.mono (jL h.sz (cV h.bel.size))),h.sz⟩
theorem dw.lt{d:jd α}(h:dw E a w W b e f d):a<=b/\b<W.heap.size:=h.own.lt b I
theorem dw.cap{d:jd α}(h:dw E a w W b e f d):e<=f:=by
 rcases h.own.2 with⟨n,_⟩|⟨g',i,j,n,k,l,g,_⟩
 ·cases n
 injection n with m o c
 subst c;exact g
theorem dw.at{g n c:jb}{d:jd α}(h:dw E a w W g n c d):E.At W (jg (ja ⟨g,0,jc⟩) n c) d:=EK.At.of_own (by rw[<-h.len];exact h.own)
theorem iS{g:jb}(h:jk a w W)(c:a<=g)(b:jD jj):jk a w (W.setRow g b):=
 h.trans ⟨rfl,rfl,rfl,by simp[qV],λk d=>jY _ _ _ _ Y⟩
theorem dw.store{P:jX}{i:jb}{d:jd α}(h:dw E a w W b e f d)(r:i<e)(n:α)(m:jJ)(s:(P.info? m).map (·.size)=ja E.k):
 ∃j,(storeVar m ⟨b,0+i*E.k,jc⟩ (jn (E.cells n).toArray)).run P W=.ok () j/\dw E a w j b e f (d.set i n)/\(∀k,k≠b->j.heap[k]?=W.heap[k]?)/\W.heap.size<=j.heap.size:=by
 obtain⟨R,z⟩:=h.own
 rcases z with⟨o,_⟩|⟨g',S,q,o,t,u,v,B,x,C⟩
 ·cases o
 injection o with c U D
 injection c with c
 injection c with c
 subst c;subst D;have V:i*E.k+E.k<=e*E.k:=by rw[<-Nat.succ_mul];exact qk _ r
 have F:e*E.k<=f*E.k:=qk _ v;have X:e*E.k<=q.size:=by rw[x];exact F
 have g:(E.cells n).length=E.k:=E.len n;have y:(storeCells ⟨b,i*E.k,jc⟩ (E.cells n) 0).run P W=.ok () (W.setRow b (q.toList.take (i*E.k)++E.cells n++q.toList.drop (i*E.k+(E.cells n).length)).toArray):=
  run_storeCells_at (P:=P) b (i*E.k) E.t (E.cells n) 0 q W u (by rw[g];omega) (E.one n)
 have p:q.toList.length=f*E.k:=by rw[qc];exact x
 rw[g]at y;refine⟨W.setRow b (q.toList.take (i*E.k)++E.cells n++q.toList.drop (i*E.k+E.k)).toArray,?_,⟨⟨by rw[E.flat_length,r6,<-h.len],.inr ⟨b,f,(q.toList.take (i*E.k)++E.cells n++q.toList.drop (i*E.k+E.k)).toArray,I,t,jR _ _ _ _ _ _ u,v,B,?_,?_⟩⟩,by rw[r6];exact h.len,iS h.bel t _,h.sz⟩,λk H=>jY _ _ _ _ H,by simp[qV]⟩
 ·cases hq:P.info? m with
  |none=>simp[hq]at s
  |some K=>
   have M:K.size=E.k:=by simpa [hq]using s
   rw[jM];have Q:(xe (E.cells n).toArray).cells=(E.cells n).toArray:=I;simp[storeVar,sizeOf,typeInfo,hq,Q,M,g,y]
 ·simp only[jK,jI,j9,xX,p,g]
  omega
 rw[E.flat_set (by rw[<-h.len];exact r),<-C];show List.take (e*E.k) (q.toList.take (i*E.k)++E.cells n++q.toList.drop (i*E.k+E.k))=_;rw[xl,qe Y,List.take_append,jU (l:=q.toList.take (i*E.k)++E.cells n) (by simp only[jI,j9,p,g];omega),List.drop_take];simp only[jI,j9,p,g];rw[qe Y]
theorem Dc{P:jX}{f:j0}{a:Act}{w:jh}{K:Act->jh->Prop}{m:Exit->Act->jh->Prop}(j:jJ)(x y:qS)(o:f.op=.store j x y)
 {l:jb} {W:jh} {g n c i:jb} {d:jd α} (h:dw E l W w g n c d) (p:i<n) (e:α) (q:(P.info? j).map (·.size)=ja E.k)
 (r:a.eval x=jz (ja ⟨g,0+i*E.k,jc⟩)) (s:a.eval y=jn (E.cells e).toArray)
 (t:∀b,dw E l W b g n c (d.set i e)->(∀k,k≠g->b.heap[k]?=w.heap[k]?)->w.heap.size<=b.heap.size->K (a.put f.dst jN) b):f.wp P a w K m:=by
 obtain⟨b,k,u,v,z⟩:=h.store p e j q;unfold Oper.wp execOp;simp only[o,r,s,Instr.storeAt,Instr.sureAddr,Sem.run_bind,Sem.run_pure,Result.andThen_ok,k];exact t b u v z
theorem dw.clear{P:jX}{q:jb}{g n c i:jb}{d:jd α}(h:dw E q w W g n c d)(B:i<n)(t e:jJ)(C:P.underlying t=ja (.slice e))(z:α)(D:∀w,(zeroValue e).run P w=.ok (jn (E.cells z).toArray) w):
 ∃r,(∀s,(Builtin.clear_ #[t] s #[jg (ja ⟨g,0+i*E.k,jc⟩) (n-i) (c-i)]).run P W=.ok (jE #[]) r)/\dw E q w r g i c (d.take i):=by
 obtain⟨U,F⟩:=h.own
 rcases F with⟨o,_⟩|⟨g',V,a,o,u,x,H,K,f,M⟩
 ·cases o
 injection o with b X Q
 injection b with b
 injection b with b
 subst b;subst Q;have y:a.toList.length=c*E.k:=by rw[qc];exact f
 have p:(Builtin.zeroCells (E.cells z).toArray (n-i)).toList.length=(n-i)*E.k:=by
  rw[qc,size_zeroCells,jK,E.len]
 obtain⟨Z,k⟩:=J ((Builtin.zeroCells (E.cells z).toArray (n-i)).toList);have R:∀v∈Z,v.oneCell'=jm:=by
  intro v l;rw[k]at l;unfold Builtin.zeroCells at l;rw[Array.toList_map]at l;obtain⟨j,-,rfl⟩:=jS.1 l;have f:j%(E.cells z).toArray.size<(E.cells z).toArray.size:=qL _ (by rw[jK,E.len];exact E.pos);rw[getElem!_pos (E.cells z).toArray _ f];exact E.one z _ ao
 rw[<-k]at p;have aa:(n-i)*E.k=n*E.k-i*E.k:=Nat.sub_mul n i E.k;have ad:n*E.k<=c*E.k:=qk _ H;have au:i*E.k<=n*E.k:=qk _ (xj B);have j:(storeCells ⟨g,i*E.k,jc⟩ Z 0).run P W=.ok () (W.setRow g (a.toList.take (i*E.k)++Z++a.toList.drop (i*E.k+Z.length)).toArray):=
  run_storeCells_at (P:=P) g (i*E.k) E.t Z 0 a W x (by rw[p,f];omega) R
 refine⟨W.setRow g (a.toList.take (i*E.k)++Z++a.toList.drop (i*E.k+Z.length)).toArray,?_,⟨⟨by rw[E.flat_length,j9,<-h.len,qe Y],.inr ⟨g,c,(a.toList.take (i*E.k)++Z++a.toList.drop (i*E.k+Z.length)).toArray,I,u,jR _ _ _ _ _ _ x,by omega,K,?_,?_⟩⟩,by rw[j9,<-h.len,qe Y],iS h.bel u _,h.sz⟩⟩
 ·obtain⟨m,l⟩:∃m,n-i=m+1:=⟨n-i-1,by omega⟩
  have S:(xe (E.cells z).toArray).cells=(E.cells z).toArray:=I;intro s;rw[jM];rw[l]at k⊢;simp[Builtin.clear_,sA C,D,S,<-k,j]
 ·simp only[jK,jI,j9,xX,y,p]
  omega
 show List.take (i*E.k) (a.toList.take (i*E.k)++Z++a.toList.drop (i*E.k+Z.length))=_;rw[E.flat_take,<-M,xl,nv,List.take_append_of_le_length (by simp only[j9,y];omega),xl,Nat.min_self,qe Y]
end
theorem ee{p q:Prop}(k:q)(h:q->p:=by intro k;refine eD (v:=?_) (by rfl) ?_ ?_;rotate_left;(go_simp;with_reducible rfl);refine G ?_;exact k):p:=h k
end
section
variable{p:aJ->jF}{d:ar->jF}{a:jD jj}{F b:jb}{t:jh->Prop}
open Go.RowKit Go.Maps Go.Sort
theorem Du{P:jX}(t e:jJ)(k:jb)(b:P.underlying t=ja (.slice e))(d:∀w,(sizeOf e).run P w=.ok k w)(g o n c l:jb)(f:l<=n)(i:n<=c):
 ∃a,(0<n-l->a=⟨g,o+l*k,jc⟩)/\∀W,(Instr.sliceAt t (jg (ja ⟨g,o,jc⟩) n c) (ja (T A (l:N))) jc jc).run P W=.ok (jg (ja a) (n-l) (c-l)) W:=by
 have he:P.elem t=e:=by simp[Program.elem,b]
 refine⟨if c=l then⟨g,o,jc⟩else⟨g,o+l*k,jc⟩,λh=>by rw[jy Y],λW=>?_⟩;rw[run_sliceAt_slice W t _ _ _ _ (by rw[he];exact b),run_slice_l W t _ n c (by rw[he];exact b) .i64 _ Y Y,he];simp[d,Result.andThen,sliced,Addr.add]
 by_cases h:c=l
 ·simp[h]
 simp[h]
theorem Fx{P:jX}(t e:jJ)(k:jb)(a:P.underlying t=ja (.slice e))(b:∀w,(sizeOf e).run P w=.ok k w)(g o n c h:jb)(d:h<=c)(W:jh):
 (Instr.sliceAt t (jg (ja ⟨g,o,jc⟩) n c) jc (ja (T A (h:N))) jc).run P W=.ok (jg (ja ⟨g,o,jc⟩) h c) W:=by
 have he:P.elem t=e:=by simp[Program.elem,a]
 rw[run_sliceAt_slice W t _ _ _ _ (by rw[he];exact a),run_slice_h W t _ n c (by rw[he];exact a) .i64 _ Y Y,he];simp[b,Result.andThen,sliced,Addr.add]
section
variable {α:Type}
structure fS(E:EK α)(F:jb)(caps:jD jj)(a:jb)(b:jh->Prop)(p:α->jF):Prop where
 enter:∀args w,(o8 F args).run jl w=.ok (.enter F args) w
 keep:∀w w',a<=w.heap.size->b w->jk a w w'->b w'
 call:∀x w,a<=w.heap.size->b w->jq jl F (#[jn (E.cells x).toArray]++caps) w λe w'=>e=jp (.bool (p x))/\jk w w w'
def m0(p:α->jF)(l:jd α)(r:N):Prop:=(r= -1/\∀x∈l,p x=ji)\/∃(k:jb) (x:α),r=k/\l[k]?=ja x/\p x=jm/\∀y∈l.take k,p y=ji
theorem m0.any{p:α->jF}{l:jd α}{r:N}(h:m0 p l r):decide (0<=r)=l.any p:=by
 rcases h with⟨rfl,h⟩|⟨k,x,rfl,a,b,d⟩
 ·have:l.any p=ji:=by rw[qt];intro x c;rw[h x c];simp
  rw[this];decide
 have:l.any p=jm:=xi.2 ⟨x,j1 a,b⟩;rw[this];simp
theorem wK{p:α->jF}{l:jd α}(h:∀x∈l,p x=ji):l.filter (λx=> !p x)=l:=
 List.filter_eq_self.2 λx a=>by rw[h x a];rfl
end
def En:ar:=⟨0,0,0,0,0⟩
def EM:EK aJ:=⟨aJ.cells,3,100,by decide,λ_=>rfl,λx v a=>by simp[aJ.cells]at a;rcases a with rfl|rfl|rfl<;>rfl⟩
def EC:EK ar:=⟨ar.cells,5,55,by decide,λ_=>rfl,λx v a=>by simp[ar.cells]at a;rcases a with rfl|rfl|rfl|rfl|rfl<;>rfl⟩
theorem L8:(jl.info? 100).map (·.size)=ja 3:=by kernel_rfl
theorem O1:(jl.info? 55).map (·.size)=ja 5:=by kernel_rfl
theorem Cv:(jl.info? 100).map (λi=>(i.zero,i.size,i.bytes))=ja (ja (jn #[T A 0,T A 0,T A 0]),3,24):=by kernel_rfl
theorem QX:(jl.info? 55).map (λi=>(i.zero,i.size,i.bytes))=ja (ja (jn #[T A 0,T A 0,T A 0,T A 0,T A 0]),5,40):=by kernel_rfl
theorem oC{P:jX}{t:jJ}{z:jj}(h:(P.info? t).map (λi=>(i.zero,i.size,i.bytes))=ja (ja z,F,b)):∃i,P.info? t=ja i/\i.zero=ja z/\i.size=F/\i.bytes=b:=by
 cases hi:P.info? t with
 |none=>rw[hi]at h;cases h
 |some i=>
  rw[hi]at h;simp only[xd,Option.some.injEq,Prod.mk.injEq]at h;exact⟨i,I,h.1,h.2.1,h.2.2⟩
theorem zZ(caps:fS EM F a b t p)(l:jd aJ)(v:jj)(w:jh)(h:EM.At w v l)(d:t w)(g:b<=w.heap.size)(K:l.length<=1000000):
 jq jl 96 #[v,.func (.func F) #[] a] w λe w'=>∃r,e=jp (T A r)/\m0 p l r/\jk w w w':=by
 obtain⟨q,c,rfl,M,-⟩:=h.form;have u:=O h;have EG:=caps.enter;have z:=O caps;have P:=O d;have f:=O g;obtain⟨n,s⟩:=J l.length;have B:=O s;rw[<-s]at K M u⊢;clear h s caps d g
 go_enter func96,ntmps96
 go_wp2_with fail
 go_loopw [8] (λi wr=>∃k:jb,i=T A k/\k<=n/\jf (∀y∈l.take k,p y=ji)/\jf (jk w w wr)) (λi _=>n-(jv i).toNat)
 case atStart=>exact⟨0,I,j5 _,O ao,O (jH _ _)⟩
 obtain⟨k,rfl,hk,i,caps⟩:=hrel
 by_cases Q:k<n
 ·have R:=az ((k:N)<(n:N))
  have S:=az (k<n);obtain⟨e,he,x⟩:=dK (l:=l) (j:=k) (by rw[<-B];exact Q);obtain⟨g,o,rfl,d⟩:=(u.cells).2.2 Y;have s:=O (z.call e wr (jL f caps.size) (z.keep _ _ f.out P (caps.mono f)));obtain⟨r,m⟩:=J (p e);rw[<-m]at s;have C:=O m;have U:=O x;have V:=O he;obtain⟨D,E,H⟩:=e;have W:wr.cell? ⟨g,o+k*3,jc⟩=ja (T A D):=aC (d k _ he 0 _ I) caps;have X:wr.cell? ⟨g,o+k*3+1,jc⟩=ja (T A E):=aC (d k _ he 1 _ I) caps;have c2:wr.cell? ⟨g,o+k*3+2,jc⟩=ja (T A H):=aC (d k _ he 2 _ I) caps;replace s:jf (jq jl F (#[jn #[T A D,T A E,T A H]]++a) wr λe w'=>e=jp (.bool r)/\jk wr wr w'):=s;clear d he x m
  go_wp2_with fail
  refine(s).mono ?_;rintro x w1 ⟨rfl,d⟩;have m:=aj caps d;clear d s W X c2
  rcases r with _|_
  ·go_wp2_with fail
   exact⟨⟨k+1,by go_num,by omega,O (by
    rw[U];intro y s
    rcases o1.1 s with s|s
    ·exact i y s
    rw[qv]at s;rw[s];exact C.symm),m⟩,by simp only[jv];omega⟩
  go_wp2_with fail
  go_ret;exact⟨_,I,.inr ⟨k,_,I,V,C.symm,i⟩,m⟩
 have R:=aw ((k:N)<(n:N));have S:=aw (k<n);obtain rfl:k=n:=Y
 go_wp2_with fail
 go_ret;exact⟨_,I,.inl ⟨I,by have h:=i.out;rw[jU (by rw[<-B];exact ju _)]at h;exact h⟩,caps⟩
theorem Aq(i:fS EM F a b t p)(l:jd aJ)(v:jj)(w:jh)(h:EM.At w v l)(c:t w)(d:b<=w.heap.size)(f:l.length<=1000000):
 jq jl 57 #[v,.func (.func F) #[] a] w λe w'=>e=jp (.bool (l.any p))/\jk w w w':=by
 have g:=O (zZ i l v w h c d f);clear h c d f
 go_enter func57,ntmps57
 go_wp2_with fail
 refine(g).mono ?_;rintro x j ⟨r,rfl,c,d⟩;have f:=O c.any;have h:=O d;clear c d g
 go_wp2_with fail
 go_ret;exact⟨iC f,h⟩
theorem PF(l:jd aJ)(v:jj)(w:jh)(d:EM.At w v l)(q:l.length<=1000000):
 jq jl 43 #[v] w λe w'=>∃h,e=jp h/\w'.ownsRow w EM.t EM.k h l.length (EM.flat l)/\jk w w w':=by
 obtain⟨p,c,rfl,r,i⟩:=d.form;obtain⟨s,t,u,x,y⟩:=oC Cv;have E:∀(w:jh) (a:jP j6) (n c n' f:jb),(binOp .eql 24 (jg a n c) (jg jc n' f)).run jl w=.ok (.bool a.isNone) w:=λw a n c n' f=>Lib.run_eql_slice_nil w _ _ a n c n' f qD
 rcases p with _|a
 ·have j:=i I
  have b:l.length=0:=Y;have g:l=[]:=xY.1 b;subst g
  go_enter func43,ntmps43
  go_wp2_with fail
  go_ret;exact⟨_,I,ms _ _ _ _,jH _ _⟩
 obtain⟨n,j⟩:=J l.length;have b:=O (d.below (ap w (je #[] EM.t)));have g:=O (xZ (base:=w.heap.size) (size:=EM.k) (e:=EM.t) w #[] 0 (ju _) (by unfold oj;omega) ao);have k:=O (ap w (je #[] EM.t));unfold EK.At at b;rw[<-j]at r q b⊢;clear d j i
 go_enter func43,ntmps43
 go_wp2_with (at_builtin;refine Hid.out ?_)
 refine O ?_;refine j3 I λ_ i=>?_
 refine IW _ _ 24 I w.heap.size 100 s (jn #[T A 0,T A 0,T A 0]) 3 24 qD t u x y I L _ _ _ I g _ _ _ I b (EM.flat_one' _) (by unfold oj;omega) Y (by rw[j7];omega) ?_;intro z m d o;have B:jf (m.ownsRow w EM.t EM.k z n (EM.flat l)):=O (by rw[jM]at d;exact d);have C:jf (jk w w m):=O (k.grown o (by rw[j7];omega) (λj D=>by have:=(g.lt j D).1;omega));clear d o g k b;refine i _ _ ?_;clear i
 go_wp2_with fail
 go_ret;exact⟨_,I,B,C⟩
theorem N8(caps:fS EM F a b t p)(l:jd aJ)(g n c:jb)(w:jh)(h:dw EM b w w g n c l)(d:t w)(hl:n<=1000000):
 jq jl 42 #[jg (ja ⟨g,0,jc⟩) n c,.func (.func F) #[] a] w λe w'=>∃n',e=jp (jg (ja ⟨g,0,jc⟩) n' c)/\dw EM b w w' g n' c (l.filter λx=> !p x):=by
 have i:=O h;have j:=O (zZ caps l (jg (ja ⟨g,0,jc⟩) n c) w h.at d h.sz (by rw[<-h.len];exact hl));have a1:=h.cap;have C:=O h.len;have EG:=caps.enter;have HP:=O caps;have a2:=O d;have U9:=O h.sz;clear h caps d
 go_enter func42,ntmps42
 go_wp2_with fail
 refine(j).mono ?_;rintro e w1 ⟨r,rfl,o,f⟩;have au:=O (i.later f);clear f j i
 rcases o with⟨rfl,ax⟩|⟨k,e,rfl,he,d,i⟩
 ·have caps:=O (wK ax)
  clear ax
  go_wp2_with fail
  go_ret;exact⟨_,I,by rw[caps];exact au⟩
 have a3:k<n:=by rw[C];exact(qf.1 he).1
 have a4:jf (l.take k=(l.take (k+1)).filter (λx=> !p x)):=O (by
  obtain⟨m,caps,q⟩:=dK (l:=l) (j:=k) (by rw[<-C];exact a3);rw[he]at caps;injection caps with caps
  subst caps;rw[q,qw,wK i,r7 (by rw[d];simp),qx,n0])
 have bd:decide ((k:N)= -1)=ji:=by simp
 have hd2:((k:N)== -1)=ji:=by simp
 clear he d i
 go_wp2_with fail
 go_loopw [5,6] (λm caps wr=>∃(i j:jb) (d:jd aJ),m=T A i/\caps=T A j/\i<j/\j<=n/\jf (d.take i=(l.take j).filter (λx=> !p x))/\jf (d.drop j=l.drop j)/\jf (dw EM b w wr g n c d)) (λ_ caps _=>n-(jv caps).toNat)
 case atStart=>exact⟨k,k+1,l,I,by go_num,by omega,by omega,a4,O rfl,au⟩
 obtain⟨i,j,d,rfl,rfl,a5,hj,B,M,m⟩:=hrel
 by_cases Q:j<n
 case neg=>
  obtain rfl:j=n:=Y;have hd:=decide_eq_false (show ¬((j:N)<(j:N)) by omega);have UN:=decide_eq_false Q;obtain⟨E,s,z⟩:=Du (P:=jl) 24 100 3 qD sizeOf100 g 0 j c i Y a1;rw[s Y,jM]at z;have H:=Fx (P:=jl) 24 100 3 qD sizeOf100 g 0 j c i Y;obtain⟨v,caps,u⟩:=m.clear (P:=jl) a5 24 100 qD de zeroValue100;rw[jM]at caps;have D:jf (dw EM b w v g i c (l.filter λx=> !p x)):=O (by
   have y:=B.out;rw[jU (l:=l) (by rw[<-C];exact ju _)]at y;rw[<-y];exact u)
  replace caps:∀y,(Builtin.clear_ #[24] y #[jg (ja ⟨g,i*3,jc⟩) (j-i) (c-i)]).run jl wr=.ok (jE #[]) v:=caps;clear u s
  go_wp2_with fail
  go_ret;exact⟨_,I,D⟩
 have hd:=jO (show((j:N)<(n:N)) by omega);have UN:=jO Q;obtain⟨e,he,q⟩:=dK (l:=l) (j:=j) (by rw[<-C];exact Q);have D:d[j]?=ja e:=by
  have h:=js (λz:jd aJ=>z[0]?) M;simp only[yl,xm]at h;rw[h];exact he
 have R:d.drop (j+1)=l.drop (j+1):=by
  have h:=js (List.drop 1) M;rw[r8,r8]at h;exact h
 have a6:i<n:=Y;have ba:=m.len;have z:jf (p e=jm->d.take i=(l.take (j+1)).filter (λx=> !p x)):=O λS=>by
  rw[q,qw,r7 (by rw[S];simp),qx,n0];exact B
 have E:jf (p e=ji->(d.set i e).take (i+1)=(l.take (j+1)).filter (λx=> !p x)):=O λS=>by
  rw[q,qw,yn (by rw[S];rfl),qx,<-B,qo (by rw[r6];omega),AA,wq (ju _)]
 have ay:jf ((d.set i e).drop (j+1)=l.drop (j+1)):=O (by rw[wt Y];exact R);have Yv:=O R;obtain⟨ga,oa,U,H⟩:=(m.at.cells).2.2 Y;injection U with U
 injection U with bb bc
 subst bb;subst bc;have V:=ap wr (je (EM.cells e).toArray 100);have X:=jw wr (je (EM.cells e).toArray 100);obtain⟨r,o⟩:=J (p e);have K:jf (∀W,b<=W.heap.size->t W->jq jl F (#[jn (EM.cells e).toArray]++a) W λx w'=>x=jp (.bool r)/\jk W W w'):=O (by rw[o];exact HP.call e);have HR:=O o;obtain⟨B0,aa⟩:∃y:aJ,y=e:=⟨_,I⟩;have ad:=O aa;rw[<-aa]at z E ay HR V X;have HA:=O V;have caps:=O X;obtain⟨s,v,u⟩:=e;have c0:wr.cell? ⟨g,j*3,jc⟩=ja (T A s):=by have h:=H j _ D 0 _ I;rw[jM]at h;exact h
 have c1:wr.cell? ⟨g,j*3+1,jc⟩=ja (T A v):=by have h:=H j _ D 1 _ I;rw[jM]at h;exact h
 have c2:wr.cell? ⟨g,j*3+2,jc⟩=ja (T A u):=by have h:=H j _ D 2 _ I;rw[jM]at h;exact h
 replace K:jf (∀W,b<=W.heap.size->t W->jq jl F (#[jn #[T A s,T A v,T A u]]++a) W λx w'=>x=jp (.bool r)/\jk W W w'):=K;clear he q D R ba B M H o V X aa
 go_upto_region 8 with fail
 obtain⟨B,f⟩:=J wr.heap.size;have M:wr.alloc (je #[T A s,T A v,T A u] 100)=wr.alloc (je (EM.cells B0).toArray 100):=by rw[ad];rfl
 rw[M,<-f];rw[<-f]at caps;obtain⟨H,R⟩:=J (wr.alloc (je (EM.cells B0).toArray 100));rw[<-R]at HA caps⊢;have D:=O (m.later HA);have aa:B<H.heap.size:=(jG.1 caps).1;have ba:g≠B:=by have:=m.lt;omega
 have V:=O (HP.keep _ _ U9.out a2 D.bel);have W:jf (b<=H.heap.size):=O (jL U9 D.bel.size);rw[ad]at caps;replace caps:jf (H.heap[B]?=ja (je #[T A s,T A v,T A u] 100 (0,0))):=caps;have X:=ah (i:=0) caps I;have b1:=ah (i:=1) caps I;have b2:=ah (i:=2) caps I;clear M f R m HA c0 c1 c2
 go_wp2_with fail
 refine(K _ W.out V).mono ?_;rintro x R ⟨rfl,f⟩;have M:=O (D.later f);have m:=O ((f.block B aa).trans caps);clear K D caps f V W X b1 b2
 cases r with
 |true=>
  have caps:=O (z HR.symm);clear z E
  go_wp2_with fail
  exact⟨⟨i,j+1,d,I,by go_num,by omega,by omega,caps,Yv,M⟩,by simp only[jv];omega⟩
 |false=>
  have caps:=O (E HR.symm);clear z E;have X:=ah (i:=0) m I;have b1:=ah (i:=1) m I;have b2:=ah (i:=2) m I;have hd3:=jO (show((i:N)<(n:N)) by omega)
  go_wp2_with (refine j3 I λ_ f=>Dc 100 _ _ I M a6 ⟨s,v,u⟩ L8 (by rw[jM];rfl) I λz D E K=>f _ _ ?_)
  have f:jf (dw EM b w z g n c (d.set i B0)):=O (by rw[ad];exact D);exact⟨⟨i+1,j+1,d.set i B0,by go_num,by go_num,by omega,by omega,caps,ay,f⟩,by simp only[jv];omega⟩
theorem AY(caps:fS EC F a b t d)(l:jd ar)(v:jj)(w:jh)(h:EC.At w v l)(p:t w)(g:b<=w.heap.size)(P:l.length<=1000000):
 jq jl 95 #[v,.func (.func F) #[] a] w λe w'=>∃r,e=jp (T A r)/\m0 d l r/\jk w w w':=by
 obtain⟨q,c,rfl,Q,-⟩:=h.form;have u:=O h;have EG:=caps.enter;have z:=O caps;have R:=O p;have f:=O g;obtain⟨n,s⟩:=J l.length;have B:=O s;rw[<-s]at P Q u⊢;clear h s caps p g
 go_enter func95,ntmps95
 go_wp2_with fail
 go_loopw [8] (λi wr=>∃k:jb,i=T A k/\k<=n/\jf (∀y∈l.take k,d y=ji)/\jf (jk w w wr)) (λi _=>n-(jv i).toNat)
 case atStart=>exact⟨0,I,j5 _,O ao,O (jH _ _)⟩
 obtain⟨k,rfl,hk,i,caps⟩:=hrel
 by_cases S:k<n
 ·have U:=az ((k:N)<(n:N))
  have V:=az (k<n);obtain⟨e,he,x⟩:=dK (l:=l) (j:=k) (by rw[<-B];exact S);obtain⟨g,o,rfl,s⟩:=(u.cells).2.2 Y;have p:=O (z.call e wr (jL f caps.size) (z.keep _ _ f.out R (caps.mono f)));obtain⟨r,m⟩:=J (d e);rw[<-m]at p;have C:=O m;have W:=O x;have X:=O he;obtain⟨D,E,H,K,M⟩:=e;have c0:wr.cell? ⟨g,o+k*5,jc⟩=ja (T A D):=aC (s k _ he 0 _ I) caps;have c1:wr.cell? ⟨g,o+k*5+1,jc⟩=ja (T A E):=aC (s k _ he 1 _ I) caps;have c2:wr.cell? ⟨g,o+k*5+2,jc⟩=ja (T A H):=aC (s k _ he 2 _ I) caps;have c3:wr.cell? ⟨g,o+k*5+3,jc⟩=ja (T A K):=aC (s k _ he 3 _ I) caps;have c4:wr.cell? ⟨g,o+k*5+4,jc⟩=ja (T A M):=aC (s k _ he 4 _ I) caps;replace p:jf (jq jl F (#[jn #[T A D,T A E,T A H,T A K,T A M]]++a) wr λe w'=>e=jp (.bool r)/\jk wr wr w'):=p;clear s he x m
  go_wp2_with fail
  refine(p).mono ?_;rintro x w1 ⟨rfl,s⟩;have m:=aj caps s;clear s p c0 c1 c2 c3 c4
  rcases r with _|_
  ·go_wp2_with fail
   exact⟨⟨k+1,by go_num,by omega,O (by
    rw[W];intro y s
    rcases o1.1 s with s|s
    ·exact i y s
    rw[qv]at s;rw[s];exact C.symm),m⟩,by simp only[jv];omega⟩
  go_wp2_with fail
  go_ret;exact⟨_,I,.inr ⟨k,_,I,X,C.symm,i⟩,m⟩
 have U:=aw ((k:N)<(n:N));have V:=aw (k<n);obtain rfl:k=n:=Y
 go_wp2_with fail
 go_ret;exact⟨_,I,.inl ⟨I,by have h:=i.out;rw[jU (by rw[<-B];exact ju _)]at h;exact h⟩,caps⟩
theorem Bs(i:fS EC F a b t d)(l:jd ar)(v:jj)(w:jh)(h:EC.At w v l)(c:t w)(p:b<=w.heap.size)(f:l.length<=1000000):
 jq jl 40 #[v,.func (.func F) #[] a] w λe w'=>e=jp (.bool (l.any d))/\jk w w w':=by
 have g:=O (AY i l v w h c p f);clear h c p f
 go_enter func40,ntmps40
 go_wp2_with fail
 refine(g).mono ?_;rintro x j ⟨r,rfl,c,p⟩;have f:=O c.any;have h:=O p;clear c p g
 go_wp2_with fail
 go_ret;exact⟨iC f,h⟩
theorem IE(l:jd ar)(v:jj)(w:jh)(d:EC.At w v l)(q:l.length<=1000000):
 jq jl 79 #[v] w λe w'=>∃h,e=jp h/\w'.ownsRow w EC.t EC.k h l.length (EC.flat l)/\jk w w w':=by
 obtain⟨p,c,rfl,r,i⟩:=d.form;obtain⟨s,t,u,x,y⟩:=oC QX;have E:∀(w:jh) (a:jP j6) (n c n' f:jb),(binOp .eql 30 (jg a n c) (jg jc n' f)).run jl w=.ok (.bool a.isNone) w:=λw a n c n' f=>Lib.run_eql_slice_nil w _ _ a n c n' f qE
 rcases p with _|a
 ·have j:=i I
  have b:l.length=0:=Y;have g:l=[]:=xY.1 b;subst g
  go_enter func79,ntmps79
  go_wp2_with fail
  go_ret;exact⟨_,I,ms _ _ _ _,jH _ _⟩
 obtain⟨n,j⟩:=J l.length;have b:=O (d.below (ap w (je #[] EC.t)));have g:=O (xZ (base:=w.heap.size) (size:=EC.k) (e:=EC.t) w #[] 0 (ju _) (by unfold oj;omega) ao);have k:=O (ap w (je #[] EC.t));unfold EK.At at b;rw[<-j]at r q b⊢;clear d j i
 go_enter func79,ntmps79
 go_wp2_with (at_builtin;refine Hid.out ?_)
 refine O ?_;refine j3 I λ_ i=>?_
 refine IW _ _ 30 I w.heap.size 55 s (jn #[T A 0,T A 0,T A 0,T A 0,T A 0]) 5 40 qE t u x y I L _ _ _ I g _ _ _ I b (EC.flat_one' _) (by unfold oj;omega) Y (by rw[j7];omega) ?_;intro z m d o;have B:jf (m.ownsRow w EC.t EC.k z n (EC.flat l)):=O (by rw[jM]at d;exact d);have C:jf (jk w w m):=O (k.grown o (by rw[j7];omega) (λj D=>by have:=(g.lt j D).1;omega));clear d o g k b;refine i _ _ ?_;clear i
 go_wp2_with fail
 go_ret;exact⟨_,I,B,C⟩
theorem MN(caps:fS EC F a b t d)(l:jd ar)(g n c:jb)(w:jh)(h:dw EC b w w g n c l)(p:t w)(hl:n<=1000000):
 jq jl 78 #[jg (ja ⟨g,0,jc⟩) n c,.func (.func F) #[] a] w λe w'=>∃n',e=jp (jg (ja ⟨g,0,jc⟩) n' c)/\dw EC b w w' g n' c (l.filter λx=> !d x):=by
 have i:=O h;have j:=O (AY caps l (jg (ja ⟨g,0,jc⟩) n c) w h.at p h.sz (by rw[<-h.len];exact hl));have a1:=h.cap;have H:=O h.len;have EG:=caps.enter;have HP:=O caps;have a2:=O p;have U9:=O h.sz;clear h caps p
 go_enter func78,ntmps78
 go_wp2_with fail
 refine(j).mono ?_;rintro e w1 ⟨r,rfl,s,f⟩;have au:=O (i.later f);clear f j i
 rcases s with⟨rfl,ax⟩|⟨k,e,rfl,he,p,i⟩
 ·have caps:=O (wK ax)
  clear ax
  go_wp2_with fail
  go_ret;exact⟨_,I,by rw[caps];exact au⟩
 have a3:k<n:=by rw[H];exact(qf.1 he).1
 have a4:jf (l.take k=(l.take (k+1)).filter (λx=> !d x)):=O (by
  obtain⟨m,caps,E⟩:=dK (l:=l) (j:=k) (by rw[<-H];exact a3);rw[he]at caps;injection caps with caps
  subst caps;rw[E,qw,wK i,r7 (by rw[p];simp),qx,n0])
 have bd:decide ((k:N)= -1)=ji:=by simp
 have hd2:((k:N)== -1)=ji:=by simp
 clear he p i
 go_wp2_with fail
 go_loopw [5,6] (λm caps wr=>∃(i j:jb) (p:jd ar),m=T A i/\caps=T A j/\i<j/\j<=n/\jf (p.take i=(l.take j).filter (λx=> !d x))/\jf (p.drop j=l.drop j)/\jf (dw EC b w wr g n c p)) (λ_ caps _=>n-(jv caps).toNat)
 case atStart=>exact⟨k,k+1,l,I,by go_num,by omega,by omega,a4,O rfl,au⟩
 obtain⟨i,j,p,rfl,rfl,a5,hj,B,R,m⟩:=hrel
 by_cases S:j<n
 case neg=>
  obtain rfl:j=n:=Y;have hd:=decide_eq_false (show ¬((j:N)<(j:N)) by omega);have UN:=decide_eq_false S;obtain⟨C,o,y⟩:=Du (P:=jl) 30 55 5 qE sizeOf55 g 0 j c i Y a1;rw[o Y,jM]at y;have D:=Fx (P:=jl) 30 55 5 qE sizeOf55 g 0 j c i Y;obtain⟨q,caps,u⟩:=m.clear (P:=jl) a5 30 55 qE En zeroValue55;rw[jM]at caps;have z:jf (dw EC b w q g i c (l.filter λx=> !d x)):=O (by
   have v:=B.out;rw[jU (l:=l) (by rw[<-H];exact ju _)]at v;rw[<-v];exact u)
  replace caps:∀v,(Builtin.clear_ #[30] v #[jg (ja ⟨g,i*5,jc⟩) (j-i) (c-i)]).run jl wr=.ok (jE #[]) q:=caps;clear u o
  go_wp2_with fail
  go_ret;exact⟨_,I,z⟩
 have hd:=jO (show((j:N)<(n:N)) by omega);have UN:=jO S;obtain⟨e,he,E⟩:=dK (l:=l) (j:=j) (by rw[<-H];exact S);have o:p[j]?=ja e:=by
  have h:=js (λz:jd ar=>z[0]?) R;simp only[yl,xm]at h;rw[h];exact he
 have U:p.drop (j+1)=l.drop (j+1):=by
  have h:=js (List.drop 1) R;rw[r8,r8]at h;exact h
 have a6:i<n:=Y;have ba:=m.len;have K:jf (d e=jm->p.take i=(l.take (j+1)).filter (λx=> !d x)):=O λV=>by
  rw[E,qw,r7 (by rw[V];simp),qx,n0];exact B
 have M:jf (d e=ji->(p.set i e).take (i+1)=(l.take (j+1)).filter (λx=> !d x)):=O λV=>by
  rw[E,qw,yn (by rw[V];rfl),qx,<-B,qo (by rw[r6];omega),AA,wq (ju _)]
 have ay:jf ((p.set i e).drop (j+1)=l.drop (j+1)):=O (by rw[wt Y];exact U);have Yv:=O U;obtain⟨ga,oa,X,q⟩:=(m.at.cells).2.2 Y;injection X with X
 injection X with bb bc
 subst bb;subst bc;have hA:=ap wr (je (EC.cells e).toArray 55);have hX:=jw wr (je (EC.cells e).toArray 55);obtain⟨r,s⟩:=J (d e);have Q:jf (∀W,b<=W.heap.size->t W->jq jl F (#[jn (EC.cells e).toArray]++a) W λx w'=>x=jp (.bool r)/\jk W W w'):=O (by rw[s];exact HP.call e);have HR:=O s;obtain⟨B0,aa⟩:∃y:ar,y=e:=⟨_,I⟩;have ad:=O aa;rw[<-aa]at K M ay HR hA hX;have HA:=O hA;have caps:=O hX;obtain⟨u,v,z,C,D⟩:=e;have c0:wr.cell? ⟨g,j*5,jc⟩=ja (T A u):=by have h:=q j _ o 0 _ I;rw[jM]at h;exact h
 have c1:wr.cell? ⟨g,j*5+1,jc⟩=ja (T A v):=by have h:=q j _ o 1 _ I;rw[jM]at h;exact h
 have c2:wr.cell? ⟨g,j*5+2,jc⟩=ja (T A z):=by have h:=q j _ o 2 _ I;rw[jM]at h;exact h
 have c3:wr.cell? ⟨g,j*5+3,jc⟩=ja (T A C):=by have h:=q j _ o 3 _ I;rw[jM]at h;exact h
 have c4:wr.cell? ⟨g,j*5+4,jc⟩=ja (T A D):=by have h:=q j _ o 4 _ I;rw[jM]at h;exact h
 replace Q:jf (∀W,b<=W.heap.size->t W->jq jl F (#[jn #[T A u,T A v,T A z,T A C,T A D]]++a) W λx w'=>x=jp (.bool r)/\jk W W w'):=Q;clear he E o U ba B R q s hA hX aa
 go_upto_region 8 with fail
 obtain⟨B,f⟩:=J wr.heap.size;have R:wr.alloc (je #[T A u,T A v,T A z,T A C,T A D] 55)=wr.alloc (je (EC.cells B0).toArray 55):=by rw[ad];rfl
 rw[R,<-f];rw[<-f]at caps;obtain⟨q,U⟩:=J (wr.alloc (je (EC.cells B0).toArray 55));rw[<-U]at HA caps⊢;have o:=O (m.later HA);have aa:B<q.heap.size:=(jG.1 caps).1;have ba:g≠B:=by have:=m.lt;omega
 have W:=O (HP.keep _ _ U9.out a2 o.bel);have Vh:jf (b<=q.heap.size):=O (jL U9 o.bel.size);rw[ad]at caps;replace caps:jf (q.heap[B]?=ja (je #[T A u,T A v,T A z,T A C,T A D] 55 (0,0))):=caps;have b0:=ah (i:=0) caps I;have b1:=ah (i:=1) caps I;have b2:=ah (i:=2) caps I;have b3:=ah (i:=3) caps I;have b4:=ah (i:=4) caps I;clear R f U m HA c0 c1 c2 c3 c4
 go_wp2_with fail
 refine(Q _ Vh.out W).mono ?_;rintro x U ⟨rfl,m⟩;have R:=O (o.later m);have f:=O ((m.block B aa).trans caps);clear Q o caps m W Vh b0 b1 b2 b3 b4
 cases r with
 |true=>
  have caps:=O (K HR.symm);clear K M
  go_wp2_with fail
  exact⟨⟨i,j+1,p,I,by go_num,by omega,by omega,caps,Yv,R⟩,by simp only[jv];omega⟩
 |false=>
  have caps:=O (M HR.symm);clear K M;have b0:=ah (i:=0) f I;have b1:=ah (i:=1) f I;have b2:=ah (i:=2) f I;have b3:=ah (i:=3) f I;have b4:=ah (i:=4) f I;have hd3:=jO (show((i:N)<(n:N)) by omega)
  go_wp2_with (refine j3 I λ_ m=>Dc 55 _ _ I R a6 ⟨u,v,z,C,D⟩ O1 (by rw[jM];rfl) I λo K M Q=>m _ _ ?_)
  have m:jf (dw EC b w o g n c (p.set i B0)):=O (by rw[ad];exact K);exact⟨⟨i+1,j+1,p.set i B0,by go_num,by go_num,by omega,by omega,caps,ay,m⟩,by simp only[jv];omega⟩
end

def Und(n a:N):Prop:=1<=a/\∃j:jb,n/2^j=a
noncomputable def lE(n a:N):jF:=by classical exact decide (Und n a)
theorem ui{B:N}(h:Und d B):lE d B=jm:=by unfold lE;simpa using h
theorem Ex{B:N}(h:¬Und d B):lE d B=ji:=by unfold lE;simpa using h
theorem z6(n a:N):lE n a=jm↔Und n a:=by unfold lE;simp
theorem rS(h:1<=d):Und d d:=⟨h,0,by simp⟩
theorem Ce:(bG t d).isSome=jm↔∃e∈t,e.1=d:=by
 unfold bG;rw[Option.isSome_map,List.find?_isSome];simp
theorem Cj:∀(k n:jb),1<=n->n<2^k->∀x:jb,(x∈n::(upL k n).map gV↔1<=x/\∃j,n/2^j=x)
 |0,n,d,c,x=>by simp at c;omega
 |k+1,n,d,c,x=>by
  by_cases g:1<n
  ·obtain⟨i,e,h,l⟩:=Ep g c
   obtain rfl:i=k:=Y;have m:=Cj i (n/2) Y l x;rw[h,qJ,jT,show gV n=n/2 from I,m];have f:∀j,n/2^(j+1)=n/2/2^j:=λj=>by rw[Nat.pow_succ,qN,AB]
   constructor
   ·rintro(rfl|⟨b,j,a⟩)
    ·exact⟨d,0,by simp⟩
    exact⟨b,j+1,by rw[f];exact a⟩
   rintro⟨b,j,a⟩
   cases j with
   |zero=>exact .inl (ak a.symm)
   |succ j=>exact .inr ⟨b,j,by rw[<-f];exact a⟩
  have e:n=1:=Y;rw[FF Y];subst e;simp only[List.map_nil,qv]
  constructor
  ·rintro rfl;exact⟨by omega,0,rfl⟩
  rintro⟨b,j,a⟩;have:1/2^j<=1:=Nat.div_le_self _ _;omega
theorem pj(d:N)(b:0<=d)(g:d<512)(x:N):x∈(512+d)::bW d↔Und (512+d) x:=by
 obtain⟨n,rfl⟩:=qd b;have h:=Cj 10 (512+n) Y Y;have e:(512+(n:N))::bW (n:N)=((512+n)::(upL 10 (512+n)).map gV).map λm:jb=>(m:N):=by
  simp[bW,kE]
 rw[e];simp only[jS,h];have c:∀j:jb,(512+(n:N))/2^j=(((512+n)/2^j:jb):N):=λj=>by
  rw[xn];push_cast;rfl
 unfold Und
 constructor
 ·rintro⟨y,⟨f,j,a⟩,rfl⟩
  exact⟨by omega,j,by rw[c,a]⟩
 rintro⟨f,j,a⟩;refine⟨(512+n)/2^j,⟨?_,j,I⟩,by rw[<-c];exact a⟩;rw[c]at a;omega
theorem FK(a:jd N)(x:N):x∈fM a↔∃d∈a,x∈(512+d)::bW d:=by
 unfold fM;rw[xW]
def oy(t:jd (N×N))(a:N):Prop:=∃e∈t,512<=e.1/\Und e.1 a
def rC(t:jd (N×N))(i:jb):Prop:=
 (t.getD i (0,0)).1<1\/1023<(t.getD i (0,0)).1\/(0<i/\(t.getD i (0,0)).1<=(t.getD (i-1) (0,0)).1)\/¬bL (t.getD i (0,0)).2\/¬oy t (t.getD i (0,0)).1
theorem N4(h:d∈fM (cA t)):oy t d:=by
 obtain⟨a,b,c⟩:=(FK _ _).1 h;obtain⟨f,g,e,i,j⟩:=(oH _ _).1 b;exact⟨e,i,by omega,by rw[j];exact(pj a f g d).1 c⟩
theorem Ov(a:b<t.length)(h:rC t b):df t=210:=by
 refine nU (U:=fM (cA t)) I a ?_
 rcases h with h|h|h|h|h
 ·exact .inl h
 ·exact .inr (.inl h)
 ·exact .inr (.inr (.inl h))
 ·exact .inr (.inr (.inr (.inl h)))
 exact .inr (.inr (.inr (.inr (λi=>h (N4 i)))))
theorem PP(h:∀i,i<t.length->¬rC t i):df t=0:=by
 refine B5 (U:=fM (cA t)) I (λi d a=>?_);have b:=h i d
 rcases a with a|a|a|a|a
 ·exact b (.inl a)
 ·exact b (.inr (.inl a))
 ·exact b (.inr (.inr (.inl a)))
 ·exact b (.inr (.inr (.inr (.inl a))))
 refine b (.inr (.inr (.inr (.inr ?_))));rintro⟨e,he,m,f⟩;obtain⟨k,c,rfl⟩:=qs he;have g:=h k c;have j:t.getD k (0,0)=t[k]:=by simp[jQ,c]
 have n:¬1023<t[k].1:=λl=>g (.inr (.inl (by rw[j];exact l)))
 refine a ((FK _ _).2 ⟨t[k].1-512,(oH _ _).2 ⟨by omega,by omega,t[k],he,by omega⟩,?_⟩);refine(pj _ Y Y _).2 ?_;rw[show 512+(t[k].1-512)=t[k].1 by omega];exact f
noncomputable def dI(t:jd (N×N))(d:N):jd (N×N):=t.filter λe=> !lE (512+d) e.1
def en(z:N×N):jd (N×N)->jd (N×N)
 |[]=>[z]
 |x::r=>if z.1<x.1 then z::x::r else x::en z r
theorem H4(z:N×N):∀l,(en z l).length=l.length+1
 |[]=>rfl
 |x::r=>by
  unfold en
  split
  ·rfl
  simp[H4 z r]
theorem Qk(t:jd (N×N))(v:jj)(w:jh)(d:bJ w v t)(g:t.length<=oj):
 jq jl 22 #[jn #[v]] w λe w'=>e=jp (.bool (decide (t.length<=80)))/\jk w w w':=by
 obtain⟨p,c,rfl,i,-,-,-⟩:=d;have b:=O ((jH _ w).alloc (ju _) (je #[jg p t.length c] 27))
 by_cases h:t.length<=80
 ·have f:=az ((t.length:N)<=80)
  have a:=O (jO h);generalize t.length=n at*
  go_enter func22,ntmps22
  go_wp2
  go_ret;exact⟨by rw[a];rfl,b⟩
 have f:=aw ((t.length:N)<=80);have a:=O (decide_eq_false h);generalize t.length=n at*
 go_enter func22,ntmps22
 go_wp2
 go_ret;exact⟨by rw[a];rfl,b⟩
theorem G3{s t:jd j}{x y:j}(h:s.take b=t.take b)(a:s.take (b+1)=s.take b++[x])(k:t.take (b+1)=t.take b++[y])(c:x=y):s.take (b+1)=t.take (b+1):=by
 rw[a,k,h,c]
theorem zX{s t:jd j}{x y:j}(h:s.take b=t.take b)(k:s.take (b+1)=s.take b++[x])(a:t.take (b+1)=t.take b++[y])(c:x≠y):s≠t:=by
 rintro rfl;rw[k]at a;exact c (ak a)
theorem Ly(s t:jd (N×N))(E v:jj)(w:jh)(Q:bJ w E s)(R:bJ w v t)(S:s.length<=1000000)(U:t.length<=1000000):
 jq jl 56 #[jn #[E],jn #[v]] w λe w'=>e=jp (.bool (decide (s=t)))/\jk w w w':=by
 obtain⟨p,c,rfl,V,-,d,f⟩:=Q;obtain⟨j,l,rfl,W,-,i,k⟩:=R;have b:jk w w ((w.alloc (je #[jg p s.length c] 27)).alloc (je #[jg j t.length l] 27)):=((jH _ w).alloc (ju _) _).alloc ao _;have X:=O d;have aa:=O f;have UJ:=O i;have ad:=O k;obtain⟨F,a⟩:=J ((w.alloc (je #[jg p s.length c] 27)).alloc (je #[jg j t.length l] 27));have g:F.cell? ⟨w,0,jc⟩=ja (jg p s.length c):=by rw[a];unfold qy;rw[xQ _ _ _ ao,jw];rfl
 have o:F.cell? ⟨w.heap.size+1,0,jc⟩=ja (jg j t.length l):=by
  rw[a];unfold qy;have h:=jw (w.alloc (je #[jg p s.length c] 27)) (je #[jg j t.length l] 27);rw[j7]at h;rw[h];rfl
 clear d f i k
 go_enter func56,ntmps56
 go_upto_region 1 with fail
 rw[<-a]at b⊢;have H:=O b;obtain⟨n,d⟩:=J s.length;obtain⟨m,f⟩:=J t.length;have x:=O d;have y:=O f;rw[<-d]at V S g⊢;rw[<-f]at W U o⊢;clear a b d f
 by_cases z:n=m
 case neg=>
  have a:((n:N)==(m:N))=ji:=by simp;omega
  have hd2:=aw ((n:N)=(m:N));have hd3:decide (n=m)=ji:=ak z;have d:jf (decide (s=t)=ji):=O (decide_eq_false (λh=>z (by rw[x,y,h])));clear z
  go_wp2_with fail
  go_ret;exact⟨by rw[d];rfl,H⟩
 subst z
 go_wp2_with fail
 go_loopw [5] (λi wr=>∃k:jb,i=T A k/\k<=n/\jf (s.take k=t.take k)/\jf (jk w w wr)/\wr.cell? ⟨w,0,jc⟩=ja (jg p n c)/\wr.cell? ⟨w.heap.size+1,0,jc⟩=ja (jg j n l)) (λi _=>n-(jv i).toNat)
 case atStart=>exact⟨0,I,j5 _,O I,H,g,o⟩
 obtain⟨k,rfl,hk,B,f,au,ax⟩:=hrel;clear g o
 by_cases K:k<n
 ·have hd:=az ((k:N)<(n:N))
  have UN:=az (k<n);obtain⟨g,o,rfl,i⟩:=X.out (by rw[<-x];omega);obtain⟨g2,o2,rfl,u⟩:=UJ.out (by rw[<-y];omega);obtain⟨a,q,ay,a1,-,-,-,M,-⟩:=tM i aa.out (by rw[<-x];exact K) f;obtain⟨b,r,a2,a3,-,-,-,P,-⟩:=tM u ad.out (by rw[<-y];exact K) f;have C:=O M;have D:=O P;clear i u M P
  by_cases i:a=b
  case neg=>
   have d:jf (decide (s=t)=ji):=O (decide_eq_false (zX B C D (λh=>i (by cases h;rfl))));have M:(a==b)=ji:=ak i;have P:decide (a=b)=ji:=ak i;clear i
   go_upto_region 6 with fail
   go_quiet (fail)
   go_wp2_with fail
   go_ret;exact⟨by rw[d];rfl,f.trans ⟨rfl,rfl,rfl,ju _,λ_ _=>rfl⟩⟩
  subst i
  by_cases u:q=r
  case neg=>
   have d:jf (decide (s=t)=ji):=O (decide_eq_false (zX B C D (λh=>u (by cases h;rfl))));have M:(q==r)=ji:=ak u;have P:decide (q=r)=ji:=ak u;clear u
   go_upto_region 6 with fail
   go_quiet (fail)
   go_wp2_with fail
   go_ret;exact⟨by rw[d];rfl,f.trans ⟨rfl,rfl,rfl,ju _,λ_ _=>rfl⟩⟩
  subst u;have M:=O (G3 B C D I)
  go_upto_region 6 with fail
  go_quiet (fail)
  go_wp2_with fail
  exact⟨⟨k+1,by go_num,by omega,M,O (f.trans ⟨rfl,rfl,rfl,ju _,λ_ _=>rfl⟩),au,ax⟩,by simp only[jv];omega⟩
 have hd:=aw ((k:N)<(n:N));have UN:=aw (k<n);obtain rfl:k=n:=Y;have d:jf (decide (s=t)=jm):=O (jO (by
  have h:=B.out;rw[jU (by rw[<-x];exact ju _),jU (by rw[<-y];exact ju _)]at h;exact h))
 go_wp2_with fail
 go_ret;exact⟨by rw[d];rfl,f⟩
theorem Jb{H:jb}(e:∀j,j<r.length->w.cell? ⟨b,o+j,jc⟩=ja (T A (r.getD j 0)))(g:H<r.length)(f:jk w w h):
 ∃a,h.cell? ⟨b,o+H,jc⟩=ja (T A a)/\r.getD H 0=a/\r.take (H+1)=r.take H++[a]:=by
 have c:=e H g;have d:r.getD H 0=r[H]:=by simp[jQ,g]
 exact⟨r[H],by rw[<-d];exact cJ c (f.block b (eN c)),d,qo g⟩
theorem nJ(w:jh):bJ w (jg jc 0 0) []:=⟨jc,0,I,ju _,λ_=>rfl,λh=>jB h ao,λx h=>by cases h⟩
theorem rc{e:N×N}:∀{l:jd (N×N)},e∈en z l->e=z\/e∈l
 |[],h=>by left;simpa [en]using h
 |x::r,h=>by
  unfold en at h
  split at h
  ·rcases jT.1 h with h|h
   ·exact .inl h
   exact .inr h
  rcases jT.1 h with h|h
  ·exact .inr (h▸qO ..)
  rcases rc h with h|h
  ·exact .inl h
  exact .inr (xo _ h)
noncomputable def kU(t:jd (N×N))(d x:N):jd (N×N):=if gK t d x=0 then en (512+d,x) (dI t d)else []
noncomputable def kK(t:jd (N×N))(d:N):jd (N×N):=if dF t d jm=0 then dI t d else []
theorem zh(h:∀e∈t,aO e.1/\aO e.2):∀e∈dI t d,aO e.1/\aO e.2:=λe he=>h e (AC.1 he).1

def eY(t:jd (N×N))(d:N)(l:jd N):jb->N->jP N
 |0,y=>if y=512+d then ja (l.getD 0 0)else gL (bG t) ((512+d)::bW d) y
 |k+1,y=>if y=(bW d).getD k 0 then ja (l.getD (k+1) 0)else eY t d l k y
theorem Cp:∀k y,(eY t d r k y).isSome=jm->y∈(512+d)::((qH k).map λj=>(bW d).getD j 0)++t.map (·.1)
 |0,y,h=>by
  unfold eY at h
  split at h
  ·rename_i e;rw[e];simp
  obtain⟨v,a⟩:=AX.1 h;simp only[o1,jT,jS];exact .inr ⟨_,oL (rT a).1,I⟩
 |k+1,y,h=>by
  unfold eY at h
  split at h
  ·rename_i e
   simp only[o1,jT,jS,r5];exact .inl (.inr ⟨k,by omega,e.symm⟩)
  have:=Cp k y h;simp only[o1,jT,jS,r5]at this⊢
  rcases this with(h1|⟨j,h1,h2⟩)|h1
  ·exact .inl (.inl h1)
  ·exact .inl (.inr ⟨j,by omega,h2⟩)
  exact .inr h1
theorem Sd{xs:jd N}(h:lf (eY t d r b) xs):xs.length<=t.length+b+1:=by
 have a:xs⊆(512+d)::((qH b).map λj=>(bW d).getD j 0)++t.map (·.1):=λy k=>Cp b y (h.2.1 y k).2
 have:=h.1.length_le_of_subset a;simp at this;omega
theorem Ch(b:∀e∈t,aO e.1/\aO e.2)(a:∀j,aO (r.getD j 0)):∀k y v,aO y->eY t d r k y=ja v->aO v
 |0,y,v,_,h=>by
  unfold eY at h
  split at h
  ·cases h;exact a 0
  exact(b _ (oL (rT h).1)).2
 |k+1,y,v,c,h=>by
  unfold eY at h
  split at h
  ·cases h;exact a (k+1)
  exact Ch b a k y v c h
theorem aZ.no_cell{u F:jJ}{E:EKind P F j}{f:N->jP j}(h:aZ E u w b o f){α:jb}{v:jj}:w.cell? ⟨b,α,jc⟩≠ja v:=by
 obtain⟨D,⟨c,d,a,_⟩,_⟩:=h;unfold qy;rw[a];simp
noncomputable def eZ(t:jd (N×N))(d:N)(l:jd N):N:=by classical exact if dF t d jm=0 then(if l.length=10/\iA l then 0 else 50)else dF t d jm
def MR(t:jd (N×N))(d:N)(l:jd N)(w:jh)(E:N)(e:Ending)(w':jh):Prop:=
 jk w w w'/\(E≠0->e=jp (jE #[jn #[jg jc 0 0],T A E]))/\
 (E=0->∃v xs,e=jp (jE #[jn #[v],T A 0])/\lf (eY t d l 9) xs/\bJ w' v (dH (eY t d l 9) (xs.mergeSort leI))/\Fr w.heap.size v)
theorem J3(t:jd (N×N))(v:jj)(d:N)(l:jd N)(a3:jj)(w:jh)(b:bJ w v t)(g:t.length<=900000)(i:aO d)(hu:dh w a3 l)(k:l.length<=1000000)(m:∀j,aO (l.getD j 0)):
 jq jl 37 #[jn #[v],T A d,a3] w λe w'=>MR t d l w (eZ t d l) e w':=by
 have n:∀e∈t,aO e.1/\aO e.2:=by obtain⟨p,c,-,-,-,-,h⟩:=b;exact h
 obtain⟨pl,cl,rfl,ax,o⟩:=hu;have u:jk w w ((w.alloc (je #[v] 27)).alloc (je #[jg jc 0 0] 27)):=((jH _ w).alloc (ju _) _).alloc ao _;have S:=O (An t v d jm ((w.alloc (je #[v] 27)).alloc (je #[jg jc 0 0] 27)) (b.below u) Y i);have C:jA ((w.alloc (je #[v] 27)).alloc (je #[jg jc 0 0] 27)) (w.heap.size+1) 27 (jg jc 0 0):=by
  have h:=jw (w.alloc (je #[v] 27)) (je #[jg jc 0 0] 27);rw[j7]at h;exact h
 have bg:=O n;have X:=O g;have VE:=O o;have ay:=O m;have VA:=O k;obtain⟨E,f⟩:=J (dF t d jm);have HE:=O f;rw[<-f]at S;clear b g f n i o m k
 go_enter func37,ntmps37
 go_wp2_with fail
 obtain⟨W0,b⟩:=J ((w.alloc (je #[v] 27)).alloc (je #[jg jc 0 0] 27));rw[<-b]at S C u⊢;clear b;refine S.mono ?_;rintro e g ⟨aa,a1,a2⟩;have m:jA g (w.heap.size+1) 27 (jg jc 0 0):=(aa.block _ C.lt).trans C;have D:=O (u.trans (aa.mono u.size));have UO:=O m;have bw:w.heap.size+1<g.heap.size:=m.lt
 by_cases o:E=0
 ·obtain⟨b,p,c,rfl,i,f,F⟩:=a2 o
  have HM:=O f;have bA:w.heap.size+1<b:=qg C.lt i;have bh:=zg (HE.symm.trans o);have HZ:jf (aO (512+d)):=O (aO.of (x:=512+d) Y);have WH:Bm.wrap (512+d)=512+d:=by rw[IntKind.wrap_i64];omega
  have YB:=O F;have H:jf (∀z,(l.length=10/\iA l->z=0)->(¬(l.length=10/\iA l)->z=50)->eZ t d l=z):=O (λz k n=>by
   unfold eZ;rw[jt (HE.symm.trans o)]
   by_cases h:l.length=10/\iA l
   ·rw[jt h,k h]
   rw[jy h,n h])
  subst o;obtain⟨d0,d1⟩:=bh;have bi:b<g.heap.size:=f.lt;clear a1 a2 aa u C m S f i F
  by_cases r:l.length=10
  ·obtain⟨f,U,rfl,i⟩:=VE Y
   have Vx:=O i;have bk:jf (dh g (jg (ja ⟨f,U,jc⟩) l.length cl) l):=O ⟨_,cl,I,ax,λ_=>⟨f,U,I,λj K=>cJ (i j K) (D.block f (eN (i j K)))⟩⟩;have a4:=O (TI l _ g bk VA);have V:=O r;rw[r]at a4 ax⊢;clear i r
   go_wp2_with fail
   refine a4.mono ?_;rintro e n ⟨bB,rfl,ad,i⟩;have Wq:jf (jA n (w.heap.size+1) 27 (jg jc 0 0)):=O ((i.block _ Y).trans UO);have VN:=O (HM.below i bi);have bl:=i.size;have W:=aj D i;have bm:=O (i);clear i
   by_cases M:iA l
   ·obtain rfl:=ad.1 M
    have s:=O (H 0 (λ_=>rfl) (λh=>jB ⟨V,M⟩ h));clear ad M;have Yy:jf (∀j,j<10->n.cell? ⟨f,U+j,jc⟩=ja (T A (l.getD j 0))):=O λj K=>cJ (Vx j (by rw[V];exact K)) (W.block f (eN (Vx j (by rw[V];exact K))))
    have bC:f<w.heap.size:=eN (Vx 0 (by rw[V];omega));have bI:n.cell? ⟨f,U,jc⟩=ja (T A (l.getD 0 0)):=Yy 0 Y;have Wp:=O (tW d d0 d1);have bn:=O (Ah d d0 d1);have bK:f<n.heap.size:=Y;have q:g.ownsRow W0 3 1 (jg p 9 c) (bW d).length ((bW d).map (jo .i64)):=by rw[Wp];exact YB
    obtain⟨p',c',a5,-,i⟩:=pM q;rw[Wp]at a5 i
    cases a5
    obtain⟨P,rfl,bM,bo,k⟩:=i Y;have UJ:=O k;have a6:P≠b:=λe=>by have h:=k 0 Y;rw[e]at h;exact aZ.no_cell HM h
    clear q i k
    go_wp2_with (at_mapUpdate;refine oD (E:=dO nn) I _ _ _ 160 I nn underlying160 b _ _ I VN (by have:=X.out;unfold oj;omega) (512+d) I HZ (l.getD 0 0) I (ay 0) ?_;intro Q ba ZK;have Wx:=O ba;have ZU:=O ZK;have Ws:=ZK.grown.size;clear ba ZK)
    have Uu:jf (jk w w Q):=O (W.grown ZU.grown (cV W.size) (λj e=>by cases e;omega));have bp:jf (aZ (dO nn) 3 Q b (t.length+1+0) (eY t d l 0)):=O Wx;have bN:n.heap.size<=Q.heap.size:=Ws;have bO:g.heap.size<=n.heap.size:=bl
    go_wp2_with fail
    go_loopw [39] (λi wr=>∃j:jb,i=T A j/\j<=9/\jf (aZ (dO nn) 3 wr b (t.length+1+j) (eY t d l j))/\jf (jk w w wr)/\jf (∀k,k<Q.heap.size->k≠b->wr.heap[k]?=Q.heap[k]?)/\Q.heap.size<=wr.heap.size) (λi _=>9-(jv i).toNat)
    case atStart=>exact⟨0,I,j5 _,bp,Uu,O (λ_ _ _=>rfl),ju _⟩
    obtain⟨j,rfl,K,bb,WP,au,bT⟩:=hrel
    by_cases bc:j<9
    ·have bq:=az ((j:N)<9)
     have cy:wr.cell? ⟨P,j,jc⟩=ja (T A ((bW d).getD j 0)):=cJ (cJ (cJ (UJ j bc) (bm.block P bo)) (ZU.grown.block P Y (ak a6))) (au P Y a6);have cz:wr.cell? ⟨f,U+(j+1),jc⟩=ja (T A (l.getD (j+1) 0)):=cJ (cJ (Yy (j+1) Y) (ZU.grown.block f Y (by simp;omega))) (au f Y Y);have q:j<(bW d).length:=by rw[Wp];exact bc
     have bd:(bW d).getD j 0=(bW d)[j]:=by simp[jQ,q]
     have bf:jf (0<=(bW d).getD j 0/\(bW d).getD j 0<1024):=O (by rw[bd];exact bn _ (qK q));obtain⟨y,R⟩:=J ((bW d).getD j 0);obtain⟨z,i⟩:=J (l.getD (j+1) 0);rw[<-R]at cy bf;rw[<-i]at cz;have br:jf (aO y):=O (aO.of (x:=y) (aI bf));have bs:jf (aO z):=O (by rw[i];exact ay _);have HY:=O R;have bu:=O i;have b0:P<wr.heap.size:=Y;have b1:f<wr.heap.size:=Y;clear q bd R i
     go_wp2_with (at_mapUpdate;refine oD (E:=dO nn) I _ _ _ 160 I nn underlying160 b _ _ I bb (by have:=X.out;unfold oj;omega) y I br z I bs ?_;intro w5 q i;have bv:=O q;have bd:=O i;have R:=i.grown.size;clear q i)
     refine⟨⟨j+1,by go_num,by omega,O ?_,O (WP.grown bd.grown (cV WP.size) (λj e=>by cases e;omega)),O λk hk R=>(bd.grown.block k Y (ak R)).trans (au k hk R),by omega⟩,by simp only[jv];omega⟩;refine aZ.congr bv (λx _=>?_);show(if x=y then ja z else eY t d l j x)=eY t d l (j+1) x;rw[HY,bu]
     rfl
    have bq:=aw ((j:N)<9);obtain rfl:j=9:=Y;have Wj:jf (jA wr (w.heap.size+1) 27 (jg jc 0 0)):=O ((au _ Y Y).trans ((ZU.grown.block _ Y (by simp;omega)).trans Wq));have br:w.heap.size+1<wr.heap.size:=Y
    go_wp2_with fail
    refine(BB b (t.length+1+9) (eY t d l 9) wr bb (aI X) (λxs h=>jL (Sd h) (aI X)) (Ch bg ay 9)).mono ?_;rintro e w4 ⟨v',xs,rfl,bd,⟨F,bf⟩,i⟩;obtain⟨q,k,rfl⟩:=va F;have y:jf (jA w4 (w.heap.size+1) 27 (jg jc 0 0)):=O ((i.block _ br).trans Wj);have UB:=aj WP i;have Yz:=O bd;have Vd:=O F;have bs:=O bf;have z:=y.cell;have cf:=y.frozen;clear bd F bf i
    go_wp2_with fail
    have YP:=O (qT w4 (w.heap.size+1) (jg q (dH (eY t d l 9) (xs.mergeSort leI)).length k));have i:=(Boxed.set (jg q (dH (eY t d l 9) (xs.mergeSort leI)).length k) y).cell;refine qh (v:=jE #[jn #[jg q (dH (eY t d l 9) (xs.mergeSort leI)).length k],T A 0]) (by simp[results,sB,go_sem,i]) I ?_;refine⟨UB.grown YP (cV UB.size) (λj e=>by cases e;omega),λh=>jB s h,λ_=>⟨_,xs,I,Yz,?_,(Fr.of_own Vd).mono Y⟩⟩;exact zI (B:=wr.heap.size) (ownsRow_setCell_below Vd (a:=⟨w.heap.size+1,0,jc⟩) (by show w.heap.size+1<wr.heap.size;omega) _) bs
   obtain rfl:=ad.2 M;have s:=O (H 50 (λh=>jB h.2 M) (λ_=>rfl));have z:=Wq.cell;have cf:=Wq.frozen;have i:=(Boxed.set (jg jc 0 0) Wq).cell;clear ad M
   go_wp2_with fail
   refine qh (v:=jE #[jn #[jg jc 0 0],T A 50]) (by simp[results,sB,go_sem,i]) I ?_;exact⟨W.grown (qT n (w.heap.size+1) _) (cV W.size) (λj e=>by cases e;omega),λ_=>by rw[s],λh=>jB (s.symm.trans h) L⟩
  obtain⟨n,R⟩:=J l.length;rw[<-R]at ax r⊢;have f:=O R;have k:=aw ((n:N)=10);have hd2:=aw (n=10);have hd3:((n:N)!=10)=jm:=by simp;omega
  have s:=O (H 50 (λh=>jB (f.trans h.1) r) (λ_=>rfl));have V:=O r;have z:=UO.cell;have cf:=UO.frozen;have i:=(Boxed.set (jg jc 0 0) UO).cell;clear R r
  go_wp2_with fail
  refine qh (v:=jE #[jn #[jg jc 0 0],T A 50]) (by simp[results,sB,go_sem,i]) I ?_;exact⟨D.grown (qT g (w.heap.size+1) _) (cV D.size) (λj e=>by cases e;omega),λ_=>by rw[s],λh=>jB (s.symm.trans h) L⟩
 obtain rfl:=a1 o;have b:=aw (E=0);have z:=m.cell;have cf:=m.frozen;have i:=(Boxed.set (jg jc 0 0) m).cell;clear a1 a2 aa u C m S
 go_wp2_with fail
 have H:jf (eZ t d l=E):=O (by unfold eZ;rw[jy (by rw[<-HE];exact o)];exact HE.symm);refine qh (v:=jE #[jn #[jg jc 0 0],T A E]) (by simp[results,sB,go_sem,i]) I ?_;exact⟨D.grown (qT g (w.heap.size+1) _) (cV D.size) (λj e=>by cases e;omega),λ_=>by rw[H],λh=>jB (H.symm.trans h) o⟩
noncomputable def eL(t:jd (N×N))(d:N)(l:jd N):jb->jd (N×N)
 |0=>dI t d
 |k+1=>en ((512+d)/2^k,l.getD k 0) (eL t d l k)
noncomputable def gr(t:jd (N×N))(d:N)(l:jd N):jd (N×N):=if eZ t d l=0 then eL t d l 10 else []
theorem EN{k:jb}(a:0<=d)(b:d<512):0<=(512+d)/2^k/\(512+d)/2^k<=1023:=by
 have c:(0:N)<2^k:=by exact_mod_cast Nat.two_pow_pos k
 refine⟨Int.ediv_nonneg Y Y,?_⟩;have:(512+d)/2^k<=512+d:=Int.ediv_le_self _ Y;omega
theorem Eg(h:∀e∈t,aO e.1/\aO e.2)(a:∀j,aO (r.getD j 0))(b:0<=d)(c:d<512):∀k,∀e∈eL t d r k,aO e.1/\aO e.2
 |0,e,he=>zh h e he
 |k+1,e,he=>by
  unfold eL at he
  rcases rc he with rfl|he
  ·exact⟨aO.of (by have:=EN (k:=k) b c;omega),a k⟩
  exact Eg h a b c k e he
def Str(t:jd (N×N)):Prop:=t.Pairwise λa b=>a.1<b.1
def Wf(t:jd (N×N)):Prop:=∀e∈t,aO e.1/\aO e.2
theorem Str.keys(h:Str t):(t.map (·.1)).Pairwise (·<·):=xq.2 h
theorem mq(e:N×N)(t:jd (N×N))(x:N):bG (e::t) x=if e.1=x then ja e.2 else bG t x:=by
 unfold bG;rw[List.find?_cons]
 by_cases h:e.1=x
 ·simp[h]
 have a:(e.1==x)=ji:=ak h;simp[h,a]
theorem I4:∀{t:jd (N×N)},Str t->∀e∈t,bG t e.1=ja e.2
 |[],_,e,he=>by cases he
 |y::t,h,e,he=>by
  rw[mq];have a:=r9.1 h
  rcases jT.1 he with rfl|he
  ·rw[jt I]
  rw[jy (cV (a.1 e he))];exact I4 a.2 e he
theorem Cl(h:Str t):(t.map (·.1)).map (λx=>(x,(bG t x).getD 0))=t:=by
 rw[xr];have:∀e∈t,((λx=>(x,(bG t x).getD 0))∘(·.1)) e=id e:=λe he=>by
  simp only[Function.comp,I4 h e he,wi,id]
 rw[Bn this,List.map_id]
theorem vQ:(bG t d).isSome=jm↔d∈t.map (·.1):=by
 rw[Ce,jS]
theorem Oq{s:jd (N×N)}(b:Str t)(c:Str s)(d:Wf t)(f:Wf s)(h:∀x,aO x->bG t x=bG s x):t=s:=by
 have g:t.map (·.1)=s.map (·.1):=AI b.keys c.keys (λx=>by
  rw[<-vQ,<-vQ]
  constructor
  ·intro a
   obtain⟨e,he,rfl⟩:=jS.1 (vQ.1 a);rw[<-h _ (d e he).1];exact a
  intro a;obtain⟨e,he,rfl⟩:=jS.1 (vQ.1 a);rw[h _ (f e he).1];exact a)
 rw[<-Cl b,<-Cl c,<-g];refine Bn λx a=>?_
 obtain⟨e,he,rfl⟩:=jS.1 a;rw[h _ (d e he).1]
def fV(t:jd (N×N)):Prop:=Str t/\∀e∈t,1<=e.1/\e.1<=1023/\bL e.2/\oy t e.1
theorem si(a:b<t.length):t.getD b (0,0)=t[b]:=by simp[jQ,a]
theorem Oc(h:∀i,i+1<t.length->(t.getD i (0,0)).1<(t.getD (i+1) (0,0)).1):Str t:=by
 have key:∀j,j<t.length->∀i,i<j->(t.getD i (0,0)).1<(t.getD j (0,0)).1:=by
  intro j
  induction j with
  |zero=>intro _ i a;omega
  |succ j d=>
   intro b i a;have e:=h j b
   rcases CB (CF a)with c|c
   ·have:=d Y i c;omega
   rw[c];exact e
 unfold Str;rw[xt];intro i j a b c;have:=key j b i c
 rwa [si a,si b]at this
theorem lP(h:df t=0):fV t:=by
 have c:∀i,i<t.length->¬rC t i:=λi b c=>by rw[Ov b c]at h;exact jB h L
 refine⟨Oc (λi b=>?_),λe he=>?_⟩
 ·have:=c (i+1) b
  unfold rC at this;have d:¬(0<i+1/\(t.getD (i+1) (0,0)).1<=(t.getD (i+1-1) (0,0)).1):=λa=>this (.inr (.inr (.inl a)))
  rw[show i+1-1=i by omega]at d;omega
 obtain⟨i,b,rfl⟩:=qs he;have:=c i b;unfold rC at this;rw[si b]at this;refine⟨?_,?_,?_,?_⟩
 ·exact Classical.byContradiction λa=>this (.inl Y)
 ·exact Classical.byContradiction λa=>this (.inr (.inl Y))
 ·exact Classical.byContradiction λa=>this (.inr (.inr (.inr (.inl a))))
 exact Classical.byContradiction λa=>this (.inr (.inr (.inr (.inr a))))
theorem tx(h:fV t):df t=0:=by
 refine PP (λi b a=>?_);have c:=h.2 t[i] (qK b);unfold rC at a;rw[si b]at a
 rcases a with a|a|a|a|a
 ·omega
 ·omega
 ·have d:=(xt.1 h.1) (i-1) i Y b Y
  rw[si Y]at a;omega
 ·exact a c.2.2.1
 exact a c.2.2.2
theorem BE(t:jd (N×N))(d x:N):bG (dI t d) x=if lE (512+d) x=jm then jc else bG t x:=by
 induction t with
 |nil=>simp[dI,bG]
 |cons e t c=>
  unfold dI at c⊢;rw[List.filter_cons]
  by_cases b:lE (512+d) e.1=jm
  ·rw[jy (by simp[b]),c,mq]
   by_cases a:e.1=x
   ·rw[<-a,jt b,jt b]
   rw[jy a]
  rw[jt (by simp[b]),mq,mq,c]
  by_cases a:e.1=x
  ·rw[<-a,jt I,jy b,jt I]
  rw[jy a,jy a]
theorem uX:∀{t:jd (N×N)},(∀e∈t,e.1≠z.1)->∀x,bG (en z t) x=if x=z.1 then ja z.2 else bG t x
 |[],_,x=>by
  unfold en;rw[mq]
  by_cases h:x=z.1
  ·rw[jt h.symm,jt h]
  rw[jy (λb=>h b.symm),jy h]
 |e::t,h,x=>by
  unfold en
  split
  ·rw[mq]
   by_cases a:x=z.1
   ·rw[jt a.symm,jt a]
   rw[jy (λb=>a b.symm),jy a]
  rw[mq,mq,uX (λe he=>h e (xo _ he))];have b:=h e (qO ..)
  by_cases a:e.1=x
  ·rw[jt a,jt a,jy (by rw[<-a];exact b)]
  rw[jy a,jy a]
theorem sF(h:Str t)(d:N):Str (dI t d):=List.Pairwise.filter _ h
theorem vM:∀{t:jd (N×N)},Str t->(∀e∈t,e.1≠z.1)->Str (en z t)
 |[],_,_=>by unfold en Str;simp
 |e::t,c,h=>by
  have b:=r9.1 c;have f:=h e (qO ..);unfold en
  split
  ·rename_i d
   refine r9.2 ⟨λy a=>?_,c⟩
   rcases jT.1 a with rfl|a
   ·exact d
   have:=b.1 y a;omega
  refine r9.2 ⟨λy a=>?_,vM b.2 (λe he=>h e (xo _ he))⟩
  rcases rc a with rfl|a
  ·omega
  exact b.1 y a
theorem Ii(h:z∈dI t d):z∈t/\¬Und (512+d) z.1:=by
 unfold dI at h;obtain⟨b,a⟩:=AC.1 h;refine⟨b,λc=>?_⟩;rw[ui c]at a
 cases a
theorem sH{x:N}(a:Und (512+d) x):∀e∈dI t d,e.1≠x:=λe he h=>(Ii he).2 (by rw[h];exact a)
theorem JH(h:r.Nodup):Str (dH p (r.mergeSort leI)):=by
 have c:(r.mergeSort leI).Pairwise (·<·):=by
  have a:=yi r;have b:(r.mergeSort leI).Nodup:=(qP r leI).nodup_iff.2 h;exact(a.and b).imp λh=>by have:=h.1;have:=h.2;omega
 unfold Str dH;rw[xq];exact c
theorem Qv(a:jd N)(x:N):bG (dH p a) x=if x∈a then ja ((p x).getD 0)else jc:=by
 induction a with
 |nil=>rfl
 |cons y a b=>
  show bG ((y,(p y).getD 0)::dH p a) x=_;rw[mq,b]
  by_cases h:y=x
  ·subst h;simp
  have:¬x=y:=λc=>h c.symm
  simp[h,this]
theorem Rr(h:lf p r)(x:N)(b:aO x):bG (dH p (r.mergeSort leI)) x=p x:=by
 rw[Qv]
 by_cases a:x∈r
 ·rw[jt ((uS r x).2 a)]
  obtain⟨v,c⟩:=AX.1 (h.2.1 x a).2;rw[c];rfl
 rw[jy (λc=>a ((uS r x).1 c))]
 cases hf:p x with
 |none=>rfl
 |some v=>exact jB (h.2.2 x b (by rw[hf];rfl)) a
theorem pT(h:bJ w a t):Wf t:=by obtain⟨p,c,-,-,-,-,h⟩:=h;exact h
theorem AL(h:lf p r)(b:Wf (dH p (r.mergeSort leI))){t:jd (N×N)}(c:Str t)(d:Wf t)(e:∀x,aO x->p x=bG t x):dH p (r.mergeSort leI)=t:=
 Oq (JH h.1) c b d (λx a=>by rw[Rr h x a,e x a])
theorem yO(a:0<=d)(b:d<512)(x:N):gL (bG t) ((512+d)::bW d) x=bG (dI t d) x:=by
 rw[BE];unfold gL
 by_cases h:x∈(512+d)::bW d
 ·rw[jt h,jt (ui ((pj d a b x).1 h))]
 rw[jy h,jy (λc=>h ((pj d a b x).2 ((z6 _ _).1 c)))]
theorem KX{B:N}(a:0<=d)(b:d<512)(y:N):iR t d B y=bG (en (512+d,B) (dI t d)) y:=by
 rw[uX (sH (rS Y))];unfold iR
 by_cases h:y=512+d
 ·rw[jt h,jt h]
 rw[jy h,jy h];exact yO a b y
theorem Au{m:jF}(h:dF t d m=0):df t=0/\0<=d/\d<512:=by
 have a:=zg h;refine⟨?_,a.1,a.2⟩;unfold dF at h
 split at h
 ·assumption
 exact h
theorem rX(l:0<=d)(p:d<512){k:jb}(e:k<=9):1<=(512+d)/2^k/\∀j,j<k->(512+d)/2^k<(512+d)/2^j:=by
 obtain⟨n,rfl⟩:=qd l;have h:∀n:Fin 512,∀k:Fin 10,1<=(512+n.val)/2^k.val:=by decide+kernel
 have c:∀j:jb,(512+(n:N))/2^j=(((512+n)/2^j:jb):N):=λj=>by
  rw[xn];push_cast;rfl
 have i:∀k,k<=9->1<=(512+n)/2^k:=λk e=>h ⟨n,by omega⟩ ⟨k,by omega⟩
 have m:∀k,(512+n)/2^(k+1)=(512+n)/2^k/2:=λk=>by rw[Nat.pow_succ,AB]
 have key:∀k,k<=9->∀j,j<k->(512+n)/2^k<(512+n)/2^j:=by
  intro k
  induction k with
  |zero=>intro _ j f;omega
  |succ k o=>
   intro e j f;have a:=i k Y;have b:=m k
   rcases CB (CF f)with g|g
   ·have:=o Y j g;omega
   rw[g];omega
 refine⟨by rw[c];have:=i k e;omega,λj f=>by rw[c,c];have:=key k e j f;omega⟩
theorem Ba(a:0<=d)(b:d<512){k:jb}(c:k<=9):Und (512+d) ((512+d)/2^k):=⟨(rX a b c).1,k,I⟩
theorem J8{B:N}(b:0<=d)(c:d<512)(h:Und (512+d) B):∃k,k<=9/\B=(512+d)/2^k:=by
 obtain⟨e,j,a⟩:=h;refine⟨j,?_,a.symm⟩
 rcases qj 9 j with h|h
 ·have f:(512+d)/2^j=0:=by
   have g:(1024:N)<=2^j:=by
    have:=Nat.pow_le_pow_right (n:=2) L (show 10<=j from h)
    exact_mod_cast this
   exact Int.ediv_eq_zero_of_lt Y Y
  omega
 exact h
theorem L6(a:0<=d)(c:d<512){k:jb}(f:k<9):(bW d).getD k 0=(512+d)/2^(k+1):=by
 obtain⟨n,rfl⟩:=qd a;have h:∀n:Fin 512,∀k:Fin 9,(kE n.val).getD k.val 0=(512+n.val)/2^(k.val+1):=by decide+kernel
 have b:=h ⟨n,by omega⟩ ⟨k,f⟩;have g:=tW (n:N) a c;have e:bW (n:N)=(kE n).map λm:jb=>(m:N):=by simp[bW]
 have i:k<(kE n).length:=by rw[e,jC]at g;omega
 rw[e];simp only[jQ,j8,mz i,xd,wi]at b⊢;rw[b,xn];push_cast;rfl
theorem AD:∀{k:jb} {e:N×N},e∈eL t d r k->e∈dI t d\/∃j,j<k/\e=((512+d)/2^j,r.getD j 0)
 |0,e,h=>.inl h
 |k+1,e,h=>by
  unfold eL at h
  rcases rc h with rfl|h
  ·exact .inr ⟨k,Nat.lt_succ_self _,I⟩
  rcases AD h with h|⟨j,a,h⟩
  ·exact .inl h
  exact .inr ⟨j,Nat.lt_succ_of_lt a,h⟩
theorem Er(a:0<=d)(b:d<512){k:jb}(c:k<=9):∀e∈eL t d r k,e.1≠(512+d)/2^k:=by
 intro e he
 rcases AD he with h|⟨j,f,rfl⟩
 ·exact sH (Ba a b c) e h
 have:=(rX a b c).2 j f;show(512+d)/2^j≠_;omega
theorem By(a:Str t)(b:0<=d)(c:d<512):∀{k:jb},k<=10->Str (eL t d r k)
 |0,_=>sF a d
 |k+1,e=>vM (By a b c Y) (Er b c Y)
theorem un(a:0<=d)(b:d<512){k:jb}(c:k<=9)(x:N):bG (eL t d r (k+1)) x=if x=(512+d)/2^k then ja (r.getD k 0)else bG (eL t d r k) x:=
 uX (Er a b c) x
theorem I7(a:0<=d)(b:d<512)(x:N):∀k,k<=9->eY t d r k x=bG (eL t d r (k+1)) x
 |0,c=>by
  rw[un a b c];unfold eY;simp only[Int.pow_zero,Int.ediv_one]
  by_cases h:x=512+d
  ·rw[jt h,jt h]
  rw[jy h,jy h];exact yO a b x
 |k+1,c=>by
  rw[un a b c];unfold eY;rw[L6 a b Y,I7 a b x k Y]
theorem SH(t:jd (N×N))(v:jj)(d x:N)(w:jh)(b:bJ w v t)(r:t.length<=800000)(i:aO d)(c:aO x):
 jq jl 94 #[jn #[v],T A d,T A x] w λe w'=>∃a,e=jp (jE #[jn #[a],T A (gK t d x)])/\bJ w' a (kU t d x)/\jk w w w':=by
 refine(TN t v d x w b Y i c).mono ?_;rintro e w' ⟨f,j,k⟩
 by_cases h:gK t d x=0
 ·obtain⟨a,xs,rfl,l,g⟩:=k h
  have m:dF t d ji=0:=by
   unfold gK at h
   split at h
   ·assumption
   exact h
  obtain⟨n,o,p⟩:=Au m;have q:=lP n;refine⟨a,by rw[h],?_,f⟩;unfold kU;rw[jt h,<-AL l (pT g) (vM (sF q.1 d) (sH (rS Y))) (λe he=>?_) (λy _=>KX o p y)]
  ·exact g
  rcases rc he with rfl|he
  ·exact⟨aO.of (by show -9223372036854775808<=512+d/\512+d<=9223372036854775807;omega),c⟩
  exact zh (pT b) e he
 refine⟨_,j h,?_,f⟩;unfold kU;rw[jy h];exact nJ _
theorem PR(t:jd (N×N))(v:jj)(d:N)(w:jh)(b:bJ w v t)(p:t.length<=800000)(g:aO d):
 jq jl 93 #[jn #[v],T A d] w λe w'=>∃a,e=jp (jE #[jn #[a],T A (dF t d jm)])/\bJ w' a (kK t d)/\jk w w w':=by
 refine(Kg t v d w b Y g).mono ?_;rintro e w' ⟨c,i,j⟩
 by_cases h:dF t d jm=0
 ·obtain⟨a,xs,rfl,k,f⟩:=j h
  obtain⟨l,m,n⟩:=Au h;have o:=lP l;refine⟨a,by rw[h],?_,c⟩;unfold kK;rw[jt h,<-AL k (pT f) (sF o.1 d) (zh (pT b)) (λy _=>yO m n y)];exact f
 refine⟨_,i h,?_,c⟩;unfold kK;rw[jy h];exact nJ _
theorem Pb(t:jd (N×N))(v:jj)(d:N)(l:jd N)(a:jj)(w:jh)(f:bJ w v t)(B:t.length<=800000)(k:aO d)(m:dh w a l)(n:l.length<=1000000)(g:∀j,aO (l.getD j 0)):
 jq jl 37 #[jn #[v],T A d,a] w λe w'=>∃x,e=jp (jE #[jn #[x],T A (eZ t d l)])/\(bJ w' x (gr t d l)/\Fr w.heap.size x)/\jk w w w':=by
 refine(J3 t v d l a w f Y k m n g).mono ?_;rintro e w' ⟨i,o,p⟩
 by_cases h:eZ t d l=0
 ·obtain⟨a,xs,rfl,q,j,r⟩:=p h
  have s:dF t d jm=0:=by
   unfold eZ at h
   split at h
   ·assumption
   exact h
  obtain⟨u,b,c⟩:=Au s;have z:=lP u;refine⟨a,by rw[h],⟨?_,r⟩,i⟩;unfold gr;rw[jt h,<-AL q (pT j) (By z.1 b c (ju 10)) (Eg (pT f) g b c 10) (λy _=>I7 b c y 9 Y)];exact j
 refine⟨_,o h,⟨?_,Fr.nil _⟩,i⟩;unfold gr;rw[jy h];exact nJ _
structure dC(g:Grp):Prop where
 fol:kp g.folder
 ep:0<=g.epoch/\g.epoch<=1099511627776
 tree:df g.tree=0
 zero:g.epoch=0->g.mem=[]/\g.last=jW 32 0#8
 dev:g.mem.map aJ.dev=cA g.tree
 ok:∀m∈g.mem,1<=m.since/\m.since<=g.epoch/\bL m.ver
def oS(x:ar):Prop:=fG x.d/\((x.k=1/\bL x.p/\bL x.v/\x.c=0)\/(x.k=2/\x.p=0/\x.v=0/\0<=x.c/\x.c<=1048576)\/(x.k=3/\bL x.p/\bL x.v/\0<=x.c/\x.c<=1048576))
structure eU(l:jd ar):Prop where
 each:∀x∈l,oS x
 once:(l.map ar.d).Nodup
 len:l.length<=64
structure gN(g:Grp)(a:N)(l:jd ar):Prop where
 own:cD g.mem a=decide (0<g.epoch)
 first:g.epoch=0->∃x r,l=x::r/\x.d=a
 each:∀x∈l,cD g.mem x.d=decide (x.k≠1)/\(cD g.mem a=jm->x.d≠a)
noncomputable def ik(t:jd (N×N))(x:ar):jd (N×N):=if x.k=2 then kK t x.d else kU t x.d x.p
noncomputable def aX(t:jd (N×N))(l:jd ar):jd (N×N):=l.foldl ik t
theorem Rc(t:jd (N×N))(l:jd ar)(x:ar):aX t (l++[x])=ik (aX t l) x:=by unfold aX;rw[List.foldl_append];rfl
theorem Oz(t:jd (N×N))(x:ar):(ik t x).length<=t.length+1:=by
 have a:∀d,(dI t d).length<=t.length:=λd=>D1 _ _
 unfold ik
 split
 ·unfold kK
  split
  ·have:=a x.d;omega
  simp
 unfold kU
 split
 ·have:=H4 (512+x.d,x.p) (dI t x.d);have:=a x.d;omega
 simp
theorem wP(t:jd (N×N)):∀l:jd ar,(aX t l).length<=t.length+l.length:=by
 intro l
 induction l generalizing t with
 |nil=>simp[aX]
 |cons x l a=>
  have b:=a (ik t x);have c:=Oz t x;show(aX (ik t x) l).length<=_;simp only[mb];omega
def kZ(a:N)(x:ar):jF:=decide (x.k=2)||decide (x.d=a)
def fh(l:jd ar):jd ar:=l.mergeSort λx y=>decide (x.d<=y.d)
def du(a:N)(l:jd ar):jd ar:=fh (l.filter λx=> !kZ a x)
def ig(a:N):jd N:=(nQ a.toNat).map λn:jb=>(n:N)
noncomputable def fw(t:jd (N×N))(l:jd N)(k:jb):jd (N×N):=(l.zipIdx k).flatMap λx=>(fb t x.1).map λn=>((x.2:N),n)
noncomputable def eo(t:jd (N×N))(a:N):jd (N×N):=fw t (ig a) 1
def dP(g:Grp)(a:N)(l:jd ar):N:=match g.mem.find? (λm=>m.dev==a)with
 |some m=>m.ver
 |none=>match l with|x::_=>x.v|[]=>0
structure mJ(c:Cmt):Prop where
 fol:kp c.folder
 ep:1<=c.epoch/\c.epoch<=1099511627776
 aut:fG c.author
 chg:eU c.chg
 plen:c.path.length=10
 blen:c.box.length<=1024
 wlen:c.wel.length<=512
 path:∀p∈c.path,bL p
 box:∀b∈c.box,1<=b.node/\b.node<1024/\1<=b.lev/\b.lev<=9/\mD b.u b.body.length
 wel:∀x∈c.wel,fG x.dev/\mD x.u x.body.length
 inc:∀i,0<i->i<c.wel.length->((c.wel.map Wl.dev).getD (i-1) 0)<((c.wel.map Wl.dev).getD i 0)
noncomputable def gW(c:Cmt):N:=by classical exact if mJ c then 0 else 220
theorem uy{y:Cmt}(h:mJ y):gW y=0:=by unfold gW;rw[jt h]
theorem fi{y:Cmt}(h:¬mJ y):gW y=220:=by unfold gW;rw[jy h]
noncomputable def dt(g:Grp)(a:N)(l:jd ar):N:=by classical exact if dC g then(if eU l/\gN g a l then 0 else 221)else 1
noncomputable def dT(g:Grp)(a:N)(l:jd ar):jd (N×N):=if dt g a l=0 then eo (aX g.tree l) a else []
theorem lC:dt e d f=0↔dC e/\eU f/\gN e d f:=by
 unfold dt
 by_cases h:dC e
 ·rw[jt h]
  by_cases b:eU f/\gN e d f
  ·rw[jt b];exact⟨λ_=>⟨h,b⟩,λ_=>rfl⟩
  rw[jy b];exact⟨λg=>jB g L,λg=>jB g.2 b⟩
 rw[jy h];exact⟨λg=>jB g L,λg=>jB g.1 h⟩
def aD(g:Grp)(vm vt:jj):jd jj:=T A g.folder::T A g.epoch::(g.last.map v8++[vm,vt])
structure bH(w:jh)(g:Grp)(vm vt:jj):Prop where
 mem:EM.At w vm g.mem
 tree:bJ w vt g.tree
 llen:g.last.length=32
theorem bH.below{g:Grp}(h:bH w g vm vt)(a:jk w w w'):bH w' g vm vt:=⟨h.mem.below a,h.tree.below a,h.llen⟩
theorem eX(h:e.last.length=32):(aD e a m).length=36:=by unfold aD;simp[h]
structure dy(w:jh)(b:jb)(g:Grp)(vm vt:jj):Prop where
 blk:w.heap[b]?=ja (je (aD g vm vt).toArray 29 (0,0))
 llen:g.last.length=32
theorem dy.new(w:jh){g:Grp}{vm vt:jj}(h:g.last.length=32):dy (w.alloc (je (aD g vm vt).toArray 29)) w.heap.size g vm vt:=⟨jw w _,h⟩
theorem dy.lt(h:dy w b e a m):b<w.heap.size:=(jG.1 h.blk).1
theorem dy.keep{g:Grp}(h:dy w b g vm vt)(a:w'.heap[b]?=w.heap[b]?):dy w' b g vm vt:=⟨a.trans h.blk,h.llen⟩
theorem dy.below{g:Grp}(h:dy w b g vm vt)(a:jk w w w'):dy w' b g vm vt:=h.keep (a.block b h.lt)
theorem dy.get(h:dy w b e a m){i:jb}{v:jj}(vm:(aD e a m)[i]?=ja v):w.cell? ⟨b,i,jc⟩=ja v:=
 ah h.blk (ak vm)
theorem lQ{g:Grp}(h:g.last.length=32):(aD g vm vt)[0]?=ja (T A g.folder)/\(aD g vm vt)[1]?=ja (T A g.epoch)/\(aD g vm vt)[34]?=ja vm/\(aD g vm vt)[35]?=ja vt:=by
 have a:(g.last.map v8).length=32:=by rw[jC];exact h
 unfold aD;refine⟨I,I,?_,?_⟩
 ·show(g.last.map v8++[vm,vt])[32]?=_
  rw[xu Y,a];rfl
 show(g.last.map v8++[vm,vt])[33]?=_;rw[xu Y,a];rfl
theorem dy.at{g:Grp}(h:dy w b g vm vt):w.cell? ⟨b,0,jc⟩=ja (T A g.folder)/\w.cell? ⟨b,1,jc⟩=ja (T A g.epoch)/\w.cell? ⟨b,34,jc⟩=ja vm/\w.cell? ⟨b,35,jc⟩=ja vt:=
 have e:=lQ (vm:=vm) (vt:=vt) h.llen
 ⟨h.get e.1,h.get e.2.1,h.get e.2.2.1,h.get e.2.2.2⟩
theorem dy.last{g:Grp}(h:dy w b g vm vt):w.rangeAt b 2 (g.last.map v8):=by
 intro j v a;have c:=(qf.1 a).1;refine h.get ?_;unfold aD;rw[show 2+j=j+1+1 by omega,E2,E2,sa c];exact a
theorem EK.At.mems{l:jd aJ}(h:EM.At w a l):oh w a l:=by
 obtain⟨v,p,c,b,d,f,i⟩:=h;refine⟨v,p,c,b,d,f,λj=>?_⟩;obtain⟨g,o,e,k⟩:=i j;exact⟨g,o,e,trivial,k⟩
theorem rF{g:Grp}(h:g.last.length=32):(jl.info? 29).map (·.size)=ja (aD g vm vt).toArray.size:=by
 rw[jK,eX h];kernel_rfl
theorem yQ(g:Grp)(vm vt:jj)(d:N)(w:jh)(a:EM.At w vm g.mem)(i:mu g.mem)(q:g.mem.length<=1000000)(r:g.last.length=32):
 jq jl 88 #[jn (aD g vm vt).toArray,T A d] w λe w'=>e=jp (jE #[T A (lY g.mem d:jb),.bool (cD g.mem d)])/\jk w w w':=by
 have j:=dy.new w (vm:=vm) (vt:=vt) r;have b:=ap w (je (aD g vm vt).toArray 29);have f:=O (SN g.mem i vm d _ (a.mems.below b) q);have h:=O b;obtain⟨k,l,m,n⟩:=j.at;obtain⟨p,c,rfl,-,-⟩:=a.form;obtain⟨s,o⟩:=J ((aD g (jg p g.mem.length c) vt).toArray);rw[<-o]at k l m n f h⊢;clear j b a i o
 go_enter func88,ntmps88
 go_wp2_with fail
 refine(f).mono ?_;rintro e i ⟨rfl,a⟩;have b:=aj h a;clear a f k l m n h
 go_wp2_with fail
 go_ret2;exact⟨I,b⟩
noncomputable def ge(ep:N)(m:aJ):jF:=decide (m.since<1)||decide (ep<m.since)||decide (cU m.ver≠0)
theorem O5(g:Grp)(vm vt:jj)(b:jb)(m:aJ)(w:jh)(l:dy w b g vm vt):
 jq jl 68 #[jn m.cells.toArray,jz (ja ⟨b,0,jc⟩)] w λe w'=>e=jp (.bool (ge g.epoch m))/\jk w w w':=by
 obtain⟨md,a,f⟩:=m;obtain⟨r,c⟩:=J (ge g.epoch ⟨md,a,f⟩);rw[<-c];have i:=O c;unfold aJ.cells;have d:=ap w (je #[T A md,T A a,T A f] 100);obtain⟨-,n,-,-⟩:=(l.below d).at;have h:=O d;have j:=O (gD f);obtain⟨p,k⟩:=J (cU f);rw[<-k]at j;have q:=O k;obtain⟨ep,he⟩:=J g.epoch;rw[<-he]at n;have o:=O he;clear c d l k he
 by_cases c:a<1
 ·have k:decide (a<1)=jm:=ak c
  obtain rfl:r=jm:=by rw[i];unfold ge;simp[c]
  go_enter func68,ntmps68
  go_wp2_with fail
  go_ret;exact⟨I,h⟩
 have k:decide (a<1)=ji:=ak c
 by_cases d:ep<a
 ·have hd2:decide (ep<a)=jm:=ak d
  obtain rfl:r=jm:=by rw[i];unfold ge;rw[<-o];simp[d]
  go_enter func68,ntmps68
  go_wp2_with fail
  go_ret;exact⟨I,h⟩
 have hd2:decide (ep<a)=ji:=ak d;have l:jf (r=decide (p≠0)):=O (by rw[i];unfold ge;rw[<-o,<-q];simp[c,d]);clear c d
 go_enter func68,ntmps68
 go_wp2_with fail
 refine(j _).mono ?_;rintro e s ⟨rfl,c⟩;have d:=aj h c;clear c j h n
 go_wp2_with fail
 go_ret;exact⟨iC (by rw[l];exact S3 _ _),d⟩
theorem LO(m:aJ)(d:N)(w:jh):
 jq jl 70 #[jn m.cells.toArray,T A d] w λe w'=>e=jp (.bool (m.dev==d))/\jk w w w':=by
 obtain⟨md,a,b⟩:=m;unfold aJ.cells;have c:=O (ap w (je #[T A md,T A a,T A b] 100))
 go_enter func70,ntmps70
 go_wp2_with fail
 go_ret;exact⟨I,c⟩
theorem Di(g:Grp)(vm vt:jj)(b a:jb)(c:b<a):fS EM 68 #[jz (ja ⟨b,0,jc⟩)] a (λW=>dy W b g vm vt) (ge g.epoch) where
 enter _ _:=I
 keep w w' hn h hB:=h.keep (hB.block b c)
 call x w hn h:=O5 g vm vt b x w h
theorem MA(a:N)(b:jb)(x:ar)(w:jh)(k:jA w b 3 (T A a)):
 jq jl 80 #[jn x.cells.toArray,jz (ja ⟨b,0,jc⟩)] w λe w'=>e=jp (.bool (kZ a x))/\jk w w w':=by
 obtain⟨c,f,g,h,i⟩:=x;obtain⟨r,d⟩:=J (kZ a ⟨c,f,g,h,i⟩);rw[<-d];have l:=O d;unfold ar.cells;have j:=ap w (je #[T A c,T A f,T A g,T A h,T A i] 55);have n:(w.alloc (je #[T A c,T A f,T A g,T A h,T A i] 55)).cell? ⟨b,0,jc⟩=ja (T A a):=aC k.cell j;have m:=O j;clear d j k
 by_cases d:c=2
 ·subst d
  obtain rfl:r=jm:=by rw[l];unfold kZ;simp
  go_enter func80,ntmps80
  go_wp2_with fail
  go_ret;exact⟨I,m⟩
 have k:(c==2)=ji:=ak d;have o:decide (c=2)=ji:=ak d;have j:jf (r=(f==a)):=O (by rw[l];unfold kZ;simp[d];rfl);clear d
 go_enter func80,ntmps80
 go_wp2_with fail
 go_ret;exact⟨iC j.symm,m⟩
theorem SB(a:N)(b c:jb)(d:b<c):fS EC 80 #[jz (ja ⟨b,0,jc⟩)] c (λW=>jA W b 3 (T A a)) (kZ a) where
 enter _ _:=I
 keep w w' hn h hB:=(hB.block b d).trans h
 call x w hn h:=MA a b x w h
theorem uT{P:jX}{b:jD j0}{c:Exit->Act->jh->Prop}{E:Act}{w:jh}{d:jd j0}{o:j0}(e:Region.wanted o (yielded b E.tmps)=jm)
 (h:∀K:Act->jh->Prop,(∀E w,wpList P b c d E w->K E w)->o.wp P E w K c):wpList P b c (o::d) E w:=
 wpList_step λK f=>by rw[jt e];exact h K f
theorem Nh(n m:N):(n==m)=decide (n=m):=by by_cases h:n=m<;>simp[h]
theorem TR{l:jd aJ}(c:l.length=r.length)(h:∀t,t<l.length->(l.getD t de).dev=r.getD t 0):l.map aJ.dev=r:=by
 refine List.ext_getElem (by rw[jC];exact c) λi a d=>?_
 have b:i<l.length:=by rw[jC]at a;exact a
 have:=h i b;rw[fp _ b,fp _ d]at this;rw[sh];exact this
theorem Q1{l:jd aJ}(a:b<l.length)(h:(l.getD b de).dev≠r.getD b 0):¬l.map aJ.dev=r:=λe=>by
 apply h
 rw[<-e,fp _ a,fp _ (by rw[jC];exact a),sh]
theorem wE(l:jd aJ)(r:jd N)(v M:jj)(w:jh)(h:EM.At w v l)(hu:dh w M r)(hl:l.length<=1000000)(hr:r.length<=1000000):
 jq jl 71 #[v,M,.func (.func 70) #[] #[]] w λe w'=>e=jp (.bool (decide (l.map aJ.dev=r)))/\jk w w w':=by
 obtain⟨C,a⟩:=J (decide (l.map aJ.dev=r));rw[<-a];have D:=O a;obtain⟨p,c,rfl,hc,-⟩:=h.form;obtain⟨q,d,rfl,hd,g⟩:=hu;have P:=O h;have HV:=O g;obtain⟨n,b⟩:=J l.length;obtain⟨m,f⟩:=J r.length;have s:=O b;have z:=O f;rw[<-b]at hl hc P⊢;rw[<-f]at hr hd⊢;have EG:∀args w,(o8 70 args).run jl w=.ok (.enter 70 args) w:=λ_ _=>rfl
 clear h g b f a
 by_cases f:n=m
 ·have aa:((n:N)!=(m:N))=ji:=by simp[f]
  have Uz:((n:N)==(m:N))=jm:=by simp[f]
  have B:=O f;clear f
  go_enter func71,ntmps71
  go_wp2_with fail
  go_loopw [17] (λi wr=>∃k:jb,i=T A k/\k<=n/\jf (∀t,t<k->(l.getD t de).dev=r.getD t 0)/\jf (jk w w wr)) (λi _=>n-(jv i).toNat)
  case atStart=>exact⟨0,I,j5 _,O (λt Q=>jB Q Y),O (jH _ _)⟩
  obtain⟨k,rfl,hk,R,b⟩:=hrel
  by_cases E:k<n
  ·have ad:=az ((k:N)<(n:N))
   have au:=az (k<n);have ax:k<m:=aI B;have hd2:=az ((k:N)<(m:N));have ay:=az (k<m);obtain⟨e,he,-⟩:=dK (l:=l) (j:=k) (by rw[<-s];exact E);obtain⟨g,o,rfl,h⟩:=(P.cells).2.2 Y;obtain⟨S,U,rfl,V⟩:=HV.out (by rw[<-z,<-B];omega);have x:=V k (by rw[<-z,<-B];exact E);have X:l.getD k de=e:=by simp[jQ,he]
   have HE:=O X;obtain⟨y,F⟩:=J (r.getD k 0);rw[<-F]at x;have HY:=O F;obtain⟨a,i,u⟩:=e;have c0:wr.cell? ⟨g,o+k*3,jc⟩=ja (T A a):=aC (h k _ he 0 _ I) b;have c1:wr.cell? ⟨g,o+k*3+1,jc⟩=ja (T A i):=aC (h k _ he 1 _ I) b;have c2:wr.cell? ⟨g,o+k*3+2,jc⟩=ja (T A u):=aC (h k _ he 2 _ I) b;have H:=ap wr (je #[T A a,T A i,T A u] 100);have c3:wr.cell? ⟨S,U+k,jc⟩=ja (T A y):=aC x b;have c4:(wr.alloc (je #[T A a,T A i,T A u] 100)).cell? ⟨S,U+k,jc⟩=ja (T A y):=aC c3 H;have HC:jf (∀W,jq jl 70 #[jn #[T A a,T A i,T A u],T A y] W λe w'=>e=jp (.bool (a==y))/\jk W W w'):=O (LO ⟨a,i,u⟩ y);have K:=O H;clear h V x X F he H
   go_wp2_with fail
   refine(HC _).mono ?_;rintro x W ⟨rfl,h⟩;have F:=O (b.trans ((K.trans (h.mono K.size)).mono b.size));clear h HC c0 c1 c2 c3 c4 K
   by_cases h:a=y
   ·have K:(a==y)=jm:=ak h
    have V:jf (∀t,t<k+1->(l.getD t de).dev=r.getD t 0):=O (λt Q=>by
     rcases qj t k with H|H
     ·exact R t H
     obtain rfl:t=k:=Y;rw[HE,<-HY];exact h)
    clear h
    go_wp2_with fail
    exact⟨⟨k+1,by go_num,by omega,V,F⟩,by simp only[jv];omega⟩
   have K:(a==y)=ji:=ak h;obtain rfl:C=ji:=by
    rw[D,decide_eq_false_iff_not];exact Q1 (by rw[<-s];exact E) (by rw[HE,<-HY];exact h)
   clear h
   go_wp2_with fail
   go_ret;exact⟨I,F⟩
  have ad:=aw ((k:N)<(n:N));have au:=aw (k<n);obtain rfl:k=n:=Y;obtain rfl:C=jm:=by
   rw[D,decide_eq_true_iff];exact TR (by rw[<-s,<-z];exact B) (by rw[<-s];exact R)
  go_wp2_with fail
  go_ret;exact⟨I,b⟩
 have aa:((n:N)!=(m:N))=jm:=by simp;omega
 have Uz:((n:N)==(m:N))=ji:=by simp;omega
 obtain rfl:C=ji:=by
  rw[D,decide_eq_false_iff_not];intro e;have:=js List.length e;rw[jC,<-s,<-z]at this;exact f this
 clear f
 go_enter func71,ntmps71
 go_wp2_with fail
 go_ret;exact⟨I,jH _ _⟩
theorem nZ(a b:LBy)(f:a.length=32)(g:b.length=32)(z:jh):
 (Op.equalIn 10000 23 (jn (a.map v8).toArray) (jn (b.map v8).toArray)).run jl z=.ok (decide (a=b)) z:=by
 have h:=Hl (P:=jl) (t:=23) (e:=5) (n:=32) (k:=.u8) underlying23 vi af af af (a.map λb=>(b.toNat:N)) (b.map λb=>(b.toNat:N)) (by rw[jC];exact f) (by rw[jC];exact g)
  (by
   intro c d;obtain⟨y,-,rfl⟩:=jS.1 d;have:=y.isLt;exact WalkArith.wf_u8 Y) (by
    intro c d;obtain⟨y,-,rfl⟩:=jS.1 d;have:=y.isLt;exact WalkArith.wf_u8 Y) z
 have e:∀l:LBy,(l.map λb=>(b.toNat:N)).map (jo .u8)=l.map v8:=λl=>by rw[xr];rfl
 rw[e,e]at h;rw[h]
 congr 1
 have c:(a.map λb=>(b.toNat:N))=(b.map λb=>(b.toNat:N))↔a=b:=by
  refine xV λx y d=>?_
  have:x.toNat=y.toNat:=xa.inj d;exact BitVec.eq_of_toNat_eq this
 simp only[c]
theorem mX(h:w.ownsRow b 3 1 a r.length (r.map (jo .i64))):dh w a r:=by
 obtain⟨m,p,c,B,d,n,f⟩:=cH.of_own h;refine⟨p,c,B,d,λi=>?_⟩;obtain⟨g,o,e,k⟩:=f i;refine⟨g,o,e,λj v=>k j _ ?_⟩;rw[j8,mz v];simp[jQ,v]
theorem eu(w':dh w a r)(v:jk w w h):dh h a r:=by
 obtain⟨p,c,b,d,f⟩:=w';refine⟨p,c,b,d,λi=>?_⟩;obtain⟨g,o,e,k⟩:=f i;exact⟨g,o,e,λj m=>aC (k j m) v⟩
noncomputable def fE(g:Grp):jF:=by classical exact decide (dC g)
theorem kr(h:¬dC e):fE e=ji:=by unfold fE;simpa using h
theorem EF(h:dC e):fE e=jm:=by unfold fE;simpa using h
theorem EP{m:aJ}:ge d m=ji↔1<=m.since/\m.since<=d/\bL m.ver:=by
 unfold ge;have e:(cU m.ver=0)↔bL m.ver:=⟨λh=>by
  by_cases g:bL m.ver
  ·exact g
  rw[k8 g]at h;exact jB h L,gF⟩
 simp only[Bool.or_eq_false_iff,decide_eq_false_iff_not,Int.not_lt,ne_eq,Classical.not_not,e];exact⟨λh=>⟨h.1.1,h.1.2,h.2⟩,λh=>⟨⟨h.1,h.2.1⟩,h.2.2⟩⟩
theorem Cn(g:kp e.folder)(f:0<=e.epoch/\e.epoch<=1099511627776)(h:df e.tree=0)(i:e.epoch=0->e.mem=[]/\e.last=jW 32 0#8):
 fE e=(decide (e.mem.map aJ.dev=cA e.tree)&& !(e.mem.any (ge e.epoch))):=by
 by_cases a:dC e
 ·rw[EF a]
  have b:decide (e.mem.map aJ.dev=cA e.tree)=jm:=jO a.dev;have c:e.mem.any (ge e.epoch)=ji:=by
   rw[qt];intro m d;rw[EP.2 (a.ok m d)];simp
  rw[b,c];rfl
 rw[kr a]
 by_cases b:e.mem.map aJ.dev=cA e.tree
 ·have c:e.mem.any (ge e.epoch)=jm:=by
   cases hx:e.mem.any (ge e.epoch)with
   |true=>rfl
   |false=>
    exfalso
    apply a
    rw[qt]at hx;exact⟨g,f,h,i,b,λm d=>EP.1 (by simpa using hx m d)⟩
  rw[c];simp
 simp[b]
theorem Gt(t:jd (N×N)):(cA t).length<=512:=by
 have e:=pK t;have c:=λd=>(oH t d).1
 have f:((cA t).map Int.toNat).Nodup:=by
  have g:((cA t).map Int.toNat).Pairwise (·<·):=xq.2 (e.imp_of_mem λ{a b} h i j=>by have:=(c a h).1;have:=(c b i).1;omega);exact g.imp λh=>xf h
 have:=List.Nodup.length_le_of_subset f (l₂:=qH 512) (λx a=>by
  obtain⟨d,b,rfl⟩:=jS.1 a;have g:=c d b;rw[r5];omega)
 simpa using this
theorem BV(g:Grp)(vm vt:jj)(w:jh)(h:bH w g vm vt)(F:g.mem.length<=1000000)(k:g.tree.length<=1000000):
 jq jl 26 #[jn (aD g vm vt).toArray] w λe w'=>e=jp (.bool (fE g))/\jk w w w':=by
 obtain⟨r,o⟩:=J (fE g);rw[<-o];have M:=O o;obtain⟨fo,p⟩:=J (decide (kp g.folder));have ax:=O p;have c:=dy.new w (vm:=vm) (vt:=vt) h.llen;have a:=ap w (je (aD g vm vt).toArray 29);have d:=h.below a;obtain⟨pm,cm,rfl,H,-⟩:=h.mem.form;obtain⟨t,q⟩:=J g.mem.length;rw[<-q]at c a d H⊢;have a2:=O q;obtain⟨aa,f⟩:=J ((aD g (jg pm t cm) vt).toArray);obtain⟨m,P,R,n⟩:=c.at;have i:=c.blk;have s:=lQ (g:=g) (vm:=jg pm t cm) (vt:=vt) h.llen;have j:=c.last;have u:jf (aa[34]?=ja (jg pm t cm)):=O (by rw[f];simpa using s.2.2.1);have y:jf (aa[35]?=ja vt):=O (by rw[f];simpa using s.2.2.2);rw[<-f]at m P R n i a d j⊢;obtain⟨b,v⟩:=J w.heap.size;rw[<-v]at m P R n i j;obtain⟨W1,z⟩:=J (w.alloc (je aa 29));rw[<-z]at m P R n i a d j;have VI:=O z;have YJ:=O v;have V8:=O f;have K:=O i;have B:=O d;have l:=O a;have VA:=O h.llen;have Ww:=O k;have YY:=O F;have Q:=O j;have au:jf ((cA g.tree).length<=1000000):=O (jL (Gt _) L);obtain⟨ck,C⟩:=J (df g.tree);have U:jf (∀W,bJ W vt g.tree->jq jl 67 #[jn #[vt]] W λe w'=>e=jp (T A ck)/\jk W W w'):=O (by rw[C];exact λW x=>ya g.tree vt W x k);have Yy:=O C;obtain⟨ep,D⟩:=J g.epoch;rw[<-D]at P;have S:=O D;obtain⟨fd,E⟩:=J g.folder;have V:jf (∀e x,e=g.folder->jq jl 66 #[T A e] x λe w'=>e=jp (.bool fo)/\x=w'):=O (by rw[p];rintro e x rfl;exact Fa _ x);rw[<-E]at m;have a5:=O E;clear h o p c a d H q f i s j v z F k C D E
 go_enter func26,ntmps26
 go_upto_region 1 with fail
 rw[<-VI,<-YJ]
 go_wp2_with fail
 refine(V fd W1 a5).mono ?_;rintro e w1 ⟨rfl,rfl⟩;clear V
 cases fo with
 |false=>
  obtain rfl:r=ji:=by rw[M];exact kr λh=>by have x:=ax.out;rw[jO h.fol]at x;cases x
  go_wp2_with fail
  go_ret;exact⟨I,l⟩
 |true=>
 by_cases a:ep<0
 ·have a6:decide (ep<0)=jm:=ak a
  obtain rfl:r=ji:=by rw[M];exact kr λh=>by have:=h.ep.1;rw[<-S]at this;omega
  clear a
  go_wp2_with fail
  go_ret;exact⟨I,l⟩
 have a6:decide (ep<0)=ji:=ak a
 by_cases x:1099511627776<ep
 ·have hd2:decide (1099511627776<ep)=jm:=ak x
  obtain rfl:r=ji:=by rw[M];exact kr λh=>by have:=h.ep.2;rw[<-S]at this;omega
  clear a x
  go_wp2_with fail
  go_ret;exact⟨I,l⟩
 have hd2:decide (1099511627776<ep)=ji:=ak x;have a3:=O (show 0<=ep/\ep<=1099511627776 by omega);clear a x
 go_wp2_with fail
 refine(U W1 B.tree).mono ?_;rintro e w1 ⟨rfl,a⟩;have f:=ae K a;have i:=O (B.below a);have k:=aj l a;have ba:jf (w1.rangeAt b 2 (g.last.map v8)):=O (λj v c=>aC (Q j v c) a);replace P:=aC P a;replace R:=aC R a;clear a K B l Q m n U
 by_cases B:ck=0
 case neg=>
  have hd3:(ck==0)=ji:=ak B;have c:decide (ck=0)=ji:=ak B;have d:(ck !=0)=jm:=ak B;obtain rfl:r=ji:=by rw[M];exact kr λh=>B (by rw[Yy];exact h.tree)
  clear B
  go_wp2_with fail
  go_ret;exact⟨I,k⟩
 subst B;have a4:jf (0=df g.tree):=Yy
 by_cases h4:ep=0
 case pos=>
  subst h4
  by_cases d:0<t
  ·have bb:decide (0<t)=jm:=ak d
   have bc:decide ((0:N)<(t:N))=jm:=ak d;obtain rfl:r=ji:=by rw[M];exact kr λh=>by have:=(h.zero S.symm).1;have e:=a2.out;rw[this]at e;simp at e;omega
   clear d
   go_wp2_with fail
   go_ret;exact⟨I,k⟩
  have bb:decide (0<t)=ji:=ak d;have bc:decide ((0:N)<(t:N))=ji:=ak d;obtain⟨bd,c⟩:=J ((g.last.map v8).toArray);have bf:=O c;obtain⟨Q,p⟩:=J (decide (g.last=jW 32 0#8));have C:=O p;have j:∀z,(Op.equalIn 10000 23 (jn bd) (jn a8)).run jl z=.ok Q z:=by
   rw[c,p];exact λz=>nZ g.last (jW 32 0#8) VA I z
  clear c p
  go_upto_region 3 with fail
  refine pz ?_;iterate 10 refine ee ?_
  refine uT ai λ_ c=>wp_load_mid 23 _ I b 2 I (g.last.map v8) _ ba.out underlying23 I (by rw[jC,VA];kernel_rfl) (c _ _ ?_)
  rw[<-bf];refine G ?_;refine ee ?_
  rcases Q with _|_
  ·obtain rfl:r=ji:=by rw[M];exact kr λh=>by have x:=(h.zero S.symm).2;have B:=C.out;rw[jO x]at B;cases B
   go_wp2_with fail
   go_ret;exact⟨I,k⟩
  have U:jf (r=(decide (g.mem.map aJ.dev=cA g.tree)&& !(g.mem.any (ge g.epoch)))):=O (by
   rw[M];exact Cn (qa ax.symm) (by rw[<-S];exact a3) a4.symm (λe=>⟨sn (by rw[<-a2];simpa using d),qa C.symm⟩))
  clear C d;obtain⟨Q,p⟩:=J (decide (g.mem.map aJ.dev=cA g.tree));obtain⟨wr,V⟩:=J (g.mem.any (ge g.epoch));rw[<-p,<-V]at U;have C:jf (decide (g.mem.map aJ.dev=cA g.tree)=Q):=O p.symm;have ay:=O V;clear p V
  go_upto_region 7 with fail
  clear P R j;refine p6 ?_;refine dj (λn=>n.heap[b]?=ja (je aa 29 (0,0))) (.t 0 (.t 1 (.t 2 (.t 3 (.t 5 (.o 4 (.o 6 (.t 7 (.t 8 (.t 9 (.t 10 (.o 11 (.t 12 (.t 13 (.t 14 .done))))))))))))))) af af af L (λ_ _ _ _ h=>h) f ?_;obtain⟨x0,ad⟩:=J w1.drew;have a:=bX w1;rw[<-ad]at a⊢;have D:=ae f a;have o:=O (i.below a);have l:=aj k a;clear a ad f i k
  cases Q with
  |true=>
   refine aK ?_
   (refine aS (v:=?_) I ai (λn d=>?_) ?_;rotate_left;(have E:=ah d u;have F:=ah d y;go_simp;with_reducible rfl);refine G ?_)
   refine aK ?_
   (refine aS (v:=?_) I ai (λn d=>?_) ?_;rotate_left;(have E:=ah d u;have F:=ah d y;go_simp;with_reducible rfl);refine G ?_)
   refine aK ?_;refine aE I (λq c=>?_);go_simp;refine(tI g.tree vt x0 o.tree Ww).mono ?_;rintro e x1 ⟨a1,rfl,m,a⟩;have s:=O (mX m);obtain⟨pu,cu,rfl,W,X⟩:=mX m;clear m W X;have k:=aj l a;have f:=ae D a;have i:=O (o.below a);clear l D o;clear a;refine c _ _ f.out λ_=>?_
   clear c;refine G ?_;refine aE I (λq c=>?_);go_simp;refine(wE g.mem (cA g.tree) _ _ x1 i.mem s YY au).mono ?_;rintro e x2 ⟨rfl,a⟩;rw[C];have H:=aj k a;have j:=ae f a;have K:=O (i.below a);clear k f i s;clear a;refine c _ _ j.out λ_=>?_
   clear c;refine G ?_;iterate 2 refine aK ?_
   (refine aS (v:=?_) I ai (λn d=>?_) ?_;rotate_left;(have E:=ah d u;have F:=ah d y;go_simp;with_reducible rfl);refine G ?_)
   refine aK ?_;refine aE I (λq c=>?_);rw[jt ai];go_simp;refine(Aq (Di g (jg pm t cm) vt b x2.heap.size (jG.1 j).1) g.mem _ x2 K.mem ⟨by rw[j,V8],VA⟩ (ju _) YY).mono ?_;rintro e x3 ⟨rfl,a⟩;rw[<-ay];have Uu:=aj H a;have Zd:=ae j a;have bg:=O (K.below a);clear H j K;clear a;refine c _ _ Zd.out λ_=>?_
   clear c;refine G ?_;iterate 3 refine aK ?_
   refine jV ?_
   go_wp2_with fail
   go_ret;exact⟨by rw[U];rfl,Uu⟩
  |false=>
   refine aK ?_
   (refine aS (v:=?_) I ai (λn d=>?_) ?_;rotate_left;(have E:=ah d u;have F:=ah d y;go_simp;with_reducible rfl);refine G ?_)
   refine aK ?_
   (refine aS (v:=?_) I ai (λn d=>?_) ?_;rotate_left;(have E:=ah d u;have F:=ah d y;go_simp;with_reducible rfl);refine G ?_)
   refine aK ?_;refine aE I (λq c=>?_);go_simp;refine(tI g.tree vt x0 o.tree Ww).mono ?_;rintro e x1 ⟨a1,rfl,m,a⟩;have s:=O (mX m);obtain⟨pu,cu,rfl,W,X⟩:=mX m;clear m W X;have k:=aj l a;have f:=ae D a;have i:=O (o.below a);clear l D o;clear a;refine c _ _ f.out λ_=>?_
   clear c;refine G ?_;refine aE I (λq c=>?_);go_simp;refine(wE g.mem (cA g.tree) _ _ x1 i.mem s YY au).mono ?_;rintro e x2 ⟨rfl,a⟩;rw[C];have H:=aj k a;have j:=ae f a;have K:=O (i.below a);clear k f i s;clear a;refine c _ _ j.out λ_=>?_
   clear c;refine G ?_;refine aK ?_;iterate 3 refine fF ?_
   refine aE I (λq c=>?_);rw[jy (sq.1 ai)];refine c _ _ j.out λ_=>?_
   clear c;refine G ?_;refine fF ?_;iterate 2 refine aK ?_
   refine jV ?_
   go_wp2_with fail
   go_ret;exact⟨by rw[U];rfl,H⟩
 have z:decide (ep=0)=ji:=ak h4;have bb:(ep==0)=ji:=ak h4;have U:jf (r=(decide (g.mem.map aJ.dev=cA g.tree)&& !(g.mem.any (ge g.epoch)))):=O (by rw[M];exact Cn (qa ax.symm) (by rw[<-S];exact a3) a4.symm (λe=>jB (S.trans e) h4));clear h4;obtain⟨Q,p⟩:=J (decide (g.mem.map aJ.dev=cA g.tree));obtain⟨wr,V⟩:=J (g.mem.any (ge g.epoch));rw[<-p,<-V]at U;have C:jf (decide (g.mem.map aJ.dev=cA g.tree)=Q):=O p.symm;have ay:=O V;clear p V
 go_upto_region 7 with fail
 clear P R;refine p6 ?_;refine dj (λn=>n.heap[b]?=ja (je aa 29 (0,0))) (.t 0 (.t 1 (.t 2 (.t 3 (.t 5 (.o 4 (.o 6 (.t 7 (.t 8 (.t 9 (.t 10 (.o 11 (.t 12 (.t 13 (.t 14 .done))))))))))))))) af af af L (λ_ _ _ _ h=>h) f ?_;obtain⟨x0,ad⟩:=J w1.drew;have a:=bX w1;rw[<-ad]at a⊢;have D:=ae f a;have o:=O (i.below a);have l:=aj k a;clear a ad f i k
 cases Q with
 |true=>
  refine aK ?_
  (refine aS (v:=?_) I ai (λn d=>?_) ?_;rotate_left;(have E:=ah d u;have F:=ah d y;go_simp;with_reducible rfl);refine G ?_)
  refine aK ?_
  (refine aS (v:=?_) I ai (λn d=>?_) ?_;rotate_left;(have E:=ah d u;have F:=ah d y;go_simp;with_reducible rfl);refine G ?_)
  refine aK ?_;refine aE I (λq c=>?_);go_simp;refine(tI g.tree vt x0 o.tree Ww).mono ?_;rintro e x1 ⟨a1,rfl,m,a⟩;have s:=O (mX m);obtain⟨pu,cu,rfl,W,X⟩:=mX m;clear m W X;have k:=aj l a;have f:=ae D a;have i:=O (o.below a);clear l D o;clear a;refine c _ _ f.out λ_=>?_
  clear c;refine G ?_;refine aE I (λq c=>?_);go_simp;refine(wE g.mem (cA g.tree) _ _ x1 i.mem s YY au).mono ?_;rintro e x2 ⟨rfl,a⟩;rw[C];have H:=aj k a;have j:=ae f a;have K:=O (i.below a);clear k f i s;clear a;refine c _ _ j.out λ_=>?_
  clear c;refine G ?_;iterate 2 refine aK ?_
  (refine aS (v:=?_) I ai (λn d=>?_) ?_;rotate_left;(have E:=ah d u;have F:=ah d y;go_simp;with_reducible rfl);refine G ?_)
  refine aK ?_;refine aE I (λq c=>?_);rw[jt ai];go_simp;refine(Aq (Di g (jg pm t cm) vt b x2.heap.size (jG.1 j).1) g.mem _ x2 K.mem ⟨by rw[j,V8],VA⟩ (ju _) YY).mono ?_;rintro e x3 ⟨rfl,a⟩;rw[<-ay];have Uu:=aj H a;have Zd:=ae j a;have bg:=O (K.below a);clear H j K;clear a;refine c _ _ Zd.out λ_=>?_
  clear c;refine G ?_;iterate 3 refine aK ?_
  refine jV ?_
  go_wp2_with fail
  go_ret;exact⟨by rw[U];rfl,Uu⟩
 |false=>
  refine aK ?_
  (refine aS (v:=?_) I ai (λn d=>?_) ?_;rotate_left;(have E:=ah d u;have F:=ah d y;go_simp;with_reducible rfl);refine G ?_)
  refine aK ?_
  (refine aS (v:=?_) I ai (λn d=>?_) ?_;rotate_left;(have E:=ah d u;have F:=ah d y;go_simp;with_reducible rfl);refine G ?_)
  refine aK ?_;refine aE I (λq c=>?_);go_simp;refine(tI g.tree vt x0 o.tree Ww).mono ?_;rintro e x1 ⟨a1,rfl,m,a⟩;have s:=O (mX m);obtain⟨pu,cu,rfl,W,X⟩:=mX m;clear m W X;have k:=aj l a;have f:=ae D a;have i:=O (o.below a);clear l D o;clear a;refine c _ _ f.out λ_=>?_
  clear c;refine G ?_;refine aE I (λq c=>?_);go_simp;refine(wE g.mem (cA g.tree) _ _ x1 i.mem s YY au).mono ?_;rintro e x2 ⟨rfl,a⟩;rw[C];have H:=aj k a;have j:=ae f a;have K:=O (i.below a);clear k f i s;clear a;refine c _ _ j.out λ_=>?_
  clear c;refine G ?_;refine aK ?_;iterate 3 refine fF ?_
  refine aE I (λq c=>?_);rw[jy (sq.1 ai)];refine c _ _ j.out λ_=>?_
  clear c;refine G ?_;refine fF ?_;iterate 2 refine aK ?_
  refine jV ?_
  go_wp2_with fail
  go_ret;exact⟨by rw[U];rfl,H⟩
def mo(g:Grp)(a:N)(x:ar):jF:=(cD g.mem x.d==decide (x.k=1))||(cD g.mem a&&decide (x.d=a))
noncomputable def lL(g:Grp)(a:N)(l:jd ar):jF:=by classical exact decide (gN g a l)
theorem tK:lL e d f=jm↔gN e d f:=by unfold lL;simp
theorem tN(h:¬gN e d f):lL e d f=ji:=by unfold lL;simpa using h
theorem Fj(c:cD e.mem d=decide (0<e.epoch))(a:e.epoch=0->∃x r,f=x::r/\x.d=d):lL e d f= !(f.any (mo e d)):=by
 have g:∀x:ar,mo e d x=ji↔(cD e.mem x.d=decide (x.k≠1)/\(cD e.mem d=jm->x.d≠d)):=λx=>by
  unfold mo
  cases cD e.mem x.d<;>cases cD e.mem d<;>by_cases b:x.k=1<;>by_cases l:x.d=d<;>simp[b,l]
 rw[qz,tK,Bool.not_eq_true',qt]
 constructor
 ·intro h x b
  rw[(g x).2 (h.each x b)];simp
 intro h;exact⟨c,a,λx b=>(g x).1 (by simpa using h x b)⟩
theorem Kk(g:Grp)(vm vt:jj)(a:N)(f:jF)(s t u:jb)(x:ar)(w:jh)(k:dy w s g vm vt)(K:EM.At w vm g.mem)(M:mu g.mem)(P:g.mem.length<=1000000)
 (v:jA w t 4 (.bool f)) (y:jA w u 3 (T A a)) (Q:f=cD g.mem a):
 jq jl 128 #[jn x.cells.toArray,jz (ja ⟨s,0,jc⟩),jz (ja ⟨t,0,jc⟩),jz (ja ⟨u,0,jc⟩)] w λe w'=>e=jp (.bool (mo g a x))/\jk w w w':=by
 obtain⟨c,b,l,m,n⟩:=x;obtain⟨r,o⟩:=J (mo g a ⟨c,b,l,m,n⟩);rw[<-o];have HR:=O o;unfold ar.cells;have d:=ap w (je #[T A c,T A b,T A l,T A m,T A n] 55);have p:=jw w (je #[T A c,T A b,T A l,T A m,T A n] 55);have j:=O (yQ g vm vt b _ (K.below d) M P k.llen);have q:=(k.below d).blk;have z:=rF (vm:=vm) (vt:=vt) k.llen;obtain⟨aa,R⟩:=J ((aD g vm vt).toArray);rw[<-R]at j q z;obtain⟨W0,C⟩:=J (w.alloc (je #[T A c,T A b,T A l,T A m,T A n] 55));obtain⟨B,D⟩:=J w.heap.size;rw[<-C]at j q d p;rw[<-D]at p;have S:=O q;have U9:=O z;have U:=O d;have E:=O p;have V:=O ((d.block _ v.lt).trans v);have W:=O ((d.block _ y.lt).trans y);have ad:=O C;have YJ:=O D;obtain⟨F,H⟩:=J (cD g.mem b);rw[<-H]at j;have h:jf (r=((F==decide (c=1))||(f&&decide (b=a)))):=O (by rw[o,H,Q];rfl);have X:=ah (i:=1) E I;clear d p q z R C D o H k K M P v y Q
 go_enter func128,ntmps128
 go_upto_region 1 with fail
 rw[<-ad,<-YJ];refine pz ?_;refine qi I 29 _ I s I 29 aa (0,0) _ S.out qF I U9 ?_
 go_wp2_with fail
 refine(j).mono ?_;rintro e p ⟨rfl,k⟩;have q:=ae E k;have v:jf (jA p t 4 (.bool f)):=ae V k;have y:jf (jA p u 3 (T A a)):=ae W k;have d:=aj U k;clear k j E V W U S X;have z:=ah (i:=0) q I;have X:=ah (i:=1) q I;have C:=v.cell;have D:=y.cell
 by_cases j:c=1
 case pos=>
  subst j
  cases F with
  |true=>
   obtain rfl:r=jm:=by rw[h];simp
   go_wp2_with fail
   go_ret;exact⟨I,d⟩
  |false=>
   cases f with
   |true=>
    have k:jf (r=(b==a)):=O (by rw[h];simp;rfl)
    go_wp2_with fail
    go_ret;exact⟨iC k.symm,d⟩
   |false=>
    obtain rfl:r=ji:=by rw[h];simp
    go_wp2_with fail
    go_ret;exact⟨I,d⟩
 have E:(c==1)=ji:=ak j;have o:decide (c=1)=ji:=ak j;clear j
 rcases F with _|_
 ·obtain rfl:r=jm:=by rw[h,o];simp
  go_wp2_with fail
  go_ret;exact⟨I,d⟩
 cases f with
 |true=>
  have k:jf (r=(b==a)):=O (by rw[h,o];simp;rfl)
  go_wp2_with fail
  go_ret;exact⟨iC k.symm,d⟩
 |false=>
  obtain rfl:r=ji:=by rw[h,o];simp
  go_wp2_with fail
  go_ret;exact⟨I,d⟩
theorem QO(g:Grp)(vm vt:jj)(a:N)(c:jF)(d e f:jb)(b:jh)(k:dy b d g vm vt)(l:EM.At b vm g.mem)(m:mu g.mem)(n:g.mem.length<=1000000)
 (i:jA b e 4 (.bool c)) (j:jA b f 3 (T A a)) (o:c=cD g.mem a):
 fS EC 128 #[jz (ja ⟨d,0,jc⟩),jz (ja ⟨e,0,jc⟩),jz (ja ⟨f,0,jc⟩)] b.heap.size (λW=>jk b b W) (mo g a) where
 enter _ _:=I
 keep w w' hn h hB:=h.trans hB
 call x w hn h:=Kk g vm vt a c d e f x w (k.below h) (l.below h) m n ((h.block _ i.lt).trans i) ((h.block _ j.lt).trans j) o
theorem uD(h:dC e):mu e.mem:=by
 intro i j c a;have b:=pK e.tree;rw[<-h.dev]at b;have:=(xt.1 b) i j (by rw[jC];omega) (by rw[jC];exact a) c;rw[sh,sh]at this;rw[fp _ Y,fp _ a];exact this
theorem O6(g:Grp)(vm vt vl:jj)(a:N)(l:jd ar)(w:jh)(h:bH w g vm vt)(f:dC g)(z:g.mem.length<=1000000)(E:EC.At w vl l)(hl:l.length<=1000000):
 jq jl 76 #[jn (aD g vm vt).toArray,T A a,vl] w λe w'=>e=jp (.bool (lL g a l))/\jk w w w':=by
 obtain⟨r,F⟩:=J (lL g a l);rw[<-F];have k:=O F;have j:=ap w (je (aD g vm vt).toArray 29);have H:=dy.new w (vm:=vm) (vt:=vt) h.llen;obtain⟨B,b⟩:=J (w.alloc (je (aD g vm vt).toArray 29));rw[<-b]at j H;have m:=ap B (je #[T A a] 3);have d:=Boxed.new B 3 (T A a);have K:=H.below m;obtain⟨W2,M⟩:=J (B.alloc (je #[T A a] 3));rw[<-M]at m d K;have o:=j.trans (m.mono j.size);have s:=h.below o;have P:=E.below o;have x:=O (yQ g vm vt a W2 s.mem (uD f) z s.llen);have Q:=rF (vm:=vm) (vt:=vt) h.llen;have u:=K.blk;obtain⟨ax,R⟩:=J ((aD g vm vt).toArray);rw[<-R]at b x Q u⊢;obtain⟨C,y⟩:=J w.heap.size;obtain⟨p,S⟩:=J B.heap.size;rw[<-y]at u;rw[<-S]at d;obtain⟨pl,cl,rfl,Vq,-⟩:=E.form;obtain⟨n,U⟩:=J l.length;obtain⟨q,V⟩:=J (cD g.mem a);obtain⟨ep,D⟩:=J g.epoch;have ay:=O f.ep.1;have a1:=O (uD f);rw[<-V]at x;rw[<-U]at Vq P⊢;have a2:=O b;have a3:=O M;have a4:=O y;have YM:jf (p=C+1):=O (by rw[S,y,b];simp);have V8:=O R;have U9:=O Q;have W:=O u;have X:=O d;have Ur:=O o;have WU:=O s;have UJ:=O P;have ZT:=O U;have t:=O V;have c:=O D;have a5:=O hl;have WB:=O z;have ba:jf (p<W2.heap.size):=O d.lt;clear F j H b m d K M o s P Q u R y S U V D E hl z h f
 go_enter func76,ntmps76
 go_upto_region 1 with fail
 rw[<-a2,<-a4,<-a3,<-YM];refine pz ?_;refine qi I 29 _ I C I 29 ax (0,0) _ W.out qF I U9 ?_;have P:=X.cell
 go_wp2_with fail
 refine(x).mono ?_;rintro e u ⟨rfl,b⟩;have j:=ae W b;have m:jf (jA u p 3 (T A a)):=ae X b;have y:=O (WU.below b);have z:=O (UJ.below b);have E:=aj Ur b;clear b x W X WU UJ Ur P
 go_upto_region 2 with fail
 have b:=ap u (je #[.bool q] 4);have d:=Boxed.new u 4 (.bool q);obtain⟨f,x⟩:=J (u.alloc (je #[.bool q] 4));obtain⟨Q,F⟩:=J u.heap.size;rw[<-x]at b d⊢;rw[<-F]at d⊢;have R:=ae j b;have S:jf (jA f p 3 (T A a)):=ae m b;have U:=O (y.below b);have V:=O (z.below b);have s:=aj E b;have W:=O d;clear b x F d j m y z E;have P:=W.cell;have c1:=S.cell;have c2:=ah (i:=1) (v:=T A ep) R.out (by rw[V8,c];rfl);have X:jf (∀z:jh,(∃m,z=f.drewN m)->jq jl 40 #[jg pl n cl,.func (.func 128) #[] #[jz (ja ⟨C,0,jc⟩),jz (ja ⟨Q,0,jc⟩),jz (ja ⟨p,0,jc⟩)]] z λe w'=>e=jp (.bool (l.any (mo g a)))/\jk w w w'):=O (by
  rintro z ⟨m,rfl⟩;have b:jk f f (f.drewN m):=(jH _ _).trans ⟨I,I,I,ju _,λ_ _=>rfl⟩;refine(Bs (QO g vm vt a q C Q p (f.drewN m) ⟨by rw[av R b,V8],U.llen⟩ (U.mem.below b) a1 WB (av W b) (av S b) t) l _ _ (V.below b) (jH _ _) (ju _) a5).mono ?_;rintro e w' ⟨rfl,o⟩;exact⟨I,s.trans ((b.trans (o.mono b.size)).mono s.size)⟩)
 by_cases b:0<ep
 case pos=>
  have m:decide (0<ep)=jm:=ak b;have hd2:(ep==0)=ji:=by simp;omega
  have j:=O b;clear b
  rcases q with _|_
  ·obtain rfl:r=ji:=by
    rw[k];exact tN λh=>by have d:=h.own;rw[<-t,<-c,m]at d;cases d
   go_quiet (fail)
   go_wp2_with fail
   go_ret;exact⟨I,s.trans ⟨I,I,I,ju _,λ_ _=>rfl⟩⟩
  have E:jf (r= !(l.any (mo g a))):=O (by rw[k];exact Fj (by rw[<-t,<-c,m]) (λe=>jB (c.trans e) (aI j)))
  go_quiet (fail)
  go_wp2_with fail
  refine(X _ ⟨_,I⟩).mono ?_;rintro e w5 ⟨rfl,y⟩;have F:=O y;clear y
  go_wp2_with fail
  go_ret;exact⟨iC E.symm,F⟩
 have m:decide (0<ep)=ji:=ak b;have D:ep=0:=by have:=ay.out;rw[<-c]at this;omega
 subst D;clear b
 cases q with
 |true=>
  obtain rfl:r=ji:=by
   rw[k];exact tN λh=>by have d:=h.own;rw[<-t,<-c,m]at d;cases d
  go_quiet (fail)
  go_wp2_with fail
  go_ret;exact⟨I,s.trans ⟨I,I,I,ju _,λ_ _=>rfl⟩⟩
 |false=>
 by_cases d:n=0
 case pos=>
  subst d;obtain rfl:r=ji:=by
   rw[k];exact tN λh=>by
    obtain⟨x,r,b,-⟩:=h.first c.symm;have j:=ZT.out;rw[b]at j;simp at j
  go_quiet (fail)
  go_wp2_with fail
  go_ret;exact⟨I,s.trans ⟨I,I,I,ju _,λ_ _=>rfl⟩⟩
 have hd3:((n:N)==0)=ji:=by simp;omega
 have a6:0<n:=Y;obtain⟨g0,o0,rfl,aa⟩:=(V.cells).2.2 a6;obtain⟨x,H,K⟩:∃x H,l=x::H:=by
  rcases l with _|⟨x,r⟩
  ·have:=ZT.out;simp at this;omega
  exact⟨x,r,I⟩
 have c3:f.cell? ⟨g0,o0+1,jc⟩=ja (T A x.d):=by
  have h:=aa 0 x (by rw[K];rfl) 1 _ I;rw[Nat.zero_mul,xm]at h;exact h
 obtain⟨z,M⟩:=J x.d;rw[<-M]at c3;have ad:=O K;have au:=O M;clear aa K M d
 by_cases b:z=a
 case neg=>
  have K:(z==a)=ji:=ak b;have M:(z !=a)=jm:=ak b;obtain rfl:r=ji:=by
   rw[k];exact tN λh=>by
    obtain⟨x2,r2,j,h5⟩:=h.first c.symm;rw[ad]at j;injection j with j _
    subst j;exact b (au.trans h5)
  clear b
  go_quiet (fail)
  go_wp2_with fail
  go_ret;exact⟨I,s.trans ⟨I,I,I,ju _,λ_ _=>rfl⟩⟩
 have K:(z==a)=jm:=ak b;have M:(z !=a)=ji:=ak b;have E:jf (r= !(l.any (mo g a))):=O (by rw[k];exact Fj (by rw[<-t,<-c,m]) (λe=>⟨x,H,ad,by rw[<-au];exact b⟩));clear b
 go_quiet (fail)
 go_wp2_with fail
 refine(X _ ⟨_,I⟩).mono ?_;rintro e w5 ⟨rfl,y⟩;have F:=O y;clear y
 go_wp2_with fail
 go_ret;exact⟨iC E.symm,F⟩
def oz(x:ar):Prop:=(x.k=1/\bL x.p/\bL x.v/\x.c=0)\/(x.k=2/\x.p=0/\x.v=0/\0<=x.c/\x.c<=1048576)\/(x.k=3/\bL x.p/\bL x.v/\0<=x.c/\x.c<=1048576)
noncomputable def lW(x:ar):jF:=by classical exact decide (oz x)
noncomputable def tC(x:ar):jF:=decide (cU x.p=0)&&decide (cU x.v=0)
def sw(x:ar):jF:=decide (0<=x.c)&&decide (x.c<=1048576)
theorem zj:cU d=0↔bL d:=⟨λh=>by
 by_cases g:bL d
 ·exact g
 rw[k8 g]at h;exact jB h L,gF⟩
theorem Fv:tC x=jm↔bL x.p/\bL x.v:=by unfold tC;simp[zj]
theorem FSo:sw x=jm↔0<=x.c/\x.c<=1048576:=by unfold sw;simp
theorem rN:lW x=jm↔oz x:=by unfold lW;simp
theorem SC(h:x.k=1):lW x=(tC x&&(x.c==0)):=by
 rw[qz,sv,Fv,beq_iff_eq,rN];unfold oz;simp[h,and_assoc]
theorem Ub(h:x.k=2):lW x=((x.p==0)&&(x.v==0)&&sw x):=by
 rw[qz,sv,sv,FSo,beq_iff_eq,beq_iff_eq,rN];unfold oz;simp[h,and_assoc]
theorem KY(h:x.k=3):lW x=(tC x&&sw x):=by
 rw[qz,sv,Fv,FSo,rN];unfold oz;simp[h,and_assoc]
theorem Mn(a:x.k≠1)(b:x.k≠2)(c:x.k≠3):lW x=ji:=by
 have h:¬oz x:=by unfold oz;simp[a,b,c]
 cases hb:lW x with
 |false=>rfl
 |true=>exact jB (rN.1 hb) h
noncomputable def iJ(l:jd ar):jF:=by classical exact decide (eU l)
theorem oF:iJ f=jm↔eU f:=by unfold iJ;simp
theorem Fq(h:¬eU f):iJ f=ji:=by unfold iJ;simpa using h
structure mg(l:jd ar):Prop where
 each:∀x∈l,oS x
 once:(l.map ar.d).Nodup
theorem mg.nil:mg []:=⟨(λx h=>by cases h),by simp⟩
theorem mg.snoc(h:mg f)(l:fG x.d)(g:lW x=jm)(i:x.d∉f.map ar.d):mg (f++[x]):=by
 refine⟨λy c=>?_,?_⟩
 ·rcases o1.1 c with c|c
  ·exact h.each y c
  rw[qv]at c;subst c;refine⟨l,?_⟩;exact rN.1 g
 rw[qb,E3];refine⟨h.once,by simp,λa j b d=>?_⟩;simp at d;subst d;exact λe=>i (e▸j)
theorem yy(a:f[b]?=ja x)(h:¬fG x.d\/lW x=ji\/x.d∈(f.take b).map ar.d):iJ f=ji:=by
 refine Fq λk=>?_
 have c:=k.each x (j1 a)
 rcases h with h|h|h
 ·exact h c.1
 ·rw[rN.2 c.2]at h;cases h
 have l:f=f.take b++f.drop b:=(xk b f).symm;have g:x∈f.drop b:=by
  obtain⟨d,e⟩:=qf.1 a;rw[xS d,e];exact qO ..
 have d:=k.once;rw[l,qb,E3]at d;exact d.2.2 _ h _ (jS.2 ⟨x,g,I⟩) I
theorem OP(h:mg f):iJ f=decide (f.length<=64):=by
 rw[qz,oF,decide_eq_true_iff];exact⟨λh=>h.len,λa=>⟨h.each,h.once,a⟩⟩
theorem Qf(a:jd N)(y:N):(dZ a y).getD ji=decide (y∈a):=by
 unfold dZ
 split<;>simp_all
theorem Am(l:jd ar)(v:jj)(w:jh)(h:EC.At w v l)(hl:l.length<=1000000):
 jq jl 74 #[v] w λe w'=>e=jp (.bool (iJ l))/\jk w w w':=by
 obtain⟨W,a⟩:=J (iJ l);rw[<-a];have X:=O a;obtain⟨p,c,rfl,hc,-⟩:=h.form;have HU:=O h;obtain⟨n,b⟩:=J l.length;have HN:=O b;rw[<-b]at hl hc HU⊢;have d:=aZ.made (il qG) 3 w;have f:=ap w (.map #[] 0);have ad:=O d;have Us:=O f;have g:=@run_makeMap jl;clear h b a d f
 go_enter func74,ntmps74
 go_wp2_with fail
 clear g;obtain⟨M,a⟩:=J w.heap.size;have ay:=O a;rw[<-a]at ad⊢;obtain⟨W0,b⟩:=J (w.alloc (.map #[] 0));rw[<-b]at ad Us⊢;clear a b
 go_loopw [12] (λi wr=>∃k:jb,i=T A k/\k<=n/\jf (aZ (il qG) 3 wr M k (dZ ((l.take k).map ar.d)))/\jf (mg (l.take k))/\jf (jk w w wr)) (λi _=>n-(jv i).toNat)
 case atStart=>exact⟨0,I,j5 _,O (ad.congr (λx _=>by simp[dZ])),O (ak mg.nil),Us⟩
 obtain⟨k,rfl,hk,z,HP,a⟩:=hrel
 by_cases a1:k<n
 case neg=>
  have y:=aw ((k:N)<(n:N));have a2:=aw (k<n);obtain rfl:k=n:=Y;have b:jf (W=decide (k<=64)):=O (by
   have h:=HP.out;rw[jU (by rw[<-HN];exact ju _)]at h;rw[X,OP h,<-HN])
  go_wp2_with fail
  go_ret;exact⟨iC (by rw[b,qz,decide_eq_true_iff,decide_eq_true_iff];omega),a⟩
 have y:=az ((k:N)<(n:N));have a2:=az (k<n);obtain⟨e,he,K⟩:=dK (l:=l) (j:=k) (by rw[<-HN];exact a1);obtain⟨g,o,rfl,b⟩:=(HU.cells).2.2 Y;have HE:=O he;have Vp:=O K;have Q:=O (SC (x:=e));have R:=O (Ub (x:=e));have D:=O (KY (x:=e));have aa:=O (Mn (x:=e));obtain⟨S,B⟩:=J (tC e);obtain⟨F,C⟩:=J (sw e);obtain⟨s,H⟩:=J (lW e);have au:=O B;have VL:=O C;have ax:=O H;rw[<-B]at Q D;rw[<-C]at R D;rw[<-H]at aa Q R D;obtain⟨d,f,ep,u,r⟩:=e;have c0:wr.cell? ⟨g,o+k*5,jc⟩=ja (T A d):=aC (b k _ he 0 _ I) a;have c1:wr.cell? ⟨g,o+k*5+1,jc⟩=ja (T A f):=aC (b k _ he 1 _ I) a;have U:wr.cell? ⟨g,o+k*5+2,jc⟩=ja (T A ep):=aC (b k _ he 2 _ I) a;have c3:wr.cell? ⟨g,o+k*5+3,jc⟩=ja (T A u):=aC (b k _ he 3 _ I) a;have c4:wr.cell? ⟨g,o+k*5+4,jc⟩=ja (T A r):=aC (b k _ he 4 _ I) a;have V:=ap wr (je #[T A d,T A f,T A ep,T A u,T A r] 55);have hX:=jw wr (je #[T A d,T A f,T A ep,T A u,T A r] 55);have m:=O V;have q:=O hX;dsimp only at aa Q R D;clear b he K B C H V hX
 go_upto_region 5 with fail
 obtain⟨B,b⟩:=J wr.heap.size;rw[<-b]at q⊢;obtain⟨W1,C⟩:=J (wr.alloc (je #[T A d,T A f,T A ep,T A u,T A r] 55));rw[<-C]at m q⊢;have K:=O (z.below m z.lt);have Uq:=O (a.trans (m.mono a.size));have YJ:=O b;clear b C c0 c1 U c3 c4 z a m
 go_cut [6] (λv b=>v=.bool S/\jf (jk W1 W1 b))
 case first=>
  have b2:=ah (i:=2) q I;have b3:=ah (i:=3) q I;have V:=O (gD ep);have U2:=O (gD u);have C:jf (S=(decide (cU ep=0)&&decide (cU u=0))):=O au;obtain⟨U,a⟩:=J (cU ep);obtain⟨c3,m⟩:=J (cU u);rw[<-a]at V C;rw[<-m]at U2 C;clear a m
  go_wp2_with fail
  refine(V _).mono ?_;rintro e w2 ⟨rfl,a⟩;replace b3:=aC b3 a;have z:=O a;clear a b2
  by_cases m:U=0
  ·subst m
   go_wp2_with fail
   refine(U2 _).mono ?_;rintro e w3 ⟨rfl,a⟩;have H:=aj z a;clear a
   go_wp2_with fail
   go_meet
   exact⟨by rw[C,<-Nh];rfl,H⟩
  have hd2:(U==0)=ji:=ak m;have a3:decide (U=0)=ji:=ak m;obtain rfl:S=ji:=by rw[C,a3];rfl
  clear m
  go_wp2_with fail
  go_meet
  exact⟨I,z⟩
 obtain⟨rfl,z⟩:=hcut;have V:=O (av q z);have VN:=O (K.below z K.lt);have H:=O (Uq.trans (z.mono Uq.size));clear q K Uq z;have b4:=ah (i:=4) V I
 go_upto_region 6 with fail
 go_cut [7] (λv b=>v=.bool F/\wc=b)
 case first=>
  have a:jf (F=(decide (0<=r)&&decide (r<=1048576))):=O VL
  by_cases q:0<=r
  ·have y:decide (0<=r)=jm:=ak q
   have C:jf (F=decide (r<=1048576)):=O (by rw[a,y];rfl)
   go_wp2_with fail
   go_meet
   exact⟨js qu C.symm,I⟩
  have y:decide (0<=r)=ji:=ak q;obtain rfl:F=ji:=by rw[a,y];rfl
  clear q
  go_wp2_with fail
  go_meet
  exact⟨I,I⟩
 obtain⟨rfl,rfl⟩:=hcut;have b0:=ah (i:=0) V I;have b2:=ah (i:=2) V I;have b3:=ah (i:=3) V I
 go_upto_block 2 with fail
 go_cut [8] (λv b=>v=.bool s/\wc=b)
 case first=>
  by_cases q:d=1
  ·have y:(d==1)=jm:=ak q
   have a:=Q q;clear q
   rcases S with _|_
   ·obtain rfl:s=ji:=by rw[a];rfl
    clear a
    go_wp2_with fail
    go_meet
    exact⟨I,I⟩
   have C:jf (s=(r==0)):=O (by rw[a];rfl);clear a
   go_wp2_with fail
   go_meet
   exact⟨js qu C.symm,I⟩
  have y:(d==1)=ji:=ak q
  by_cases m:d=2
  ·have hd2:(d==2)=jm:=ak m
   have a:=R m;clear q m
   by_cases b:ep=0
   ·have hd3:(ep==0)=jm:=ak b
    by_cases K:u=0
    ·have a3:(u==0)=jm:=ak K
     have C:jf (s=F):=O (by rw[a,b,K];simp);clear a b K
     go_wp2_with fail
     go_meet
     exact⟨js qu C.symm,I⟩
    have a3:(u==0)=ji:=ak K;obtain rfl:s=ji:=by rw[a];simp[K]
    clear a b K
    go_wp2_with fail
    go_meet
    exact⟨I,I⟩
   have hd3:(ep==0)=ji:=ak b;obtain rfl:s=ji:=by rw[a];simp[b]
   clear a b
   go_wp2_with fail
   go_meet
   exact⟨I,I⟩
  have hd2:(d==2)=ji:=ak m
  by_cases b:d=3
  ·have hd3:(d==3)=jm:=ak b
   have a:=D b;clear q m b
   rcases S with _|_
   ·obtain rfl:s=ji:=by rw[a];rfl
    clear a
    go_wp2_with fail
    go_meet
    exact⟨I,I⟩
   have C:jf (s=F):=O (by rw[a];rfl);clear a
   go_wp2_with fail
   go_meet
   exact⟨js qu C.symm,I⟩
  have hd3:(d==3)=ji:=ak b;obtain rfl:s=ji:=aa q m b;clear q m b
  go_wp2_with fail
  go_meet
  exact⟨I,I⟩
 obtain⟨rfl,rfl⟩:=hcut;clear b0 b2 b3 b4 aa Q R D au VL;have b1:=ah (i:=1) V I
 cases s with
 |false=>
  obtain rfl:W=ji:=by rw[X];exact yy HE (.inr (.inl ax.symm))
  go_wp2_with fail
  go_ret;exact⟨I,H⟩
 |true=>
 have a:=O (Bg f);obtain⟨Q,b⟩:=J (decide (fG f));rw[<-b]at a;have q:=O b;clear b
 go_wp2_with fail
 refine(a _).mono ?_;rintro e w4 ⟨rfl,rfl⟩;clear a
 cases Q with
 |false=>
  obtain rfl:W=ji:=by rw[X];exact yy HE (.inl (by have h:=q.symm;simpa using h))
  go_wp2_with fail
  go_ret;exact⟨I,H⟩
 |true=>
 have a:fG f:=qa q.symm;have b:aO f:=aO.of (by unfold fG at a;omega);have R:=O a;have C:=VN.look (P:=jl) nn (t:=203) underlying203 (Bj _) b ji;obtain⟨D,m⟩:=J (decide (f∈(l.take k).map ar.d));have a3:(Instr.lookup 203 (.map (ja M)) (T A f) ji).run jl wc=.ok (.bool D) wc:=by
  rw[C,m,<-Qf];rfl
 have K:=O m;have aa:=O b;clear a b C m
 cases D with
 |true=>
  obtain rfl:W=ji:=by rw[X];exact yy HE (.inr (.inr (qa K.symm)))
  go_wp2_with fail
  go_ret;exact⟨I,H⟩
 |false=>
 have C:jf (mg (l.take (k+1))):=O (by
  rw[Vp];exact HP.snoc R ax.symm (of_decide_eq_false K.symm))
 have HS:jf ((l.take (k+1)).map ar.d=(l.take k).map ar.d++[f]):=O (by rw[Vp,qb];rfl);have a4:k<1000001:=Y;have au:jf (M<wc.heap.size):=O VN.lt;have a:jf (w.heap.size<=M):=O (by rw[ay];exact ju _)
 go_wp2_with (at_mapUpdate;refine oD (E:=il qG) I _ _ _ 203 I nn underlying203 M _ _ I VN (by unfold oj;omega) f I aa jm I trivial ?_;intro w3 b m;have Wx:=O b;have ZU:=O m;clear b m)
 exact⟨⟨k+1,by go_num,by omega,O (by
  have h:=Wx.out;rw[zn]at h;rw[HS];exact h),C,O (H.grown ZU.grown (dY au a) (λj e=>by cases e;exact a))⟩,by simp only[jv];omega⟩
theorem gu(h:bJ w a t):∃p n c,a=jg p n c:=by
 obtain⟨p,c,v,-⟩:=h;exact⟨p,_,c,v⟩
theorem Af(h:bL d):aO d:=aO.of (by have:=h.1;have:=h.2.1;omega)
theorem bJ.setRow{v:jj}{p:jP j6}{n c:jb}{l:jJ}{m:jb×jb}{f:jD jj}(h:bJ w v t)(q:w.heap[b]?=ja (je #[jg p n c] l m)):bJ (w.setRow b f) v t:=by
 have key:∀(g o:jb) (x:N),w.cell? ⟨g,o,jc⟩=ja (T A x)->(w.setRow b f).cell? ⟨g,o,jc⟩=ja (T A x):=λg o x d=>by
  by_cases e:g=b
  ·subst e
   exfalso
   unfold qy at d;rw[q]at d
   rcases o with _ |o<;>simp at d
  rw[<-d];exact dV (a:=⟨g,o,jc⟩) (jY _ _ _ _ e)
 obtain⟨p,c,r,s,u,y,z⟩:=h;refine⟨p,c,r,s,u,λB=>?_,z⟩;obtain⟨g,o,e,i⟩:=y B;exact⟨g,o,e,λj k=>⟨key _ _ _ (i j k).1,key _ _ _ (i j k).2⟩⟩
theorem rr:(jl.info? 27).map (·.size)=ja 1:=by kernel_rfl
theorem yG(g:Grp)(vm vt vl:jj)(l:jd ar)(w:jh)(h:bH w g vm vt)(u:eU l)(z:g.tree.length<=700000)(v:EC.At w vl l):
 jq jl 38 #[jn (aD g vm vt).toArray,vl] w λe w'=>∃M,e=jp (jn #[M])/\bJ w' M (aX g.tree l)/\jk w w w':=by
 obtain⟨f,q,b,rfl⟩:=gu h.tree;obtain⟨r,x⟩:=J ((aD g vm (jg f q b)).toArray);have B:r[35]?=ja (jg f q b):=by rw[x];simpa using(lQ (vm:=vm) (vt:=jg f q b) h.llen).2.2.2
 rw[<-x];have au:=O B;obtain⟨x0,c⟩:=J ((((w.alloc (je r 29)).alloc (je #[jg jc 0 0] 27)).alloc (je #[jg f q b] 27)));obtain⟨d,k⟩:=J w.heap.size;have a:=jw w (je r 29);have m:=ap w (je r 29);have i:=jw (w.alloc (je r 29)) (je #[jg jc 0 0] 27);have o:=ap (w.alloc (je r 29)) (je #[jg jc 0 0] 27);have p:=jw ((w.alloc (je r 29)).alloc (je #[jg jc 0 0] 27)) (je #[jg f q b] 27);have s:=ap ((w.alloc (je r 29)).alloc (je #[jg jc 0 0] 27)) (je #[jg f q b] 27);replace a:=av a o;replace a:=av a s;rw[j7]at i;replace i:=av i s;rw[j7,j7]at p;have t:=((m).trans (o.mono (m).size)).trans (s.mono ((m).trans (o.mono (m).size)).size);rw[<-c]at t;rw[<-c,<-k]at a;rw[<-c,<-k]at i;rw[<-c,<-k]at p;have a5:=O a;have U1:=O i;have ax:=O p;have Us:=O t;have HW:=O c;have P:=O k;obtain⟨pl,cl,rfl,Vq,-⟩:=v.form;obtain⟨n,y⟩:=J l.length;have C:=u.len;have a6:n<=64:=Y;have ay:jf (bJ x0 (jg f q b) g.tree):=O (h.tree.below t);have UU:jf (EC.At w (jg pl l.length cl) l):=O v;rw[<-y]at UU Vq⊢;have ZT:=O y;have HF:=O u;have Ww:=O z;clear t c k a m i o p s x y C u z v h B
 go_enter func38,ntmps38
 have a:((w.alloc (je r 29)).alloc (je #[jg jc 0 0] 27)).cell? ⟨w,35,jc⟩=ja (jg f q b):=ah (av (jw w _) (ap _ _)) au
 go_upto_region 2 with fail
 clear a;rw[<-HW,<-P]
 go_wp2_with fail
 go_loopw [12] (λi wr=>∃(k:jb) (p:jP j6) (m c:jb),i=T A k/\k<=n/\jf (wr.heap[d+1+1]?=ja (je #[jg p m c] 27 (0,0)))/\jf (wr.heap[d+1]?=ja (je #[jg jc 0 0] 27 (0,0)))/\jf (bJ wr (jg p m c) (aX g.tree (l.take k)))/\jf (jk w w wr)) (λi _=>n-(jv i).toNat)
 case atStart=>exact⟨0,f,q,b,I,j5 _,ax,U1,ay,Us⟩
 obtain⟨k,p,m,c,rfl,hk,C,v,x,s⟩:=hrel
 by_cases a1:k<n
 case neg=>
  have a2:=aw ((k:N)<(n:N));have a3:=aw (k<n);obtain rfl:k=n:=Y;have b:=ah (i:=0) C I;have a:jf (bJ wr (jg p m c) (aX g.tree l)):=O (by have h:=x.out;rw[jU (by rw[<-ZT];exact ju _)]at h;exact h);have t:d+1≠d+1+1:=Y
  go_wp2_with (refine j3 I λ_ y=>j4 27 _ _ I (d+1) #[jg p m c] I I 27 _ v.out rr ai (by simp[ob]) (y _ _ ?_))
  have o:(wr.setRow (d+1) #[jg p m c]).heap[d+1]?=ja (je #[jg p m c] 27 (0,0)):=jR _ _ _ _ _ _ v.out;refine qh (results_cell_row I _ _ (d+1) 27 _ (0,0) _ I o underlying27 I rr) I ?_;exact⟨_,I,a.setRow v,jZ s.out (by rw[P];omega) _⟩
 have a2:=az ((k:N)<(n:N));have a3:=az (k<n);obtain⟨e,he,D⟩:=dK (l:=l) (j:=k) (by rw[<-ZT];exact a1);obtain⟨z,o,rfl,a⟩:=(UU.cells).2.2 Y;have B:=HF.each e (j1 he);have X:jf (aO e.d):=O (aO.of (by have:=B.1;unfold fG at this;omega));have ad:jf (e.k≠2->aO e.p):=O (λt=>by
  rcases B.2 with h|h|h
  ·exact Af h.2.1
  ·exact jB h.1 t
  exact Af h.2.1)
 have Wc:jf (aX g.tree (l.take (k+1))=ik (aX g.tree (l.take k)) e):=O (by rw[D,Rc]);have Ze:jf ((aX g.tree (l.take k)).length<=800000):=O (by have:=wP g.tree (l.take k);have:=Ww.out;have:=qA k l;omega);generalize aX g.tree (l.take k)=Q at Wc Ze x;obtain⟨u,t,ep,R,S⟩:=e;have H:wr.cell? ⟨z,o+k*5,jc⟩=ja (T A u):=aC (a k _ he 0 _ I) s;have K:wr.cell? ⟨z,o+k*5+1,jc⟩=ja (T A t):=aC (a k _ he 1 _ I) s;have c2:wr.cell? ⟨z,o+k*5+2,jc⟩=ja (T A ep):=aC (a k _ he 2 _ I) s;have c3:wr.cell? ⟨z,o+k*5+3,jc⟩=ja (T A R):=aC (a k _ he 3 _ I) s;have c4:wr.cell? ⟨z,o+k*5+4,jc⟩=ja (T A S):=aC (a k _ he 4 _ I) s;dsimp only at X ad;clear a he D B
 go_upto_region 5 with fail
 obtain⟨y1,a⟩:=J wr;rw[<-a]at C v x s H K c2 c3 c4⊢;clear a;have a:=ap y1 (je #[T A u,T A t,T A ep,T A R,T A S] 55);have D:=jw y1 (je #[T A u,T A t,T A ep,T A R,T A S] 55);obtain⟨y2,hx⟩:=J (y1.alloc (je #[T A u,T A t,T A ep,T A R,T A S] 55));rw[<-hx]at a D⊢;obtain⟨E,F⟩:=J y1.heap.size;rw[<-F]at D⊢;have ba:=O F;have B:=ae C a;have U:=ae v a;have V:=O (x.below a);have W:=aj s a;clear C v x s;have x:=O D;clear D hx a F;have b0:=ah (i:=0) x I;have b1:=ah (i:=1) x I;have b2:=ah (i:=2) x I;have t0:=ah (i:=0) B I;clear H K c2 c3 c4
 by_cases s:u=2
 ·have hd2:(u==2)=jm:=ak s
  have aa:jf (aX g.tree (l.take (k+1))=kK Q t):=O (by rw[Wc];exact jt s);clear s
  go_wp2_with fail
  refine(PR Q (jg p m c) t y2 V Ze X).mono ?_;rintro e y3 ⟨M,rfl,C,a⟩;have D:=O C;clear C b0 b1 b2 t0;have v:=ae B a;have Vg:=ae U a;have Uu:=aj W a;clear B U V W x;clear a;obtain⟨F,H,K,rfl⟩:=gu D
  go_wp2_with (refine j3 I λ_ y=>j4 27 _ _ I (d+1+1) #[jg F H K] I I 27 _ v.out rr ai (by simp[ob]) (y _ _ ?_))
  exact⟨⟨k+1,F,H,K,by go_num,by omega,O (jR _ _ _ _ _ _ v.out),O ((jY _ _ _ _ Y).trans Vg),O (by rw[aa];exact D.setRow v),O (jZ Uu.out (by rw[P];omega) _)⟩,by simp only[jv];omega⟩
 have hd2:(u==2)=ji:=ak s;have aa:jf (aX g.tree (l.take (k+1))=kU Q t ep):=O (by rw[Wc];exact jy s);have a4:=O (ad s);clear s
 go_wp2_with fail
 refine(SH Q (jg p m c) t ep y2 V Ze X a4).mono ?_;rintro e y3 ⟨M,rfl,C,a⟩;have D:=O C;clear C b0 b1 b2 t0;have v:=ae B a;have Vg:=ae U a;have Uu:=aj W a;clear B U V W x;clear a;obtain⟨F,H,K,rfl⟩:=gu D
 go_wp2_with (refine j3 I λ_ y=>j4 27 _ _ I (d+1+1) #[jg F H K] I I 27 _ v.out rr ai (by simp[ob]) (y _ _ ?_))
 exact⟨⟨k+1,F,H,K,by go_num,by omega,O (jR _ _ _ _ _ _ v.out),O ((jY _ _ _ _ Y).trans Vg),O (by rw[aa];exact D.setRow v),O (jZ Uu.out (by rw[P];omega) _)⟩,by simp only[jv];omega⟩
section
open Go.Shelf
def Tryzx.laysM_ren:Go.Shelf.Ren:=⟨fun|6=>44|15=>98|14=>97|28=>151|29=>152|20=>143|21=>144|22=>145|23=>146|24=>147|25=>148|26=>149|27=>150|46=>204|47=>205|48=>206|49=>207|50=>208|57=>250|n=>n,fun|22=>24|24=>100|25=>108|3=>3|39=>171|0=>0|53=>233|55=>206|4=>4|46=>227|45=>226|50=>48|5=>5|9=>9|66=>297|70=>301|76=>342|77=>343|n=>n,fun|n=>n⟩
theorem Tryzx.laysM:Go.Proofs.SlLaysF0.n6 jl Tryzx.laysM_ren:={
 mixed:=by kernel_rfl
 f6:=⟨Tryz.f44.name,by decide,func44.trans (js ja af)⟩
 f14:=⟨Tryz.f97.name,by decide,func97.trans (js ja af)⟩
 f15:=func98.trans (js ja af)
 f20:=⟨Tryz.f143.name,by decide,func143.trans (js ja af)⟩
 f21:=⟨Tryz.f144.name,by decide,func144.trans (js ja af)⟩
 f22:=⟨Tryz.f145.name,by decide,func145.trans (js ja af)⟩
 f23:=⟨Tryz.f146.name,by decide,func146.trans (js ja af)⟩
 f24:=⟨Tryz.f147.name,by decide,func147.trans (js ja af)⟩
 f25:=⟨Tryz.f148.name,by decide,func148.trans (js ja af)⟩
 f26:=⟨Tryz.f149.name,by decide,func149.trans (js ja af)⟩
 f27:=⟨Tryz.f150.name,by decide,func150.trans (js ja af)⟩
 f28:=func151.trans (js ja af)
 f29:=func152.trans (js ja af)
 f46:=⟨Tryz.f204.name,by decide,func204.trans (js ja af)⟩
 f47:=func205.trans (js ja af)
 f48:=func206.trans (js ja af)
 f49:=⟨Tryz.f207.name,by decide,func207.trans (js ja af)⟩
 f50:=⟨Tryz.f208.name,by decide,func208.trans (js ja af)⟩
 f57:=⟨Tryz.f250.name,by decide,func250.trans (js ja af)⟩
 t0:=xA
 a0:=isAgg0
 z0:=sizeOf0
 v0:=zeroValue0
 t3:=nn
 a3:=isAgg3
 z3:=sizeOf3
 v3:=zeroValue3
 t4:=qG
 a4:=isAgg4
 z4:=sizeOf4
 v4:=zeroValue4
 t5:=vi
 a5:=isAgg5
 z5:=sizeOf5
 v5:=zeroValue5
 t9:=xB
 a9:=isAgg9
 z9:=sizeOf9
 v9:=zeroValue9
 t22:=qD
 a22:=isAgg24
 z22:=sizeOf24
 v22:=zeroValue24
 t25:=underlying108
 a25:=isAgg108
 z25:=sizeOf108
 v25:=zeroValue108
 t39:=xC
 a39:=isAgg171
 z39:=sizeOf171
 v39:=zeroValue171
 t45:=xD
 a45:=isAgg226
 z45:=sizeOf226
 v45:=zeroValue226
 t46:=xE
 a46:=isAgg227
 z46:=sizeOf227
 v46:=zeroValue227
 t50:=xG
 a50:=isAgg48
 z50:=sizeOf48
 v50:=zeroValue48
 t53:=xH
 a53:=isAgg233
 z53:=sizeOf233
 v53:=zeroValue233
 t55:=xI
 a55:=isAgg206
 z55:=sizeOf206
 v55:=zeroValue206
 t66:=xJ
 a66:=isAgg297
 z66:=sizeOf297
 v66:=zeroValue297
 t70:=xK
 a70:=isAgg301
 z70:=sizeOf301
 v70:=zeroValue301
 t76:=xL
 a76:=isAgg342
 z76:=sizeOf342
 v76:=zeroValue342
 t77:=xM
 a77:=isAgg343
 z77:=sizeOf343
 v77:=zeroValue343}
theorem Tryzx.sortFunc_noneM(p:jP j6)(a:jb)(b:jj)(w:jh):
 jq jl 44 #[jg p 0 a,b] w λe w'=>e=jp (jE #[])/\w'=w:=AnyF.slices_SortFunc_none Tryzx.laysM p a b w
def Tryzx.laysC_ren:Go.Shelf.Ren:=⟨fun|6=>81|15=>98|14=>132|28=>151|29=>152|20=>191|21=>192|22=>193|23=>194|24=>195|25=>196|26=>197|27=>198|46=>245|47=>205|48=>206|49=>246|50=>247|57=>265|n=>n,fun|22=>30|24=>55|25=>154|3=>3|39=>171|0=>0|53=>233|55=>206|4=>4|46=>227|45=>226|50=>48|5=>5|9=>9|66=>297|70=>301|76=>342|77=>343|n=>n,fun|n=>n⟩
theorem Tryzx.laysC:Go.Proofs.SlLaysF0.n6 jl Tryzx.laysC_ren:={
 mixed:=by kernel_rfl
 f6:=⟨Tryz.f81.name,by decide,func81.trans (js ja af)⟩
 f14:=⟨Tryz.f132.name,by decide,func132.trans (js ja af)⟩
 f15:=func98.trans (js ja af)
 f20:=⟨Tryz.f191.name,by decide,func191.trans (js ja af)⟩
 f21:=⟨Tryz.f192.name,by decide,func192.trans (js ja af)⟩
 f22:=⟨Tryz.f193.name,by decide,func193.trans (js ja af)⟩
 f23:=⟨Tryz.f194.name,by decide,func194.trans (js ja af)⟩
 f24:=⟨Tryz.f195.name,by decide,func195.trans (js ja af)⟩
 f25:=⟨Tryz.f196.name,by decide,func196.trans (js ja af)⟩
 f26:=⟨Tryz.f197.name,by decide,func197.trans (js ja af)⟩
 f27:=⟨Tryz.f198.name,by decide,func198.trans (js ja af)⟩
 f28:=func151.trans (js ja af)
 f29:=func152.trans (js ja af)
 f46:=⟨Tryz.f245.name,by decide,func245.trans (js ja af)⟩
 f47:=func205.trans (js ja af)
 f48:=func206.trans (js ja af)
 f49:=⟨Tryz.f246.name,by decide,func246.trans (js ja af)⟩
 f50:=⟨Tryz.f247.name,by decide,func247.trans (js ja af)⟩
 f57:=⟨Tryz.f265.name,by decide,func265.trans (js ja af)⟩
 t0:=xA
 a0:=isAgg0
 z0:=sizeOf0
 v0:=zeroValue0
 t3:=nn
 a3:=isAgg3
 z3:=sizeOf3
 v3:=zeroValue3
 t4:=qG
 a4:=isAgg4
 z4:=sizeOf4
 v4:=zeroValue4
 t5:=vi
 a5:=isAgg5
 z5:=sizeOf5
 v5:=zeroValue5
 t9:=xB
 a9:=isAgg9
 z9:=sizeOf9
 v9:=zeroValue9
 t22:=qE
 a22:=isAgg30
 z22:=sizeOf30
 v22:=zeroValue30
 t25:=underlying154
 a25:=isAgg154
 z25:=sizeOf154
 v25:=zeroValue154
 t39:=xC
 a39:=isAgg171
 z39:=sizeOf171
 v39:=zeroValue171
 t45:=xD
 a45:=isAgg226
 z45:=sizeOf226
 v45:=zeroValue226
 t46:=xE
 a46:=isAgg227
 z46:=sizeOf227
 v46:=zeroValue227
 t50:=xG
 a50:=isAgg48
 z50:=sizeOf48
 v50:=zeroValue48
 t53:=xH
 a53:=isAgg233
 z53:=sizeOf233
 v53:=zeroValue233
 t55:=xI
 a55:=isAgg206
 z55:=sizeOf206
 v55:=zeroValue206
 t66:=xJ
 a66:=isAgg297
 z66:=sizeOf297
 v66:=zeroValue297
 t70:=xK
 a70:=isAgg301
 z70:=sizeOf301
 v70:=zeroValue301
 t76:=xL
 a76:=isAgg342
 z76:=sizeOf342
 v76:=zeroValue342
 t77:=xM
 a77:=isAgg343
 z77:=sizeOf343
 v77:=zeroValue343}
theorem Tryzx.sortFunc_noneC(p:jP j6)(a:jb)(b:jj)(w:jh):
 jq jl 81 #[jg p 0 a,b] w λe w'=>e=jp (jE #[])/\w'=w:=AnyF.slices_SortFunc_none Tryzx.laysC p a b w
def Tryzx.laysK_ren:Go.Shelf.Ren:=⟨fun|6=>118|15=>98|14=>169|28=>151|29=>152|20=>218|21=>219|22=>220|23=>221|24=>222|25=>223|26=>224|27=>225|46=>258|47=>205|48=>206|49=>259|50=>260|57=>270|n=>n,fun|22=>126|24=>110|25=>191|3=>3|39=>171|0=>0|53=>233|55=>206|4=>4|46=>227|45=>226|50=>48|5=>5|9=>9|66=>297|70=>301|76=>342|77=>343|n=>n,fun|n=>n⟩
theorem Tryzx.laysK:Go.Proofs.SlLaysF0.n6 jl Tryzx.laysK_ren:={
 mixed:=by kernel_rfl
 f6:=⟨Tryz.f118.name,by decide,func118.trans (js ja af)⟩
 f14:=⟨Tryz.f169.name,by decide,func169.trans (js ja af)⟩
 f15:=func98.trans (js ja af)
 f20:=⟨Tryz.f218.name,by decide,func218.trans (js ja af)⟩
 f21:=⟨Tryz.f219.name,by decide,func219.trans (js ja af)⟩
 f22:=⟨Tryz.f220.name,by decide,func220.trans (js ja af)⟩
 f23:=⟨Tryz.f221.name,by decide,func221.trans (js ja af)⟩
 f24:=⟨Tryz.f222.name,by decide,func222.trans (js ja af)⟩
 f25:=⟨Tryz.f223.name,by decide,func223.trans (js ja af)⟩
 f26:=⟨Tryz.f224.name,by decide,func224.trans (js ja af)⟩
 f27:=⟨Tryz.f225.name,by decide,func225.trans (js ja af)⟩
 f28:=func151.trans (js ja af)
 f29:=func152.trans (js ja af)
 f46:=⟨Tryz.f258.name,by decide,func258.trans (js ja af)⟩
 f47:=func205.trans (js ja af)
 f48:=func206.trans (js ja af)
 f49:=⟨Tryz.f259.name,by decide,func259.trans (js ja af)⟩
 f50:=⟨Tryz.f260.name,by decide,func260.trans (js ja af)⟩
 f57:=⟨Tryz.f270.name,by decide,func270.trans (js ja af)⟩
 t0:=xA
 a0:=isAgg0
 z0:=sizeOf0
 v0:=zeroValue0
 t3:=nn
 a3:=isAgg3
 z3:=sizeOf3
 v3:=zeroValue3
 t4:=qG
 a4:=isAgg4
 z4:=sizeOf4
 v4:=zeroValue4
 t5:=vi
 a5:=isAgg5
 z5:=sizeOf5
 v5:=zeroValue5
 t9:=xB
 a9:=isAgg9
 z9:=sizeOf9
 v9:=zeroValue9
 t22:=underlying126
 a22:=isAgg126
 z22:=sizeOf126
 v22:=zeroValue126
 t25:=underlying191
 a25:=isAgg191
 z25:=sizeOf191
 v25:=zeroValue191
 t39:=xC
 a39:=isAgg171
 z39:=sizeOf171
 v39:=zeroValue171
 t45:=xD
 a45:=isAgg226
 z45:=sizeOf226
 v45:=zeroValue226
 t46:=xE
 a46:=isAgg227
 z46:=sizeOf227
 v46:=zeroValue227
 t50:=xG
 a50:=isAgg48
 z50:=sizeOf48
 v50:=zeroValue48
 t53:=xH
 a53:=isAgg233
 z53:=sizeOf233
 v53:=zeroValue233
 t55:=xI
 a55:=isAgg206
 z55:=sizeOf206
 v55:=zeroValue206
 t66:=xJ
 a66:=isAgg297
 z66:=sizeOf297
 v66:=zeroValue297
 t70:=xK
 a70:=isAgg301
 z70:=sizeOf301
 v70:=zeroValue301
 t76:=xL
 a76:=isAgg342
 z76:=sizeOf342
 v76:=zeroValue342
 t77:=xM
 a77:=isAgg343
 z77:=sizeOf343
 v77:=zeroValue343}
theorem Tryzx.sortFunc_noneK(p:jP j6)(a:jb)(b:jj)(w:jh):
 jq jl 118 #[jg p 0 a,b] w λe w'=>e=jp (jE #[])/\w'=w:=AnyF.slices_SortFunc_none Tryzx.laysK p a b w
end
section
open Go.RowKit Go.Maps Go.Sort Go.Shelf
section
variable {α:Type} {E:EK α}
theorem Mo{l:jd α}[Inhabited {x//x∈l}](t:jb)(d:t<l.length*E.k):(E.flat l)[t]?=ja ((E.cells (l.attach.toArray[t/E.k]!).1)[t%E.k]!):=by
 have b:t/E.k<l.length:=E4 (by rw[qN];exact d);have a:t%E.k<E.k:=qL _ E.pos;have h:=E.flat_get l (t/E.k) (t%E.k) l[t/E.k] (mz b) a;rw[show t/E.k*E.k+t%E.k=t by rw[qN];exact E5 t E.k]at h;have e:(l.attach.toArray[t/E.k]!).1=l[t/E.k]:=by rw[getElem!_pos l.attach.toArray _ (ak b)];simp
 rw[h,e];have c:=E.len l[t/E.k];rw[mz (by rw[c];exact a),getElem!_pos _ _ (by rw[c];exact a)]
theorem dw.holds{j:jb}{w W:jh}{g n c:jb}{l:jd α}[Inhabited {x//x∈l}](h:dw E j w W g n c l):HoldsK (λx:{x//x∈l}=>E.cells x.1) E.k W g 0 l.attach.toArray:=by
 obtain⟨p,k⟩:=h.own
 rcases k with⟨b,_⟩|⟨g',q,r,b,s,e,u,v,y,m⟩
 ·cases b
 injection b with a z o
 injection a with a
 injection a with a
 subst a;subst o;intro t d;rw[size_flatK]at d;have f:t<l.length*E.k:=ak d;have i:=Mo (E:=E) t f;rw[get_flatK _ _ _ _ d];refine⟨?_,by simp[World.frozen?,e]⟩;rw[jM,qy,e];rw[<-m,E6 (by rw[h.len];exact f)]at i
 simpa using i
theorem Bq{l:jd α}[Inhabited {x//x∈l}]{W:jh}{g n c:jb}{d:jd {x//x∈l}}(h:HoldsK (λx:{x//x∈l}=>E.cells x.1) E.k W g 0 d.toArray)(p:n=(d.map Subtype.val).length)(q:n<=c):E.At W (jg (ja ⟨g,0,jc⟩) n c) (d.map Subtype.val):=by
 refine⟨E.flat_length _,ja ⟨g,0,jc⟩,c,by rw[p],by omega,(λe=>by cases e),λ_=>⟨g,0,rfl,λj r k=>?_⟩⟩;have b:=(qf.1 k).1;rw[E.flat_length,jC]at b;have f:=(h j (by rw[size_flatK];simpa using b)).1;rw[get_flatK _ _ _ _ (ak b)]at f;have m:j/E.k<d.length:=E4 (by rw[qN];exact b);have i:j%E.k<E.k:=qL _ E.pos;have a:=E.flat_get (d.map Subtype.val) (j/E.k) (j%E.k) (d[j/E.k]).1 (by rw[j8,mz m];rfl) i;rw[show j/E.k*E.k+j%E.k=j by rw[qN];exact E5 j E.k,k]at a;have e:d.toArray[j/E.k]! =d[j/E.k]:=by rw[getElem!_pos d.toArray _ (ak m)];simp
 rw[e]at f;have o:=E.len (d[j/E.k]).1;rw[mz (by rw[o];exact i)]at a;injection a with a
 rw[getElem!_pos _ _ (by rw[o];exact i),<-a]at f;exact f
theorem AR{β:Type}[Inhabited β]{enc:β->jd jj}{k a:jb}{w:jh}{g n:jb}{d:jD β}{os:jD Obj}(b:a<=g)(c:a<=w.heap.size):jk a w (sortWorldK enc k w g 0 n d os):=by
 unfold sortWorldK putRowK putRow mapBlock Go.Sort.ahead Go.Sort.grow;refine⟨I,I,I,by simp,λk e=>?_⟩;simp only;rw[Array.getElem?_append_left (by simp;omega),Array.getElem?_modify,jy Y]
theorem F4{β:Type}(f:β->N):SWO (ltOf λx y:β=>cE (f x) (f y)) where
 irrefl x:=by simp[ltOf,cE]
 trans x y z h1 h2:=by
  simp only[ltOf,decide_eq_true_eq]at*;unfold cE at*
  by_cases a:f x<f y
  ·by_cases b:f y<f z
   ·rw[jt Y];decide
   rw[jy b]at h2;split at h2<;>omega
  rw[jy a]at h1;split at h1<;>omega
 ntrans x y z h1 h2:=by
  simp only[ltOf,decide_eq_false_iff_not]at*;unfold cE at*
  by_cases a:f x<f z
  ·exfalso
   by_cases b:f x<f y
   ·rw[jt b]at h1;exact h1 L
   by_cases c:f y<f z
   ·rw[jt c]at h2;exact h2 L
   omega
  rw[jy a];split<;>omega
theorem G5(x y:N):(!(decide (cE y x<0)))=decide (x<=y):=by
 unfold cE
 by_cases h:y<x
 ·rw[jt h];simp;omega
 rw[jy h];split<;>simp<;>omega
theorem Dk{f:α->N}:∀{l:jd α},(l.map f).Nodup->∀x∈l,∀y∈l,f x=f y->x=y
 |[],_,x,g,_,_,_=>by cases g
 |a::l,d,x,g,y,h,e=>by
  rw[qJ,List.nodup_cons]at d
  rcases jT.1 g with c|c
  ·rcases jT.1 h with b|b
   ·rw[c,b]
   exact jB (jS.2 ⟨y,b,by rw[<-e,c]⟩) d.1
  rcases jT.1 h with b|b
  ·exact jB (jS.2 ⟨x,c,by rw[e,b]⟩) d.1
  exact Dk d.2 x c y b e
theorem H6(w:jh)(a b:Obj):(w.alloc a).alloc b=grow (w.drewN 0) #[a,b]:=by
 show({({w with heap:=w.heap.push a}:jh)with heap:=(w.heap.push a).push b}:jh)={w with heap:=w.heap++ #[a,b]}
 congr 1
theorem BX{l:jd α}{f:α->N}(g:(l.map f).Nodup){x y:α}(h:x∈l)(i:y∈l)(c:decide (cE (f x) (f y)<0)=ji)(d:decide (cE (f y) (f x)<0)=ji):x=y:=by
 have e:f x=f y:=by
  simp only[decide_eq_false_iff_not]at c d;unfold cE at c d
  by_cases a:f x<f y
  ·rw[jt a]at c;exact jB L c
  by_cases b:f y<f x
  ·rw[jt b]at d;exact jB L d
  omega
 exact Dk g x h y i e
end
theorem PH(x y:aJ)(w:jh):
 jq jl 45 #[jn (EM.cells x).toArray,jn (EM.cells y).toArray] w λe w'=>e=jp (T A (cE x.dev y.dev))/\∃q os,w'=grow (w.drewN q) os:=by
 obtain⟨a,x1,x2⟩:=x;obtain⟨b,y1,y2⟩:=y;show jq jl 45 #[jn #[T A a,T A x1,T A x2],jn #[T A b,T A y1,T A y2]] w λe w'=>e=jp (T A (cE a b))/\∃q os,w'=grow (w.drewN q) os
 have c:=O (tO a b);have d:jf (∃q os,(w.alloc (je #[T A a,T A x1,T A x2] 100)).alloc (je #[T A b,T A y1,T A y2] 100)=grow (w.drewN q) os):=O ⟨0,#[je #[T A a,T A x1,T A x2] 100,je #[T A b,T A y1,T A y2] 100],H6 _ _ _⟩
 go_enter func45,ntmps45
 go_wp2_with fail
 refine(c _).mono ?_;rintro e f ⟨rfl,rfl⟩
 go_wp2_with fail
 go_ret;exact⟨I,d⟩
def fJ(l:jd aJ):jd aJ:=l.mergeSort λx y=>decide (x.dev<=y.dev)
theorem JD(l:jd aJ)(o:(l.map aJ.dev).Nodup)(d g n c:jb)(w W:jh)(h:dw EM d w W g n c l)(q:n<=1000000):
 jq jl 44 #[jg (ja ⟨g,0,jc⟩) n c,.func (.func 45) #[] #[]] W λe w'=>e=jp (jE #[])/\EM.At w' (jg (ja ⟨g,0,jc⟩) n c) (fJ l)/\jk d W w':=by
 rcases xw n with i|i
 ·subst i
  obtain rfl:l=[]:=sn h.len.symm;refine(Tryzx.sortFunc_noneM _ c _ W).mono ?_;rintro e w' ⟨rfl,rfl⟩;have e:fJ []=[]:=by unfold fJ;simp
  rw[e];exact⟨I,h.at,jH _ _⟩
 have j:l≠[]:=λe=>by have:=h.len;rw[e]at this;simp at this;omega
 haveI:Inhabited {x//x∈l}:=⟨⟨l.head j,List.head_mem j⟩⟩
 have k:=AnyQ.slices_SortFunc_total (α:={x//x∈l}) Tryzx.laysM 3 isAgg100 sizeOf100 (λx=>EM.cells x.1) (λ_=>rfl) (λx v a=>EM.one x.1 v a) (λx y=>cE x.1.dev y.1.dev) (F4 (λx:{x//x∈l}=>x.1.dev)) 45 #[] g 0 c l.attach.toArray W
  (enters_of func45 af rfl) (λ_ _ _ _ x y=>PH x.1 y.1 _) (h.holds) h.lt.2 (by rw[jK,qB,<-h.len];omega) (λx y a b=>Subtype.ext (BX o x.2 y.2 a b))
 rw[jK,qB,<-h.len]at k;refine k.mono ?_;rintro e w' ⟨rfl,m,os,rfl⟩;have p:((l.attach.mergeSort λx y=> !ltOf (λx y:{x//x∈l}=>cE x.1.dev y.1.dev) y x).map Subtype.val)=fJ l:=by
  refine(GX (r:=λx y:{x//x∈l}=> !ltOf (λx y:{x//x∈l}=>cE x.1.dev y.1.dev) y x) (s:=λx y:aJ=>decide (x.dev<=y.dev)) (f:=Subtype.val) (λa _ b _=>G5 _ _)).trans ?_;rw[HH]
  rfl
 have a:=holdsK_sortWorldK (λx:{x//x∈l}=>EM.cells x.1) 3 W g 0 m l.attach.toArray (l.attach.mergeSort λx y=> !ltOf (λx y:{x//x∈l}=>cE x.1.dev y.1.dev) y x).toArray os h.lt.2 h.holds (by simp[(qP _ _).length_eq]);refine⟨I,?_,AR h.lt.1 (cV h.lt)⟩;rw[<-p];exact Bq (E:=EM) a (by rw[jC,(qP _ _).length_eq,qB];exact h.len) h.cap
theorem OO(x y:ar)(w:jh):
 jq jl 82 #[jn (EC.cells x).toArray,jn (EC.cells y).toArray] w λe w'=>e=jp (T A (cE x.d y.d))/\∃q os,w'=grow (w.drewN q) os:=by
 obtain⟨a,x1,x2,b,c⟩:=x;obtain⟨d,y1,y2,f,g⟩:=y;show jq jl 82 #[jn #[T A a,T A x1,T A x2,T A b,T A c],jn #[T A d,T A y1,T A y2,T A f,T A g]] w λe w'=>e=jp (T A (cE x1 y1))/\∃q os,w'=grow (w.drewN q) os
 have h:=O (tO x1 y1);have i:jf (∃q os,(w.alloc (je #[T A a,T A x1,T A x2,T A b,T A c] 55)).alloc (je #[T A d,T A y1,T A y2,T A f,T A g] 55)=grow (w.drewN q) os):=O ⟨0,#[je #[T A a,T A x1,T A x2,T A b,T A c] 55,je #[T A d,T A y1,T A y2,T A f,T A g] 55],H6 _ _ _⟩
 go_enter func82,ntmps82
 go_wp2_with fail
 refine(h _).mono ?_;rintro e j ⟨rfl,rfl⟩
 go_wp2_with fail
 go_ret;exact⟨I,i⟩
theorem Sy(l:jd ar)(o:(l.map ar.d).Nodup)(d g n c:jb)(w W:jh)(h:dw EC d w W g n c l)(q:n<=1000000):
 jq jl 81 #[jg (ja ⟨g,0,jc⟩) n c,.func (.func 82) #[] #[]] W λe w'=>e=jp (jE #[])/\EC.At w' (jg (ja ⟨g,0,jc⟩) n c) (fh l)/\jk d W w':=by
 rcases xw n with i|i
 ·subst i
  obtain rfl:l=[]:=sn h.len.symm;refine(Tryzx.sortFunc_noneC _ c _ W).mono ?_;rintro e w' ⟨rfl,rfl⟩;have e:fh []=[]:=by unfold fh;simp
  rw[e];exact⟨I,h.at,jH _ _⟩
 have j:l≠[]:=λe=>by have:=h.len;rw[e]at this;simp at this;omega
 haveI:Inhabited {x//x∈l}:=⟨⟨l.head j,List.head_mem j⟩⟩
 have k:=AnyQ.slices_SortFunc_total (α:={x//x∈l}) Tryzx.laysC 5 isAgg55 sizeOf55 (λx=>EC.cells x.1) (λ_=>rfl) (λx v a=>EC.one x.1 v a) (λx y=>cE x.1.d y.1.d) (F4 (λx:{x//x∈l}=>x.1.d)) 82 #[] g 0 c l.attach.toArray W
  (enters_of func82 af rfl) (λ_ _ _ _ x y=>OO x.1 y.1 _) (h.holds) h.lt.2 (by rw[jK,qB,<-h.len];omega) (λx y a b=>Subtype.ext (BX o x.2 y.2 a b))
 rw[jK,qB,<-h.len]at k;refine k.mono ?_;rintro e w' ⟨rfl,m,os,rfl⟩;have p:((l.attach.mergeSort λx y=> !ltOf (λx y:{x//x∈l}=>cE x.1.d y.1.d) y x).map Subtype.val)=fh l:=by
  refine(GX (r:=λx y:{x//x∈l}=> !ltOf (λx y:{x//x∈l}=>cE x.1.d y.1.d) y x) (s:=λx y:ar=>decide (x.d<=y.d)) (f:=Subtype.val) (λa _ b _=>G5 _ _)).trans ?_;rw[HH]
  rfl
 have a:=holdsK_sortWorldK (λx:{x//x∈l}=>EC.cells x.1) 5 W g 0 m l.attach.toArray (l.attach.mergeSort λx y=> !ltOf (λx y:{x//x∈l}=>cE x.1.d y.1.d) y x).toArray os h.lt.2 h.holds (by simp[(qP _ _).length_eq]);refine⟨I,?_,AR h.lt.1 (cV h.lt)⟩;rw[<-p];exact Bq (E:=EC) a (by rw[jC,(qP _ _).length_eq,qB];exact h.len) h.cap
end
theorem wG{E:EK j}{l:jd j}(h:w.ownsRow b E.t E.k a l.length (E.flat l))(e:b<=w.heap.size):(a=jg jc 0 0/\l=[])\/∃g c,a=jg (ja ⟨g,0,jc⟩) l.length c/\dw E b w w g l.length c l:=by
 have f:=h
 rcases h.2 with⟨rfl,v⟩|⟨g,i,k,rfl,m,n,o,p,q,r⟩
 ·refine .inl ⟨I,sn ?_⟩
  first
   |exact v
   |(have d:=h.1;rw[v]at d;exact(xw l.length).elim id λα=>by have:=Nat.mul_pos α E.pos;simp at d;omega)
 exact .inr ⟨g,i,I,f,I,jH _ _,e⟩
theorem Ki{p:aJ->jF}(c:fS EM b i o S p)(w:jh)(d:S w)(g:o<=w.heap.size):
 jq jl 42 #[jg jc 0 0,.func (.func b) #[] i] w λe w'=>e=jp (jg jc 0 0)/\jk w w w':=by
 have f:=O (zZ c [] (jg jc 0 0) w EK.At.nil d g ao);clear c d
 go_enter func42,ntmps42
 go_wp2_with fail
 refine(f).mono ?_;rintro e caps ⟨r,rfl,d,c⟩;have h:=O c;clear c f
 rcases d with⟨rfl,-⟩|⟨k,e,-,he,-⟩
 ·go_wp2_with fail
  go_ret;exact⟨I,h⟩
 simp at he
theorem JR{F:jb}{caps:jD jj}{a:jb}{f:jh->Prop}{p:aJ->jF}(i:fS EM F caps a f p)(l:jd aJ)(v:jj)(w:jh)(h:w.ownsRow a EM.t EM.k v l.length (EM.flat l))(j:f w)(b:a<=w.heap.size)(m:l.length<=1000000):
 jq jl 42 #[v,.func (.func F) #[] caps] w λe w'=>∃k,e=jp k/\w'.ownsRow a EM.t EM.k k (l.filter λx=> !p x).length (EM.flat (l.filter λx=> !p x))/\jk a w w':=by
 rcases wG h b with⟨rfl,rfl⟩|⟨g,c,rfl,n⟩
 ·refine(Ki i w j b).mono ?_
  rintro e w' ⟨rfl,d⟩;exact⟨_,I,ms _ _ _ _,d.mono b⟩
 refine(N8 i l g l.length c w n j m).mono ?_;rintro e w' ⟨n',rfl,d⟩;have o:=d.len;subst o;exact⟨_,I,d.own,d.bel⟩
theorem JI(l:jd aJ)(b:(l.map aJ.dev).Nodup)(a:jb)(v:jj)(w:jh)(h:w.ownsRow a EM.t EM.k v l.length (EM.flat l))(d:a<=w.heap.size)(f:l.length<=1000000):
 jq jl 44 #[v,.func (.func 45) #[] #[]] w λe w'=>e=jp (jE #[])/\EM.At w' v (fJ l)/\jk a w w':=by
 rcases wG h d with⟨rfl,rfl⟩|⟨g,c,rfl,i⟩
 ·refine(Tryzx.sortFunc_noneM jc 0 _ w).mono ?_
  rintro e w' ⟨rfl,rfl⟩;have e:fJ []=[]:=by unfold fJ;simp
  rw[e];exact⟨I,EK.At.nil,jH _ _⟩
 exact JD l b a g l.length c w w i f
theorem Mb{p:ar->jF}(c:fS EC b i o S p)(w:jh)(d:S w)(g:o<=w.heap.size):
 jq jl 78 #[jg jc 0 0,.func (.func b) #[] i] w λe w'=>e=jp (jg jc 0 0)/\jk w w w':=by
 have f:=O (AY c [] (jg jc 0 0) w EK.At.nil d g ao);clear c d
 go_enter func78,ntmps78
 go_wp2_with fail
 refine(f).mono ?_;rintro e caps ⟨r,rfl,d,c⟩;have h:=O c;clear c f
 rcases d with⟨rfl,-⟩|⟨k,e,-,he,-⟩
 ·go_wp2_with fail
  go_ret;exact⟨I,h⟩
 simp at he
theorem RV{p:ar->jF}(caps:fS EC b i o S p)(l:jd ar)(v:jj)(w:jh)(h:w.ownsRow o EC.t EC.k v l.length (EC.flat l))(j:S w)(F:o<=w.heap.size)(m:l.length<=1000000):
 jq jl 78 #[v,.func (.func b) #[] i] w λe w'=>∃k,e=jp k/\w'.ownsRow o EC.t EC.k k (l.filter λx=> !p x).length (EC.flat (l.filter λx=> !p x))/\jk o w w':=by
 rcases wG h F with⟨rfl,rfl⟩|⟨g,c,rfl,n⟩
 ·refine(Mb caps w j F).mono ?_
  rintro e w' ⟨rfl,d⟩;exact⟨_,I,ms _ _ _ _,d.mono F⟩
 refine(MN caps l g l.length c w n j m).mono ?_;rintro e w' ⟨n',rfl,d⟩;have a:=d.len;subst a;exact⟨_,I,d.own,d.bel⟩
theorem Nt(l:jd ar)(b:(l.map ar.d).Nodup)(a:jb)(v:jj)(w:jh)(h:w.ownsRow a EC.t EC.k v l.length (EC.flat l))(d:a<=w.heap.size)(f:l.length<=1000000):
 jq jl 81 #[v,.func (.func 82) #[] #[]] w λe w'=>e=jp (jE #[])/\EC.At w' v (fh l)/\jk a w w':=by
 rcases wG h d with⟨rfl,rfl⟩|⟨g,c,rfl,i⟩
 ·refine(Tryzx.sortFunc_noneC jc 0 _ w).mono ?_
  rintro e w' ⟨rfl,rfl⟩;have e:fh []=[]:=by unfold fh;simp
  rw[e];exact⟨I,EK.At.nil,jH _ _⟩
 exact Sy l b a g l.length c w w i f
theorem zx(a:N)(l:jd ar)(v:jj)(w:jh)(h:EC.At w v l)(r:(l.map ar.d).Nodup)(k:l.length<=1000000):
 jq jl 33 #[T A a,v] w λe w'=>∃d,e=jp d/\EC.At w' d (du a l)/\jk w w w':=by
 obtain⟨p,c,rfl,-,-⟩:=h.form;have f:=ap w (je #[T A a] 3);have g:=Boxed.new w 3 (T A a);obtain⟨n,s⟩:=J l.length;have i:=h.below f;obtain⟨j,m⟩:=J (w.alloc (je #[T A a] 3));obtain⟨b,o⟩:=J w.heap.size;rw[<-m]at f g i;rw[<-o]at g;rw[<-s]at i⊢;have t:=O (IE l _ j i k);have y:=O m;have z:=O o;have q:=O g;have u:=O f;have x:=O k;have B:=O r;clear h f g s i m o k r
 go_enter func33,ntmps33
 go_upto_region 1 with fail
 rw[<-y,<-z]
 go_wp2_with fail
 refine(t).mono ?_;rintro e x1 ⟨d,rfl,h,f⟩;have i:=O h;have k:jf (jA x1 b 3 (T A a)):=ae q f;have m:=O f;have g:=O f.size;have s:jf (b<j.heap.size):=O q.lt;clear h f t q
 go_wp2_with fail
 refine(RV (SB a b j.heap.size s) l d x1 i k g x).mono ?_;rintro e x2 ⟨u2,rfl,h,f⟩;have o:=O h;have q:=O (m.trans f);have r:=O (jL g f.size);clear h f i k m g
 go_wp2_with fail
 refine(Nt _ (B.sublist (List.filter_sublist.map _)) j.heap.size u2 x2 o r (jL (D1 _ _) x)).mono ?_;rintro e k ⟨rfl,f,g⟩;have h:=O f;have i:=O (u.trans ((q.trans g).mono u.size));clear f g o q r
 go_wp2_with fail
 go_ret;exact⟨_,I,h,i⟩
section
attribute [local go_sem] Oper.semAt_some
theorem FT(t:jd (N×N))(x:N):(fb t x).length<=1023:=by
 unfold fb
 split
 ·rename_i h
  have a:1<=x/\x<=1023:=by
   unfold lS at h
   split at h
   ·split at h
    ·cases h
    omega
   exact jB h (by assumption)
  have b:=tc (bG t) (hgt x.toNat) x.toNat;have c:=(vR (n:=x.toNat) Y Y).2;have d:1*2^hgt x.toNat<=x.toNat*2^hgt x.toNat:=qk _ Y;omega
 simp
theorem Sv(t:jd (N×N)):∀(l:jd N) (x:N) (k:jb),fw t (l++[x]) k=fw t l k++(fb t x).map λn=>(((k+l.length:jb):N),n):=by
 intro l
 induction l with
 |nil=>intro x k;simp[fw]
 |cons y l a=>
  intro x k;have h:=a x (k+1);unfold fw at h⊢;rw[qn,q9,xx,q9,xx,h,nv];simp only[mb];rw[show k+1+l.length=k+(l.length+1) by omega]
theorem Cf(t:jd (N×N)):∀(l:jd N) (k:jb),(fw t l k).length<=1023*l.length:=by
 intro l
 induction l with
 |nil=>intro k;simp[fw]
 |cons y l a=>
  intro k;have h:=a (k+1);unfold fw at h⊢;rw[q9,xx,jI,jC,mb];have b:(fb t (y,k).1).length<=1023:=FT t y;omega
theorem Aw(b:0<=d)(c:d<512):(ig d).length=9:=by
 unfold ig nQ;rw[jC,jC,uI _ Y]
theorem bJ.but{v:jj}{d:jb}{p:jP j6}{n c:jb}{l:jJ}{m:jb×jb}(h:bJ w v t)(q:w.heap[d]?=ja (je #[jg p n c] l m))(r:∀k,k<w.heap.size->k≠d->w'.heap[k]?=w.heap[k]?):bJ w' v t:=by
 have key:∀(g o:jb) (x:N),w.cell? ⟨g,o,jc⟩=ja (T A x)->w'.cell? ⟨g,o,jc⟩=ja (T A x):=λg o x b=>by
  by_cases e:g=d
  ·subst e
   exfalso
   unfold qy at b;rw[q]at b
   rcases o with _ |o<;>simp at b
  rw[<-b];exact dV (a:=⟨g,o,jc⟩) (r g (gg b) e)
 obtain⟨p,c,k,s,u,y,z⟩:=h;refine⟨p,c,k,s,u,λB=>?_,z⟩;obtain⟨g,o,e,f⟩:=y B;exact⟨g,o,e,λj i=>⟨key _ _ _ (f j i).1,key _ _ _ (f j i).2⟩⟩
structure mh(w:jh)(a:jb)(Ψ:jb->Prop)(wr:jh):Prop where
 lt:∀k,Ψ k->k<wr.heap.size
 old:∀k,a<=k->k≠a->k<w.heap.size->Ψ k
 kept:∀k,k<w.heap.size->k≠a->wr.heap[k]?=w.heap[k]?
 not:¬Ψ a
 sz:w.heap.size<=wr.heap.size
def oK(Ψ:jb->Prop)(a b:jh)(k:jb):Prop:=Ψ k\/(a.heap.size<=k/\k<b.heap.size)
theorem mh.more{d:jh}(a:mh w b D h)(f:b<w.heap.size)(e:jk h h d):mh w b (oK D h d) d where
 lt k c:=by rcases c with c|c;exact qg (a.lt k c) e.size;exact c.2
 old k h1 h2 h3:=.inl (a.old k h1 h2 h3)
 kept k h1 h2:=(e.block k (qg h1 a.sz)).trans (a.kept k h1 h2)
 not c:=by rcases c with c|c;exact a.not c;have:=a.sz;omega
 sz:=jL a.sz e.size
theorem mh.yield{c:jh}(a:mh w b D h)(d:jk b h c)(f:∀k,D k->c.heap[k]?=h.heap[k]?):mh w b D c where
 lt k h1:=qg (a.lt k h1) d.size
 old:=a.old
 kept k h1 h2:=by
  refine Eq.trans ?_ (a.kept k h1 h2)
  rcases qj k b with e|e
  ·exact d.block k e
  exact f k (a.old k e h2 h1)
 not:=a.not
 sz:=jL a.sz d.size
theorem IK{d:j->(jb->Prop)->jh->Prop}(h:bZ b d){s:j}{Ψ:jb->Prop}{a B0:jh}(e:d s Ψ a)(f:jk a a B0):d s (oK Ψ a B0) B0:=
 h s Ψ (oK Ψ a B0) a B0 e (bP.ofBelow f (λk c _=>c)) (λk c=>.inl c) (λk c=>by rcases c with c|c;exact .inl c;exact .inr c.1)
theorem aH.more{C:jd jj}(sz:aH D w a b o C)(d:∀k,D k->k<w.heap.size)(e:jk w w h):aH (oK D w h) h a b o C:=
 (sz.keep λk c=>e.block k (d k c)).mono λk c=>.inl c
theorem aH.ofMine{Ψ:jb->Prop}{a b:jh}{v:jj}{sz n:jb}{t:jJ}{xs:jd jj}(h:b.ownsRow a t sz v n xs):aH (oK Ψ a b) b v sz n xs:=
 aH.of_own h λg c=>.inr (h.lt g c)
theorem OX(t:jd (N×N))(au:jj)(a:N)(j:0<=a)(D:a<512)(w:jh)(f:jb)(p:jP j6)(n c:jb)(ty:jJ)(m:w.heap[f]?=ja (je #[jg p n c] ty (0,0)))(y z:jb)(o:y≠f)(B:z≠f)
 (e:jA w y 3 (T A a)) (q:w.heap[z]?=ja (je #[au] 27 (0,0))) (s:bJ w au t) (C:t.length<=1000000):
 eR jl 129 #[jz (ja ⟨y,0,jc⟩),jz (ja ⟨z,0,jc⟩)] (λx:N×N=>#[T A x.1,T A x.2]) (λk=>f<=k/\k≠f/\k<w.heap.size) f (λxs=>xs=eo t a) (λ_=>True) (λys=>ys.length<=10000) w:=by
 intro l E Jx W g F H K M;have U:=(jG.1 m).1;have u:mh w f (λk=>f<=k/\k≠f/\k<w.heap.size) W:=⟨λk x=>qg x.2.2 g.size,λk a b c=>⟨a,b,c⟩,λk x _=>g.block k x,λx=>x.2.1 I,g.size⟩;have V:=O u;have WB:=O U;have HG:=O m;have HA:=O e;have HT:=O q;have HN:=O s;have HL:=O C;have ZT:=O o;have a4:=O B;have a5:=O e.lt;have Ww:=O (jG.1 q).1;obtain⟨P,Q,R,rfl⟩:=gu s;have HJ:=O F;have ax:=O H;have S:=O K;have X:=O M;have v:=Aw j D;obtain⟨r,rfl⟩:=qd j;have h:=O (Le r Y);have aa:iv (nQ r)=(ig (r:N)).map (jo .i64):=by unfold iv ig;rw[xr];rfl
 rw[aa]at h;have ad:eo t (r:N)=fw t (ig (r:N)) 1:=I;rw[ad];generalize ig (r:N)=d at v h⊢;have Vx:=O v;have ca:W.cell? ⟨y,0,jc⟩=ja (T A (r:N)):=by rw[dV (a:=⟨y,0,jc⟩) (u.kept y a5 o)];exact e.cell
 clear m e q s C o B F H K M v u U aa ad j D g;refine(sx (n:=0)).1 ?_;refine callsIn_of_wp func129 I trivial ?_ I;simp only[ntmps129,jK,mb,qI,qW,qX,qY,qZ,q7,q8,ql,qn]
 gi_wp2_with fail
 refine⟨trivial,I,(callsIn_wide.2 (h W)).mono ?_⟩;rintro e W1 ⟨v,rfl,j,g⟩;have WT:=O (V.more WB g);have U3:=O (IK HJ X g);have m:=aH.ofMine (Ψ:=λk=>f<=k/\k≠f/\k<w.heap.size) j;obtain⟨pc,cc,rfl⟩:=m.form;have Vh:=O m;have a6:=g.size;generalize oK (λk=>f<=k/\k≠f/\k<w.heap.size) W W1=Ψ1 at WT U3 Vh;clear j g m X V h ca
 gi_wp2_with fail
 gi_loopw [19] (λs wr=>W.heap.size<=wr.heap.size/\∃(k:jb) (Ψ:jb->Prop),s=T A k/\k<=9/\jf (mh w f Ψ wr)/\jf (E (fw t (d.take k) 1) Ψ wr)/\jf (aH Ψ wr (jg pc 9 cc) 1 9 (d.map (jo .i64)))) (λs _=>(9-jv s).toNat)
 case atStart=>exact⟨a6,0,Ψ1,I,by omega,WT,U3,Vh⟩
 obtain⟨bd,k,Ψ,rfl,x,g,F,q⟩:=hrel
 by_cases ba:k<9
 case neg=>
  obtain rfl:k=9:=Y;have U:jf (E (fw t d 1) Ψ wr):=O (by have h:=F.out;rw[jU (by rw[Vx];exact ju _)]at h;exact h);clear S ax F
  gi_wp2
  refine bodyPost_end (sy I _ _ _) I ?_;exact⟨⟨_,I⟩,.inl ⟨_,_,I,U⟩⟩
 have hd:=az ((k:N)<9);have UN:=az (k<9);have m:k<d.length:=by rw[Vx];exact ba
 have H:=O (Sv t (d.take k) d[k] 1);have YX:jf (d.take (k+1)=d.take k++[d[k]]):=O (qo m);have ay:jf ((d.take k).length=k):=O (by rw[j9];omega);obtain⟨-,_,_,V,-,-,o⟩:=q.out;injection V with X Yc Zk
 subst X;subst Zk;obtain⟨gc,oc,rfl,-,o⟩:=o Y;have B:=o k (T A d[k]) (by rw[j8,mz m];rfl);obtain⟨sb,u⟩:=J (d[k]);rw[<-u]at B H YX;have c1:wr.cell? ⟨z,0,jc⟩=ja (jg P Q R):=by rw[dV (a:=⟨z,0,jc⟩) (g.kept z Ww a4)];exact ah (i:=0) HT I
 have aa:jf (bJ wr (jg P Q R) t):=O (HN.but HG g.kept);have ad:=O (NJ t (jg P Q R) sb wr aa HL);clear o u m Yc
 gi_wp2_with fail
 refine⟨trivial,I,(callsIn_wide.2 ad).mono ?_⟩;rintro e W2 ⟨vn,rfl,j,C⟩;have VN:=O (g.more WB C);have VV:=O (IK HJ F C);have UP:=O (q.more g.lt C);have Vi:=aH.ofMine (Ψ:=Ψ) j;obtain⟨pn,cn,rfl⟩:=Vi.form;have K:=O Vi;have bf:=C.size;generalize oK Ψ wr W2=Ψ2 at VN VV UP K;have M:=O (FT t sb);obtain⟨u,a1⟩:=J (fb t sb);rw[<-a1]at K H M⊢;obtain⟨m,hm⟩:=J u.length;rw[<-hm]at K M⊢;have a2:=O hm;have Wp:=O (Cf t (d.take k) 1);obtain⟨Ut,a3⟩:=J (fw t (d.take k) 1);rw[<-a3]at VV H Wp;have bb:jf (m<=1023):=M;have bg:=M.out;clear j C Vi ad aa g F q B c1 hm a1 a3
 gi_wp2_with fail
 gi_loopw [32] (λs C=>W.heap.size<=C.heap.size/\∃(j:jb) (Ψ:jb->Prop),s=T A j/\j<=m/\jf (mh w f Ψ C)/\jf (E (Ut++(u.take j).map λn=>((k:N)+1,n)) Ψ C)/\jf (aH Ψ C (jg (ja ⟨gc,oc,jc⟩) 9 cc) 1 9 (d.map (jo .i64)))/\jf (aH Ψ C (jg pn m cn) 1 m (u.map (jo .i64)))) (λs _=>(m-jv s).toNat)
 case atStart=>exact⟨by omega,0,Ψ2,rfl,by omega,VN,O (QY VV),UP,K⟩
 obtain⟨bh,j,Ψ,rfl,hj,g,s,q,F⟩:=hrel
 by_cases a1:j<m
 case neg=>
  obtain rfl:j=m:=Y;have hd2:decide ((j:N)<(j:N))=ji:=by simp
  have U:jf (E (fw t (d.take (k+1)) 1) Ψ wr):=O (by
   have h:=s.out;rw[jU (by rw[<-a2];exact ju _)]at h;rw[YX,H,ay,show((1+k:jb):N)=(k:N)+1 by omega];exact h)
  clear S ax s
  gi_wp2_with fail
  exact⟨⟨by omega,k+1,Ψ,by go_num,by omega,g,U,q⟩,by simp only[jv];omega⟩
 have hd2:=az ((j:N)<(m:N));have bi:=az (j<m);obtain⟨U,h,C⟩:=dK (l:=u) (j:=j) (by rw[<-a2];exact a1);have a3:jf ((u.take (j+1)).map (λn=>((k:N)+1,n))=(u.take j).map (λn=>((k:N)+1,n))++[((k:N)+1,U)]):=O (by rw[C,qb];rfl);obtain⟨-,_,_,V,-,-,o⟩:=F.out;injection V with X Yc Zk
 subst X;subst Zk;obtain⟨gn,on,rfl,-,o⟩:=o Y;have B:=o j (T A U) (by rw[j8,h];rfl);have aa:=S (Ut++(u.take j).map λn=>((k:N)+1,n)) ((k:N)+1,U) Ψ wr s g.lt (by
  rw[jI,jI,jC,j9];have D:=Wp.out;rw[ay]at D;have h2:=bb.out;simp only[mb,qI]
  omega)
 rw[nv,<-a3]at aa;dsimp only at aa;obtain⟨fn,tmps,assign,body,hy,hR⟩:=aa;have HR:=O hR;clear o h C Yc hR
 gi_wp2_with fail
 refine⟨I,HR.mono ?_⟩;rintro e W3 (⟨rfl,Za,C,h⟩|⟨rfl,ZL,C,h⟩)
 ·have Wx:=O (g.yield C h)
  have VW:=O (q.keep h);have bc:=O (F.keep h);have ad:=O Za;have Ws:=C.size;clear Za C h HR g q F s hy B
  gi_wp2_with fail
  exact⟨⟨by omega,j+1,Ψ,by go_num,by omega,Wx,ad,VW,bc⟩,by simp only[jv];omega⟩
 have ad:=O ZL;clear ZL C h HR g q F s hy B
 gi_wp2
 refine qh (sy I _ _ _) I ?_;exact⟨⟨_,I⟩,.inr ⟨_,_,trivial,ad⟩⟩
end
section
attribute [local go_sem] Oper.semAt_some
def EB0:EK (N×N):=⟨λx=>[T A x.2,T A x.1,T A 0,jg jc 0 0],4,85,by decide,λ_=>rfl,λx v a=>by simp at a;rcases a with rfl|rfl|rfl|rfl<;>rfl⟩
theorem Ic:(jl.info? 85).map (λi=>(i.zero,i.size,i.bytes))=ja (ja (jn #[T A 0,T A 0,T A 0,jg jc 0 0]),4,48):=by kernel_rfl
theorem OG(b:jj)(a:N)(w:jh):jq jl 77 #[jn #[b],T A a] w λe w'=>e=jp (.func (.func 129) #[] #[jz (ja ⟨w.heap.size+1,0,jc⟩),jz (ja ⟨w,0,jc⟩)])/\w'=(w.alloc (je #[b] 27)).alloc (je #[T A a] 3):=by
 go_enter func77,ntmps77
 go_wp2_with fail
 go_ret;exact⟨I,I⟩
section
variable {P:jX} {F:Fence} {nF:jb}
theorem Fe{f:jD j0}{j:jd j0}{o:j0}{a:Act}{w:jh}{k:Exit->Act->jh->Prop}(m:Region.wanted o (yielded f a.tmps)=jm)(b:jJ)(x:qS)(i:o.op=.load b x)
 (g:jb) (n:a.eval x=jz (ja ⟨g,0,jc⟩)) (t:jJ) (e:jD jj) (l:jb×jb) (d:TypeDesc) (p:w.heap[g]?=ja (je e t l))
 (q:P.underlying b=ja d) (r:(match d with| .struct _ | .array _ _=>jm|_=>ji)=jm) (s:(P.info? b).map (·.size)=ja e.size)
 (h:wpListIn F nF P f k j (a.put o.dst (jn e)) w):wpListIn F nF P f k (o::j) a w:=by
 refine wpListIn_step λy u=>?_
 rw[jt m];unfold Oper.wpIn;refine⟨by simp[Oper.about,i],?_⟩;rw[Oper.semAt_plain F _ _ (by rw[i];intro c v;cases v)];simp only[execOp,i,n,Instr.loadAt,Instr.sureAddr,Sem.run_bind,Sem.run_pure,Result.andThen_ok,run_loadVar_row w g t b e l d p q r s];exact u _ _ h
end
theorem vU{g:Grp}{a:N}{l:jd ar}(c:dC g)(f:eU l)(d:gN g a l):0<=a/\a<512:=by
 by_cases h:0<g.epoch
 ·have b:=d.own
  rw[jO h]at b;unfold cD at b;obtain⟨m,i,j⟩:=xi.1 b;have k:a∈cA g.tree:=by rw[<-c.dev];exact jS.2 ⟨m,i,by simpa using j⟩
  have e:=(oH g.tree a).1 k;exact⟨e.1,e.2.1⟩
 have he:g.epoch=0:=by have:=c.ep.1;omega
 obtain⟨x,r,rfl,b⟩:=d.first he;have:=(f.each x (qO ..)).1;rw[<-b];exact this
theorem yH(g:Grp)(a:N)(l:jd ar):(fE g=ji/\dt g a l=1)\/(fE g=jm/\(iJ l=ji\/lL g a l=ji)/\dt g a l=221)\/(fE g=jm/\iJ l=jm/\lL g a l=jm/\dt g a l=0):=by
 unfold dt
 by_cases h:dC g
 ·rw[EF h,jt h]
  by_cases b:eU l/\gN g a l
  ·rw[jt b];exact .inr (.inr ⟨I,oF.2 b.1,tK.2 b.2,I⟩)
  rw[jy b];refine .inr (.inl ⟨I,?_,I⟩)
  by_cases c:eU l
  ·right;exact tN λd=>b ⟨c,d⟩
  left;exact Fq c
 rw[kr h,jy h];exact .inl ⟨I,I⟩
theorem Gz(g:Grp)(vm vt vl:jj)(a:N)(l:jd ar)(w:jh)(h:bH w g vm vt)(j:EC.At w vl l)(k:g.mem.length<=1000000)(C:g.tree.length<=700000)(m:l.length<=1000000):
 jq jl 28 #[jn (aD g vm vt).toArray,T A a,vl] w λe w'=>∃y,e=jp (jE #[y,T A (dt g a l)])/\w'.ownsRow w 85 4 y (dT g a l).length (EB0.flat (dT g a l))/\jk w w w':=by
 have D:=yH g a l;have s:=rF (vm:=vm) (vt:=vt) h.llen;obtain⟨o,c⟩:=J ((aD g vm vt).toArray);rw[<-c]at s⊢;have E:=av (jw w (je o 29)) (ap (w.alloc (je o 29)) (je #[jg jc 0 0] 32));have t:=jw (w.alloc (je o 29)) (je #[jg jc 0 0] 32);rw[j7]at t;have i:jk w w ((w.alloc (je o 29)).alloc (je #[jg jc 0 0] 32)):=(ap w _).trans ((ap (w.alloc (je o 29)) (je #[jg jc 0 0] 32)).mono (ap w _).size);have u:=O E;have F:=O t;have H:=O i;have z:=O (h.below i);have B:=O (j.below i);obtain⟨r,cl,rfl,-,-⟩:=j.form;obtain⟨n,v⟩:=J l.length;rw[<-v]at B⊢;have HV:jf (∀W,bH W g vm vt->jq jl 26 #[jn o] W λe w'=>e=jp (.bool (fE g))/\jk W W w'):=O (by rw[c];exact λW d=>BV g vm vt W d k Y);have HP:jf (∀W,dC g->bH W g vm vt->EC.At W (jg r n cl) l->jq jl 76 #[jn o,T A a,jg r n cl] W λe w'=>e=jp (.bool (lL g a l))/\jk W W w'):=O (by rw[c];exact λW f d x=>O6 g vm vt _ a l W d f k x m);have a5:jf (∀W,eU l->bH W g vm vt->EC.At W (jg r n cl) l->jq jl 38 #[jn o,jg r n cl] W λe w'=>∃y,e=jp (jn #[y])/\bJ w' y (aX g.tree l)/\jk W W w'):=O (by rw[c];exact λW q d x=>yG g vm vt _ l W d q C x);have P:=O s;have HL:=O m;have ZT:=O v;have Ww:=O C;have VE:=O D;obtain⟨er,d⟩:=J (dt g a l);have ZX:jf (er≠0->dT g a l=[]):=O (λh=>by unfold dT;rw[jy (by rw[<-d];exact h)]);have a6:jf (er=0->dT g a l=eo (aX g.tree l) a):=O (λh=>by unfold dT;rw[jt (by rw[<-d];exact h)]);rw[<-d]at VE⊢;clear D s c E t i h j k C m v d;refine(sx (n:=0)).1 ?_;refine H0 func28 I trivial ?_ I;simp only[ntmps28,jK,mb,qI,qW,qX,qY,qZ,q7,q8,ql,qn]
 gi_wp2_with (refine oI I 29 _ I w.heap.size I 29 o (0,0) _ u.out qF I P ?_)
 refine⟨trivial,I,(callsIn_wide.2 (HV _ z.out)).mono ?_⟩;rintro e x1 ⟨rfl,c⟩;have D:=ae u c;have v:=ae F c;have Q:=O (z.below c);have x:=O (B.below c);have E:=aj H c;clear c u F z B H;obtain⟨d,i⟩:=J w.heap.size;rw[<-i]at D v⊢;have F:=O i;clear i
 rcases VE.out with⟨f,he⟩|⟨f,z,he⟩|⟨f,q,z,he⟩
 ·subst he
  rw[f];have H:jf (dT g a l=[]):=O (ZX L);have i:jA x1 (d+1) 32 (jg jc 0 0):=v.out;clear f;have V:=i.cell;have X:=i.frozen
  gi_wp2_with fail
  have u:(x1.setCell ⟨d+1,0,jc⟩ (jg jc 0 0)).cell? ⟨d+1,0,jc⟩=ja (jg jc 0 0):=(i.set _).cell;exact⟨jE #[jg jc 0 0,T A 1],by simp[results,qU,go_sem,u],_,I,by rw[H];exact ms _ _ _ _,E.setCell (p:=⟨d+1,0,jc⟩) (by rw[F];show w.heap.size<=w.heap.size+1;omega) _⟩
 ·subst he
  rw[f];have K:dC g:=by
   by_cases M:dC g
   ·exact M
   rw[kr M]at f;cases f
  have R:=O K;have H:jf (dT g a l=[]):=O (ZX L);clear f K;have ay:=O z;clear z;have aa:=O (Am l (jg r n cl))
  gi_wp2_with fail
  refine⟨trivial,I,(callsIn_wide.2 (aa x1 x HL)).mono ?_⟩;rintro e x2 ⟨rfl,c⟩;have j:=ae D c;have k:=ae v c;have m:=O (Q.below c);have s:=O (x.below c);have t:=aj E c;clear D v Q x E;clear c
  rcases ay.out with q|q
  ·rw[q]
   clear q;have i:jA x2 (d+1) 32 (jg jc 0 0):=k.out;have V:=i.cell;have X:=i.frozen
   gi_wp2_with fail
   refine⟨trivial,?_⟩
   gi_wp2_with fail
   have u:(x2.setCell ⟨d+1,0,jc⟩ (jg jc 0 0)).cell? ⟨d+1,0,jc⟩=ja (jg jc 0 0):=(i.set _).cell;exact⟨jE #[jg jc 0 0,T A 221],by simp[results,qU,go_sem,u],_,I,by rw[H];exact ms _ _ _ _,t.setCell (p:=⟨d+1,0,jc⟩) (by rw[F];show w.heap.size<=w.heap.size+1;omega) _⟩
  by_cases B:iJ l=ji
  ·rw[B]
   clear B q;have i:jA x2 (d+1) 32 (jg jc 0 0):=k.out;have V:=i.cell;have X:=i.frozen
   gi_wp2_with fail
   refine⟨trivial,?_⟩
   gi_wp2_with fail
   have u:(x2.setCell ⟨d+1,0,jc⟩ (jg jc 0 0)).cell? ⟨d+1,0,jc⟩=ja (jg jc 0 0):=(i.set _).cell;exact⟨jE #[jg jc 0 0,T A 221],by simp[results,qU,go_sem,u],_,I,by rw[H];exact ms _ _ _ _,t.setCell (p:=⟨d+1,0,jc⟩) (by rw[F];show w.heap.size<=w.heap.size+1;omega) _⟩
  have B:iJ l=jm:=ak B;rw[B];have ad:=O q;clear B q
  gi_wp2_with (refine Fe ai 29 _ I d I 29 o (0,0) _ j.out qF I P ?_)
  refine⟨trivial,I,(callsIn_wide.2 (HP x2 R m s)).mono ?_⟩;rintro e B ⟨rfl,c⟩;have au:=ae j c;have S:=ae k c;have ax:=O (m.below c);have U2:=O (s.below c);have U:=aj t c;clear j k m s t;clear c;rw[ad];have i:jA B (d+1) 32 (jg jc 0 0):=S.out;have V:=i.cell;have X:=i.frozen
  gi_wp2_with fail
  have u:(B.setCell ⟨d+1,0,jc⟩ (jg jc 0 0)).cell? ⟨d+1,0,jc⟩=ja (jg jc 0 0):=(i.set _).cell;exact⟨jE #[jg jc 0 0,T A 221],by simp[results,qU,go_sem,u],_,I,by rw[H];exact ms _ _ _ _,U.setCell (p:=⟨d+1,0,jc⟩) (by rw[F];show w.heap.size<=w.heap.size+1;omega) _⟩
 subst he;rw[f];have K:dC g:=by
  by_cases M:dC g
  ·exact M
  rw[kr M]at f;cases f
 have R:=O K;have V:=O (oF.1 q);have Wp:=O (tK.1 z);have ba:=O q;have ad:=O z;have aa:=O (Am l (jg r n cl));clear f K q z
 gi_wp2_with fail
 refine⟨trivial,I,(callsIn_wide.2 (aa x1 x HL)).mono ?_⟩;rintro e x2 ⟨rfl,c⟩;have j:=ae D c;have k:=ae v c;have m:=O (Q.below c);have s:=O (x.below c);have t:=aj E c;clear D v Q x E;clear c;rw[ba]
 gi_wp2_with (refine Fe ai 29 _ I d I 29 o (0,0) _ j.out qF I P ?_)
 refine⟨trivial,I,(callsIn_wide.2 (HP x2 R m s)).mono ?_⟩;rintro e B ⟨rfl,c⟩;have au:=ae j c;have S:=ae k c;have ax:=O (m.below c);have U2:=O (s.below c);have U:=aj t c;clear j k m s t;clear c;rw[ad]
 gi_wp2_with (refine oI I 29 _ I d I 29 o (0,0) _ au.out qF I P ?_)
 refine⟨trivial,I,(callsIn_wide.2 (a5 B V ax U2)).mono ?_⟩;rintro e i ⟨y,rfl,j,c⟩;have k:=O j;have m:=ae S c;have t:=aj U c;clear au S ax U2 U;clear c j;obtain⟨z,E,H,rfl⟩:=gu k
 gi_wp2_with fail
 refine⟨trivial,I,(callsIn_wide.2 (OG _ a i)).mono ?_⟩;rintro e s ⟨rfl,c⟩
 gi_wp2_with fail
 rw[<-c];have j:jk i i s:=by rw[c];exact(ap i _).trans ((ap _ _).mono (ap i _).size)
 have bT:s.heap[i.heap.size]?=ja (je #[jg z E H] 27 (0,0)):=by rw[c];exact av (jw i _) (ap _ _)
 have bA:jA s (i.heap.size+1) 3 (T A a):=by
  have h:=Boxed.new (i.alloc (je #[jg z E H] 27)) 3 (T A a);rw[j7]at h;rw[c];exact h
 have X:jA s (d+1) 32 (jg jc 0 0):=av m j;have bb:=k.below j;have bc:jk w w s:=t.trans (j.mono t.size);have bl:i.heap.size+2<=s.heap.size:=by rw[c];simp
 have bm:d+1<i.heap.size:=(jG.1 m).1;have bd:w.heap.size=d:=F.symm;have ay:=O bd;obtain⟨h0,h1⟩:=vU R V Wp;have C:(aX g.tree l).length<=1000000:=by have:=wP g.tree l;have:=Ww.out;have:=V.len;omega
 have bf:jf (dT g a l=eo (aX g.tree l) a):=O (a6 (by trivial));have YP:jf (d+1<=s.heap.size):=O Y;obtain⟨i0,hi,UL,bg,bh⟩:=oC Ic;clear c m k j t;refine ru (n:=0) (gf:=129) (lb:=#[jz (ja ⟨i.heap.size+1,0,jc⟩),jz (ja ⟨i,0,jc⟩)]) I (enters_of func129 af I)
  (OX (aX g.tree l) (jg z E H) a h0 h1 s (d+1) jc 0 0 32 X (i.heap.size+1) i.heap.size Y Y bA bT bb C) Y (λ_=>rfl) (λk c=>c.2.2)
  (λt Ψ W=>gQ (d+1) 32 (d+1) 85 4 t.length (EB0.flat t) (λ_=>True) Ψ W/\(jk w w W/\∀k,Ψ k->w.heap.size<=k))
  (λ_ _ _ _=>False)
  ((m8 s.heap.size (d+1) 32 (d+1) 85 4 (λt=>t.length) (λt=>EB0.flat t) (λ_ _=>True)).and (kL _ _ w (ju _) Y))
  (λ_=>fj _ _)
  ⟨⟨_,X,λh=>h.2.1 rfl,ms _ _ _ _,by simp[xP],trivial⟩,bc,λk c=>by omega⟩
  (λx D _ _=>D={tmps:=#[jn o,T A a,jg r n cl,jz (ja ⟨d,0,jc⟩),jN,jN,jz (ja ⟨d+1,0,jc⟩),T A 0,T A x.1,T A x.2,
   jn o,.bool jm,.bool ji,jg r n cl,.bool jm,.bool ji,.bool ji,jn o,T A a,jg r n cl,.bool jm,.bool ji,.bool ji,jn o,jg r n cl,jn #[jg z E H],T A a,
   .func (.func 129) #[] #[jz (ja ⟨i.heap.size+1,0,jc⟩),jz (ja ⟨i,0,jc⟩)],T A x.1,T A x.2,jN,jN,jN,jN,jN,jN,jN],defers:=[]}) (fj _ _)
  ?assign ?body ?done ?stop
 case assign=>
  intro l' t x Ψ j K c _ M
  gi_wp2
  exact M _ _ (jH _ _) c I
 case body=>
  rintro l' t ⟨Q,nd⟩ Ψ D Z ⟨⟨v,f,a1,c,x,-⟩,k,hΨ⟩ rfl j Yt bn bo;have bp:t.length<=10000:=by have:=j;rw[jI]at this;omega
  have hc:=f.cell;have K:=O k;have bq:=k.size;have bi:=O (FO Z [T A nd,T A Q,T A 0,jg jc 0 0] 85);clear k j
  gi_wp2_with (gi_at_builtin;refine H1 _ I _ _ 32 I (d+1) 85 i0 (jn #[T A 0,T A 0,T A 0,jg jc 0 0]) 4 48 underlying32 hi UL bg bh I L _ _ _ I (c.alloc _) ⟨Z,0,jc⟩ 1 1 [T A nd,T A Q,T A 0,jg jc 0 0] I I bi (by simp[ob]) (by unfold oj;omega) Y (by simp;omega) ?_;intro v' w1 a2 a3 br a4;obtain⟨g',bs,rfl⟩:=ownsRow_succ a2;obtain⟨m,bk⟩:=sl (B0:=s.heap.size) f L c Y (ju _) a1 x Yt a2 a3 (by intro j hj;rw[hj]at a4;rcases a4 with h|h;exact .inl h.symm;exact .inr (ak h));have j:jA w1 (d+1) 32 v:=(f.alloc _).kept a3 (by have:=f.not_row (e:=85) L c;exact this);have bu:=j.cell;have bv:=j.frozen)
  obtain⟨v',j,b2,b3,b4,b5⟩:=bk;refine⟨⟨m.1,m.2.1,m.2.2⟩,⟨v',j,b2,?_,b4,trivial⟩,K.trans (m.2.1.mono (by rw[ay];omega)),hΨ⟩;rw[EB0.flat_append,jI];exact b3
 case done=>
  rintro D xs Ψ W hD hS ⟨⟨v,f,a1,c,x,-⟩,k,hΨ⟩ M;have hc:=f.cell;have q:=f.frozen;have K:=O k;clear k;obtain⟨j,k,rfl⟩:=cO c;obtain⟨m,Q⟩:=J xs.length;rw[<-Q]at f c x hc;have a2:=O Q;have a3:=O hS;clear Q hS
  gi_wp2
  refine⟨by simp,.inl ⟨_,_,I,run_takeDeferred (b:=D) (ds:=[]) ?_,?_⟩⟩
  ·exact(KeepsOthers.setCell W _ _).same D _ M I
  have Q:jA (W.setCell ⟨d+1,0,jc⟩ (jg j m k)) (d+1) 32 (jg j m k):=f.set _;have Vf:(W.setCell ⟨d+1,0,jc⟩ (jg j m k)).heap[D]?=ja (.deferred (ja [])):=(KeepsOthers.setCell W _ _).same D _ M I;have a4:(W.setCell ⟨d+1,0,jc⟩ (jg j m k)).ownsRow (d+1) 85 4 (jg j m k) m (EB0.flat xs):=
   c.kept (qT W _ _) (.inr (f.not_row (e:=85) L c).symm)
  have bi:jA ((W.setCell ⟨d+1,0,jc⟩ (jg j m k)).putObj D (.deferred jc)) (d+1) 32 (jg j m k):=
   (World.putObj_heap_other Y).trans Q
  have u:=bi.cell;refine⟨jE #[jg j m k,T A 0],by simp[results,qU,go_sem,u],_,I,?_,?_⟩
  ·have h:=ownsRow_putObj a4 (.deferred jc) Vf I
   rw[ay,bf,<-a3,<-a2];exact uL h Y
  exact(K.setCell (p:=⟨d+1,0,jc⟩) (by show w.heap.size<=d+1;omega) _).trans (iD Y)
 intro D c t Ψ W _ _ h;exact h.elim
end
theorem dQ.at{c:Cmt}{q:CQ}(h:dQ w b c q):w.cell? ⟨b,0,jc⟩=ja (T A c.folder)/\w.cell? ⟨b,1,jc⟩=ja (T A c.epoch)/\w.cell? ⟨b,34,jc⟩=ja (T A c.author)/\w.cell? ⟨b,35,jc⟩=ja q.vc/\w.cell? ⟨b,36,jc⟩=ja q.vp/\
 w.cell? ⟨b,37,jc⟩=ja q.vb/\w.cell? ⟨b,38,jc⟩=ja q.vw/\w.cell? ⟨b,71,jc⟩=ja (T A c.r)/\w.cell? ⟨b,72,jc⟩=ja (T A c.s):=by
 obtain⟨a,d,e,f,g,i,j,k,l⟩:=iy c q h.plen h.clen;exact⟨h.get a,h.get d,h.get e,h.get f,h.get g,h.get i,h.get j,h.get k,h.get l⟩
theorem dQ.new(w:jh){c:Cmt}{q:CQ}(a:c.parent.length=32)(b:c.confirm.length=32):dQ (w.alloc (je (aF c q).toArray 37)) w.heap.size c q:=⟨jw w _,a,b⟩
theorem dQ.lt{y:Cmt}{K:CQ}(h:dQ w b y K):b<w.heap.size:=(jG.1 h.blk).1
theorem dQ.below{c:Cmt}{q:CQ}(h:dQ w b c q)(a:jk w w w'):dQ w' b c q:=h.keep (a.block b h.lt)
theorem oJ{l:jd j}{C:jd jj}{f:j->jj->jd jj}(h:aH D w a b l.length (dR f l C))(d:∀x v,(f x v).length=b){α:jb}{x:j}{v:jj}(e:l[α]?=ja x)(n:C[α]?=ja v):∃g o c,a=jg (ja ⟨g,o,jc⟩) l.length c/\∀i y,(f x v)[i]?=ja y->w.cell? ⟨g,o+α*b+i,jc⟩=ja y:=by
 obtain⟨t,p,c,rfl,u,z,q⟩:=h;have B:=(qf.1 e).1;obtain⟨g,o,rfl,-,r⟩:=q Y;refine⟨g,o,c,I,λi y m=>?_⟩;have s:i<b:=by rw[<-d x v];exact(qf.1 m).1
 rw[Nat.add_assoc];exact r (α*b+i) y ((wW f b d l C α i x v e n s).trans m)
def zP(b:Bx):Prop:=1<=b.node/\b.node<1024/\1<=b.lev/\b.lev<=9/\mD b.u b.body.length
def uK(x:Wl):Prop:=fG x.dev/\mD x.u x.body.length
structure lV(l:jd Wl):Prop where
 each:∀x∈l,uK x
 inc:∀i,0<i->i<l.length->((l.map Wl.dev).getD (i-1) 0)<((l.map Wl.dev).getD i 0)
theorem lV.snoc{l:jd Wl}{x:Wl}(h:lV l)(e:uK x)(f:l=[]\/∃y,l[l.length-1]?=ja y/\y.dev<x.dev):lV (l++[x]):=by
 refine⟨λy a=>?_,λi c g=>?_⟩
 ·rcases o1.1 a with a|a
  ·exact h.each y a
  rw[qv]at a;subst a;exact e
 rw[jI,wx]at g;rw[qb]
 rcases qj i l.length with b|b
 ·have d:=h.inc i c b
  simp only[jQ,sa (show i<(l.map Wl.dev).length by rw[jC];exact b),sa (show i-1<(l.map Wl.dev).length by rw[jC];omega)]at d⊢;exact d
 obtain rfl:i=l.length:=Y
 rcases f with rfl|⟨y,a,d⟩
 ·exact jB c ao
 simp only[jQ,sa (show l.length-1<(l.map Wl.dev).length by rw[jC];omega),xu (show(l.map Wl.dev).length<=l.length by rw[jC];exact ju _),j8,a,jC,Nat.sub_self]
 simpa using d
theorem lV.nil:lV []:=⟨(λx h=>by cases h),λi b a=>jB a ao⟩
theorem pS:mG d b=0↔mD d b:=⟨λh=>by
 by_cases g:mD d b
 ·exact g
 rw[uW g]at h;exact jB h L,FN⟩
theorem OQ(c:Cmt)(q:CQ)(w:jh)(a:aT (·<w.heap.size) w c q)(l1:c.chg.length<=1000000)(l2:c.path.length<=1000000)(l3:c.box.length<=1000000)(l4:c.wel.length<=1000000)(l5:∀b∈c.box,b.body.length<4611686018427387904)(l6:∀b∈c.wel,b.body.length<4611686018427387904):
 jq jl 27 #[jn (aF c q).toArray] w λe w'=>e=jp (T A (gW c))/\jk w w w':=by
 obtain⟨r,B⟩:=J (gW c);rw[<-B];have C:=O B;have D:=dQ.new w (q:=q) a.plen a.clen;have f:=ap w (je (aF c q).toArray 37);obtain⟨pc,cc,F⟩:=a.chg.form;obtain⟨pp,cp,j⟩:=a.path.form;obtain⟨pb,cb,k⟩:∃p c',q.vb=jg p c.box.length c':=by obtain⟨us,h,-⟩:=a.box;exact h.form
 obtain⟨pw,cw,n⟩:∃p c',q.vw=jg p c.wel.length c':=by obtain⟨us,h,-⟩:=a.wel;exact h.form
 obtain⟨o,t,c2,g,m,s,x,-,-⟩:=D.at;rw[F]at g;rw[j]at m;rw[k]at s;rw[n]at x;have VS:=O (EK.At.of_sl (E:=EC) a.chg);have bB:=O a.path;have YM:=O a.box;have WY:=O a.wel;have bC:=O l5;have bI:=O l6;rw[F]at VS;obtain⟨nc,u⟩:=J c.chg.length;obtain⟨np,y⟩:=J c.path.length;obtain⟨nb,ba⟩:=J c.box.length;obtain⟨P,bb⟩:=J c.wel.length;rw[<-u]at g VS l1;rw[<-y]at m l2;rw[<-ba]at s l3;rw[<-bb]at x l4;obtain⟨fd,H⟩:=J c.folder;obtain⟨ep,K⟩:=J c.epoch;obtain⟨au,M⟩:=J c.author;rw[<-H]at o;rw[<-K]at t;rw[<-M]at c2;obtain⟨x0,i⟩:=J (w.alloc (je (aF c q).toArray 37));obtain⟨b,S⟩:=J w.heap.size;have z:=D.blk;obtain⟨ad,d⟩:=J ((aF c q).toArray);rw[<-d]at i f z⊢;rw[<-d]at o t c2 g m s x;rw[<-i,<-S]at o t c2 g m s x z;rw[<-i]at f;have HX:=O i;have YJ:=O S;have Q:=O z;have R:=O f;have UU:=O (VS.below f);have cj:jf (ad[36]?=ja (jg pp np cp)):=O (by rw[d,y,<-j];simpa using(iy c q a.plen a.clen).2.2.2.2.1);have bK:jf (ad[37]?=ja (jg pb nb cb)):=O (by rw[d,ba,<-k];simpa using(iy c q a.plen a.clen).2.2.2.2.2.1);have aa:jf (ad[38]?=ja (jg pw P cw)):=O (by rw[d,bb,<-n];simpa using(iy c q a.plen a.clen).2.2.2.2.2.2.1);have ck:=O u;have bg:=O y;have ZX:=O ba;have YA:=O bb;have bq:=O H;have Ya:=O K;have br:=O M;have bM:=O j;have bN:=O k;have bs:=O n;have U:=O (Fa fd);have ay:=O (Bg au);obtain⟨fo,V⟩:=J (decide (kp fd));obtain⟨dv,a3⟩:=J (decide (fG au));rw[<-V]at U;rw[<-a3]at ay;have bu:=O V;have bv:=O a3;have W:=O (Am c.chg (jg pc nc cc));obtain⟨fm,X⟩:=J (iJ c.chg);rw[<-X]at W;have bw:=O X;have bO:jf (c.chg.length<=1000000):=O (by rw[<-u];exact l1);clear B D f F j k n a u y ba bb H K M i S z d V a3 X l5 l6
 go_enter func27,ntmps27
 go_upto_region 1 with fail
 rw[<-HX,<-YJ]
 go_wp2_with fail
 refine(U x0).mono ?_;rintro e x1 ⟨rfl,rfl⟩
 cases fo with
 |false=>
  obtain rfl:r=220:=by rw[C];exact fi λh=>by have h2:=h.fol;rw[<-bq]at h2;have h3:=bu.out;rw[jO h2]at h3;cases h3
  go_wp2_with fail
  go_ret;exact⟨I,R⟩
 |true=>
 by_cases f:ep<1
 ·have bT:decide (ep<1)=jm:=ak f
  obtain rfl:r=220:=by rw[C];exact fi λh=>by have:=h.ep.1;rw[<-Ya]at this;omega
  clear f
  go_wp2_with fail
  go_ret;exact⟨I,R⟩
 have bT:decide (ep<1)=ji:=ak f;have bh:=O f;clear f
 by_cases f:1099511627776<ep
 ·have hd2:decide (1099511627776<ep)=jm:=ak f
  obtain rfl:r=220:=by rw[C];exact fi λh=>by have:=h.ep.2;rw[<-Ya]at this;omega
  clear f
  go_wp2_with fail
  go_ret;exact⟨I,R⟩
 have hd2:decide (1099511627776<ep)=ji:=ak f;have B:=O f;clear f
 go_wp2_with fail
 refine(ay x0).mono ?_;rintro e x1 ⟨rfl,rfl⟩
 cases dv with
 |false=>
  obtain rfl:r=220:=by rw[C];exact fi λh=>by have h2:=h.aut;rw[<-br]at h2;have h3:=bv.out;rw[jO h2]at h3;cases h3
  go_wp2_with fail
  go_ret;exact⟨I,R⟩
 |true=>
 go_wp2_with fail
 refine(W x0 UU bO).mono ?_;rintro e x1 ⟨rfl,d⟩;have X:=ae Q d;have H:=aj R d;replace m:=aC m d;replace s:=aC s d;replace x:=aC x d;clear d Q R UU o t c2 g W ay U
 cases fm with
 |false=>
  obtain rfl:r=220:=by rw[C];exact fi λh=>by have h2:=oF.2 h.chg;rw[<-bw]at h2;cases h2
  go_wp2_with fail
  go_ret;exact⟨I,H⟩
 |true=>
 by_cases f:¬np=10
 ·have hd3:((np:N)==10)=ji:=by simp;omega
  have a:((np:N)!=10)=jm:=by simp;omega
  obtain rfl:r=220:=by rw[C];exact fi λh=>f (bg.trans h.plen)
  clear f
  go_wp2_with fail
  go_ret;exact⟨I,H⟩
 have b3:np=10:=Y;clear f;subst b3
 by_cases f:1024<nb
 ·have b4:=az (1024<(nb:N))
  obtain rfl:r=220:=by rw[C];exact fi λh=>by have:=h.blen;rw[<-ZX]at this;omega
  clear f
  go_wp2_with fail
  go_ret;exact⟨I,H⟩
 have b4:=aw (1024<(nb:N));have ba:nb<=1024:=Y;clear f
 by_cases f:512<P
 ·have b5:=az (512<(P:N))
  obtain rfl:r=220:=by rw[C];exact fi λh=>by have:=h.wlen;rw[<-YA]at this;omega
  clear f
  go_wp2_with fail
  go_ret;exact⟨I,H⟩
 have b5:=aw (512<(P:N));have bb:P<=512:=Y;clear f
 go_wp2_with fail
 go_loopw [56] (λi wr=>∃k:jb,i=T A k/\k<=10/\jf (∀j,j<k->bL (c.path.getD j 0))/\jf (wr.heap[b]?=ja (je ad 37 (0,0)))/\jf (jk w w wr)) (λi _=>10-(jv i).toNat)
 case atStart=>exact⟨0,I,j5 _,O (λj hj=>jB hj Y),X,H⟩
 obtain⟨k,rfl,hk,HP,HK,z⟩:=hrel
 by_cases bc:k<10
 case pos=>
  have b6:=az ((k:N)<10);have U:=az (k<10);obtain⟨y,K⟩:∃y,c.path[k]?=ja y:=⟨_,mz (by rw[<-bg];exact bc)⟩;obtain⟨-,V,c',F,-,-,D⟩:=bB.out;rw[bM]at F;injection F with e1 e2 e3
  obtain⟨g,o,hg,-,D⟩:=D (by rw[<-bg];omega);rw[hg]at e1;subst e1;have d0:wr.cell? ⟨g,o+k,jc⟩=ja (T A y):=aC (D k (T A y) (by rw[j8,K];rfl)) z;have HY:=O K;have a:=O (gD y);obtain⟨u,t⟩:=J (cU y);rw[<-t]at a;have VZ:=O t;clear K D e2 e3 hg t
  go_wp2_with fail
  refine(a _).mono ?_;rintro e W ⟨rfl,d⟩;have S:=ae HK d;have M:=aj z d;clear d a HK z d0
  by_cases n:u=0
  ·have a4:(u !=0)=ji:=ak n
   have a5:(u==0)=jm:=ak n;have a6:jf (∀j,j<k+1->bL (c.path.getD j 0)):=O (λj hj=>by
    rcases qj j k with a|a
    ·exact HP j a
    obtain rfl:j=k:=Y;rw[show c.path.getD j 0=y by simp[jQ,HY.out]];exact zj.1 (VZ.symm.trans n))
   clear n
   go_wp2_with fail
   exact⟨⟨k+1,by go_num,by omega,a6,S,M⟩,by simp only[jv];omega⟩
  have a4:(u !=0)=jm:=ak n;have a5:(u==0)=ji:=ak n;obtain rfl:r=220:=by rw[C];exact fi λh=>n (by rw[VZ];exact zj.2 (h.path y (j1 HY)))
  clear n
  go_wp2_with fail
  go_ret;exact⟨I,M⟩
 have b6:=aw ((k:N)<10);have b7:jf (∀j,j<10->bL (c.path.getD j 0)):=O (λj hj=>HP j Y);have a:=ah HK bK;clear m s x X H HP
 go_wp2_with fail
 go_loopw [67] (λi wz=>∃k:jb,i=T A k/\k<=nb/\jf (∀x∈c.box.take k,zP x)/\jf (wz.heap[b]?=ja (je ad 37 (0,0)))/\jf (jk w w wz)) (λi _=>nb-(jv i).toNat)
 case atStart=>exact⟨0,I,j5 _,O ao,HK,z⟩
 clear a HK z;obtain⟨k,rfl,hk,HP,HK,z⟩:=hrel
 by_cases bc:k<nb
 case pos=>
  have bl:=az ((k:N)<(nb:N));have bm:=az (k<nb);obtain⟨x,f,Yg⟩:=dK (l:=c.box) (j:=k) (by rw[<-ZX];exact bc);obtain⟨us,bd,bf⟩:=YM.out;obtain⟨b8,hu,bi⟩:=bf.at (i:=k) (b:=x.body) (by rw[j8,f];rfl);obtain⟨g,o,c',hq,D⟩:=oJ bd (λ_ _=>rfl) f hu;rw[bN]at hq;injection hq with e1 e2 e3
  subst e1;subst e3;obtain⟨U,V,rfl⟩:=bi.form;have a1:=bC x (j1 f);have ax:=O f;have YX:=O Yg;obtain⟨m,hm⟩:=J x.body.length;have HM:=O hm;obtain⟨a,s,F,xb⟩:=x;dsimp only at a1 hm D;rw[<-hm]at a1 D;have d0:wr.cell? ⟨g,o+k*4,jc⟩=ja (T A a):=aC (D 0 _ I) z;have d1:wr.cell? ⟨g,o+k*4+1,jc⟩=ja (T A s):=aC (D 1 _ I) z;have d2:wr.cell? ⟨g,o+k*4+2,jc⟩=ja (T A F):=aC (D 2 _ I) z;have M:wr.cell? ⟨g,o+k*4+3,jc⟩=ja (jg U m V):=aC (D 3 _ I) z;have a2:=O (Gp F U m V a1);obtain⟨u,t⟩:=J (mG F m);rw[<-t]at a2;have VZ:=O t;clear D bd bf hu bi f Yg e2 hm t a1
  go_upto_region 12 with fail
  obtain⟨y1,Yl⟩:=J wr;have X:jf (y1.heap[b]?=ja (je ad 37 (0,0))):=by rw[Yl];exact HK
  have H:jf (jk w w y1):=by rw[Yl];exact z
  rw[<-Yl]at d0 d1 d2 M⊢;clear Yl HK z;have d:=ap y1 (je #[T A a,T A s,T A F,jg U m V] 85);have Uw:=jw y1 (je #[T A a,T A s,T A F,jg U m V] 85);obtain⟨y2,f⟩:=J (y1.alloc (je #[T A a,T A s,T A F,jg U m V] 85));rw[<-f]at d Uw⊢;obtain⟨E,hg⟩:=J y1.heap.size;rw[<-hg]at Uw⊢;have b9:=O hg;have W:=ae X d;have S:=aj H d;clear X H;have B:=O Uw;clear Uw f d hg;have b0:=ah (i:=0) B I;have b1:=ah (i:=1) B I;have b2:=ah (i:=2) B I;have bk:=ah (i:=3) B I;clear d0 d1 d2 M
  by_cases f:a<1
  ·have g1:decide (a<1)=jm:=ak f
   obtain rfl:r=220:=by rw[C];exact fi λh=>by have M:=h.box _ (j1 ax);exact by have:=M.1;dsimp only at this;omega
   clear f
   go_wp2_with fail
   go_ret;exact⟨I,S⟩
  have g1:decide (a<1)=ji:=ak f;have bn:1<=a:=Y;clear f
  by_cases f:1024<=a
  ·have g2:decide (1024<=a)=jm:=ak f
   obtain rfl:r=220:=by rw[C];exact fi λh=>by have M:=h.box _ (j1 ax);exact by have:=M.2.1;dsimp only at this;omega
   clear f
   go_wp2_with fail
   go_ret;exact⟨I,S⟩
  have g2:decide (1024<=a)=ji:=ak f;have bo:a<1024:=Y;clear f
  by_cases f:s<1
  ·have g3:decide (s<1)=jm:=ak f
   obtain rfl:r=220:=by rw[C];exact fi λh=>by have M:=h.box _ (j1 ax);exact by have:=M.2.2.1;dsimp only at this;omega
   clear f
   go_wp2_with fail
   go_ret;exact⟨I,S⟩
  have g3:decide (s<1)=ji:=ak f;have bp:1<=s:=Y;clear f
  by_cases f:9<s
  ·have g4:decide (9<s)=jm:=ak f
   obtain rfl:r=220:=by rw[C];exact fi λh=>by have M:=h.box _ (j1 ax);exact by have:=M.2.2.2.1;dsimp only at this;omega
   clear f
   go_wp2_with fail
   go_ret;exact⟨I,S⟩
  have g4:decide (9<s)=ji:=ak f;have bA:s<=9:=Y;clear f
  go_wp2_with fail
  refine(a2 y2).mono ?_;rintro e y3 ⟨rfl,d⟩;have YG:=ae W d;have Uu:=aj S d;clear d a2 W S B b0 b1 b2 bk
  by_cases n:u=0
  ·have a4:(u !=0)=ji:=ak n
   have a5:(u==0)=jm:=ak n;have a6:jf (∀y∈c.box.take (k+1),zP y):=O (λy K=>by
    rw[YX]at K
    rcases o1.1 K with K|K
    ·exact HP y K
    rw[qv]at K;subst K;exact⟨by omega,by omega,by omega,by omega,by rw[<-HM];exact pS.1 (VZ.symm.trans n)⟩)
   clear n
   go_wp2_with fail
   exact⟨⟨k+1,by go_num,by omega,a6,YG,Uu⟩,by simp only[jv];omega⟩
  have a4:(u !=0)=jm:=ak n;have a5:(u==0)=ji:=ak n;obtain rfl:r=220:=by rw[C];exact fi λh=>by have M:=h.box _ (j1 ax);exact n (by rw[VZ,HM];exact pS.2 M.2.2.2.2)
  clear n
  go_wp2_with fail
  go_ret;exact⟨I,Uu⟩
 have bl:=aw ((k:N)<(nb:N));have bm:=aw (k<nb);obtain rfl:k=nb:=Y;have ca:jf (∀x∈c.box,zP x):=O (by have h:=HP.out;rw[jU (by rw[<-ZX];exact ju _)]at h;exact h);have f6:=ah HK aa;clear HP
 go_wp2_with fail
 go_loopw [99] (λi wz=>∃k:jb,i=T A k/\k<=P/\jf (lV (c.wel.take k))/\jf (wz.heap[b]?=ja (je ad 37 (0,0)))/\jf (jk w w wz)) (λi _=>P-(jv i).toNat)
 case atStart=>exact⟨0,I,j5 _,O (ak lV.nil),HK,z⟩
 clear f6 HK z;obtain⟨k,rfl,hk,bk,HK,z⟩:=hrel
 by_cases bc:k<P
 case pos=>
  have bl:=az ((k:N)<(P:N));have bm:=az (k<P);obtain⟨x,f,Yg⟩:=dK (l:=c.wel) (j:=k) (by rw[<-YA];exact bc);obtain⟨us,bd,bf⟩:=WY.out;obtain⟨b8,hu,bi⟩:=bf.at (i:=k) (b:=x.body) (by rw[j8,f];rfl);obtain⟨g,o,c',hq,D⟩:=oJ bd (λ_ _=>rfl) f hu;rw[bs]at hq;injection hq with e1 e2 e3
  subst e1;subst e3;have cd:jf (∀j y,c.wel[j]?=ja y->w.cell? ⟨g,o+j*3,jc⟩=ja (T A y.dev)):=O (λj y K=>by
   obtain⟨u2,M,-⟩:=bf.at (i:=j) (b:=y.body) (by rw[j8,K];rfl);obtain⟨g2,o2,c2,s,bn⟩:=oJ bd (λ_ _=>rfl) K M;rw[bs]at s;injection s with a bA ce
   injection a with a
   injection a with bo bp
   subst bo;subst bp;exact bn 0 _ I)
  obtain⟨U,V,rfl⟩:=bi.form;have a1:=bI x (j1 f);have ax:=O f;have YX:=O Yg;obtain⟨m,hm⟩:=J x.body.length;have HM:=O hm;obtain⟨M,F,xb⟩:=x;dsimp only at a1 hm D;rw[<-hm]at a1 D;have d0:wr.cell? ⟨g,o+k*3,jc⟩=ja (T A M):=aC (D 0 _ I) z;have d1:wr.cell? ⟨g,o+k*3+1,jc⟩=ja (T A F):=aC (D 1 _ I) z;have d2:wr.cell? ⟨g,o+k*3+2,jc⟩=ja (jg U m V):=aC (D 2 _ I) z;have a2:=O (Gp F U m V a1);obtain⟨u,t⟩:=J (mG F m);rw[<-t]at a2;have VZ:=O t;have ay:=O (Bg M);obtain⟨dv,a3⟩:=J (decide (fG M));rw[<-a3]at ay;have bn:=O a3;clear D bd bf hu bi f Yg e2 hm t a1 a3
  go_upto_region 18 with fail
  obtain⟨y1,Yl⟩:=J wr;have X:jf (y1.heap[b]?=ja (je ad 37 (0,0))):=by rw[Yl];exact HK
  have H:jf (jk w w y1):=by rw[Yl];exact z
  rw[<-Yl]at d0 d1 d2⊢;clear Yl HK z;have d:=ap y1 (je #[T A M,T A F,jg U m V] 88);have Uw:=jw y1 (je #[T A M,T A F,jg U m V] 88);obtain⟨y2,f⟩:=J (y1.alloc (je #[T A M,T A F,jg U m V] 88));rw[<-f]at d Uw⊢;obtain⟨E,hg⟩:=J y1.heap.size;rw[<-hg]at Uw⊢;have b9:=O hg;have W:=ae X d;have S:=aj H d;clear X H;have B:=O Uw;clear Uw f d hg;clear d0 d1 d2
  cases dv with
  |false=>
   obtain rfl:r=220:=by rw[C];exact fi λh=>by have h2:=(h.wel _ (j1 ax)).1;have h3:=bn.out;rw[jO h2]at h3;cases h3
   refine p6 ?_;refine dj (λs=>s.heap[E]?=ja (je #[T A M,T A F,jg U m V] 88 (0,0))/\s.heap[b]?=ja (je ad 37 (0,0))) (.t 0 (.t 1 (.o 2 (.t 3 (.t 4 (.t 5 (.t 6 (.t 7 (.t 8 (.t 9 (.t 10 (.t 11 (.t 12 (.t 13 (.t 14 (.t 15 (.t 16 (.t 17 (.t 18 (.t 19 (.t 20 (.t 21 (.t 22 (.o 23 (.t 24 (.t 25 .done)))))))))))))))))))))))))) af af af L (λ_ _ _ _ h=>h) ⟨B,W⟩ ?_;obtain⟨z0,UL⟩:=J y2.drew;have d:=bX y2;rw[<-UL]at d⊢;have Wy:=ae B d;have Q:=ae W d;have R:=aj S d;clear d UL B W S;refine aK ?_
   (refine aS (v:=?_) I ai (λs a=>?_) ?_;rotate_left;(have b0:=ah (i:=0) a.1 I;have b1:=ah (i:=1) a.1 I;have b2:=ah (i:=2) a.1 I;have f6:=ah a.2 aa;go_simp;with_reducible rfl);refine G ?_)
   refine aE I (λK' t=>?_);go_simp;refine(ay _).mono ?_;rintro e _ ⟨rfl,rfl⟩;refine t _ _ ⟨Wy,Q⟩ λ_=>?_
   clear t;refine G ?_;iterate 2 refine aK ?_
   iterate 14 refine fF ?_
   iterate 2 refine aK ?_
   iterate 2 refine fF ?_
   refine aE I (λK' t=>?_);rw[jy (sq.1 ai)];refine t _ _ ⟨Wy,Q⟩ λ_=>?_
   clear t;refine G ?_;refine fF ?_;refine aK ?_;refine jV ?_
   go_wp2_with fail
   go_ret;exact⟨I,R⟩
  |true=>
  by_cases bd:k=0
  ·have ce:=aw ((0:N)<(k:N))
   have cf:=aw (0<k);have a1:=O bd;clear bd;refine p6 ?_;refine dj (λs=>s.heap[E]?=ja (je #[T A M,T A F,jg U m V] 88 (0,0))/\s.heap[b]?=ja (je ad 37 (0,0))) (.t 0 (.t 1 (.o 2 (.t 3 (.t 4 (.t 5 (.t 6 (.t 7 (.t 8 (.t 9 (.t 10 (.t 11 (.t 12 (.t 13 (.t 14 (.t 15 (.t 16 (.t 17 (.t 18 (.t 19 (.t 20 (.t 21 (.t 22 (.o 23 (.t 24 (.t 25 .done)))))))))))))))))))))))))) af af af L (λ_ _ _ _ h=>h) ⟨B,W⟩ ?_;obtain⟨z0,UL⟩:=J y2.drew;have d:=bX y2;rw[<-UL]at d⊢;have Wy:=ae B d;have Q:=ae W d;have R:=aj S d;clear d UL B W S;refine aK ?_
   (refine aS (v:=?_) I ai (λs a=>?_) ?_;rotate_left;(have b0:=ah (i:=0) a.1 I;have b1:=ah (i:=1) a.1 I;have b2:=ah (i:=2) a.1 I;have f6:=ah a.2 aa;go_simp;with_reducible rfl);refine G ?_)
   refine aE I (λK' t=>?_);go_simp;refine(ay _).mono ?_;rintro e _ ⟨rfl,rfl⟩;refine t _ _ ⟨Wy,Q⟩ λ_=>?_
   clear t;refine G ?_;iterate 5 refine aK ?_
   iterate 10 refine fF ?_
   iterate 4 refine aK ?_
   (refine aS (v:=?_) I ai (λs a=>?_) ?_;rotate_left;(have b0:=ah (i:=0) a.1 I;have b1:=ah (i:=1) a.1 I;have b2:=ah (i:=2) a.1 I;have f6:=ah a.2 aa;go_simp;with_reducible rfl);refine G ?_)
   refine aE I (λK' t=>?_);rw[jt ai];go_simp;refine(a2 z0).mono ?_;rintro e z1 ⟨rfl,d⟩;have bh:=ae Wy d;have X:=ae Q d;have H:=aj R d;clear Wy Q R;clear d;refine t _ _ ⟨bh,X⟩ λ_=>?_
   clear t;refine G ?_;iterate 2 refine aK ?_
   refine jV ?_;clear a2
   by_cases n:u=0
   ·have a4:(u !=0)=ji:=ak n
    have a5:(u==0)=jm:=ak n;have bo:jf (uK ⟨M,F,xb⟩):=O ⟨qa bn.symm,by rw[<-HM];exact pS.1 (VZ.symm.trans n)⟩;have a6:jf (lV (c.wel.take (k+1))):=O (by rw[YX];exact bk.snoc bo (by exact .inl (by rw[a1];rfl)));clear n
    go_wp2_with fail
    exact⟨⟨k+1,by go_num,by omega,a6,X,H⟩,by simp only[jv];omega⟩
   have a4:(u !=0)=jm:=ak n;have a5:(u==0)=ji:=ak n;obtain rfl:r=220:=by rw[C];exact fi λh=>n (by rw[VZ,HM];exact pS.2 (h.wel _ (j1 ax)).2)
   clear n
   go_wp2_with fail
   go_ret;exact⟨I,H⟩
  have ce:=az ((0:N)<(k:N));have cf:=az (0<k);obtain⟨j,hj⟩:=J (k-1);have bi:k=j+1:=Y;have cm:Bm.wrap ((k:N)-1)=(j:N):=by rw[bi,show(((j+1:jb):N)-1)=(j:N) by omega];exact IntWalk.i64_in _ Y
  have Z6:=az ((j:N)<(P:N));have cn:=az (j<P);have cq:decide ((0:N)<=(j:N))=jm:=by simp
  have cs:j<P:=Y;obtain⟨y,K⟩:∃y,c.wel[j]?=ja y:=⟨_,mz (by rw[<-YA];omega)⟩;obtain⟨pd,bp⟩:=J y.dev;have a1:jf (y2.cell? ⟨g,o+j*3,jc⟩=ja (T A pd)):=O (by rw[bp];exact aC (cd j y K) S);have HY:=O K;have bA:=O bp;have bf:=O bi;clear bd hj bi K bp
  by_cases bi:M<=pd
  ·have bp:decide (M<=pd)=jm:=ak bi
   obtain rfl:r=220:=by
    rw[C];refine fi λh=>?_
    have h2:=h.inc k (aI bf) (by rw[<-YA];exact bc);rw[show k-1=j by have:=bf.out;omega]at h2;rw[show(c.wel.map Wl.dev).getD j 0=pd by rw[bA];simp[jQ,HY.out],show(c.wel.map Wl.dev).getD k 0=M by simp[jQ,ax.out]]at h2;omega
   clear bi;refine p6 ?_;refine dj (λs=>s.heap[E]?=ja (je #[T A M,T A F,jg U m V] 88 (0,0))/\s.heap[b]?=ja (je ad 37 (0,0))/\s.cell? ⟨g,o+j*3,jc⟩=ja (T A pd)) (.t 0 (.t 1 (.o 2 (.t 3 (.t 4 (.t 5 (.t 6 (.t 7 (.t 8 (.t 9 (.t 10 (.t 11 (.t 12 (.t 13 (.t 14 (.t 15 (.t 16 (.t 17 (.t 18 (.t 19 (.t 20 (.t 21 (.t 22 (.o 23 (.t 24 (.t 25 .done)))))))))))))))))))))))))) af af af L (λ_ _ _ _ h=>h) ⟨B,W,a1⟩ ?_;obtain⟨z0,UL⟩:=J y2.drew;have d:=bX y2;rw[<-UL]at d⊢;have Wy:=ae B d;have Q:=ae W d;have R:=aj S d;have bd:=O (aC a1 d);clear d UL B W S a1;refine aK ?_
   (refine aS (v:=?_) I ai (λs a=>?_) ?_;rotate_left;(have b0:=ah (i:=0) a.1 I;have b1:=ah (i:=1) a.1 I;have b2:=ah (i:=2) a.1 I;have f6:=ah a.2.1 aa;have p0:=a.2.2;go_simp;with_reducible rfl);refine G ?_)
   refine aE I (λK' t=>?_);go_simp;refine(ay _).mono ?_;rintro e _ ⟨rfl,rfl⟩;refine t _ _ ⟨Wy,Q,bd⟩ λ_=>?_
   clear t;refine G ?_;iterate 6 refine aK ?_
   (refine aS (v:=?_) I ai (λs a=>?_) ?_;rotate_left;(have b0:=ah (i:=0) a.1 I;have b1:=ah (i:=1) a.1 I;have b2:=ah (i:=2) a.1 I;have f6:=ah a.2.1 aa;have p0:=a.2.2;go_simp;with_reducible rfl);refine G ?_)
   iterate 4 refine aK ?_
   (refine aS (v:=?_) I ai (λs a=>?_) ?_;rotate_left;(have b0:=ah (i:=0) a.1 I;have b1:=ah (i:=1) a.1 I;have b2:=ah (i:=2) a.1 I;have f6:=ah a.2.1 aa;have p0:=a.2.2;go_simp;with_reducible rfl);refine G ?_)
   refine aK ?_
   (refine aS (v:=?_) I ai (λs a=>?_) ?_;rotate_left;(have b0:=ah (i:=0) a.1 I;have b1:=ah (i:=1) a.1 I;have b2:=ah (i:=2) a.1 I;have f6:=ah a.2.1 aa;have p0:=a.2.2;go_simp;with_reducible rfl);refine G ?_)
   iterate 4 refine aK ?_
   iterate 2 refine fF ?_
   refine aE I (λK' t=>?_);rw[jy (sq.1 ai)];refine t _ _ ⟨Wy,Q,bd⟩ λ_=>?_
   clear t;refine G ?_;refine fF ?_;refine aK ?_;refine jV ?_
   go_wp2_with fail
   go_ret;exact⟨I,R⟩
  have bp:decide (M<=pd)=ji:=ak bi;have cg:jf (pd<M):=O Y;clear bi;refine p6 ?_;refine dj (λs=>s.heap[E]?=ja (je #[T A M,T A F,jg U m V] 88 (0,0))/\s.heap[b]?=ja (je ad 37 (0,0))/\s.cell? ⟨g,o+j*3,jc⟩=ja (T A pd)) (.t 0 (.t 1 (.o 2 (.t 3 (.t 4 (.t 5 (.t 6 (.t 7 (.t 8 (.t 9 (.t 10 (.t 11 (.t 12 (.t 13 (.t 14 (.t 15 (.t 16 (.t 17 (.t 18 (.t 19 (.t 20 (.t 21 (.t 22 (.o 23 (.t 24 (.t 25 .done)))))))))))))))))))))))))) af af af L (λ_ _ _ _ h=>h) ⟨B,W,a1⟩ ?_;obtain⟨z0,UL⟩:=J y2.drew;have d:=bX y2;rw[<-UL]at d⊢;have Wy:=ae B d;have Q:=ae W d;have R:=aj S d;have bd:=O (aC a1 d);clear d UL B W S a1;refine aK ?_
  (refine aS (v:=?_) I ai (λs a=>?_) ?_;rotate_left;(have b0:=ah (i:=0) a.1 I;have b1:=ah (i:=1) a.1 I;have b2:=ah (i:=2) a.1 I;have f6:=ah a.2.1 aa;have p0:=a.2.2;go_simp;with_reducible rfl);refine G ?_)
  refine aE I (λK' t=>?_);go_simp;refine(ay _).mono ?_;rintro e _ ⟨rfl,rfl⟩;refine t _ _ ⟨Wy,Q,bd⟩ λ_=>?_
  clear t;refine G ?_;iterate 6 refine aK ?_
  (refine aS (v:=?_) I ai (λs a=>?_) ?_;rotate_left;(have b0:=ah (i:=0) a.1 I;have b1:=ah (i:=1) a.1 I;have b2:=ah (i:=2) a.1 I;have f6:=ah a.2.1 aa;have p0:=a.2.2;go_simp;with_reducible rfl);refine G ?_)
  iterate 4 refine aK ?_
  (refine aS (v:=?_) I ai (λs a=>?_) ?_;rotate_left;(have b0:=ah (i:=0) a.1 I;have b1:=ah (i:=1) a.1 I;have b2:=ah (i:=2) a.1 I;have f6:=ah a.2.1 aa;have p0:=a.2.2;go_simp;with_reducible rfl);refine G ?_)
  refine aK ?_
  (refine aS (v:=?_) I ai (λs a=>?_) ?_;rotate_left;(have b0:=ah (i:=0) a.1 I;have b1:=ah (i:=1) a.1 I;have b2:=ah (i:=2) a.1 I;have f6:=ah a.2.1 aa;have p0:=a.2.2;go_simp;with_reducible rfl);refine G ?_)
  iterate 5 refine aK ?_
  (refine aS (v:=?_) I ai (λs a=>?_) ?_;rotate_left;(have b0:=ah (i:=0) a.1 I;have b1:=ah (i:=1) a.1 I;have b2:=ah (i:=2) a.1 I;have f6:=ah a.2.1 aa;have p0:=a.2.2;go_simp;with_reducible rfl);refine G ?_)
  refine aE I (λK' t=>?_);rw[jt ai];go_simp;refine(a2 z0).mono ?_;rintro e z1 ⟨rfl,d⟩;have bh:=ae Wy d;have X:=ae Q d;have H:=aj R d;have a:=O (aC bd d);clear Wy Q R bd;clear d;refine t _ _ ⟨bh,X,a⟩ λ_=>?_
  clear t;refine G ?_;iterate 2 refine aK ?_
  refine jV ?_;clear a2
  by_cases n:u=0
  ·have a4:(u !=0)=ji:=ak n
   have a5:(u==0)=jm:=ak n;have bo:jf (uK ⟨M,F,xb⟩):=O ⟨qa bn.symm,by rw[<-HM];exact pS.1 (VZ.symm.trans n)⟩;have a6:jf (lV (c.wel.take (k+1))):=O (by rw[YX];exact bk.snoc bo (by exact .inr ⟨y,by rw[j9,qe (by rw[<-YA];omega),show k-1=j by have:=bf.out;omega,E6 (aI bf)];exact HY,by rw[<-bA];exact cg⟩));clear n
   go_wp2_with fail
   exact⟨⟨k+1,by go_num,by omega,a6,X,H⟩,by simp only[jv];omega⟩
  have a4:(u !=0)=jm:=ak n;have a5:(u==0)=ji:=ak n;obtain rfl:r=220:=by rw[C];exact fi λh=>n (by rw[VZ,HM];exact pS.2 (h.wel _ (j1 ax)).2)
  clear n
  go_wp2_with fail
  go_ret;exact⟨I,H⟩
 have bl:=aw ((k:N)<(P:N));have bm:=aw (k<P);obtain rfl:k=P:=Y;have a:jf (lV c.wel):=O (by have h:=bk.out;rw[jU (by rw[<-YA];exact ju _)]at h;exact h);have g:jf (mJ c):=O ⟨by rw[<-bq];exact qa bu.symm,by rw[<-Ya];have:=bh.out;have:=B.out;omega,by rw[<-br];exact qa bv.symm,
  oF.1 bw.symm,bg.symm,by rw[<-ZX];exact ba,by rw[<-YA];exact bb,λp i=>by
   obtain⟨j,hj,rfl⟩:=qs i;have h:=b7 j (by rw[bg];exact hj);rw[fp _ hj]at h;exact h,ca,a.each,a.inc⟩
 obtain rfl:r=0:=by rw[C];exact uy g
 clear bk
 go_wp2_with fail
 go_ret;exact⟨I,z⟩
theorem fR{x:Val}(w':aW (·<w.heap.size) w x a)(d:jk w w h):aW (·<h.heap.size) h x a:=
 aW.mono (λb (c:b<w.heap.size)=>qg c d.size) _ _ (aW.keep (λb c=>d.block b c) _ _ w')
theorem tb(w':dh w a r)(v:jk w w h):dh h a r:=by
 obtain⟨p,c,b,d,f⟩:=w';refine⟨p,c,b,d,λi=>?_⟩;obtain⟨g,o,e,k⟩:=f i;exact⟨g,o,e,λj m=>aC (k j m) v⟩
def grp:jd Val->jd jj->jd (jd jj)
 |x::xs,a::b=>gU x a::grp xs b
 |_,_=>[]
theorem tg:∀(l:jd Val) (a:jd jj),(grp l a).flatten=cS l a
 |[],a=>by cases a<;>simp[grp,cS]
 |x::l,[]=>by simp[grp,cS]
 |x::l,b::a=>by simp[grp,cS,tg l a]
theorem AJ:∀(l:jd Val) (a:jd jj),a.length=l.length->(grp l a).length=l.length
 |[],a,h=>by cases a<;>simp[grp]
 |x::l,[],h=>by simp at h
 |x::l,b::a,h=>by simp[grp,AJ l a (ak h)]
theorem yZ:∀{l:jd Val} {a:jd jj},aN D w l a->∀e∈grp l a,∀b∈e,b.oneCell'=jm
 |[],a,h,e,he,b,d=>by cases a<;>simp[grp]at he
 |x::l,a,h,e,he,b,d=>by
  rw[aN]at h;obtain⟨v,i,rfl,f,g⟩:=h;simp only[grp,jT]at he
  rcases he with rfl|he
  ·obtain⟨p,c,rfl⟩:=f.form
   simp only[gU,jT,qM,or_false]at d
   rcases d with rfl|rfl|rfl|rfl<;>rfl
  exact yZ g e he b d
theorem tD(s:jb)(a c:jd Val)(k l:jP j6)(m n o p:jb)(w:jh)(C:aW (·<w.heap.size) w (vL a) (jg k m n))(D:aW (·<w.heap.size) w (vL c) (jg l o p))
 (t:w.heap[s]?=ja (je #[jg k m n,jg l o p] 77 (0,0))) (E:a.length+c.length<=1000000):
 jq jl 166 #[jg (ja ⟨s,0,jc⟩) 2 2] w λe w'=>∃v,e=jp v/\aW (·<w'.heap.size) w' (vL (a++c)) v/\jk w w w':=by
 obtain⟨d,u,j⟩:=C.slice;obtain⟨f,x,q⟩:=D.slice;replace j:aN (·<w.heap.size) w a d:=j;replace q:aN (·<w.heap.size) w c f:=q;replace u:aH (·<w.heap.size) w (jg k m n) 4 a.length (cS a d):=u;replace x:aH (·<w.heap.size) w (jg l o p) 4 c.length (cS c f):=x;have y:=AJ _ _ j.len;have z:=AJ _ _ q.len;have F:sX w (jg k m n) (grp a d):=by unfold sX;rw[y,tg];exact u.row
 have H:sX w (jg l o p) (grp c f):=by unfold sX;rw[z,tg];exact x.row
 have B:[grp a d,grp c f].flatten=grp a d++grp c f:=by simp
 have K:∀e∈[grp a d,grp c f].flatten,∀r∈e,r.oneCell'=jm:=by
  intro e he r b;rw[B]at he
  rcases o1.1 he with h|h
  ·exact yZ j e h r b
  exact yZ q e h r b
 refine(Qr s 2 77 [jg k m n,jg l o p] [grp a d,grp c f] I I (by rw[B,jI,y,z];exact E) w t (λi b=>by match i,b with|0,_=>exact F|1,_=>exact H) L K).mono ?_;rintro e w' ⟨M,rfl,i,h⟩;refine⟨M,I,?_,h⟩;rw[B,jI,y,z,List.flatten_append,tg,tg,<-sR _ _ _ _ j.len,<-jI]at i;rw[vL,aW];refine⟨d++f,aH.of_own i (λg t=>(i.lt g t).2),aN.append ?_ ?_⟩
 ·exact aN.mono (λb (g:b<w.heap.size)=>qg g h.size) _ _ (aN.keep (λb g=>h.block b g) _ _ j)
 exact aN.mono (λb (g:b<w.heap.size)=>qg g h.size) _ _ (aN.keep (λb g=>h.block b g) _ _ q)
theorem O3{E:Act}{o:j0}{x:qS}(e:i.size=73)(f:o.op=.load 37 x)(g:E.eval x=jz (ja ⟨b,0,jc⟩))(c:w.heap[b]?=ja (je i 37 (0,0))):
 (execOp E.eval o).run jl w=.ok (.value (jn i)) w:=by
 have h:=gm (P:=jl) o E 37 x f b 0 g i.toList _ (vS (t:=37) (l:=i.toList) (ak c)) underlying37 I (by rw[qc,e];exact mT)
 simpa using h
def iY(c:Cmt)(a:ByteArray)(nums:jd N):LBy:=c8 a ((aP c).take 4++nums.map vI)
theorem EA(c:Cmt)(q:CQ)(n:ByteArray)(nums:jd N)(v:jj)(w:jh)(j:n.size<=1000)(a:aT (·<w.heap.size) w c q)(hI:dh w v nums)(hn:nums.length<=1000)
 (hl:c.chg.length<=1000000/\c.path.length<=1000000/\c.box.length<=1000000/\c.wel.length<=1000000) (k:cT ((aP c).take 4++nums.map vI)) (l:bS w):
 jq jl 110 #[jn (aF c q).toArray,.string n,v] w λe w'=>∃D,e=jp (jg (ja ⟨D,0,jc⟩) 32 32)/\bj w' (jg (ja ⟨D,0,jc⟩) 32 32) (iY c n nums)/\jk w w w':=by
 obtain⟨l1,l2,l3,l4⟩:=hl;have m:=O a;have UV:=O k;have HT:=O l;have bc:=O j;have o:=O hI;obtain⟨pv,cv,rfl,-,-⟩:=hI;obtain⟨UK,d⟩:=J ((aF c q).toArray);rw[<-d];have bd:=O d;have p:UK.size=73:=by rw[d,jK,dl c q a.plen a.clen]
 have YO:=O p;have S:=jw w (je UK 37);have f:=ap w (je UK 37);obtain⟨W1,g⟩:=J (w.alloc (je UK 37));obtain⟨b,h⟩:=J w.heap.size;rw[<-g]at f S;rw[<-h]at S;have i:=O f;have r:=O S;have s:=O g;have Wd:=O h;clear f g h S d p a k l j
 go_enter func110,ntmps110
 go_upto_region 1 with fail
 rw[<-s,<-Wd];clear s;have Us:jf (jk w w W1.drew):=O (i.trans ((bX W1).mono i.size));have ba:jf (W1.drew.heap[b]?=ja (je UK 37 (0,0))):=O r;have UU:jf (aT (·<W1.drew.heap.size) W1.drew c q):=O (m.below Us);have YS:jf (dh W1.drew (jg pv nums.length cv) nums):=O (tb o Us);clear i r m o;refine p6 ?_;refine dj (λa=>a.heap[b]?=ja (je UK 37 (0,0))) (.t 0 (.t 1 (.t 4 (.w 2 9 (.t 3 (.w 5 9 (.w 6 9 (.w 7 9 (.w 8 9 (.o 9 (.o 10 .done)) (.o 8 (.o 10 .done))) (.o 7 (.o 8 (.o 10 .done)))) (.o 6 (.o 7 (.o 8 (.o 10 .done))))) (.o 5 (.o 6 (.o 7 (.o 8 (.o 10 .done))))))) (.o 2 (.t 3 (.o 5 (.o 6 (.o 7 (.o 8 (.o 10 .done))))))))))) af af af L (λ_ _ _ _ h=>h) ba ?_;generalize W1.drew=x0 at Us ba UU YS⊢;refine fH ?_
 (refine aS (v:=jn UK) I ai (λa d=>O3 YO I I d) (G ?_))
 refine fH ?_;refine iZ ?_ ?_
 ·refine aE I (λk d=>?_)
  go_simp;rw[bd];refine(tq c q x0 UU l1 l2 l3 l4).mono ?_;rintro e x1 ⟨v,rfl,bb,a⟩;obtain⟨E,o,rfl,Vq⟩:∃g o,v=jg (ja ⟨g,0,jc⟩) 11 o/\11<=o:=by
   obtain⟨us,ho,-⟩:=bb;obtain⟨g,c,h1,h2,-⟩:=vx ho L;exact⟨g,c,h1,h2⟩
  have bl:∀W,(Instr.sliceAt 77 (jg (ja ⟨E,0,jc⟩) 11 o) jc (ja (T A 4)) jc).run jl W=.ok (jg (ja ⟨E,0,jc⟩) 4 o) W:=λW=>wy 77 135 4 underlying77 wV E 0 11 o 4 Y W
  have Uq:=aj Us a;have a4:=ae ba a;have WI:=O (tb YS a);clear Us ba UU YS;clear a;have bf:=O (bb.val 4 L).2;clear bb;rw[<-bd];refine d _ _ a4.out λ_=>?_
  clear d;refine G ?_;refine fH ?_;refine iZ ?_ ?_
  ·refine aE I (λk d=>?_)
   go_simp;refine(tH nums _ x1 WI Y).mono ?_;rintro e x2 ⟨bk,rfl,U,a⟩;obtain⟨V,X,rfl⟩:=cO U;have a6:=sj (D:=(·<x2.heap.size)) U (λg i=>(U.lt g i).2);have Ur:=aj Uq a;have Wq:=ae a4 a;have a5:=O (fR bf a);clear Uq a4 WI bf;have bg:=O a6;clear a U a6;refine d _ _ Wq.out λ_=>?_
   clear d;refine G ?_;refine iZ ?_ ?_
   ·refine aE I (λk d=>?_)
    go_simp;have a:=ap x2 (je #[jg (ja ⟨E,0,jc⟩) 4 o,jg V nums.length X] 77);have f:=jw x2 (je #[jg (ja ⟨E,0,jc⟩) 4 o,jg V nums.length X] 77);obtain⟨B,l⟩:=J (x2.alloc (je #[jg (ja ⟨E,0,jc⟩) 4 o,jg V nums.length X] 77));rw[<-l]at a f⊢;obtain⟨gl,i⟩:=J x2.heap.size;rw[<-i]at f⊢;have bi:=O i;clear i;have Uu:=aj Ur a;have K:=ae Wq a;have au:=O (fR a5 a);have ax:=O (fR bg a);clear Ur Wq a5 bg;have Zu:=O f;clear f;clear l a;refine d _ _ K.out λ_=>?_
    clear d;refine G ?_;refine iZ ?_ ?_
    ·refine aE I (λk d=>?_)
     go_simp;refine(tD gl ((aP c).take 4) (nums.map vI) _ _ _ _ _ _ B au ax Zu.out (by rw[jC];exact jL (qQ (qA _ _) hn) L)).mono ?_;rintro e x4 ⟨vc,rfl,F,a⟩;obtain⟨pc,bh,rfl⟩:=F.form;have H:=aj Uu a;have C:=ae K a;clear Uu K au ax Zu;have a1:=O F;clear a F;refine d _ _ C.out λ_=>?_
     clear d;refine G ?_;refine iZ ?_ ?_
     ·refine aE I (λk d=>?_)
      go_simp;refine(mN n bc ((aP c).take 4++nums.map vI) _ x4 a1 UV (HT.below H).num (HT.below H).start).mono ?_;rintro e x5 ⟨rfl,a⟩;have r:((c8 n ((aP c).take 4++nums.map vI)).map v8).toArray.size=32:=by rw[jK,jC,eT]
      have s:=ff (c8 n ((aP c).take 4++nums.map vI));obtain⟨j,t⟩:=J (((c8 n ((aP c).take 4++nums.map vI)).map v8).toArray);rw[<-t]at r s⊢;have Vo:=O t;have M:=O r;have Vl:=O s;clear t r s;have m:=aj H a;have p:=ae C a;clear H C a1;clear a;refine d _ _ p.out λ_=>?_
      clear d;refine G ?_;refine aE I (λk d=>?_);go_simp;have a:=ap x5 (je a8 23);have f:=jw x5 (je a8 23);obtain⟨u,l⟩:=J (x5.alloc (je a8 23));rw[<-l]at a f⊢;obtain⟨D,i⟩:=J x5.heap.size;rw[<-i]at f⊢;have P:=O i;clear i;have VB:=aj m a;have Q:=ae p a;have R:=O f;have WS:jf (w.heap.size<=D):=O (by rw[P];exact m.size);have ay:jf (b<D):=O (by rw[P];exact(jG.1 p).1);clear f l a;clear m p;refine d _ _ Q.out λ_=>?_
      clear d;refine G ?_;refine aE I (λk d=>?_);rw[jt ai];refine j4 23 _ _ I D j I I 23 _ R.out (by rw[M];rfl) (by rw[M];simp) Vl (d _ _ ((jY _ _ _ _ (aI ay)).trans Q) λ_=>?_);clear d;have x:(u.setRow D j).heap[D]?=ja (je j 23 (0,0)):=jR _ _ _ _ _ _ R.out;have y:jk w w (u.setRow D j):=jZ VB WS _;generalize u.setRow D j=z at x y⊢;have Yh:=O x;have Wu:=O y;clear x y;refine G ?_;refine jV ?_
      go_wp2_with fail
      go_ret;have h:=Yh.out;rw[Vo]at h;have S:=og h (eT _ _);refine⟨D,I,?_,Wu⟩;exact S
     refine aE I (λk d=>?_);go_simp;have a:=ap x4 (je a8 23);have f:=jw x4 (je a8 23);obtain⟨x5,l⟩:=J (x4.alloc (je a8 23));rw[<-l]at a f⊢;obtain⟨D,i⟩:=J x4.heap.size;rw[<-i]at f⊢;have P:=O i;clear i;have m:=aj H a;have p:=ae C a;have aa:=O (fR a1 a);have ad:=O f;have WS:jf (w.heap.size<=D):=O (by rw[P];exact H.size);have ay:jf (b<D):=O (by rw[P];exact(jG.1 C).1);clear f l a;clear H C a1;refine d _ _ p.out λ_=>?_
     clear d;refine G ?_;refine aE I (λk d=>?_);go_simp;refine(mN n bc ((aP c).take 4++nums.map vI) _ x5 aa UV (HT.below m).num (HT.below m).start).mono ?_;rintro e u ⟨rfl,a⟩;have r:((c8 n ((aP c).take 4++nums.map vI)).map v8).toArray.size=32:=by rw[jK,jC,eT]
     have s:=ff (c8 n ((aP c).take 4++nums.map vI));obtain⟨j,t⟩:=J (((c8 n ((aP c).take 4++nums.map vI)).map v8).toArray);rw[<-t]at r s⊢;have Vo:=O t;have M:=O r;have Vl:=O s;clear t r s;have VB:=aj m a;have Q:=ae p a;have R:=ae ad a;clear m p aa ad;clear a;refine d _ _ Q.out λ_=>?_
     clear d;refine G ?_;refine aE I (λk d=>?_);rw[jt ai];refine j4 23 _ _ I D j I I 23 _ R.out (by rw[M];rfl) (by rw[M];simp) Vl (d _ _ ((jY _ _ _ _ (aI ay)).trans Q) λ_=>?_);clear d;have x:(u.setRow D j).heap[D]?=ja (je j 23 (0,0)):=jR _ _ _ _ _ _ R.out;have y:jk w w (u.setRow D j):=jZ VB WS _;generalize u.setRow D j=z at x y⊢;have Yh:=O x;have Wu:=O y;clear x y;refine G ?_;refine jV ?_
     go_wp2_with fail
     go_ret;have h:=Yh.out;rw[Vo]at h;have S:=og h (eT _ _);refine⟨D,I,?_,Wu⟩;exact S
    refine aE I (λk d=>?_);go_simp;have a:=ap B (je a8 23);have f:=jw B (je a8 23);obtain⟨x4,l⟩:=J (B.alloc (je a8 23));rw[<-l]at a f⊢;obtain⟨D,i⟩:=J B.heap.size;rw[<-i]at f⊢;have P:=O i;clear i;have H:=aj Uu a;have C:=ae K a;have a1:=O (fR au a);have a2:=O (fR ax a);have a3:=ae Zu a;have Wv:=O f;have WS:jf (w.heap.size<=D):=O (by rw[P];exact Uu.size);have ay:jf (b<D):=O (by rw[P];exact(jG.1 K).1);clear f l a;clear Uu K au ax Zu;refine d _ _ C.out λ_=>?_
    clear d;refine G ?_;refine aE I (λk d=>?_);go_simp;refine(tD gl ((aP c).take 4) (nums.map vI) _ _ _ _ _ _ x4 a1 a2 a3.out (by rw[jC];exact jL (qQ (qA _ _) hn) L)).mono ?_;rintro e x5 ⟨vc,rfl,F,a⟩;obtain⟨pc,bh,rfl⟩:=F.form;have m:=aj H a;have p:=ae C a;have ad:=ae Wv a;clear H C a1 a2 a3 Wv;have aa:=O F;clear a F;refine d _ _ p.out λ_=>?_
    clear d;refine G ?_;refine aE I (λk d=>?_);go_simp;refine(mN n bc ((aP c).take 4++nums.map vI) _ x5 aa UV (HT.below m).num (HT.below m).start).mono ?_;rintro e u ⟨rfl,a⟩;have r:((c8 n ((aP c).take 4++nums.map vI)).map v8).toArray.size=32:=by rw[jK,jC,eT]
    have s:=ff (c8 n ((aP c).take 4++nums.map vI));obtain⟨j,t⟩:=J (((c8 n ((aP c).take 4++nums.map vI)).map v8).toArray);rw[<-t]at r s⊢;have Vo:=O t;have M:=O r;have Vl:=O s;clear t r s;have VB:=aj m a;have Q:=ae p a;have R:=ae ad a;clear m p ad aa;clear a;refine d _ _ Q.out λ_=>?_
    clear d;refine G ?_;refine aE I (λk d=>?_);rw[jt ai];refine j4 23 _ _ I D j I I 23 _ R.out (by rw[M];rfl) (by rw[M];simp) Vl (d _ _ ((jY _ _ _ _ (aI ay)).trans Q) λ_=>?_);clear d;have x:(u.setRow D j).heap[D]?=ja (je j 23 (0,0)):=jR _ _ _ _ _ _ R.out;have y:jk w w (u.setRow D j):=jZ VB WS _;generalize u.setRow D j=z at x y⊢;have Yh:=O x;have Wu:=O y;clear x y;refine G ?_;refine jV ?_
    go_wp2_with fail
    go_ret;have h:=Yh.out;rw[Vo]at h;have S:=og h (eT _ _);refine⟨D,I,?_,Wu⟩;exact S
   refine aE I (λk d=>?_);go_simp;have a:=ap x2 (je a8 23);have f:=jw x2 (je a8 23);obtain⟨B,l⟩:=J (x2.alloc (je a8 23));rw[<-l]at a f⊢;obtain⟨D,i⟩:=J x2.heap.size;rw[<-i]at f⊢;have P:=O i;clear i;have Uu:=aj Ur a;have K:=ae Wq a;have au:=O (fR a5 a);have ax:=O (fR bg a);have Yi:=O f;have WS:jf (w.heap.size<=D):=O (by rw[P];exact Ur.size);have ay:jf (b<D):=O (by rw[P];exact(jG.1 Wq).1);clear f l a;clear Ur Wq a5 bg;refine d _ _ K.out λ_=>?_
   clear d;refine G ?_;refine aE I (λk d=>?_);go_simp;have a:=ap B (je #[jg (ja ⟨E,0,jc⟩) 4 o,jg V nums.length X] 77);have f:=jw B (je #[jg (ja ⟨E,0,jc⟩) 4 o,jg V nums.length X] 77);obtain⟨x4,l⟩:=J (B.alloc (je #[jg (ja ⟨E,0,jc⟩) 4 o,jg V nums.length X] 77));rw[<-l]at a f⊢;obtain⟨gl,i⟩:=J B.heap.size;rw[<-i]at f⊢;have bi:=O i;clear i;have H:=aj Uu a;have C:=ae K a;have a1:=O (fR au a);have a2:=O (fR ax a);have Wv:=ae Yi a;clear Uu K au ax Yi;have a3:=O f;clear f;clear l a;refine d _ _ C.out λ_=>?_
   clear d;refine G ?_;refine aE I (λk d=>?_);go_simp;refine(tD gl ((aP c).take 4) (nums.map vI) _ _ _ _ _ _ x4 a1 a2 a3.out (by rw[jC];exact jL (qQ (qA _ _) hn) L)).mono ?_;rintro e x5 ⟨vc,rfl,F,a⟩;obtain⟨pc,bh,rfl⟩:=F.form;have m:=aj H a;have p:=ae C a;have ad:=ae Wv a;clear H C a1 a2 Wv a3;have aa:=O F;clear a F;refine d _ _ p.out λ_=>?_
   clear d;refine G ?_;refine aE I (λk d=>?_);go_simp;refine(mN n bc ((aP c).take 4++nums.map vI) _ x5 aa UV (HT.below m).num (HT.below m).start).mono ?_;rintro e u ⟨rfl,a⟩;have r:((c8 n ((aP c).take 4++nums.map vI)).map v8).toArray.size=32:=by rw[jK,jC,eT]
   have s:=ff (c8 n ((aP c).take 4++nums.map vI));obtain⟨j,t⟩:=J (((c8 n ((aP c).take 4++nums.map vI)).map v8).toArray);rw[<-t]at r s⊢;have Vo:=O t;have M:=O r;have Vl:=O s;clear t r s;have VB:=aj m a;have Q:=ae p a;have R:=ae ad a;clear m p ad aa;clear a;refine d _ _ Q.out λ_=>?_
   clear d;refine G ?_;refine aE I (λk d=>?_);rw[jt ai];refine j4 23 _ _ I D j I I 23 _ R.out (by rw[M];rfl) (by rw[M];simp) Vl (d _ _ ((jY _ _ _ _ (aI ay)).trans Q) λ_=>?_);clear d;have x:(u.setRow D j).heap[D]?=ja (je j 23 (0,0)):=jR _ _ _ _ _ _ R.out;have y:jk w w (u.setRow D j):=jZ VB WS _;generalize u.setRow D j=z at x y⊢;have Yh:=O x;have Wu:=O y;clear x y;refine G ?_;refine jV ?_
   go_wp2_with fail
   go_ret;have h:=Yh.out;rw[Vo]at h;have S:=og h (eT _ _);refine⟨D,I,?_,Wu⟩;exact S
  refine aE I (λk d=>?_);go_simp;have a:=ap x1 (je a8 23);have f:=jw x1 (je a8 23);obtain⟨x2,l⟩:=J (x1.alloc (je a8 23));rw[<-l]at a f⊢;obtain⟨D,i⟩:=J x1.heap.size;rw[<-i]at f⊢;have P:=O i;clear i;have Ur:=aj Uq a;have Wq:=ae a4 a;have WU:=O (tb WI a);have a5:=O (fR bf a);have Yv:=O f;have WS:jf (w.heap.size<=D):=O (by rw[P];exact Uq.size);have ay:jf (b<D):=O (by rw[P];exact(jG.1 a4).1);clear f l a;clear Uq a4 WI bf;refine d _ _ Wq.out λ_=>?_
  clear d;refine G ?_;refine aE I (λk d=>?_);go_simp;refine(tH nums _ x2 WU Y).mono ?_;rintro e B ⟨bk,rfl,U,a⟩;obtain⟨V,X,rfl⟩:=cO U;have a6:=sj (D:=(·<B.heap.size)) U (λg i=>(U.lt g i).2);have Uu:=aj Ur a;have K:=ae Wq a;have au:=O (fR a5 a);have Yi:=ae Yv a;clear Ur Wq WU a5 Yv;have ax:=O a6;clear a U a6;refine d _ _ K.out λ_=>?_
  clear d;refine G ?_;refine aE I (λk d=>?_);go_simp;have a:=ap B (je #[jg (ja ⟨E,0,jc⟩) 4 o,jg V nums.length X] 77);have f:=jw B (je #[jg (ja ⟨E,0,jc⟩) 4 o,jg V nums.length X] 77);obtain⟨x4,l⟩:=J (B.alloc (je #[jg (ja ⟨E,0,jc⟩) 4 o,jg V nums.length X] 77));rw[<-l]at a f⊢;obtain⟨gl,i⟩:=J B.heap.size;rw[<-i]at f⊢;have bi:=O i;clear i;have H:=aj Uu a;have C:=ae K a;have a1:=O (fR au a);have Wv:=ae Yi a;have a2:=O (fR ax a);clear Uu K au Yi ax;have a3:=O f;clear f;clear l a;refine d _ _ C.out λ_=>?_
  clear d;refine G ?_;refine aE I (λk d=>?_);go_simp;refine(tD gl ((aP c).take 4) (nums.map vI) _ _ _ _ _ _ x4 a1 a2 a3.out (by rw[jC];exact jL (qQ (qA _ _) hn) L)).mono ?_;rintro e x5 ⟨vc,rfl,F,a⟩;obtain⟨pc,bh,rfl⟩:=F.form;have m:=aj H a;have p:=ae C a;have ad:=ae Wv a;clear H C a1 Wv a2 a3;have aa:=O F;clear a F;refine d _ _ p.out λ_=>?_
  clear d;refine G ?_;refine aE I (λk d=>?_);go_simp;refine(mN n bc ((aP c).take 4++nums.map vI) _ x5 aa UV (HT.below m).num (HT.below m).start).mono ?_;rintro e u ⟨rfl,a⟩;have r:((c8 n ((aP c).take 4++nums.map vI)).map v8).toArray.size=32:=by rw[jK,jC,eT]
  have s:=ff (c8 n ((aP c).take 4++nums.map vI));obtain⟨j,t⟩:=J (((c8 n ((aP c).take 4++nums.map vI)).map v8).toArray);rw[<-t]at r s⊢;have Vo:=O t;have M:=O r;have Vl:=O s;clear t r s;have VB:=aj m a;have Q:=ae p a;have R:=ae ad a;clear m p ad aa;clear a;refine d _ _ Q.out λ_=>?_
  clear d;refine G ?_;refine aE I (λk d=>?_);rw[jt ai];refine j4 23 _ _ I D j I I 23 _ R.out (by rw[M];rfl) (by rw[M];simp) Vl (d _ _ ((jY _ _ _ _ (aI ay)).trans Q) λ_=>?_);clear d;have x:(u.setRow D j).heap[D]?=ja (je j 23 (0,0)):=jR _ _ _ _ _ _ R.out;have y:jk w w (u.setRow D j):=jZ VB WS _;generalize u.setRow D j=z at x y⊢;have Yh:=O x;have Wu:=O y;clear x y;refine G ?_;refine jV ?_
  go_wp2_with fail
  go_ret;have h:=Yh.out;rw[Vo]at h;have S:=og h (eT _ _);refine⟨D,I,?_,Wu⟩;exact S
 refine aE I (λk d=>?_);go_simp;have a:=ap x0 (je a8 23);have f:=jw x0 (je a8 23);obtain⟨x1,l⟩:=J (x0.alloc (je a8 23));rw[<-l]at a f⊢;obtain⟨D,i⟩:=J x0.heap.size;rw[<-i]at f⊢;have P:=O i;clear i;have Uq:=aj Us a;have a4:=ae ba a;have UM:=O (UU.below a);have WI:=O (tb YS a);have bf:=O f;have WS:jf (w.heap.size<=D):=O (by rw[P];exact Us.size);have ay:jf (b<D):=O (by rw[P];exact(jG.1 ba).1);clear f l a;clear Us ba UU YS;refine d _ _ a4.out λ_=>?_
 clear d;refine G ?_;refine aE I (λk d=>?_);go_simp;rw[bd];refine(tq c q x1 UM l1 l2 l3 l4).mono ?_;rintro e x2 ⟨v,rfl,bb,a⟩;obtain⟨E,o,rfl,Vq⟩:∃g o,v=jg (ja ⟨g,0,jc⟩) 11 o/\11<=o:=by
  obtain⟨us,ho,-⟩:=bb;obtain⟨g,c,h1,h2,-⟩:=vx ho L;exact⟨g,c,h1,h2⟩
 have bl:∀W,(Instr.sliceAt 77 (jg (ja ⟨E,0,jc⟩) 11 o) jc (ja (T A 4)) jc).run jl W=.ok (jg (ja ⟨E,0,jc⟩) 4 o) W:=λW=>wy 77 135 4 underlying77 wV E 0 11 o 4 Y W
 have Ur:=aj Uq a;have Wq:=ae a4 a;have WU:=O (tb WI a);have Yv:=ae bf a;clear Uq a4 UM WI bf;clear a;have a5:=O (bb.val 4 L).2;clear bb;rw[<-bd];refine d _ _ Wq.out λ_=>?_
 clear d;refine G ?_;refine fH ?_;refine aE I (λk d=>?_);go_simp;refine(tH nums _ x2 WU Y).mono ?_;rintro e B ⟨bk,rfl,U,a⟩;obtain⟨V,X,rfl⟩:=cO U;have a6:=sj (D:=(·<B.heap.size)) U (λg i=>(U.lt g i).2);have Uu:=aj Ur a;have K:=ae Wq a;have Yi:=ae Yv a;have au:=O (fR a5 a);clear Ur Wq WU Yv a5;have ax:=O a6;clear a U a6;refine d _ _ K.out λ_=>?_
 clear d;refine G ?_;refine aE I (λk d=>?_);go_simp;have a:=ap B (je #[jg (ja ⟨E,0,jc⟩) 4 o,jg V nums.length X] 77);have f:=jw B (je #[jg (ja ⟨E,0,jc⟩) 4 o,jg V nums.length X] 77);obtain⟨x4,l⟩:=J (B.alloc (je #[jg (ja ⟨E,0,jc⟩) 4 o,jg V nums.length X] 77));rw[<-l]at a f⊢;obtain⟨gl,i⟩:=J B.heap.size;rw[<-i]at f⊢;have bi:=O i;clear i;have H:=aj Uu a;have C:=ae K a;have Wv:=ae Yi a;have a1:=O (fR au a);have a2:=O (fR ax a);clear Uu K Yi au ax;have a3:=O f;clear f;clear l a;refine d _ _ C.out λ_=>?_
 clear d;refine G ?_;refine aE I (λk d=>?_);go_simp;refine(tD gl ((aP c).take 4) (nums.map vI) _ _ _ _ _ _ x4 a1 a2 a3.out (by rw[jC];exact jL (qQ (qA _ _) hn) L)).mono ?_;rintro e x5 ⟨vc,rfl,F,a⟩;obtain⟨pc,bh,rfl⟩:=F.form;have m:=aj H a;have p:=ae C a;have ad:=ae Wv a;clear H C Wv a1 a2 a3;have aa:=O F;clear a F;refine d _ _ p.out λ_=>?_
 clear d;refine G ?_;refine aE I (λk d=>?_);go_simp;refine(mN n bc ((aP c).take 4++nums.map vI) _ x5 aa UV (HT.below m).num (HT.below m).start).mono ?_;rintro e u ⟨rfl,a⟩;have r:((c8 n ((aP c).take 4++nums.map vI)).map v8).toArray.size=32:=by rw[jK,jC,eT]
 have s:=ff (c8 n ((aP c).take 4++nums.map vI));obtain⟨j,t⟩:=J (((c8 n ((aP c).take 4++nums.map vI)).map v8).toArray);rw[<-t]at r s⊢;have Vo:=O t;have M:=O r;have Vl:=O s;clear t r s;have VB:=aj m a;have Q:=ae p a;have R:=ae ad a;clear m p ad aa;clear a;refine d _ _ Q.out λ_=>?_
 clear d;refine G ?_;refine aE I (λk d=>?_);rw[jt ai];refine j4 23 _ _ I D j I I 23 _ R.out (by rw[M];rfl) (by rw[M];simp) Vl (d _ _ ((jY _ _ _ _ (aI ay)).trans Q) λ_=>?_);clear d;have x:(u.setRow D j).heap[D]?=ja (je j 23 (0,0)):=jR _ _ _ _ _ _ R.out;have y:jk w w (u.setRow D j):=jZ VB WS _;generalize u.setRow D j=z at x y⊢;have Yh:=O x;have Wu:=O y;clear x y;refine G ?_;refine jV ?_
 go_wp2_with fail
 go_ret;have h:=Yh.out;rw[Vo]at h;have S:=og h (eT _ _);refine⟨D,I,?_,Wu⟩;exact S
end Go.Proofs.YtpmlopbaafjefaaGreatDoor
