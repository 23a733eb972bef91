/- Contracts of functions that the law reaches, part 5 of 10; no condition. -/
import Derived.WalkLawsBesides
import Derived.Deep.SlicePairs
import Derived.Lib.BytesEntry
import Derived.Test.YtngkfaggaccpoaaGreatDoorZJ4
namespace Go.Proofs.YtngkfaggaccpoaaGreatDoor
set_option maxHeartbeats 64000000
set_option maxRecDepth 100000
set_option linter.unusedVariables false
set_option linter.unusedSimpArgs false
set_option linter.unusedSectionVars false
open Go.RowKit
open Go.Proofs.Tryz
open _root_ renaming rfl->I,Nat->T,List->A,Int->ja,if_pos->jp,if_neg->jq,Array->js,Option->jv,absurd->jA,congrArg->jR,Bool->jS,decide_eq_true->xl
open _root_.Option renaming some->N,none->je,map_some->q7,some->q8,some_get->xK,toList->xV
open Go renaming Value->jb,World->jg,TypeId->jt,Calls->jz,Addr->jM,Oper->jN,wpList_plain->jO,Operand->jW,maxLen->jX,wp_region_lit->jY,setRow_heap->j4,wpList->j6,wp_store_row->j8,DataW->nn,MemPlace->nv,bodyPost_ret_by->n0,below_setRow->ob,execOp->o1,bodyPost->o8,wp_region_noPanic->pz,Program->qc,undef->qf,setRow_other->qo,run_underlying->qK,wpOp_mono->qY,callFunc->r8,wpList_load_row->xm
open Go.Value renaming int->jc
open Go.IntKind renaming i64->jd
open Go.Value renaming slice->jf,agg->jn,pointer->jG,tuple->jZ
open Go.Obj renaming cells->jh
open Go.RowKit renaming Hid->ji,Below->jo
open Go.Value renaming int->jj,slice->qB,cells->qV,agg->qW,oneCell'->r6
open _root_.Bool renaming true->jk,false->jr,and_eq_true->xx,eq_iff_iff->xy,eq_false_iff->xO
open Go.Proofs.Tryz renaming prog->jl
open Go.IntKind renaming u8->jm
open _root_.List renaming length_map->ju,mem_map->jy,mem_cons->jD,length_append->jJ,size_toArray->jL,mem_append->jQ,getElem?_eq_some_iff->jT,map_cons->jU,length_cons->jV,mem_cons_self->j0,mem_of_getElem?->j1,map_append->j5,mem_cons_of_mem->j7,mergeSort_perm->ms,getElem?_eq_getElem->mz,map_map->ow,getElem?_map->p6,set_cons_succ->qa,range->qe,take_of_length_le->qh,mem_filter->qj,mem_singleton->qk,mem_nil_iff->ql,map_nil->qs,replicate->qu,set_append_right->qv,length_nil->qw,getElem?_cons_succ->qx,drop_eq_getElem_cons->qy,append_nil->qz,getD->qA,flatMap_cons->qD,getElem?_append_right->qG,getElem_toArray->qH,getElem_cons_zero->qI,getElem_cons_succ->qJ,length->qL,append_assoc->qM,set->qO,length_filter_le->qS,getElem?_append_left->qU,any_eq_true->rk,getElem_mem->rn,map->rv,toList_toArray->r7,zipIdx_cons->sn,filter_sublist->sq,nodup_cons->sv,mem_map_of_mem->sx,mem_toArray->vi,take_succ_eq_append_getElem->wq,mem_range->wt,take_zero->wv,ext_getElem?->wx,getElem?_eq_none->xa,length_attach->xe,flatMap_append->xf,find?_append->xg,length_filterMap_le->xh,length_take->xi,getElem?_set_self->xn,nil_append->xo,filter_append->xt,pairwise_mergeSort->xu,pairwise_map->xw,flatMap_def->xA,flatten_cons->xB,take_succ_cons->xC,take_append_drop->xD,drop_eq_nil_of_le->xE,flatMap_map->xG,countP_cons->xH,countP_le_length->xI,map_toArray->xL,not_mem_nil->xP,map_mergeSort->xQ,eq_nil_of_length_eq_zero->xR,attach_map_subtype_val->xS,take_length->xU
open Go.Ending renaming returned->jw
open _root_.Nat renaming lt_of_lt_of_le->jB,le_refl->jE,le_trans->jH,zero_le->oj,add_assoc->qi,mul_le_mul_right->qE,le_of_eq->qP,not_lt_zero->qQ,zero_add->qT,mul_comm->sy,div_add_mod->xz
open Go.World renaming alloc_heap_new->jC,size_alloc->jK,ownsRow_nil->qF,frozen?->xr
open Go.Proofs renaming intOf->jF,enters_of->r9
open Go.Proofs.Tryz renaming underlying41->jI,underlying3->j3,underlying23->qg,underlying48->qX,underlying82->qZ,underlying131->sh,underlying29->xj,underlying5->xk
open _root_.Array renaming getElem?_eq_some_iff->jP,all_eq_true_iff_forall_mem->qb,length_toList->qd,ext'->qt,toList_setIfInBounds->qC,foldl->qN,getElem?_setIfInBounds_ne->q9,getElem?_modify->xq,toArray_toList->xJ,getElem?_push->xM,getElem?_append_left->xN,toList_push->xT
open Go.RowKit.Below renaming refl->j9
open Go.NoPanic renaming normal->qn
open _root_.BitVec renaming ofNat->r4,lt_def->r5,eq_of_toNat_eq->xd
variable{t:A (ja×ja)}{j:A Cmt}{Q:A aK}{u:A ap}{x:A ja}{i xs:A jb}{r:Cmt}{b:Grp}{p:LBy}{M R m y:T}{C H α:Type}{D E:T->Prop}{o:jN}{S d:ja}{a f vm vt:jb}{X:jb->js jb}{W w w' w0:jg}{e:jt}
theorem Lk(a c b d:ja)(f:ja)(g:jv jM)(i j:T)(w:jg):jz jl 27 #[jn #[jc jd a,jc jd c,jc jd f,jf g i j],jn #[jc jd b,jc jd d,jc jd 0,jf je 0 0]] w λe w'=>e=jw (.bool ((a==b)&&(c==d)))/\jo w w w':=by
 have h:=(ao w (jh #[jc jd a,jc jd c,jc jd f,jf g i j] 92)).trans ((ao (w.alloc (jh #[jc jd a,jc jd c,jc jd f,jf g i j] 92)) (jh #[jc jd b,jc jd d,jc jd 0,jf je 0 0] 92)).mono (ao w _).size);have l:=O h;clear h
 by_cases h:a=b
 ·have k:(a==b)=jk:=ak h
  rw[k,Bool.true_and];clear h
  go_enter func27,ntmps27
  go_wp2_with fail
  go_ret;exact⟨I,l⟩
 have k:(a==b)=jr:=ak h;rw[k,Bool.false_and];clear h
 go_enter func27,ntmps27
 go_wp2_with fail
 go_ret;exact⟨I,l⟩
theorem zZ(l:A Bx)(r:A (ja×ja))(v aa:jb)(w:jg)(h:∃Q,aG D w v 4 l.length (dU Bx.cells l Q)/\ez D w (l.map Bx.body) Q)(a:EB0.At w aa r)(hl:l.length<=1000000)(hr:r.length<=1000000):
 jz jl 29 #[v,aa,.func (.func 27) #[] #[]] w λe w'=>e=jw (.bool (decide (l.map (λb:Bx=>(b.lev,b.node))=r.map (λx:ja×ja=>x))))/\jo w w w':=by
 obtain⟨V,f⟩:=J (decide (l.map (λb:Bx=>(b.lev,b.node))=r.map (λx:ja×ja=>x)));rw[<-f];have X:=O f;obtain⟨p,c,g⟩:∃p c,v=jf p l.length c:=by obtain⟨Q,h,-⟩:=h;exact h.form
 obtain⟨q,d,rfl,hd,-⟩:=a.form;obtain⟨n,i⟩:=J l.length;obtain⟨m,k⟩:=J r.length;have HU:=O h;have HV:=O a;have ZN:=O g;rw[g];have HN:=O i;have HM:=O k;rw[<-i]at hl⊢;rw[<-k]at hr hd HV⊢;have EG:∀args w,(r8 27 args).run jl w=.ok (.enter 27 args) w:=λ_ _=>rfl
 clear h a i k f g
 by_cases F:n=m
 ·have a5:((n:ja)!=(m:ja))=jr:=by simp[F]
  have Uz:((n:ja)==(m:ja))=jk:=by simp[F]
  have ad:=O F;clear F
  go_enter func29,ntmps29
  go_wp2_with fail
  go_loopw [17] (λi wr=>∃k:T,i=jc jd k/\k<=n/\ji ((l.take k).map (λb:Bx=>(b.lev,b.node))=(r.take k).map (λx:ja×ja=>x))/\ji (jo w w wr)) (λi _=>n-(jF i).toNat)
  case atStart=>exact⟨0,I,oj _,O ar,O (j9 _ _)⟩
  obtain⟨k,rfl,hk,HG,a⟩:=hrel
  by_cases a6:k<n
  ·have ba:=aw ((k:ja)<(n:ja))
   have bb:=aw (k<n);have bc:k<m:=aJ ad;have hd2:=aw ((k:ja)<(m:ja));have bl:=aw (k<m);obtain⟨x,R,au⟩:=dN (l:=l) (j:=k) (by rw[<-HN];exact a6);obtain⟨y,E,ax⟩:=dN (l:=r) (j:=k) (by rw[<-HM];exact bc);obtain⟨Q,ay,a1⟩:=HU.out;obtain⟨bm,a2,a3⟩:=a1.at (i:=k) (b:=x.body) (by rw[p6,R];rfl);obtain⟨g,o,c',hq,H⟩:=oE ay (λ_ _=>rfl) R a2;rw[ZN]at hq;injection hq with e1 e2 e3
   subst e1;subst e3;obtain⟨t,u,rfl⟩:=a3.form;obtain⟨B,a4⟩:=J x.body.length;rw[<-a4]at H;obtain⟨S,U,rfl,K⟩:=(HV.cells).2.2 Y;have bd:=O au;have bf:=O ax;have Wm:=O R;have bg:=O E;obtain⟨f,s,C,xb⟩:=x;obtain⟨M,P⟩:=y;have z:=ao wr (jh #[jc jd f,jc jd s,jc jd C,jf t B u] 92);have Ws:=ao (wr.alloc (jh #[jc jd f,jc jd s,jc jd C,jf t B u] 92)) (jh #[jc jd P,jc jd M,jc jd 0,jf je 0 0] 92);have a0:wr.cell? ⟨g,o+k*4,je⟩=N (jc jd f):=aD (H 0 _ I) a;have bh:wr.cell? ⟨g,o+k*4+1,je⟩=N (jc jd s):=aD (H 1 _ I) a;have bi:wr.cell? ⟨g,o+k*4+2,je⟩=N (jc jd C):=aD (H 2 _ I) a;have bk:wr.cell? ⟨g,o+k*4+3,je⟩=N (jf t B u):=aD (H 3 _ I) a;have b0:(wr.alloc (jh #[jc jd f,jc jd s,jc jd C,jf t B u] 92)).cell? ⟨S,U+k*4,je⟩=N (jc jd P):=aD (aD (K k _ E 0 _ I) a) z;have b1:(wr.alloc (jh #[jc jd f,jc jd s,jc jd C,jf t B u] 92)).cell? ⟨S,U+k*4+1,je⟩=N (jc jd M):=aD (aD (K k _ E 1 _ I) a) z;have b2:(wr.alloc (jh #[jc jd f,jc jd s,jc jd C,jf t B u] 92)).cell? ⟨S,U+k*4+2,je⟩=N (jc jd 0):=aD (aD (K k _ E 2 _ I) a) z;have b3:(wr.alloc (jh #[jc jd f,jc jd s,jc jd C,jf t B u] 92)).cell? ⟨S,U+k*4+3,je⟩=N (jf je 0 0):=aD (aD (K k _ E 3 _ I) a) z;have HC:=O (λW=>Lk f s P M C t B u W);have W:=O (z.trans (Ws.mono z.size));clear H ay a1 a2 a3 K R E au ax z Ws e2 a4
   go_wp2_with fail
   refine(HC _).mono ?_;rintro e w1 ⟨rfl,z⟩;have K:=O (a.trans ((W.trans (z.mono W.size)).mono a.size));clear z HC W a0 bh bi bk b0 b1 b2 b3
   by_cases E:((f==P)&&(s==M))=jk
   ·rw[E]
    have z:ji ((l.take (k+1)).map (λb:Bx=>(b.lev,b.node))=(r.take (k+1)).map (λx:ja×ja=>x)):=O (by
     rw[bd,bf,j5,j5,HG]
     congr 1
     simp only[jU,qs];simp at E;simp[E])
    clear E
    go_wp2_with fail
    exact⟨⟨k+1,by go_num,by omega,z,K⟩,by simp only[jF];omega⟩
   have R:((f==P)&&(s==M))=jr:=ak E;rw[R];obtain rfl:V=jr:=by
    rw[X,decide_eq_false_iff_not];intro e;have H:=jR (λz=>z[k]?) e;simp only[p6,Wm.out,bg.out,q7,q8.injEq]at H
    apply E
    try simp at H
    simp[H]
   clear E R
   go_wp2_with fail
   go_ret;exact⟨I,K⟩
  have ba:=az ((k:ja)<(n:ja));have bb:=az (k<n);obtain rfl:k=n:=Y;obtain rfl:V=jk:=by
   rw[X,decide_eq_true_iff];have h:=HG.out;rw[qh (l:=l) (by rw[<-HN];exact jE _),qh (l:=r) (by rw[<-HM,<-ad];exact jE _)]at h;exact h
  go_wp2_with fail
  go_ret;exact⟨I,a⟩
 have a5:((n:ja)!=(m:ja))=jk:=by simp;omega
 have Uz:((n:ja)==(m:ja))=jr:=by simp;omega
 obtain rfl:V=jr:=by
  rw[X,decide_eq_false_iff_not];intro e;have:=jR qL e;rw[ju,ju,<-HN,<-HM]at this;exact F this
 clear F
 go_enter func29,ntmps29
 go_wp2_with fail
 go_ret;exact⟨I,j9 _ _⟩
theorem RF(a b h c:ja)(i j k:ja)(d:jv jM)(f g:T)(w:jg):jz jl 28 #[jn #[jc jd a,jc jd b,jf d f g],jn #[jc jd h,jc jd c,jc jd i,jc jd j,jc jd k]] w λe w'=>e=jw (.bool (a==c))/\jo w w w':=by
 have l:=(ao w (jh #[jc jd a,jc jd b,jf d f g] 95)).trans ((ao (w.alloc (jh #[jc jd a,jc jd b,jf d f g] 95)) (jh #[jc jd h,jc jd c,jc jd i,jc jd j,jc jd k] 62)).mono (ao w _).size);have m:=O l;clear l
 go_enter func28,ntmps28
 go_wp2_with fail
 go_ret;exact⟨I,m⟩
theorem Fq(l:A Wl)(r:A ap)(v aa:jb)(w:jg)(h:∃Q,aG D w v 3 l.length (dU Wl.cells l Q)/\ez D w (l.map Wl.body) Q)(a:EC.At w aa r)(hl:l.length<=1000000)(hr:r.length<=1000000):
 jz jl 30 #[v,aa,.func (.func 28) #[] #[]] w λe w'=>e=jw (.bool (decide (l.map (Wl.dev)=r.map (ap.d))))/\jo w w w':=by
 obtain⟨S,f⟩:=J (decide (l.map (Wl.dev)=r.map (ap.d)));rw[<-f];have U:=O f;obtain⟨p,c,g⟩:∃p c,v=jf p l.length c:=by obtain⟨Q,h,-⟩:=h;exact h.form
 obtain⟨q,d,rfl,hd,-⟩:=a.form;obtain⟨n,i⟩:=J l.length;obtain⟨m,k⟩:=J r.length;have HU:=O h;have HV:=O a;have ZN:=O g;rw[g];have V:=O i;have X:=O k;rw[<-i]at hl⊢;rw[<-k]at hr hd HV⊢;have EG:∀args w,(r8 28 args).run jl w=.ok (.enter 28 args) w:=λ_ _=>rfl
 clear h a i k f g
 by_cases E:n=m
 ·have a5:((n:ja)!=(m:ja))=jr:=by simp[E]
  have Uz:((n:ja)==(m:ja))=jk:=by simp[E]
  have ad:=O E;clear E
  go_enter func30,ntmps30
  go_wp2_with fail
  go_loopw [17] (λi wr=>∃k:T,i=jc jd k/\k<=n/\ji ((l.take k).map (Wl.dev)=(r.take k).map (ap.d))/\ji (jo w w wr)) (λi _=>n-(jF i).toNat)
  case atStart=>exact⟨0,I,oj _,O ar,O (j9 _ _)⟩
  obtain⟨k,rfl,hk,HG,a⟩:=hrel
  by_cases a6:k<n
  ·have ba:=aw ((k:ja)<(n:ja))
   have bb:=aw (k<n);have bc:k<m:=aJ ad;have hd2:=aw ((k:ja)<(m:ja));have bk:=aw (k<m);obtain⟨x,R,au⟩:=dN (l:=l) (j:=k) (by rw[<-V];exact a6);obtain⟨y,C,ax⟩:=dN (l:=r) (j:=k) (by rw[<-X];exact bc);obtain⟨Q,ay,a1⟩:=HU.out;obtain⟨bl,a2,a3⟩:=a1.at (i:=k) (b:=x.body) (by rw[p6,R];rfl);obtain⟨g,o,c',hq,H⟩:=oE ay (λ_ _=>rfl) R a2;rw[ZN]at hq;injection hq with e1 e2 e3
   subst e1;subst e3;obtain⟨s,t,rfl⟩:=a3.form;obtain⟨u,a4⟩:=J x.body.length;rw[<-a4]at H;obtain⟨K,M,rfl,F⟩:=(HV.cells).2.2 Y;have bd:=O au;have bf:=O ax;have Wm:=O R;have bg:=O C;obtain⟨f,B,xb⟩:=x;obtain⟨yk,P,yp,yv,yc⟩:=y;have z:=ao wr (jh #[jc jd f,jc jd B,jf s u t] 95);have Ws:=ao (wr.alloc (jh #[jc jd f,jc jd B,jf s u t] 95)) (jh #[jc jd yk,jc jd P,jc jd yp,jc jd yv,jc jd yc] 62);have a0:wr.cell? ⟨g,o+k*3,je⟩=N (jc jd f):=aD (H 0 _ I) a;have bh:wr.cell? ⟨g,o+k*3+1,je⟩=N (jc jd B):=aD (H 1 _ I) a;have bi:wr.cell? ⟨g,o+k*3+2,je⟩=N (jf s u t):=aD (H 2 _ I) a;have b0:(wr.alloc (jh #[jc jd f,jc jd B,jf s u t] 95)).cell? ⟨K,M+k*5,je⟩=N (jc jd yk):=aD (aD (F k _ C 0 _ I) a) z;have b1:(wr.alloc (jh #[jc jd f,jc jd B,jf s u t] 95)).cell? ⟨K,M+k*5+1,je⟩=N (jc jd P):=aD (aD (F k _ C 1 _ I) a) z;have b2:(wr.alloc (jh #[jc jd f,jc jd B,jf s u t] 95)).cell? ⟨K,M+k*5+2,je⟩=N (jc jd yp):=aD (aD (F k _ C 2 _ I) a) z;have b3:(wr.alloc (jh #[jc jd f,jc jd B,jf s u t] 95)).cell? ⟨K,M+k*5+3,je⟩=N (jc jd yv):=aD (aD (F k _ C 3 _ I) a) z;have b4:(wr.alloc (jh #[jc jd f,jc jd B,jf s u t] 95)).cell? ⟨K,M+k*5+4,je⟩=N (jc jd yc):=aD (aD (F k _ C 4 _ I) a) z;have HC:=O (λW=>RF f B yk P yp yv yc s u t W);have W:=O (z.trans (Ws.mono z.size));clear H ay a1 a2 a3 F R C au ax z Ws e2 a4
   go_wp2_with fail
   refine(HC _).mono ?_;rintro e w1 ⟨rfl,z⟩;have H:=O (a.trans ((W.trans (z.mono W.size)).mono a.size));clear z HC W a0 bh bi b0 b1 b2 b3 b4
   by_cases C:(f==P)=jk
   ·rw[C]
    have z:ji ((l.take (k+1)).map (Wl.dev)=(r.take (k+1)).map (ap.d)):=O (by
     rw[bd,bf,j5,j5,HG]
     congr 1
     simp only[jU,qs];simp at C;simp[C])
    clear C
    go_wp2_with fail
    exact⟨⟨k+1,by go_num,by omega,z,H⟩,by simp only[jF];omega⟩
   have R:(f==P)=jr:=ak C;rw[R];obtain rfl:S=jr:=by
    rw[U,decide_eq_false_iff_not];intro e;have F:=jR (λz=>z[k]?) e;simp only[p6,Wm.out,bg.out,q7,q8.injEq]at F
    apply C
    try simp at F
    simp[F]
   clear C R
   go_wp2_with fail
   go_ret;exact⟨I,H⟩
  have ba:=az ((k:ja)<(n:ja));have bb:=az (k<n);obtain rfl:k=n:=Y;obtain rfl:S=jk:=by
   rw[U,decide_eq_true_iff];have h:=HG.out;rw[qh (l:=l) (by rw[<-V];exact jE _),qh (l:=r) (by rw[<-X,<-ad];exact jE _)]at h;exact h
  go_wp2_with fail
  go_ret;exact⟨I,a⟩
 have a5:((n:ja)!=(m:ja))=jk:=by simp;omega
 have Uz:((n:ja)==(m:ja))=jr:=by simp;omega
 obtain rfl:S=jr:=by
  rw[U,decide_eq_false_iff_not];intro e;have:=jR qL e;rw[ju,ju,<-V,<-X]at this;exact E this
 clear E
 go_enter func30,ntmps30
 go_wp2_with fail
 go_ret;exact⟨I,j9 _ _⟩
def fM(l:A ap)(m:aK):jS:=l.any λx=>x.d==m.dev
theorem Ox(d:ja)(b:T)(f g:ja)(x:ap)(w:jg)(c:w.heap[b]?=N (jh #[jc jd d,jc jd f,jc jd g] 107 (0,0))):
 jz jl 39 #[jn x.cells.toArray,jG (N ⟨b,0,je⟩)] w λe w'=>e=jw (.bool (x.d==d))/\jo w w w':=by
 obtain⟨h,j,k,l,m⟩:=x;unfold ap.cells;have a:=ao w (jh #[jc jd h,jc jd j,jc jd k,jc jd l,jc jd m] 62);have o:=ai (i:=0) (av c a) I;have n:=O a;clear a c
 go_enter func39,ntmps39
 go_wp2_with fail
 go_ret;exact⟨I,n⟩
theorem OL(d:ja)(a b:T)(c e:ja)(f:a<b):fV EC 39 #[jG (N ⟨a,0,je⟩)] b (λW=>W.heap[a]?=N (jh #[jc jd d,jc jd c,jc jd e] 107 (0,0))) (λx=>x.d==d) where
 enter _ _:=I
 keep w w' hn h hB:=(hB.block a f).trans h
 call x w hn h:=Ox d a c e x w h
theorem Nf(c:Cmt)(q:CQ)(b:T)(m:aK)(w:jg)(r:dW w b c q)(h:EC.At w q.vc c.chg)(s:c.chg.length<=1000000):
 jz jl 37 #[jn m.cells.toArray,jG (N ⟨b,0,je⟩)] w λe w'=>e=jw (.bool (fM c.chg m))/\jo w w w':=by
 obtain⟨md,a,d⟩:=m;unfold aK.cells;have f:=ao w (jh #[jc jd md,jc jd a,jc jd d] 107);have g:=jC w (jh #[jc jd md,jc jd a,jc jd d] 107);obtain⟨t,i⟩:=J (w.alloc (jh #[jc jd md,jc jd a,jc jd d] 107));obtain⟨y,j⟩:=J w.heap.size;rw[<-i]at f g;rw[<-j]at g;have k:=h.below f;have l:=(r.below f).at.2.2.2.1;obtain⟨p,D,u,-,-⟩:=h.form;rw[u]at l k;have o:=O (Bq (OL md y t.heap.size a d (jP.1 g).1) c.chg _ t k g (jE _) s);have v:=O f;have z:=O i;have B:=O j;have C:ji ((c.chg.any λx=>x.d==md)=fM c.chg ⟨md,a,d⟩):=O I;obtain⟨n,x⟩:=J c.chg.length;rw[<-x]at l o;clear r h s f g i j k u x
 go_enter func37,ntmps37
 go_upto_region 1 with fail
 rw[<-z,<-B]
 go_wp2_with fail
 refine(o).mono ?_;rintro e x1 ⟨rfl,f⟩;have g:=ah v f;clear f o v l
 go_wp2_with fail
 go_ret;exact⟨iB C,g⟩
theorem Ql(c:Cmt)(q:CQ)(b:T)(a:jg)(d:dW a b c q)(e:EC.At a q.vc c.chg)(f:c.chg.length<=1000000):
 fV EM 37 #[jG (N ⟨b,0,je⟩)] a.heap.size (λW=>jo a a W) (fM c.chg) where
 enter _ _:=I
 keep w w' hn h hB:=h.trans hB
 call x w hn h:=Nf c q b x w (d.below h) (e.below h) f
theorem Ei:∀(xs:A jb) (k i:T) (a:js jb),k+i+xs.length<=a.size->((xs.zipIdx i).foldl (λa x=>a.setIfInBounds (k+x.2) x.1) a).toList=a.toList.take (k+i)++xs++a.toList.drop (k+i+xs.length)
 |[],k,i,a,h=>by simp
 |x::xs,k,i,a,h=>by
  rw[jV]at h;have b:k+i<a.toList.length:=by rw[qd];omega
  rw[sn,List.foldl_cons,Ei xs k (i+1) _ (by rw[Array.size_setIfInBounds];omega),qC,<-qi,List.take_add_one,List.take_set_of_le (jE _),xn b,List.drop_set_of_lt Y,jV];simp only[Option.toList_some,qM,List.singleton_append,List.cons_append,xo];rw[show k+i+1+xs.length=k+i+(xs.length+1) by omega]
theorem vU(X Z:js jb)(k n:T)(h:X.size=n)(d:k+n<=Z.size):qN (λa x=>a.setIfInBounds (k+x.2) x.1) Z X.zipIdx 0 n=(Z.toList.take k++X.toList++Z.toList.drop (k+n)).toArray:=by
 have b:X.zipIdx.size=n:=by simp[h]
 have c:qN (λa (x:jb×T)=>a.setIfInBounds (k+x.2) x.1) Z X.zipIdx 0 n=X.zipIdx.toList.foldl (λa x=>a.setIfInBounds (k+x.2) x.1) Z:=by
  rw[Array.foldl_toList,b]
 rw[c,Array.toList_zipIdx]
 apply qt
 rw[Ei _ _ _ _ (by rw[qd];omega)];simp[h]
theorem Ly(f e:ja)(a:js jb)(b:a.size=32)(w:jg):
 (Instr.build 41 #[(0,jc jd f),(1,jc jd e),(2,jn a)]).run jl w=.ok (jn (#[jc jd f,jc jd e]++a++ #[jf je 0 0,jf je 0 0])) w:=by
 unfold Instr.build;go_simp;rw[vU a _ 2 32 b ar];obtain⟨l⟩:=a;simp
theorem Qm(w:jg):(Instr.build 41 #[]).run jl w=.ok (jn (aB ⟨0,0,qu 32 0#8,[],[]⟩ (jf je 0 0) (jf je 0 0)).toArray) w:=by
 unfold Instr.build;go_simp
 rfl
theorem bJ.ints{v:jb}(h:bJ w v t)(key:∀(g o:T) (x:ja),w.cell? ⟨g,o,je⟩=N (jc jd x)->w'.cell? ⟨g,o,je⟩=N (jc jd x)):bJ w' v t:=by
 obtain⟨p,c,d,f,i,k,l⟩:=h;refine⟨p,c,d,f,i,λm=>?_,l⟩;obtain⟨g,o,e,a⟩:=k m;exact⟨g,o,e,λj b=>⟨key _ _ _ (a j b).1,key _ _ _ (a j b).2⟩⟩
theorem uI{b i:T}{X l:js jb}{t:jt}(m:w.heap[b]?=N (jh X t (0,0)))(q:w'.heap[b]?=N (jh l t (0,0)))(r:∀j,j≠i->l[j]?=X[j]?){p:jv jM}{n c:T}(j:X[i]?=N (jf p n c))
 (s:∀k,k<w.heap.size->k≠b->w'.heap[k]?=w.heap[k]?):∀(g o:T) (x:ja),w.cell? ⟨g,o,je⟩=N (jc jd x)->w'.cell? ⟨g,o,je⟩=N (jc jd x):=λg o x d=>by
 by_cases e:g=b
 ·subst e
  unfold World.cell? at d⊢;rw[m]at d;rw[q];simp only at d⊢;have f:X[o]?=N (jc jd x):=ak d;have k:o≠i:=λe=>by rw[e,j]at f;injection f with h;cases h
  have:=(r o k).trans f
  simpa using this
 rw[<-d];exact dY (a:=⟨g,o,je⟩) (s g (gh d) e)
theorem m7(g:Grp)(a b:jb)(h:g.last.length=32):(aB g a b).toArray[34]?=N a/\(aB g a b).toArray[35]?=N b/\(aB g a b).toArray.size=36:=by
 have c:=lP (vm:=a) (vt:=b) h;exact⟨by simpa using c.2.2.1,by simpa using c.2.2.2,by rw[jL,eH h]⟩
theorem Dr(g:Grp)(a b x:jb)(h:g.last.length=32):(aB g a b).toArray.setIfInBounds 34 x=(aB g x b).toArray:=by
 apply qt
 rw[qC];unfold aB;have c:(g.last.map v8).length=32:=by rw[ju];exact h
 show qO (_ ::_ ::(g.last.map v8++[a,b])) 34 x=_;rw[qa,qa,qv _ _ Y,c]
 rfl
theorem C6(g:Grp)(a b x:jb)(h:g.last.length=32):(aB g a b).toArray.setIfInBounds 35 x=(aB g a x).toArray:=by
 apply qt
 rw[qC];unfold aB;have c:(g.last.map v8).length=32:=by rw[ju];exact h
 show qO (_ ::_ ::(g.last.map v8++[a,b])) 35 x=_;rw[qa,qa,qv _ _ Y,c]
 rfl
theorem Nq(g:Grp)(a c b:jb)(h:g.last.length=32)(j:T)(d:j≠34):(aB g c b).toArray[j]?=(aB g a b).toArray[j]?:=by
 rw[<-Dr g a b c h,q9 (Ne.symm d)]
theorem Sn(g:Grp)(a b c:jb)(h:g.last.length=32)(j:T)(d:j≠35):(aB g a c).toArray[j]?=(aB g a b).toArray[j]?:=by
 rw[<-C6 g a b c h,q9 (Ne.symm d)]
theorem fs{b i:T}{a:js jb}{t:jt}(v:jb)(h:w.heap[b]?=N (jh a t (0,0))):(w.setCell ⟨b,i,je⟩ v).heap[b]?=N (jh (a.setIfInBounds i v) t (0,0)):=by
 show(w.heap.modify b _)[b]?=_;rw[xq];simp[h]
theorem dC{b i k:T}(v:jb)(h:k≠b):(w.setCell ⟨b,i,je⟩ v).heap[k]?=w.heap[k]?:=Below.heap_setCell _ _ _ _ h
theorem su{b o n:T}{a:js jb}{t:jt}(h:w.heap[b]?=N (jh a t (0,0)))(c:o+n<=a.size):w.there b o n:=by
 intro j d;refine⟨?_,by simp[xr,h]⟩;rw[ai h (Array.getElem?_eq_getElem (show o+j<a.size by omega))]
 rfl
theorem gt{b o:T}{a:js jb}{t:jt}(h:w.heap[b]?=N (jh a t (0,0))):w.frozen? ⟨b,o,je⟩=jr:=by simp[xr,h]
def gd(l:A aK)(a:A ap)(ep:ja):A aK:=(l.filter λm=> !fM a m)++(a.filter λx=> !(x.k==2)).map λx=>⟨x.d,ep,x.v⟩
theorem wg(h:dD b):(b.mem.map aK.dev).Nodup:=by
 rw[h.dev];exact(pJ b.tree).imp λh=>Int.ne_of_lt h
theorem Hd{l:A aK}{c:A ap}{ep:ja}(f:(l.map aK.dev).Nodup)(g:(c.map ap.d).Nodup):((gd l c ep).map aK.dev).Nodup:=by
 unfold gd;rw[j5,List.nodup_append];refine⟨f.sublist (sq.map _),?_,?_⟩
 ·rw[ow]
  exact g.sublist (sq.map _)
 intro a h b i e;obtain⟨m,j,rfl⟩:=jy.1 h;obtain⟨y,k,rfl⟩:=jy.1 i;obtain⟨x,n,rfl⟩:=jy.1 k;have d:=(qj.1 j).2;have o:fM c m=jk:=by
  unfold fM;exact rk.2 ⟨x,(qj.1 n).1,by simpa using e.symm⟩
 rw[o]at d
 cases d
theorem TD(l:A aK)(a b:A ap)(x:ap)(ep:ja):(l.filter λm=> !fM a m)++((b++[x]).filter λx=> !(x.k==2)).map (λx=>(⟨x.d,ep,x.v⟩:aK))=
 ((l.filter λm=> !fM a m)++(b.filter λx=> !(x.k==2)).map (λx=>(⟨x.d,ep,x.v⟩:aK)))++(if x.k=2 then []else [⟨x.d,ep,x.v⟩]):=by
 rw[xt,j5,qM]
 congr 1
 by_cases h:x.k=2
 ·simp[h]
 simp[h]
noncomputable def lX(p r s:ja)(msg:LBy):jS:=by classical exact decide (mD p r s msg)
theorem As{s:ja}:lX d S s p=jk↔mD d S s p:=by unfold lX;simp
def onB(g:Grp)(c:Cmt):jS:=(c.folder==g.folder)&&(c.epoch==g.epoch+1)&&decide (c.parent=g.last)
noncomputable def kA(g:Grp)(c:Cmt):jS:=decide (c.box.map (λb:Bx=>(b.lev,b.node))=dV g c.author c.chg)&&decide (c.wel.map Wl.dev=(dw c.author c.chg).map ap.d)
noncomputable def cN(g:Grp)(c:Cmt):ja:=
 if fH g=jr then 1 else if gW c≠0 then 220 else if onB g c=jr then 220 else if du g c.author c.chg≠0 then du g c.author c.chg else if kA g c=jr then 220
 else if lX (dT g c.author c.chg) c.r c.s (dt c)=jr then 222 else fb (aX g.tree c.chg) c.author c.path
noncomputable def aC(g:Grp)(c:Cmt):Grp:=⟨g.folder,c.epoch,aH c,fK (gd g.mem c.chg c.epoch),gr (aX g.tree c.chg) c.author c.path⟩
def ku:Grp:=⟨0,0,qu 32 0#8,[],[]⟩
structure gB(M R:T)(t e:jt)(sz:T)(X:jb->js jb)(w0 wr:jg)(n:T)(a:jb)(xs:A jb):Prop where
 box:wr.heap[R]?=N (jh (X a) t (0,0))
 own:wr.ownsRow M e sz a n xs
 but:dy R M w0 wr
 sz':M<=wr.heap.size
theorem gB.later{z:jt}{o:jb->js jb}{F:jg}(h:gB M R e z m o w W y a i)(d:R<M)(c:jo W W F):gB M R e z m o w F y a i:=
 ⟨(c.block R (jB d h.sz')).trans h.box,cL h.own c,h.but.trans (dy.of_below (c.mono h.sz')) (jE _),jH h.sz' c.size⟩
theorem nh{sz n:T}{v:jb}(h:w.ownsRow M e sz v n xs)(b:∀k,M<=k->w'.heap[k]?=w.heap[k]?):w'.ownsRow M e sz v n xs:=by
 refine⟨h.1,?_⟩
 rcases h.2 with a|⟨g,c,d,f,a,i,j⟩
 ·exact .inl a
 exact .inr ⟨g,c,d,f,a,(b g a).trans i,j⟩
theorem pE(w:jg)(a:jM)(v:jb):(w.setCell a v).heap.size=w.heap.size:=by simp[World.setCell]
theorem gB.push{i:T}{t:jt}{sz:T}{f d:jg}{n:T}{c b:jb}{ys:A jb}(h:gB M R t e sz X w0 f n c xs)(j:R<M)(a:cD M e sz f d c b m ys)(l:(X c).setIfInBounds i b=X b):
 gB M R t e sz X w0 (d.setCell ⟨R,i,je⟩ b) m b ys:=by
 have o:d.heap[R]?=N (jh (X c) t (0,0)):=lf h.box a.grown (eY h.own (.inr j));refine⟨?_,nh a.own (λk g=>dC _ Y),?_,?_⟩
 ·rw[<-l];exact fs b o
 ·refine h.but.trans ⟨a.grown.os,a.grown.tape,a.grown.output,by rw[pE];exact a.grown.size,λk g p=>(dC _ p).trans (a.grown.block k (jB g h.sz') (λe=>?_))⟩ (jE _)
  have:=(h.own.lt k e.symm).1;omega
 rw[pE];exact jH h.sz' a.grown.size
theorem gB.first{i:T}{t:jt}{sz:T}{a:jg}{n:T}{b v:jb}(c:a.heap[R]?=N (jh (X b) t (0,0)))(d:a.ownsRow M e sz v n xs)(f:jo M w0 a)(g:M<=a.heap.size)(m:R<M)(h:(X b).setIfInBounds i v=X v):
 gB M R t e sz X w0 (a.setCell ⟨R,i,je⟩ v) n v xs:=by
 refine⟨?_,nh d (λk j=>dC _ Y),?_,by rw[pE];exact g⟩
 ·rw[<-h];exact fs v c
 exact(dy.of_below f).trans ⟨I,I,I,qP (pE _ _ _).symm,λk j l=>dC _ l⟩ (jE _)
theorem LL{w:jg}{P:jN}{B:Act}{K:Act->jg->Prop}{h:Exit->Act->jg->Prop}(s x:jW)
 (e:P.op=.call {callee:=.builtin .append,args:=#[s,x],argTypes:=#[36,36]})
 (a:T) (v:jb) (n:T) (xs:A jb) (f:B.eval s=v) (g:w.ownsRow a 107 3 v n xs) (b:jb) (m:T) (ys:A jb) (i:B.eval x=b) (j:cE w b 3 m ys) (k:∀b∈ys,b.oneCell'=jk)
 (D:n+m<=4000000) (l:a<=w.heap.size) (d:∀c w',cD a 107 3 w w' v c (n+m) (xs++ys)->K (B.put P.dst c) w'):P.wp jl B w K h:=by
 obtain⟨p,q,r,t,u⟩:=ov Cs;exact nT s x 36 e a 107 p _ 3 24 underlying36 q r t u I L v n xs f g b m ys i j k (by unfold jX;omega) Y l
  λc w' y z C=>d c w' (ot y z C)
theorem LY(l:A aK)(a:A ap)(ep:ja){x:ap}{i:T}(h:a.take (i+1)=a.take i++[x]):((l.filter λm=> !fM a m)++((a.take (i+1)).filter λx=> !(x.k==2)).map λx=>(⟨x.d,ep,x.v⟩:aK))=
 ((l.filter λm=> !fM a m)++((a.take i).filter λx=> !(x.k==2)).map λx=>(⟨x.d,ep,x.v⟩:aK))++(if x.k=2 then []else [⟨x.d,ep,x.v⟩]):=by rw[h];exact TD l a (a.take i) x ep
theorem Ki(h:cS d=0):bP d:=by
 rcases Classical.em (bP d)with a|a
 ·exact a
 rw[k7 a]at h;exact jA h L
theorem Ba(z:ja×ja):∀l,z∈eo z l
 |[]=>by simp[eo]
 |x::r=>by
  unfold eo
  split
  ·exact j0 ..
  exact j7 _ (Ba z r)
theorem vK{z e:ja×ja}:∀{l},e∈l->e∈eo z l
 |[],h=>by cases h
 |x::r,h=>by
  unfold eo
  split
  ·exact j7 _ h
  rcases jD.1 h with rfl|h
  ·exact j0 ..
  exact j7 _ (vK h)
theorem zm(a:0<=d)(b:d<512)(e:512<=S)(h:Und (512+d) S):S=512+d:=by
 obtain⟨k,c,rfl⟩:=JZ a b h
 rcases k with _|k
 ·simp
 have f:=(rT a b c).2 0 (Nat.succ_pos k);have g:(512+d)/2^(k+1)<=(512+d)/2:=by
  rw[Int.pow_succ,Int.mul_comm,<-Int.ediv_ediv_of_nonneg L];exact Int.ediv_le_self _ Y
 omega
theorem Oq{e:ja×ja}(he:e∈t)(a:¬Und (512+d) e.1):e∈dL t d:=by
 unfold dL;exact qj.2 ⟨he,by rw[En a];rfl⟩
theorem Po(c:0<=d)(g:d<512){e:ja×ja}(i:om t e.1)(j:¬Und (512+d) e.1):om (dL t d) e.1:=by
 obtain⟨f,k,a,b⟩:=i;refine⟨f,Oq k (λh=>j ?_),a,b⟩;rw[<-zm c g a h];exact b
theorem Av(h:fX t)(a:0<=d)(b:d<512):fX (dL t d):=by
 refine⟨sA h.1 d,λe he=>?_⟩;obtain⟨c,f⟩:=H4 he;obtain⟨g,i,j,k⟩:=h.2 e c;exact⟨g,i,j,Po a b k f⟩
theorem EU{s:A (ja×ja)}(h:om t d)(b:∀e∈t,e∈s):om s d:=by
 obtain⟨f,c,h⟩:=h;exact⟨f,b f c,h⟩
theorem NP(h:fX t)(a:0<=d)(b:d<512)(c:bP S):fX (eo (512+d,S) (dL t d)):=by
 refine⟨vH (sA h.1 d) (sC (rO Y)),λe he=>?_⟩
 rcases pX he with rfl|he
 ·refine⟨?_,?_,c,(512+d,S),Ba _ _,?_,rO ?_⟩<;>show _ <=_ <;>omega
 obtain⟨g,i,j,k⟩:=(Av h a b).2 e he;exact⟨g,i,j,EU k (λf l=>vK l)⟩
theorem Hb{e:ja×ja}(he:e∈dL t d):∀k,e∈eI t d x k
 |0=>he
 |k+1=>vK (Hb he k)
theorem FO{l:A ja}{j:T}:∀{k},j<k->((512+d)/2^j,l.getD j 0)∈eI t d l k
 |0,h=>jA h (qQ _)
 |k+1,h=>by
  unfold eI
  rcases Nat.lt_or_eq_of_le (Nat.le_of_lt_succ h)with a|rfl
  ·exact vK (FO a)
  exact Ba _ _
theorem I7{l:A ja}(h:fX t)(a:0<=d)(b:d<512)(q:l.length=10)(c:iz l):fX (eI t d l 10):=by
 refine⟨Bw h.1 a b (jE 10),λe he=>?_⟩;have g:(512+d,l.getD 0 0)∈eI t d l 10:=by
  have:=FO (t:=t) (d:=d) (l:=l) (j:=0) (k:=10) L
  simpa using this
 rcases AA he with he|⟨j,r,rfl⟩
 ·obtain⟨i,m,n,o⟩:=(Av h a b).2 e he
  exact⟨i,m,n,EU o (λf p=>Hb p 10)⟩
 have f:=Ey (k:=j) a b;exact⟨(rT a b Y).1,f.2,Ki (c j Y),_,g,by show 512<=512+d;omega,A7 a b Y⟩
theorem mem_iff(t:A (ja×ja))(d:ja):d∈cr t↔0<=d/\d<512/\(bG t (512+d)).isSome=jk:=by
 rw[oC,Ca]
theorem yt{f:ja->jv ja}:∀{h n:T},d∈di f h n->(f d).isSome=jk
 |0,n,a=>by
  unfold di at a
  split at a
  ·rw[qk.1 a];assumption
  cases a
 |h+1,n,a=>by
  unfold di at a
  split at a
  ·rw[qk.1 a];assumption
  rcases jQ.1 a with a|a
  ·exact yt a
  exact yt a
theorem KG(h:S∈ff t d):(bG t S).isSome=jk:=by
 unfold ff at h
 split at h
 ·exact yt h
 cases h
theorem GF(c:de t=0)(h:d∈cr t)(b:jS):dI t d b=0:=by
 obtain⟨e,f,a⟩:=(mem_iff _ _).1 h;unfold dI;rw[jp c,jq];rintro(h|h|⟨-,h⟩)
 ·omega
 ·omega
 rw[h]at a;cases a
theorem Lz(g:0<=d)(h:d<512)(x:ja):x∈cr (dL t d)↔x≠d/\x∈cr t:=by
 rw[mem_iff,mem_iff,BD]
 constructor
 ·rintro⟨a,b,c⟩
  split at c
  ·cases c
  rename_i f;refine⟨λe=>f ?_,a,b,c⟩;rw[e];exact ue (rO Y)
 rintro⟨e,a,b,c⟩;refine⟨a,b,?_⟩;rw[jq]
 ·exact c
 intro f;have:=zm g h Y ((zX _ _).1 f);omega
theorem Iv(h:dD b)(d:ja):cG b.mem d=jk↔d∈cr b.tree:=by
 rw[<-h.dev];unfold cG;rw[rk]
 constructor
 ·rintro⟨m,a,e⟩
  exact jy.2 ⟨m,a,by simpa using e⟩
 intro h;obtain⟨m,a,e⟩:=jy.1 h;exact⟨m,a,by simpa using e⟩
theorem Aj(h:d∈cr t):0<=d/\d<512:=by
 have:=(oC t d).1 h;exact⟨this.1,this.2.1⟩
structure Gt(t:A (ja×ja))(l:A ap):Prop where
 each:∀x∈l,oO x
 once:(l.map ap.d).Nodup
 mem:∀x∈l,(x.d∈cr t↔x.k≠1)
theorem EY(a:0<=d)(b:d<512)(x:ja):x∈cr (dL t d)↔x≠d/\x∈cr t:=Lz a b x
theorem Ke(b:0<=d)(c:d<512)(x:ja):x∈cr (eo (512+d,S) (dL t d))↔x=d\/x∈cr t:=by
 rw[mem_iff];have e:=uU (z:=(512+d,S)) (sC (t:=t) (rO Y)) (512+x);rw[e]
 by_cases h:x=d
 ·subst h
  simp[b,c]
 rw[jq (by show ¬512+x=512+d;omega)];have f:=EY (t:=t) b c x;rw[mem_iff]at f;rw[f]
 constructor
 ·exact λh=>.inr h.2
 rintro(a|a)
 ·exact jA a h
 exact⟨h,a⟩
theorem OW{x:ap}(h:fX t)(j:oO x)(k:x.d∈cr t↔x.k≠1):fX (ij t x)/\∀d,d∈cr (ij t x)↔(d=x.d/\x.k≠2)\/(d≠x.d/\d∈cr t):=by
 have f:=tv h;obtain⟨⟨b,c⟩,l⟩:=j
 by_cases a:x.k=2
 ·have g:x.d∈cr t:=k.2 Y
  have e:ij t x=dL t x.d:=by unfold ij kH;rw[jp a,jp (GF f g jk)]
  rw[e];refine⟨Av h b c,λd=>?_⟩;rw[EY b c]
  constructor
  ·exact λh=>.inr h
  rintro(⟨-,h⟩|h)
  ·exact jA a h
  exact h
 have g:bP x.p:=by
  rcases l with⟨-,h,-⟩|⟨h,-⟩|⟨-,h,-⟩
  ·exact h
  ·exact jA h a
  exact h
 have m:dI t x.d jr=0:=by
  unfold dI;rw[jp f,jq (by rintro(h|h|⟨h,-⟩);omega;omega;cases h)]
 have n:gK t x.d x.p=0:=by unfold gK;rw[jp m,jp (gF g)]
 have e:ij t x=eo (512+x.d,x.p) (dL t x.d):=by unfold ij kS;rw[jq a,jp n]
 rw[e];refine⟨NP h b c g,λd=>?_⟩;rw[Ke b c]
 by_cases i:d=x.d
 ·simp[i,a]
 simp[i]
theorem Ps(t:A (ja×ja))(x:ap)(l:A ap):aX t (x::l)=aX (ij t x) l:=I
theorem oT:∀(l:A ap) (t:A (ja×ja)),fX t->Gt t l->fX (aX t l)/\∀d,d∈cr (aX t l)↔(∃x∈l,x.d=d/\x.k≠2)\/((∀x∈l,x.d≠d)/\d∈cr t)
 |[],t,h,b=>⟨h,λd=>by simp[aX]⟩
 |x::l,t,h,b=>by
  obtain⟨m,g⟩:=OW h (b.each x (j0 ..)) (b.mem x (j0 ..));have i:=sv.1 (show(x.d::l.map ap.d).Nodup from b.once);have j:∀y∈l,y.d≠x.d:=λy a e=>i.1 (by rw[<-e];exact sx a)
  obtain⟨n,o⟩:=oT l _ m ⟨λy a=>b.each y (j7 _ a),i.2,λy a=>by
   rw[g,<-b.mem y (j7 _ a)];have:=j y a;simp[this]⟩
  refine⟨n,λd=>?_⟩;rw[Ps,o,g]
  constructor
  ·rintro(⟨y,a,e,k⟩|⟨c,⟨e,k⟩|⟨p,f⟩⟩)
   ·exact .inl ⟨y,j7 _ a,e,k⟩
   ·exact .inl ⟨x,j0 ..,e.symm,k⟩
   refine .inr ⟨λy a=>?_,f⟩
   rcases jD.1 a with rfl|a
   ·exact λe=>p e.symm
   exact c y a
  rintro(⟨y,a,e,k⟩|⟨c,f⟩)
  ·rcases jD.1 a with rfl|a
   ·refine .inr ⟨λz p=>?_,.inl ⟨e.symm,k⟩⟩
    rw[<-e];exact j z p
   exact .inl ⟨y,a,e,k⟩
  exact .inr ⟨λy a=>c y (j7 _ a),.inr ⟨λe=>c x (j0 ..) e.symm,f⟩⟩
theorem rf(c:dD b)(g:eX u)(a:gN b d u):Gt b.tree u:=by
 refine⟨g.each,g.once,λx e=>?_⟩;rw[<-Iv c,(a.each x e).1];simp
theorem yF(g:dD b)(f:eX u)(c:gN b d u):d∈cr (aX b.tree u):=by
 rw[(oT u _ (lO g.tree) (rf g f c)).2]
 rcases Int.lt_or_le 0 b.epoch with h|h
 ·have a:cG b.mem d=jk:=by rw[c.own];simpa using h
  exact .inr ⟨λx e=>(c.each x e).2 a,(Iv g d).1 a⟩
 have a:b.epoch=0:=by have:=g.ep.1;omega
 obtain⟨x,r,rfl,e⟩:=c.first a;have i:x.k=1:=by
  have:=(c.each x (j0 ..)).1;rw[(g.zero a).1]at this
  simpa [cG]using this
 exact .inl ⟨x,j0 ..,e,by omega⟩
theorem Is{l:A ja}(a:0<=d)(b:d<512){k:T}:∀m,k<m->m<=10->bG (eI t d l m) ((512+d)/2^k)=N (l.getD k 0)
 |0,h,_=>jA h Y
 |m+1,h,c=>by
  rw[uh a b Y]
  by_cases e:k=m
  ·rw[jp (by rw[e]),e]
  rw[jq,Is a b m Y Y];have:=(rT a b (k:=m) Y).2 k Y;omega
theorem G5(a:0<=d)(b:d<512){y:ja}(c:¬Und (512+d) y):∀m,m<=10->bG (eI t d x m) y=bG t y
 |0,_=>by
  unfold eI;rw[BD,jq (λh=>c ((zX _ _).1 h))]
 |m+1,f=>by
  rw[uh a b Y,jq,G5 a b c m Y];exact λe=>c (by rw[e];exact A7 a b Y)
theorem ON{l:A ja}(c:d∈cr t):cr (eI t d l 10)=cr t:=by
 obtain⟨a,b⟩:=Aj c;refine AH (pJ _) (pJ _) (λx=>?_);rw[mem_iff,mem_iff]
 by_cases f:Und (512+d) (512+x)
 ·by_cases h:0<=x
  ·have e:512+x=512+d:=zm a b Y f
   have i:x=d:=Y;subst i;have g:=Is (t:=t) (l:=l) a b (k:=0) 10 Y Y;simp only[Int.pow_zero,Int.ediv_one]at g;rw[g];have j:=(mem_iff t x).1 c;simp[j]
  simp[h]
 rw[G5 a b f 10 Y]
theorem S0(h:(u.map ap.d).Nodup):((fj u).map ap.d).Pairwise (·<·):=by
 have d:(fj u).Perm u:=ms _ _;have a:(fj u).Pairwise λx y=>decide (x.d<=y.d)=jk:=xu (λa b c e f=>by simp at*;omega) (λa b=>by simp;omega) u
 have b:((fj u).map ap.d).Nodup:=(d.map _).nodup_iff.2 h;have c:((fj u).map ap.d).Pairwise (·<=·):=xw.2 (a.imp λh=>by simpa using h);exact(c.and b).imp λh=>by have:=h.1;have:=h.2;omega
theorem NU(h:(Q.map aK.dev).Nodup):((fK Q).map aK.dev).Pairwise (·<·):=by
 have d:(fK Q).Perm Q:=ms _ _;have a:(fK Q).Pairwise λx y=>decide (x.dev<=y.dev)=jk:=xu (λa b c e f=>by simp at*;omega) (λa b=>by simp;omega) Q
 have b:((fK Q).map aK.dev).Nodup:=(d.map _).nodup_iff.2 h;have c:((fK Q).map aK.dev).Pairwise (·<=·):=xw.2 (a.imp λh=>by simpa using h);exact(c.and b).imp λh=>by have:=h.1;have:=h.2;omega
theorem ti(m:aK):m∈gd Q u d↔(m∈Q/\∀x∈u,x.d≠m.dev)\/∃x∈u,x.k≠2/\m=⟨x.d,d,x.v⟩:=by
 unfold gd;rw[jQ,qj,jy]
 constructor
 ·rintro(⟨b,a⟩|⟨x,b,a⟩)
  ·refine .inl ⟨b,λx ep e=>?_⟩
   have:fM u m=jk:=by unfold fM;exact rk.2 ⟨x,ep,by simpa using e⟩
   rw[this]at a;cases a
  obtain⟨e,f⟩:=qj.1 b;exact .inr ⟨x,e,by simpa using f,a.symm⟩
 rintro(⟨b,a⟩|⟨x,b,a,e⟩)
 ·refine .inl ⟨b,?_⟩
  have:fM u m=jr:=by
   unfold fM;rw[List.any_eq_false];intro x ep
   simpa using a x ep
  rw[this];rfl
 exact .inr ⟨x,qj.2 ⟨b,by simpa using a⟩,e.symm⟩
structure gS(g:Grp)(c:Cmt):Prop where
 val:dD g
 chk:mH c
 fol:c.folder=g.folder
 ep:c.epoch=g.epoch+1
 par:c.parent=g.last
 form:eX c.chg
 poss:gN g c.author c.chg
 box:c.box.map (λb:Bx=>(b.lev,b.node))=et (aX g.tree c.chg) c.author
 wel:c.wel.map Wl.dev=(dw c.author c.chg).map ap.d
 ver:mD (dT g c.author c.chg) c.r c.s (dt c)
 ren:fb (aX g.tree c.chg) c.author c.path=0
theorem ye(h:du b d u=0):dV b d u=et (aX b.tree u) d:=by unfold dV;rw[jp h]
theorem Fa:fH b=jk↔dD b:=by unfold fH;simp
theorem QW:gW r=0↔mH r:=by
 constructor
 ·intro h
  exact Classical.byContradiction λa=>by rw[fl a]at h;cases h
 exact uq
theorem fQ:cN b r=0↔gS b r:=by
 unfold cN
 constructor
 ·intro h
  by_cases i:fH b=jr
  ·rw[jp i]at h;cases h
  rw[jq i]at h
  by_cases j:gW r≠0
  ·rw[jp j]at h;cases h
  rw[jq j]at h
  by_cases g:onB b r=jr
  ·rw[jp g]at h;cases h
  rw[jq g]at h
  by_cases a:du b r.author r.chg≠0
  ·rw[jp a]at h;exact jA h a
  rw[jq a]at h
  by_cases d:kA b r=jr
  ·rw[jp d]at h;cases h
  rw[jq d]at h
  by_cases k:lX (dT b r.author r.chg) r.r r.s (dt r)=jr
  ·rw[jp k]at h;cases h
  rw[jq k]at h;have m:fH b=jk:=ak i;have e:onB b r=jk:=ak g;have l:du b r.author r.chg=0:=Classical.byContradiction a;have f:kA b r=jk:=ak d;have n:lX (dT b r.author r.chg) r.r r.s (dt r)=jk:=ak k;unfold onB at e;unfold kA at f;simp only[xx,beq_iff_eq,decide_eq_true_eq]at e f;obtain⟨-,o,p⟩:=lB.1 l;exact⟨Fa.1 m,QW.1 (Classical.byContradiction j),e.1.1,e.1.2,e.2,o,p,by rw[<-ye l];exact f.1,f.2,As.1 n,h⟩
 intro h;have a:du b r.author r.chg=0:=lB.2 ⟨h.val,h.form,h.poss⟩;have g:onB b r=jk:=by unfold onB;simp[h.fol,h.ep,h.par]
 have d:kA b r=jk:=by unfold kA;rw[ye a];simp[h.box,h.wel]
 rw[jq (by rw[Fa.2 h.val];decide),jq (by rw[uq h.chk];decide),jq (by rw[g];decide),jq (by rw[a];decide),jq (by rw[d];decide),jq (by rw[As.2 h.ver];decide)];exact h.ren
theorem Hp(g:dD b)(c:eX u)(a:gN b d u)(h:x.length=10)(i:∀p∈x,bP p):fb (aX b.tree u) d x=0/\iz x:=by
 have e:iz x:=λj f=>by rw[ft _ f];exact gF (i _ (rn f))
 have k:=(oT u _ (lO g.tree) (rf g c a)).1;refine⟨?_,e⟩;unfold fb;rw[jp (GF (tv k) (yF g c a) jk),jp ⟨h,e⟩]
theorem gY(h:gS b r):dD (aC b r):=by
 have o:=rf h.val h.form h.poss;obtain⟨p,q⟩:=oT r.chg _ (lO h.val.tree) o;have k:=yF h.val h.form h.poss;obtain⟨c,s⟩:=Aj k;have t:=(Hp h.val h.form h.poss h.chk.plen h.chk.path).2;have l:(aC b r).tree=eI (aX b.tree r.chg) r.author r.path 10:=by
  show gr _ _ _ =_;unfold gr;rw[jp h.ren]
 have u:=Hd (ep:=r.epoch) (wg h.val) h.form.once;have n:(fK (gd b.mem r.chg r.epoch)).Perm (gd b.mem r.chg r.epoch):=ms _ _;refine⟨h.val.fol,⟨by have:=h.chk.ep;show 0<=r.epoch;omega,h.chk.ep.2⟩,?_,λe=>?_,?_,λm j=>?_⟩
 ·rw[l];exact tv (I7 p c s h.chk.plen t)
 ·have:=h.chk.ep.1
  have a:r.epoch=0:=e;omega
 ·rw[l,ON k]
  refine AH (NU u) (pJ _) (λd=>?_);show d∈rv aK.dev (fK (gd b.mem r.chg r.epoch))↔_;rw[(n.map aK.dev).mem_iff,q]
  constructor
  ·intro a
   obtain⟨m,j,rfl⟩:=jy.1 a
   rcases(ti m).1 j with⟨f,i⟩|⟨x,f,i,rfl⟩
   ·refine .inr ⟨i,?_⟩
    rw[<-h.val.dev];exact sx f
   exact .inl ⟨x,f,I,i⟩
  rintro(⟨x,f,rfl,i⟩|⟨f,i⟩)
  ·exact jy.2 ⟨_,(ti _).2 (.inr ⟨x,f,i,I⟩),I⟩
  rw[<-h.val.dev]at i;obtain⟨m,j,rfl⟩:=jy.1 i;exact jy.2 ⟨m,(ti m).2 (.inl ⟨j,f⟩),I⟩
 show 1<=m.since/\m.since<=r.epoch/\_;have v:=h.ep;have w:=h.chk.ep.1
 rcases(ti m).1 (n.mem_iff.1 j)with⟨f,-⟩|⟨x,f,i,rfl⟩
 ·obtain⟨a,g,d⟩:=h.val.ok m f
  exact⟨a,by omega,d⟩
 refine⟨by show 1<=r.epoch;omega,by show r.epoch<=r.epoch;omega,?_⟩;obtain⟨-,a⟩:=h.form.each x f
 rcases a with⟨-,-,a,-⟩|⟨a,-⟩|⟨-,-,a,-⟩
 ·exact a
 ·exact jA a i
 exact a
theorem DW{x:H}:∀{l:A H} {k:T},(x,M)∈l.zipIdx k->k<=M/\M<k+l.length/\x∈l
 |[],k,h=>by simp at h
 |y::l,k,h=>by
  rw[sn]at h
  rcases jD.1 h with h|h
  ·injection h with a b
   subst a b;exact⟨jE _,by simp,j0 ..⟩
  obtain⟨a,b,c⟩:=DW h;exact⟨by omega,by rw[jV];omega,j7 _ c⟩
theorem F2(f:fX t){a:ja}(g:0<=a)(j:a<512){k n:ja}(h:(k,n)∈et t a):(1<=k/\k<=9)/\(1<=n/\n<1024)/\(bG t n).isSome=jk/\bP ((bG t n).getD 0):=by
 unfold et fz at h;obtain⟨⟨s,i⟩,l,o⟩:=List.mem_flatMap.1 h;obtain⟨w,p,-⟩:=DW l;rw[Aw g j]at p;obtain⟨m,q,e⟩:=jy.1 o;injection e with r u
 subst r u;have c:=KG q;obtain⟨v,d⟩:=Option.isSome_iff_exists.1 c;have b:=f.2 _ (oH d);refine⟨⟨by show(1:ja)<=(i:ja);omega,by show(i:ja)<=9;omega⟩,⟨b.1,by have:=b.2.1;show m<1024;have:m<=1023:=b.2.1;omega⟩,c,?_⟩;rw[d];exact b.2.2.1
theorem P9(t:A (ja×ja))(x:ja):(ff t x).length<=2^hgt x.toNat:=by
 unfold ff
 split
 ·exact sZ _ _ _
 simp
theorem Qn(t:A (ja×ja)):∀(l:A ja) (k:T),(fz t l k).length<=(l.map λs=>2^hgt s.toNat).sum:=by
 intro l
 induction l with
 |nil=>intro k;simp[fz]
 |cons y l a=>
  intro k;have h:=a (k+1);unfold fz at h⊢;rw[sn,qD,jJ,ju,jU,List.sum_cons];have b:(ff t (y,k).1).length<=2^hgt y.toNat:=P9 t y;omega
theorem Kn:∀n:Fin 512,((nL n.val).map λs=>2^hgt s).sum=511:=by decide+kernel
theorem CG(t:A (ja×ja)){a:ja}(b:0<=a)(c:a<512):(et t a).length<=511:=by
 unfold et;refine jH (Qn _ _ _) ?_;have e:((ib a).map λs=>2^hgt s.toNat)=(nL a.toNat).map λs=>2^hgt s:=by
  unfold ib;rw[ow]
  rfl
 rw[e];have:=Kn ⟨a.toNat,by omega⟩;exact qP this
def dn(l:A aK)(d:ja):jv aK:=l.find? λm=>m.dev==d
def m0(l:A ap)(d:ja):jv ap:=l.find? λx=>x.d==d
theorem zt(f:H->ja)(d:ja):∀(l:A H),(l.map f).Nodup->∀m,(l.find? λm=>f m==d)=N m↔m∈l/\f m=d
 |[],_,m=>by simp
 |x::l,h,m=>by
  rw[jU,sv]at h;rw[List.find?_cons]
  by_cases e:f x=d
  ·simp only[e,BEq.rfl,q8.injEq]
   constructor
   ·rintro rfl;exact⟨j0 ..,e⟩
   rintro⟨b,a⟩
   rcases jD.1 b with rfl|c
   ·rfl
   exact jA (jy.2 ⟨m,c,by rw[a,e]⟩) h.1
  rw[beq_eq_false_iff_ne.2 e,zt f d l h.2 m]
  constructor
  ·rintro⟨b,a⟩;exact⟨j7 _ b,a⟩
  rintro⟨b,a⟩
  rcases jD.1 b with rfl|c
  ·exact jA a e
  exact⟨c,a⟩
theorem sS(h:(Q.map aK.dev).Nodup)(d:ja)(m:aK):dn Q d=N m↔m∈Q/\m.dev=d:=zt aK.dev d Q h m
theorem uY(h:(u.map ap.d).Nodup)(d:ja)(x:ap):m0 u d=N x↔x∈u/\x.d=d:=zt ap.d d u h x
theorem My{a b:jv H}(h:∀x,a=N x↔b=N x):a=b:=by
 cases a with
 |none=>cases b with
  |none=>rfl
  |some y=>exact jA ((h y).2 I) ar
 |some x=>exact((h x).1 I).symm
theorem yP:(dn Q d).isSome=cG Q d:=by
 unfold dn cG;rw[xy,List.find?_isSome,rk]
theorem pH(h:gS b r)(m:aK):m∈(aC b r).mem↔(m∈b.mem/\∀x∈r.chg,x.d≠m.dev)\/∃x∈r.chg,x.k≠2/\m=⟨x.d,r.epoch,x.v⟩:=by
 have a:(fK (gd b.mem r.chg r.epoch)).Perm (gd b.mem r.chg r.epoch):=ms _ _;exact a.mem_iff.trans (ti m)
theorem rZ(h:gS b r):((aC b r).mem.map aK.dev).Nodup:=wg (gY h)
theorem zJ{g:Grp}{c:Cmt}(h:gS g c){d:ja}(j:m0 c.chg d=je):dn (aC g c).mem d=dn g.mem d:=by
 have i:∀x∈c.chg,x.d≠d:=λx f e=>by
  have:=(uY h.form.once d x).2 ⟨f,e⟩;rw[j]at this;cases this
 refine My λm=>?_
 rw[sS (rZ h),sS (wg h.val),pH h]
 constructor
 ·rintro⟨a|⟨x,a,-,rfl⟩,b⟩
  ·exact⟨a.1,b⟩
  exact jA b (i x a)
 rintro⟨a,b⟩;exact⟨.inl ⟨a,λx f e=>i x f (e.trans b)⟩,b⟩
theorem Sv{g:Grp}{c:Cmt}(h:gS g c){d:ja}{y:ap}(b:m0 c.chg d=N y)(f:y.k=2):(dn g.mem d).isSome=jk/\dn (aC g c).mem d=je:=by
 obtain⟨i,rfl⟩:=(uY h.form.once d y).1 b;refine⟨by rw[yP,(h.poss.each y i).1,f];rfl,?_⟩
 cases e:dn (aC g c).mem y.d with
 |none=>rfl
 |some m=>
  obtain⟨k,j⟩:=(sS (rZ h) _ _).1 e
  rcases(pH h m).1 k with⟨-,a⟩|⟨x,a,l,rfl⟩
  ·exact jA j.symm (a y i)
  have:=(uY h.form.once _ x).2 ⟨a,j⟩;rw[b]at this;injection this with this
  exact jA (by rw[<-this];exact f) l
theorem Fe{g:Grp}{c:Cmt}(h:gS g c){d:ja}{y:ap}(b:m0 c.chg d=N y)(f:y.k≠2):dn (aC g c).mem d=N ⟨d,c.epoch,y.v⟩/\(dn g.mem d).isSome= !(y.k==1):=by
 obtain⟨a,rfl⟩:=(uY h.form.once d y).1 b;refine⟨(sS (rZ h) _ _).2 ⟨(pH h _).2 (.inr ⟨y,a,f,I⟩),I⟩,?_⟩;rw[yP,(h.poss.each y a).1]
 by_cases e:y.k=1<;>simp[e]
theorem Ep(a n b P:T)(c:1%P=1)(h:a^b%P=1):a^(n%b)%P=a^n%P:=by
 have e:a^n=(a^b)^(n/b)*a^(n%b):=by rw[<-Nat.pow_mul,<-Nat.pow_add,xz]
 have d:(a^b)^(n/b)%P=1:=by rw[Nat.pow_mod,h,Nat.one_pow,c]
 rw[e,Nat.mul_mod,d,Nat.one_mul,Nat.mod_mod]
theorem PW(a k e x b P:T)(c:1%P=1)(h:a^b%P=1):a^((k+e*x%b)%b)%P=(a^k%P)*((a^x%P)^e%P)%P:=by
 rw[Ep a _ b P c h,Nat.pow_add,Nat.mul_mod,Ep a (e*x) b P c h,<-Nat.pow_mod,<-Nat.pow_mul,sy x e]
theorem Oh:1%PN=1:=by decide
theorem SO(h:d.toNat=M)(a:bP d):M^QN%PN=1:=by rw[<-h];exact a.2.2
theorem RA(x:T)(msg:LBy):mD (aY 4 x:T) (ko x msg:T) (kE x msg:T) msg:=by
 refine⟨o7 (a:=4) mV x,o7 (a:=4) mV _,⟨by omega,?_⟩,?_⟩
 ·have h:kE x msg<QN:=Nat.mod_lt _ L
  have b:QN=2305843009213688669:=I;omega
 simp only[Int.toNat_natCast];unfold kE;generalize rH (ko x msg) (aY 4 x) msg=e;unfold ko;generalize iT x msg=k;unfold aY;exact PW 4 k e x QN PN Oh (SO I mV)
def gQ:ByteArray:=⟨#[98,111,120]⟩
def kt:ByteArray:=⟨#[119,101,108,99,111,109,101]⟩
def kM:ByteArray:=⟨#[99,111,109,109,105,116,32,98,111,100,121]⟩
def cF:LBy:=qu 32 0#8
def dB(a:LBy):A ja:=(qe 10).map λi=>((aY 4 (aT (aA a i)):T):ja)
def tD(t:A (ja×ja))(n:ja):T:=((bG t n).getD 0).toNat
def bX(g:Grp)(a:ja)(b:A ap)(c:LBy):Cmt:=⟨g.folder,g.epoch+1,g.last,a,b,dB c,[],[],cF,0,0⟩
noncomputable def eA(g:Grp)(a:ja)(b:A ap)(c seed:LBy)(x:ja×ja):Bx:=
 ⟨x.2,x.1,(aY 4 (gm (dZ seed gQ [x.1,x.2])):T),gs (tD (aX g.tree b) x.2) (dZ seed gQ [x.1,x.2]) (iW (bX g a b c) gQ [x.1,x.2]) (aA c x.1.toNat)⟩
def dO(g:Grp)(a init:LBy):LBy:=wV (if g.epoch=0 then cF else init) (aA a 9)
def fC(g:Grp)(a:ja)(c:A ap)(b init seed:LBy)(y:ap):Wl:=
 ⟨y.d,(aY 4 (gm (dZ seed kt [y.d])):T),gs y.p.toNat (dZ seed kt [y.d]) (iW (bX g a c b) kt [y.d]) (dO g b init)⟩
noncomputable def mk1(g:Grp)(a:ja)(b:A ap)(c init seed:LBy):Cmt:=
 ⟨g.folder,g.epoch+1,g.last,a,b,dB c,(et (aX g.tree b) a).map (eA g a b c seed),(dw a b).map (fC g a b c init seed),cF,0,0⟩
noncomputable def mk2(g:Grp)(a:ja)(c:A ap)(b init seed:LBy):Cmt:=
 {mk1 g a c b init seed with confirm:=iZ (dO g b init) (cW kM ((aR (mk1 g a c b init seed)).take 8))}
noncomputable def mkC(g:Grp)(a:ja)(x:T)(b:A ap)(c init seed:LBy):Cmt:=
 {mk2 g a b c init seed with r:=(ko x (dt (mk2 g a b c init seed)):T),s:=(kE x (dt (mk2 g a b c init seed)):T)}
theorem MA(c:Cmt)(r s:ja):dt {c with r:=r,s:=s}=dt c:=by obtain⟨a,b,c,d,e,f,g,h,i,j,k⟩:=c;rfl
theorem Q7(g:Grp)(a:ja)(x:T)(b:A ap)(c init seed:LBy):dt (mkC g a x b c init seed)=dt (mk2 g a b c init seed):=by unfold mkC;exact MA _ _ _
theorem LQ(c:Cmt)(k:LBy)(r s:ja)(h:k.length=32):({({c with confirm:=k}:Cmt)with r:=r,s:=s}:Cmt).confirm.length=32:=h
theorem yE(g:Grp)(a:ja)(x:T)(b:A ap)(c init seed:LBy):(mkC g a x b c init seed).chg=b/\(mkC g a x b c init seed).parent=g.last/\(mkC g a x b c init seed).box=(et (aX g.tree b) a).map (eA g a b c seed)/\
 (mkC g a x b c init seed).wel=(dw a b).map (fC g a b c init seed)/\(mkC g a x b c init seed).confirm.length=32/\(mkC g a x b c init seed).path=dB c:=
 ⟨rfl,rfl,rfl,rfl,by unfold mkC mk2;exact LQ _ _ _ _ (sT _ _),I⟩
theorem Dw:∀b∈dB p,bP b:=λb c=>by
 obtain⟨i,-,rfl⟩:=jy.1 c;exact o7 (a:=4) mV _
theorem lM(a:LBy):(dB a).length=10:=by simp[dB]
theorem Ip{y:ap}:y∈dw d u↔y∈u/\y.k≠2/\y.d≠d:=by
 unfold dw fj;rw[(ms _ _).mem_iff,qj];simp[kX]
theorem CE(a:ja)(l:A ap):(dw a l).length<=l.length:=by
 unfold dw fj;rw[(ms _ _).length_eq];exact qS _ _
theorem nJ(p seed hd b):(gs p seed hd b).length=b.length+16:=SD _ _ _ _
theorem lF(g leaf init):(dO g leaf init).length=32:=Cc _ _
theorem Lc(h:x.Pairwise (·<·)){i:T}(b:0<i)(a:i<x.length):x.getD (i-1) 0<x.getD i 0:=by
 rw[ft _ Y,ft _ a];exact(List.pairwise_iff_getElem.1 h) (i-1) i Y a Y
theorem sa{g:Grp}{a:ja}{x:T}{c:A ap}{d init seed:LBy}(p:du g a c=0)(B:g.epoch<1099511627776)(q:dT g a c=(aY 4 x:T))(r:d.length=32):gS g (mkC g a x c d init seed):=by
 obtain⟨h,f,j⟩:=lB.1 p;have s:=(oT c _ (lO h.tree) (rf h f j)).1;have t:=yF h f j;obtain⟨l,m⟩:=Aj t;have o:((dw a c).map (fC g a c d init seed)).map Wl.dev=(dw a c).map ap.d:=by rw[ow];rfl
 have u:((dw a c).map ap.d).Pairwise (·<·):=S0 (f.once.sublist (sq.map _));refine⟨h,?_,I,I,I,f,j,?_,o,?_,?_⟩
 ·refine⟨h.fol,⟨by have:=h.ep.1;show 1<=g.epoch+1;omega,by show g.epoch+1<=_;omega⟩,⟨l,m⟩,f,lM d,?_,?_,Dw,?_,?_,?_⟩
  ·show((et (aX g.tree c) a).map _).length<=1024
   rw[ju];have:=CG (aX g.tree c) l m;omega
  ·show((dw a c).map _).length<=512
   rw[ju];have:=CE a c;have:=f.len;omega
  ·intro b e
   obtain⟨⟨k,n⟩,i,rfl⟩:=jy.1 e;obtain⟨⟨v,w⟩,⟨y,z⟩,-,-⟩:=F2 s l m i;refine⟨y,z,v,w,o7 (a:=4) mV _,?_,?_⟩
   ·show 16<=(gs _ _ _ _).length
    rw[nJ];omega
   show(gs _ _ _ _).length<=65552;rw[nJ,fL d r];omega
  ·intro b e
   obtain⟨y,i,rfl⟩:=jy.1 e;have k:=(f.each y (Ip.1 i).1).1;refine⟨k,o7 (a:=4) mV _,?_,?_⟩
   ·show 16<=(gs _ _ _ _).length
    rw[nJ];omega
   show(gs _ _ _ _).length<=65552;rw[nJ,lF];omega
  intro i b k;have e:(mkC g a x c d init seed).wel.map Wl.dev=(dw a c).map ap.d:=o;rw[e];refine Lc u b ?_;rw[<-e,ju];exact k
 ·show((et (aX g.tree c) a).map (eA g a c d seed)).map _ =_
  rw[ow];exact(List.map_congr_left (λy _=>rfl)).trans (List.map_id _)
 ·show mD (dT g a c) _ _ _
  rw[q,Q7];exact RA x _
 exact(Hp h f j (lM d) Dw).1
def IR(x:ja):Prop:=-9223372036854775808<=x/\x<9223372036854775808
theorem IR.of{x:ja}(h:aP x):IR x:=by
 have:=bounds_i64 h;unfold IR;omega
structure fJ(c:Cmt):Prop where
 ints:IR c.folder/\IR c.epoch/\IR c.author/\IR c.r/\IR c.s
 plen:c.parent.length=32
 clen:c.confirm.length=32
 chg:c.chg.length<=64/\∀x∈c.chg,IR x.k/\IR x.d/\IR x.p/\IR x.v/\IR x.c
 path:c.path.length<=12/\∀x∈c.path,IR x
 box:c.box.length<=1024/\∀b∈c.box,IR b.node/\IR b.lev/\IR b.u/\b.body.length<=200
 wel:c.wel.length<=512/\∀b∈c.wel,IR b.dev/\IR b.u/\b.body.length<=200
theorem eP(h:IR d):wfV M (vI d):=by unfold vI;cases M<;>rw[wfV]<;>exact .inl ⟨I,h.1,h.2,I,I⟩
theorem IK(b:LBy):(ofB b).size=b.length:=by rw[<-kR,yO]
theorem tc(h:p.length<=1000000):wfV M (vT p):=by unfold vT;cases M<;>rw[wfV]<;>exact .inr (.inl ⟨I,I,by rw[IK];omega,rfl⟩)
theorem lN{U:A Val}(h:∀x∈U,wfV M x)(a:U.length<=1000000):wfV (M+1) (vL U):=by unfold vL;rw[wfV];exact .inr (.inr ⟨I,I,I,by omega,h⟩)
theorem eZ(h:IR d):(enc (vI d)).length<=11:=by
 unfold vI;rw[enc,jp I,jV];have:=mi _ (zi d h.1 h.2);omega
theorem tI{b:LBy}(h:b.length<=1000000):(enc (vT b)).length<=11+b.length:=by
 unfold vT;rw[enc,jq L,jp I,jV,jJ,yO,IK];have:=mi b.length Y;omega
theorem lI{l:A Val}(h:l.length<=1000000):(enc (vL l)).length<=11+(encs l).length:=by
 rw[pG,jV,jJ];have:=mi l.length Y;omega
theorem o5:∀{l:A Val},(∀x∈l,(enc x).length<=m)->(encs l).length<=l.length*m
 |[],_=>by simp[encs]
 |x::l,h=>by
  rw[encs,jJ,jV];have b:=h x (j0 ..);have c:=o5 (l:=l) λy a=>h y (j7 _ a)
  rw[Nat.succ_mul];omega
theorem pF(x:Val)(l:A Val):encs (x::l)=enc x++encs l:=by rw[encs]
theorem LG{x:ap}(h:IR x.k/\IR x.d/\IR x.p/\IR x.v/\IR x.c)(f:T):wfV (f+1) x.val/\(enc x.val).length<=66:=by
 obtain⟨a,b,c,d,e⟩:=h;refine⟨lN (λy g=>?_) ar,?_⟩
 ·simp only[jD,ql,or_false]at g
  rcases g with rfl|rfl|rfl|rfl|rfl
  ·exact eP a
  ·exact eP b
  ·exact eP c
  ·exact eP d
  exact eP e
 refine jH (lI ar) ?_;have:=eZ a;have:=eZ b;have:=eZ c;have:=eZ d;have:=eZ e;simp only[pF,jJ,encs,qw];omega
theorem Ky{x:Bx}(h:IR x.node/\IR x.lev/\IR x.u/\x.body.length<=200)(f:T):wfV (f+1) x.val/\(enc x.val).length<=300:=by
 obtain⟨a,b,c,d⟩:=h;refine⟨lN (λy e=>?_) ar,?_⟩
 ·simp only[jD,ql,or_false]at e
  rcases e with rfl|rfl|rfl|rfl
  ·exact eP a
  ·exact eP b
  ·exact eP c
  exact tc Y
 refine jH (lI ar) ?_;have:=eZ a;have:=eZ b;have:=eZ c;have:=tI (b:=x.body) Y;simp only[pF,jJ,encs,qw];omega
theorem QR{x:Wl}(h:IR x.dev/\IR x.u/\x.body.length<=200)(f:T):wfV (f+1) x.val/\(enc x.val).length<=300:=by
 obtain⟨a,b,d⟩:=h;refine⟨lN (λy c=>?_) ar,?_⟩
 ·simp only[jD,ql,or_false]at c
  rcases c with rfl|rfl|rfl
  ·exact eP a
  ·exact eP b
  exact tc Y
 refine jH (lI ar) ?_;have:=eZ a;have:=eZ b;have:=tI (b:=x.body) Y;simp only[pF,jJ,encs,qw];omega
theorem fJ.encOk(h:fJ r):cZ (aR r):=by
 obtain⟨e,f,g,i,j⟩:=h.ints;have k:∀x∈r.chg.map ap.val,wfV 14 x/\(enc x).length<=66:=λx a=>by
  obtain⟨y,d,rfl⟩:=jy.1 a;exact LG (h.chg.2 y d) 13
 have m:∀x∈r.path.map vI,wfV 14 x/\(enc x).length<=11:=λx a=>by
  obtain⟨y,d,rfl⟩:=jy.1 a;exact⟨eP (h.path.2 y d),eZ (h.path.2 y d)⟩
 have n:∀x∈r.box.map Bx.val,wfV 14 x/\(enc x).length<=300:=λx a=>by
  obtain⟨y,d,rfl⟩:=jy.1 a;exact Ky (h.box.2 y d) 13
 have o:∀x∈r.wel.map Wl.val,wfV 14 x/\(enc x).length<=300:=λx a=>by
  obtain⟨y,d,rfl⟩:=jy.1 a;exact QR (h.wel.2 y d) 13
 have d:(r.chg.map ap.val).length<=64:=by rw[ju];exact h.chg.1
 have p:(r.path.map vI).length<=12:=by rw[ju];exact h.path.1
 have q:(r.box.map Bx.val).length<=1024:=by rw[ju];exact h.box.1
 have c:(r.wel.map Wl.val).length<=512:=by rw[ju];exact h.wel.1
 have s:=lI (l:=r.chg.map ap.val) Y;have t:=lI (l:=r.path.map vI) Y;have u:=lI (l:=r.box.map Bx.val) Y;have v:=lI (l:=r.wel.map Wl.val) Y;have w:=jH (o5 λx a=>(k x a).2) (qE 66 d);have y:=jH (o5 λx a=>(m x a).2) (qE 11 p);have z:=jH (o5 λx a=>(n x a).2) (qE 300 q);have B:=jH (o5 λx a=>(o x a).2) (qE 300 c);have C:=tI (b:=r.parent) (by rw[h.plen];decide);have D:=tI (b:=r.confirm) (by rw[h.clen];decide);have E:=eZ e;have F:=eZ f;have H:=eZ g;have K:=eZ i;have M:=eZ j;have P:=h.plen;have Q:=h.clen;refine⟨lN (λx a=>?_) (by simp[aR]),?_⟩
 ·unfold aR at a
  simp only[jD,ql,or_false]at a
  rcases a with rfl|rfl|rfl|rfl|rfl|rfl|rfl|rfl|rfl|rfl|rfl
  ·exact eP e
  ·exact eP f
  ·exact tc Y
  ·exact eP g
  ·exact lN (λx a=>(k x a).1) Y
  ·exact lN (λx a=>(m x a).1) Y
  ·exact lN (λx a=>(n x a).1) Y
  ·exact lN (λx a=>(o x a).1) Y
  ·exact tc Y
  ·exact eP i
  exact eP j
 refine jH (lI (by simp[aR])) ?_;unfold aR;simp only[pF,jJ,encs,qw];omega
theorem DC{c:Cmt}{nums:A ja}(d:IR c.folder)(f:IR c.epoch)(g:IR c.author)(k:c.parent.length=32)(h:∀x∈nums,IR x)(l:nums.length<=2):cZ ((aR c).take 4++nums.map vI):=by
 have e:(aR c).take 4=[vI c.folder,vI c.epoch,vT c.parent,vI c.author]:=I;have m:=tI (b:=c.parent) (by rw[k];decide);have n:=eZ d;have o:=eZ f;have p:=eZ g;have i:∀x∈nums.map vI,wfV 15 x/\(enc x).length<=11:=λx a=>by
  obtain⟨y,j,rfl⟩:=jy.1 a;exact⟨eP (h y j),eZ (h y j)⟩
 have j:(nums.map vI).length<=2:=by rw[ju];exact l
 have q:=jH (o5 λx a=>(i x a).2) (qE 11 j);rw[e];refine⟨lN (λx a=>?_) (by rw[jJ];simp only[jV,qw];omega),?_⟩
 ·rw[jQ]at a
  rcases a with a|a
  ·simp only[jD,ql,or_false]at a
   rcases a with rfl|rfl|rfl|rfl
   ·exact eP d
   ·exact eP f
   ·exact tc Y
   exact eP g
  exact(i x a).1
 refine jH (lI (by rw[jJ];simp only[jV,qw];omega)) ?_;rw[zb,jJ];simp only[pF,jJ,encs,qw];omega
theorem GC{s:ByteArray}(f:s.size<=1000)(b:∀nums∈x,IR nums)(e:x.length<=2):AT s x:=by
 have c:∀nums∈x.map vI,wfV 15 nums/\(enc nums).length<=11:=λnums a=>by
  obtain⟨y,d,rfl⟩:=jy.1 a;exact⟨eP (b y d),eZ (b y d)⟩
 have d:(x.map vI).length<=2:=by rw[ju];exact e
 have g:=jH (o5 λnums a=>(c nums a).2) (qE 11 d);have h:(enc (.mk 2 0 s [])).length<=11+s.size:=by
  rw[enc,jq L,jp I,jV,jJ,kR];have:=mi s.size Y;omega
 refine⟨lN (λnums a=>?_) (by rw[jV];omega),?_,by omega⟩
 ·rcases jD.1 a with rfl|a
  ·rw[wfV];exact .inr (.inl ⟨I,I,by omega,rfl⟩)
  exact(c nums a).1
 unfold lq;refine jH (lI (by rw[jV];omega)) ?_;rw[pF,jJ];omega
theorem mW(h:bP d):IR d:=⟨by have:=h.1;omega,by have:=h.2.1;omega⟩
theorem Rv{g:Grp}{a:ja}{x:T}{f:A ap}{i init seed:LBy}(m:du g a f=0)(u:g.epoch<1099511627776)(k:dT g a f=(aY 4 x:T))(n:i.length=32)(v:g.last.length=32):fJ (mkC g a x f i init seed):=by
 have h:=sa (seed:=seed) (init:=init) m u k n;obtain⟨o,w,z,B,C,P⟩:=yE g a x f i init seed;have j:∀b∈(mkC g a x f i init seed).box,b.body.length<=200:=λb j=>by
  rw[z]at j;obtain⟨y,-,rfl⟩:=jy.1 j;unfold eA;show(gs _ _ _ _).length<=200;rw[nJ,fL i n];omega
 have D:∀b∈(mkC g a x f i init seed).wel,b.body.length<=200:=λb j=>by
  rw[B]at j;obtain⟨y,-,rfl⟩:=jy.1 j;unfold fC;show(gs _ _ _ _).length<=200;rw[nJ,lF];omega
 generalize mkC g a x f i init seed=c at*;obtain⟨Q,q,r⟩:=lB.1 m;have E:∀x∈f,IR x.k/\IR x.d/\IR x.p/\IR x.v/\IR x.c:=λy F=>by
  obtain⟨⟨p,s⟩,k⟩:=q.each y F;have l:IR y.d:=⟨by omega,by omega⟩
  rcases k with⟨a,b,c,d⟩|⟨a,b,c,d,e⟩|⟨a,b,c,d,e⟩
  ·exact⟨by rw[a];exact⟨by omega,by omega⟩,l,mW b,mW c,by rw[d];exact⟨by omega,by omega⟩⟩
  ·exact⟨by rw[a];exact⟨by omega,by omega⟩,l,by rw[b];exact⟨by omega,by omega⟩,by rw[c];exact⟨by omega,by omega⟩,⟨by omega,by omega⟩⟩
  exact⟨by rw[a];exact⟨by omega,by omega⟩,l,mW b,mW c,⟨by omega,by omega⟩⟩
 have R:=h.chk.ep;have l:=h.chk.fol;have s:=h.chk.aut;have H:=h.ver.2.1;have t:=h.ver.2.2.1;refine⟨⟨⟨by have:=l.1;omega,by have:=l.2;omega⟩,⟨by omega,by omega⟩,⟨by have:=s.1;omega,by have:=s.2;omega⟩,mW H,⟨by have:=t.1;omega,by have:=t.2;omega⟩⟩,by rw[w];exact v,C,⟨by rw[o];exact q.len,by rw[o];exact E⟩,⟨by have:=h.chk.plen;omega,λp r=>mW (h.chk.path p r)⟩,⟨h.chk.blen,λb d=>?_⟩,⟨h.chk.wlen,λb d=>?_⟩⟩
 ·obtain⟨K,M,S,U,e⟩:=h.chk.box b d
  exact⟨⟨by omega,by omega⟩,⟨by omega,by omega⟩,mW e.1,j b d⟩
 obtain⟨⟨K,M⟩,e⟩:=h.chk.wel b d;exact⟨⟨by omega,by omega⟩,mW e.1,D b d⟩
theorem mx{B:Act}{x:jW}{X:js jb}{t:jt}{d:TypeDesc}(g:jl.underlying e=N d)(i:d.isRow=jk)(j:(jl.info? e).map (·.size)=N X.size)(k:o.op=.load e x)(m:B.eval x=jG (N ⟨M,0,je⟩))(n:w.heap[M]?=N (jh X t (0,0))):
 (o1 B.eval o).run jl w=.ok (.value (jn X)) w:=by
 have h:=eF (P:=jl) o B e x k M 0 m X.toList _ (vP (t:=t) (l:=X.toList) (ak n)) g i (by rw[qd];exact j)
 simpa using h
theorem FW{P:qc}{fn:Func}{p q k:Tmp}{c f:jt}(h:fn.results= #[.cell p c,.cell q f,.tmp k])(tmps:js jb)(w:jg)(g l:T)(t t2:jt)(i j:js jb)(n o:T×T)(d m:TypeDesc)
 (r:tmps.getD p qf=jG (N ⟨g,0,je⟩)) (s:tmps.getD q qf=jG (N ⟨l,0,je⟩)) (u:w.heap[g]?=N (jh i t n)) (x:w.heap[l]?=N (jh j t2 o))
 (y:P.underlying c=N d) (z:(match d with| .struct _ | .array _ _=>jk|_=>jr)=jk) (B:(P.info? c).map (·.size)=N i.size)
 (C:P.underlying f=N m) (hd2:(match m with| .struct _ | .array _ _=>jk|_=>jr)=jk) (D:(P.info? f).map (·.size)=N j.size):
 (results fn tmps).run P w=.ok (jZ #[jn i,jn j,tmps.getD k qf]) w:=by
 have e:(results fn tmps).run P w=((asAddr (tmps.getD p qf)).run P w).andThen λa E=>((loadVar c a).run P E).andThen λv F=>((asAddr (tmps.getD q qf)).run P F).andThen λb H=>((loadVar f b).run P H).andThen λK M=>.ok (jZ #[v,K,tmps.getD k qf]) M:=by
  simp only[results,h];simp[Sem.run_bind,Result.andThen]
 rw[e,r];simp only[asAddr,Sem.run_pure,Result.andThen_ok,run_loadVar_row w g t c i n d u y z B,s,run_loadVar_row w l t2 f j o m x C hd2 D]
def mO:Cmt:=⟨0,0,cF,0,[],[],[],[],cF,0,0⟩
def nE:CQ:=⟨jf je 0 0,jf je 0 0,jf je 0 0,jf je 0 0⟩
theorem eJ:cF.length=32:=by simp[cF]
theorem LP(f e a:ja)(b:js jb)(d:b.size=32)(p:jv jM)(n c:T)(w:jg):
 (Instr.build 48 #[(0,jc jd f),(1,jc jd e),(2,jn b),(3,jc jd a),(4,jf p n c)]).run jl w=.ok (jn (#[jc jd f,jc jd e]++b++ #[jc jd a,jf p n c,jf je 0 0,jf je 0 0,jf je 0 0]++(cF.map v8).toArray++ #[jc jd 0,jc jd 0])) w:=by
 unfold Instr.build;go_simp;rw[vU b _ 2 32 d ar];obtain⟨l⟩:=b;simp[zeroCells48];have g:l.length=32:=d;rw[jq Y,jq Y,qv _ _ Y,qv _ _ Y,g]
 rfl
theorem RV(c:Cmt)(a b d e x:jb)(f:c.parent.length=32):(aE c ⟨a,b,d,e⟩).toArray.setIfInBounds 36 x=(aE c ⟨a,x,d,e⟩).toArray:=by
 apply qt
 rw[qC];unfold aE;have g:(c.parent.map v8).length=32:=by rw[ju];exact f
 show qO (_ ::_ ::(c.parent.map v8++_)) 36 x=_;rw[qa,qa,qv _ _ Y,g]
 rfl
theorem Dq(c:Cmt)(a b d e x:jb)(f:c.parent.length=32):(aE c ⟨a,b,d,e⟩).toArray.setIfInBounds 37 x=(aE c ⟨a,b,x,e⟩).toArray:=by
 apply qt
 rw[qC];unfold aE;have g:(c.parent.map v8).length=32:=by rw[ju];exact f
 show qO (_ ::_ ::(c.parent.map v8++_)) 37 x=_;rw[qa,qa,qv _ _ Y,g]
 rfl
theorem Ek(c:Cmt)(a b d e x:jb)(f:c.parent.length=32):(aE c ⟨a,b,d,e⟩).toArray.setIfInBounds 38 x=(aE c ⟨a,b,d,x⟩).toArray:=by
 apply qt
 rw[qC];unfold aE;have g:(c.parent.map v8).length=32:=by rw[ju];exact f
 show qO (_ ::_ ::(c.parent.map v8++_)) 38 x=_;rw[qa,qa,qv _ _ Y,g]
 rfl
theorem R4:(jl.info? 3).map (λi=>(i.zero,i.size,i.bytes))=N (N (jc jd 0),1,8):=by kernel_rfl
theorem SZ:(jl.info? 95).map (λi=>(i.zero,i.size,i.bytes))=N (N (jn #[jc jd 0,jc jd 0,jf je 0 0]),3,40):=by kernel_rfl
theorem SH{w:jg}{P:jN}{B:Act}{K:Act->jg->Prop}{h:Exit->Act->jg->Prop}(s x:jW)
 (e:P.op=.call {callee:=.builtin .append,args:=#[s,x],argTypes:=#[29,29]})
 (a:T) (v:jb) (n:T) (xs:A jb) (f:B.eval s=v) (g:w.ownsRow a 3 1 v n xs) (b:jb) (m:T) (ys:A jb) (i:B.eval x=b) (j:cE w b 1 m ys) (k:∀b∈ys,b.oneCell'=jk)
 (D:n+m<=4000000) (l:a<=w.heap.size) (d:∀c w',cD a 3 1 w w' v c (n+m) (xs++ys)->K (B.put P.dst c) w'):P.wp jl B w K h:=by
 obtain⟨p,q,r,t,u⟩:=ov R4;exact nT s x 29 e a 3 p _ 1 8 xj q r t u I L v n xs f g b m ys i j k (by unfold jX;omega) Y l
  λc w' y z C=>d c w' (ot y z C)
theorem MR{w:jg}{P:jN}{B:Act}{K:Act->jg->Prop}{h:Exit->Act->jg->Prop}(s x:jW)
 (e:P.op=.call {callee:=.builtin .append,args:=#[s,x],argTypes:=#[43,43]})
 (a:T) (v:jb) (n:T) (xs:A jb) (f:B.eval s=v) (g:w.ownsRow a 92 4 v n xs) (b:jb) (m:T) (ys:A jb) (i:B.eval x=b) (j:cE w b 4 m ys) (k:∀b∈ys,b.oneCell'=jk)
 (D:n+m<=2900000) (l:a<=w.heap.size) (d:∀c w',cD a 92 4 w w' v c (n+m) (xs++ys)->K (B.put P.dst c) w'):P.wp jl B w K h:=by
 obtain⟨p,q,r,t,u⟩:=ov Hw;exact nT s x 43 e a 92 p _ 4 48 underlying43 q r t u I L v n xs f g b m ys i j k (by unfold jX;omega) Y l
  λc w' y z C=>d c w' (ot y z C)
theorem Lr{w:jg}{P:jN}{B:Act}{K:Act->jg->Prop}{h:Exit->Act->jg->Prop}(s x:jW)
 (e:P.op=.call {callee:=.builtin .append,args:=#[s,x],argTypes:=#[44,44]})
 (a:T) (v:jb) (n:T) (xs:A jb) (f:B.eval s=v) (g:w.ownsRow a 95 3 v n xs) (b:jb) (m:T) (ys:A jb) (i:B.eval x=b) (j:cE w b 3 m ys) (k:∀b∈ys,b.oneCell'=jk)
 (D:n+m<=2900000) (l:a<=w.heap.size) (d:∀c w',cD a 95 3 w w' v c (n+m) (xs++ys)->K (B.put P.dst c) w'):P.wp jl B w K h:=by
 obtain⟨p,q,r,t,u⟩:=ov SZ;exact nT s x 44 e a 95 p _ 3 40 underlying44 q r t u I L v n xs f g b m ys i j k (by unfold jX;omega) Y l
  λc w' y z C=>d c w' (ot y z C)
theorem kL(h:w.ownsRow M e R a m i)(c:∀k,M<=k->k<w.heap.size->W.heap[k]?=w.heap[k]?):W.ownsRow M e R a m i:=by
 refine⟨h.1,?_⟩
 rcases h.2 with v|⟨g,d,f,xs,v,b,j⟩
 ·exact .inl v
 exact .inr ⟨g,d,f,xs,v,(c g v (jP.1 b).1).trans b,j⟩
theorem S3(h:w.ownsRow M e R a m i)(p:0<m):∃g c d,a=jf (N ⟨g,0,je⟩) m c/\m<=c/\M<=g/\w.heap[g]?=N (jh d e (0,0))/\∀(j:T) b,i[j]?=N b->d[j]?=N b:=by
 rcases h.2 with⟨rfl,q⟩|⟨g,f,xs,rfl,k,l,n,r,s,o⟩
 ·omega
 refine⟨g,f,xs,I,n,k,l,λj b v=>?_⟩;rw[<-o,List.getElem?_take]at v
 split at v
 ·simpa using v
 cases v
theorem zL(c:Cmt)(d e f g:jv jM)(h i j k l m n o:T):(aE c ⟨jf d h l,jf e i m,jf f j n,jf g k o⟩).toArray.all (·.oneCell')=jk:=by
 rw[qb];intro b a;simp only[aE,vi,jD,jQ,ql,or_false]at a
 rcases a with rfl|rfl|a|rfl|rfl|rfl|rfl|rfl|a|rfl|rfl
 ·rfl
 ·rfl
 ·exact iU _ b a
 ·rfl
 ·rfl
 ·rfl
 ·rfl
 ·rfl
 ·exact iU _ b a
 ·rfl
 rfl
theorem PR(a:LBy)(i:T)(b:i<10):(dB a).take (i+1)=(dB a).take i++[((aY 4 (aT (aA a i)):T):ja)]:=by
 rw[wq (by rw[lM];exact b)];simp[dB]
theorem OP(w:jg):(Instr.build 66 #[]).run jl w=.ok (jn (cF.map v8).toArray) w:=by
 unfold Instr.build;go_simp
 rfl
theorem MC{v:jb}{b j:T}{X d:js jb}(h:bJ w v t)(f:w.heap[b]?=N (jh X e (0,0)))(g:w'.heap[b]?=N (jh d e (0,0)))(l:∀k,k<w.heap.size->k≠b->w'.heap[k]?=w.heap[k]?)
 (k:∀i,i≠j->d[i]?=X[i]?) (a:∃p n c,X[j]?=N (jf p n c)):bJ w' v t:=by
 obtain⟨p,n,c,a⟩:=a;exact h.ints (uI f g k a l)
theorem Mm(c:Cmt)(a b d f e:jb)(g:c.parent.length=32)(j:T)(h:j≠37):(aE c ⟨a,b,f,e⟩).toArray[j]?=(aE c ⟨a,b,d,e⟩).toArray[j]?:=by
 rw[<-Dq c a b d e f g,q9 (Ne.symm h)]
theorem JM(c:Cmt)(a b d e f:jb)(g:c.parent.length=32)(j:T)(h:j≠38):(aE c ⟨a,b,d,f⟩).toArray[j]?=(aE c ⟨a,b,d,e⟩).toArray[j]?:=by
 rw[<-Ek c a b d e f g,q9 (Ne.symm h)]
theorem rR(c:Cmt)(a b d e:jb)(f:c.parent.length=32)(g:c.confirm.length=32):(aE c ⟨a,b,d,e⟩).toArray[36]?=N b/\(aE c ⟨a,b,d,e⟩).toArray[37]?=N d/\(aE c ⟨a,b,d,e⟩).toArray[38]?=N e/\(aE c ⟨a,b,d,e⟩).toArray.size=73:=by
 have h:=iO c ⟨a,b,d,e⟩ f g;exact⟨by simpa using h.2.2.2.2.1,by simpa using h.2.2.2.2.2.1,by simpa using h.2.2.2.2.2.2.1,by rw[jL,dl _ _ f g]⟩
structure eB{α:Type}(M R:T)(t e:jt)(k:T)(f:α->jb->A jb)(body:α->LBy)(X:jb->js jb)(w0 wr:jg)(n:T)(a:jb)(l:A α)(b:A jb):Prop where
 row:gB M R t e k X w0 wr n a (dU f l b)
 kids:ez (λg=>M<=g/\g<wr.heap.size/\a.ownBlock≠N g) wr (l.map body) b
theorem eB.later{z:jt}{f:H->jb->A jb}{body:H->LBy}{o:jb->js jb}{F:jg}{l:A H}(h:eB M R e z m f body o w W y a l i)(j:R<M)(b:jo W W F):eB M R e z m f body o w F y a l i:=
 ⟨h.row.later j b,(h.kids.keep (λg d=>b.block g d.2.1)).mono λg d=>⟨d.1,jB d.2.1 b.size,d.2.2⟩⟩
theorem eB.push{i:T}{t:jt}{k:T}{f:α->jb->A jb}{body:α->LBy}{b j:jg}{n m:T}{o a p:jb}{l:A α}{c:A jb}{x:α}(h:eB M R t e k f body X w0 b n o l c)(u:R<M)
 (v:aG (λg=>M<=g/\g<b.heap.size/\o.ownBlock≠N g) b p 1 (body x).length ((body x).map v8)) (q:cD M e k b j o a m (dU f l c++f x p)) (w:(X o).setIfInBounds i a=X a):
 eB M R t e k f body X w0 (j.setCell ⟨R,i,je⟩ a) m a (l++[x]) (c++[p]):=by
 have y:c.length=l.length:=by have:=h.kids.len;rwa [ju]at this
 have z:dU f (l++[x]) (c++[p])=dU f l c++f x p:=by rw[Dl f l [x] c [p] y];simp[dU]
 have B:(j.setCell ⟨R,i,je⟩ a).heap.size=j.heap.size:=pE _ _ _;have r:∀g,(M<=g/\g<b.heap.size/\o.ownBlock≠N g)->(j.setCell ⟨R,i,je⟩ a).heap[g]?=b.heap[g]?:=λg d=>
  (dC _ Y).trans (q.grown.block g d.2.1 (λe=>d.2.2 e.symm))
 have s:∀g,(M<=g/\g<b.heap.size/\o.ownBlock≠N g)->(M<=g/\g<(j.setCell ⟨R,i,je⟩ a).heap.size/\a.ownBlock≠N g):=λg d=>
  ⟨d.1,by rw[B];exact jB d.2.1 q.grown.size,q.ne d.2.1 d.2.2⟩
 refine⟨?_,?_⟩
 ·rw[z];exact h.row.push u q w
 rw[j5];exact ez.snoc (aG.mono (aG.keep v r) s) ((h.kids.keep r).mono s)
theorem eB.start{t:jt}{k:T}{f:α->jb->A jb}{body:α->LBy}(a:w.heap[R]?=N (jh (X (jf je 0 0)) t (0,0)))(b:M<=w.heap.size):eB M R t e k f body X w w 0 (jf je 0 0) [] []:=
 ⟨⟨a,by simpa [dU]using qF w M e k,dy.refl _ _ _,b⟩,rfl⟩
theorem eB.slice{t:jt}{k:T}{f:α->jb->A jb}{body:α->LBy}{wr:jg}{n:T}{c:jb}{l:A α}{a:A jb}(h:eB M R t e k f body X w0 wr n c l a)(i:n=l.length){D:T->Prop}(d:∀g,M<=g->g<wr.heap.size->D g):
 ∃a,aG D wr c k l.length (dU f l a)/\ez D wr (l.map body) a:=
 ⟨a,aG.of_own (by rw[<-i];exact h.row.own) (λg b=>by have:=h.row.own.lt g b;exact d g this.1 this.2),h.kids.mono λg b=>d g b.1 b.2.1⟩
theorem Ex{X:js jb}(c:w.heap[M]?=N (jh X e (0,0)))(d:∀(j:T) a,(p.map v8)[j]?=N a->X[R+j]?=N a)(t:p.length=m):bD w (jf (N ⟨M,R,je⟩) m m) p:=by
 subst t;exact aG.bytes (D:=λ_=>True) ⟨by simp,N ⟨M,R,je⟩,p.length,I,jE _,(λh=>by cases h),λ_=>⟨M,R,I,trivial,λj a f=>ai c (d j a f)⟩⟩
theorem FQ{b i:T}{a:js jb}{t:jt}{x y:jb}(d:W.heap[b]?=N (jh a t (0,0))):
 (W.setCells b i [x,y]).heap[b]?=N (jh ((a.setIfInBounds i x).setIfInBounds (i+1) y) t (0,0))/\∀k,k≠b->(W.setCells b i [x,y]).heap[k]?=W.heap[k]?:=by
 have e:W.setCells b i [x,y]=(W.setCell ⟨b,i,je⟩ x).setCell ⟨b,i+1,je⟩ y:=I;rw[e];exact⟨fs y (fs x d),λk c=>(dC _ c).trans (dC _ c)⟩
noncomputable def ia(g:Grp)(a x:ja)(b:A ap):ja:=
 if 1099511627776<=g.epoch then 1 else if du g a b≠0 then du g a b else if x<1\/2305843009213688669<=x then 50 else if((aY 4 x.toNat:T):ja)≠dT g a b then 221 else 0
def Pn(g:Grp)(a x:ja)(d:A ap)(b init seed:LBy)(c:ja)(w:jg)(e:Ending)(w':jg):Prop:=
 (c=0->∃q,e=jw (jZ #[jn (aE (mkC g a x.toNat d b init seed) q).toArray,jn ((dO g b init).map v8).toArray,jc jd 0])/\aW (λk=>w.heap.size<=k/\k<w'.heap.size) w' (mkC g a x.toNat d b init seed) q)/\
 (c≠0->e=jw (jZ #[jn (aE mO nE).toArray,jn (cF.map v8).toArray,jc jd c]))/\jo w w w'
theorem G8{g o:T}{a:js jb}{t:jt}(b:w.heap[g]?=N (jh a t (0,0)))(c:∀(j:T) v,xs[j]?=N v->a[o+j]?=N v):w.rangeAt g o xs:=λj v d=>ai b (c j v d)
theorem RN(k:LBy)(c:k.length=32)(n i j:T)(d:i<n)(v:jb)(h:((aA k i).map v8)[j]?=N v):(im (gI k n))[i*32+j]?=N v:=by
 have f:j<32:=by
  have:=(jT.1 h).1;rw[ju,fL k c]at this;exact this
 unfold im gI;rw[ow,<-xA];have m:∀x∈qe n,((λk=>rv v8 k)∘aA k) x=(aA k x).map v8:=λ_ _=>rfl
 have e:∀(l:A T) (i:T) (x:T),l[i]?=N x->((l.map ((λk=>rv v8 k)∘aA k)).flatten)[i*32+j]?=((aA k x).map v8)[j]?:=by
  intro l
  induction l with
  |nil=>intro i x a;simp at a
  |cons y l g=>
   intro i x a;rw[jU,xB];have b:(((λk=>rv v8 k)∘aA k) y).length=32:=by simp[fL k c]
   rcases i with _|i
   ·have:y=x:=ak a
    subst this;rw[Nat.zero_mul,qT,qU (by rw[b];exact f)]
    rfl
   rw[qG (by rw[b];omega),b,show(i+1)*32+j-32=i*32+j by omega];exact g i x (ak a)
 rw[xA];exact(e (qe n) i i (by simp[d])).trans h
theorem sc(f:H->A jb)(k:T):∀(l:A H),(∀x∈l,(f x).length=k)->∀(j i:T) (x:H),l[j]?=N x->i<k->(l.flatMap f)[j*k+i]?=(f x)[i]?
 |[],_,j,i,x,h,_=>by simp at h
 |y::l,a,0,i,x,h,b=>by
  have e:y=x:=ak h;subst e;rw[qD,Nat.zero_mul,qT,qU (by rw[a y (j0 ..)];exact b)]
 |y::l,a,j+1,i,x,h,b=>by
  have c:=a y (j0 ..);rw[qD,qG (by rw[c,Nat.add_mul];omega),c];have d:=sc f k l (λx e=>a x (j7 _ e)) j i x (ak h) b;rw[show(j+1)*k+i-k=j*k+i by rw[Nat.add_mul];omega];exact d
theorem aG.rowM{v:jb}{n k:T}{f:α->A jb}{a:A α}(h:aG D w v k n (a.flatMap f))(z:n=a.length)(d:∀x∈a,(f x).length=k){i:T}{x:α}(b:a[i]?=N x):
 ∃g o c,v=jf (N ⟨g,o,je⟩) n c/\D g/\n<=c/\i<n/\w.rangeAt g (o+i*k) (f x):=by
 obtain⟨B,p,c,q,r,C,s⟩:=h;have E:=(jT.1 b).1;obtain⟨g,o,e,t,u⟩:=s Y;subst e;refine⟨g,o,c,q,t,r,by omega,λj y l=>?_⟩;have m:=(jT.1 l).1;rw[d x (j1 b)]at m;rw[qi];exact u _ y ((sc f k a d i j x b m).trans l)
abbrev CP:=Cmt×CQ
def sQ(p:CP):A jb:=aE p.1 p.2
structure cA(w:jg)(v:jb)(a:A CP):Prop where
 row:aG (·<w.heap.size) w v 73 a.length (a.flatMap sQ)
 all:∀p∈a,aW (·<w.heap.size) w p.1 p.2
theorem cA.below{v:jb}{c:A CP}(h:cA w v c)(a:jo w w w'):cA w' v c:=
 ⟨(h.row.keep λg b=>a.block g b).mono λg b=>jB b a.size,λp d=>(h.all p d).below a⟩
theorem cA.form{v:A CP}(h:cA w a v):∃p c,a=jf p v.length c:=h.row.form
theorem cA.len{v:A CP}(h:cA w a v):∀p∈v,(sQ p).length=73:=λp b=>dl _ _ (h.all p b).plen (h.all p b).clen
theorem cA.elem{v:A CP}(h:cA w a v){i:T}{p:CP}(b:v[i]?=N p):
 ∃g o c,a=jf (N ⟨g,o,je⟩) v.length c/\g<w.heap.size/\v.length<=c/\i<v.length/\w.rangeAt g (o+i*73) (aE p.1 p.2):=h.row.rowM I h.len b
structure CK where
 ix:T
 p:CP
 id:LBy
 since:ja
 g:Grp
 vm:jb
 vt:jb
def aL(k:CK):A jb:=jc jd k.ix::(aE k.p.1 k.p.2++(k.id.map v8++(jc jd k.since::aB k.g k.vm k.vt)))
structure KIn(w:jg)(k:CK):Prop where
 com:aW (·<w.heap.size) w k.p.1 k.p.2
 leads:bL w k.g k.vm k.vt
 idl:k.id.length=32
theorem KIn.below{k:CK}(h:KIn w k)(a:jo w w w'):KIn w' k:=⟨h.com.below a,h.leads.below a,h.idl⟩
theorem KIn.len{k:CK}(h:KIn w k):(aL k).length=143:=by
 unfold aL;rw[jV,jJ,jJ,jV,ju,dl _ _ h.com.plen h.com.clen,h.idl,eH h.leads.llen]
theorem B8{k:CK}(h:KIn w k){i:T}(a:i<73):(aL k)[1+i]?=(aE k.p.1 k.p.2)[i]?:=by
 unfold aL;rw[show 1+i=i+1 by omega,qx,qU (by rw[dl _ _ h.com.plen h.com.clen];exact a)]
theorem BH{k:CK}(h:KIn w k){i:T}(a:i<32):(aL k)[74+i]?=(k.id.map v8)[i]?:=by
 unfold aL;rw[show 74+i=73+i+1 by omega,qx,qG (by rw[dl _ _ h.com.plen h.com.clen];omega),dl _ _ h.com.plen h.com.clen,
  show 73+i-73=i by omega,qU (by rw[ju,h.idl];exact a)]
theorem nD{k:CK}(h:KIn w k)(i:T):(aL k)[106+i]?=(jj .i64 k.since::aB k.g k.vm k.vt)[i]?:=by
 unfold aL;rw[show 106+i=105+i+1 by omega,qx,qG (by rw[dl _ _ h.com.plen h.com.clen];omega),dl _ _ h.com.plen h.com.clen,
  qG (by rw[ju,h.idl];omega),ju,h.idl,show 105+i-73-32=i by omega]
theorem mM{k:CK}(h:KIn w k):(aL k)[0]?=N (jc jd k.ix)/\(aL k)[35]?=N (jc jd k.p.1.author)/\(aL k)[36]?=N k.p.2.vc/\(aL k)[106]?=N (jc jd k.since)/\(aL k)[141]?=N k.vm/\(aL k)[142]?=N k.vt:=by
 obtain⟨-,-,f,g,-⟩:=iO k.p.1 k.p.2 h.com.plen h.com.clen;obtain⟨-,-,i,j⟩:=lP (vm:=k.vm) (vt:=k.vt) h.leads.llen;have a:=B8 h (show 34<73 by decide);have b:=B8 h (show 35<73 by decide);have c:=nD h 0;have d:=nD h 35;have e:=nD h 36;exact⟨I,a.trans f,b.trans g,c,d.trans i,e.trans j⟩
structure og(w:jg)(v:jb)(a:A CK):Prop where
 row:aG (·<w.heap.size) w v 143 a.length (a.flatMap aL)
 all:∀k∈a,KIn w k
theorem og.below{v:jb}{c:A CK}(h:og w v c)(a:jo w w w'):og w' v c:=
 ⟨(h.row.keep λg b=>a.block g b).mono λg b=>jB b a.size,λk d=>(h.all k d).below a⟩
theorem og.form{v:A CK}(h:og w a v):∃p c,a=jf p v.length c:=h.row.form
theorem og.elem{v:A CK}(h:og w a v){i:T}{k:CK}(b:v[i]?=N k):
 ∃g o c,a=jf (N ⟨g,o,je⟩) v.length c/\g<w.heap.size/\v.length<=c/\i<v.length/\w.rangeAt g (o+i*143) (aL k):=h.row.rowM I (λx d=>(h.all x d).len) b
theorem Jt{ys:A jb}(h:w.rangeAt M R i)(xs:T)(c:∀j,j<ys.length->i[xs+j]?=ys[j]?):w.rangeAt M (R+xs) ys:=λj v a=>by
 have d:=(jT.1 a).1;rw[qi];exact h (xs+j) v ((c j d).trans a)
def nx(k:ja):A Val->jv (Val×A Val)
 |[]=>je
 |x::l=>if x.k=k then N (x,l)else je


theorem put_defers(a:Act)(d:jv Tmp)(v:jb):(Act.put a d v).defers=a.defers:=by cases d<;>rfl
structure Vld(M c:T)(wr:jg)(l:A Val)(a:jb)(b:A jb):Prop where
 box:wr.heap[c]?=N (jh #[jc jd 3,jc jd 0,.string ⟨#[]⟩,a] 184 (0,0))
 own:wr.ownsRow M 184 4 a l.length (cR l b)
 kids:aN (λg=>M<=g/\g<wr.heap.size/\a.ownBlock≠N g) wr l b
 sz:M<=wr.heap.size
theorem Vld.start{a:T}(b:w.heap[a]?=N (jh #[jc jd 3,jc jd 0,.string ⟨#[]⟩,dJ] 184 (0,0)))(c:M<=w.heap.size):Vld M a w [] dJ []:=
 ⟨b,by simpa [cR]using qF w M 184 4,by rw[aN],c⟩
theorem F7(h:w.ownsRow M e R a m i)(c:∀k,M<=k->k<w.heap.size->W.heap[k]?=w.heap[k]?):W.ownsRow M e R a m i:=by
 refine⟨h.1,?_⟩
 rcases h.2 with v|⟨g,d,f,xs,v,b,j⟩
 ·exact .inl v
 exact .inr ⟨g,d,f,xs,v,(c g v (jP.1 b).1).trans b,j⟩
theorem Vld.later{U:A Val}(h:Vld M R w U a i)(j:R<M)(c:w.heap.size<=W.heap.size)(e:∀k,R<=k->k<w.heap.size->W.heap[k]?=w.heap[k]?):Vld M R W U a i:=
 ⟨(e R (jE _) (jB j h.sz)).trans h.box,F7 h.own (λk g b=>e k Y b),aN.mono (λg b=>⟨b.1,jB b.2.1 c,b.2.2⟩) U i (aN.keep (λg b=>e g Y b.2.1) U i h.kids),jH h.sz c⟩
theorem Vld.push{f:T}{a p i:jg}{l:A Val}{j n:jb}{c:A jb}(h:Vld M f a l j c)(v:f<M){x:Val}{d:jb}
 (s:aV (λg=>M<=g/\g<a.heap.size/\j.ownBlock≠N g) a x d) (m:cD M 184 4 a p j n (l.length+1) (cR l c++gU x d))
 (t:i.heap[f]?=N (jh #[jc jd 3,jc jd 0,.string ⟨#[]⟩,n] 184 (0,0))) (o:pU f p i):Vld M f i (l++[x]) n (c++[d]):=by
 have u:=h.kids.len;have q:∀g,(M<=g/\g<a.heap.size/\j.ownBlock≠N g)->i.heap[g]?=a.heap[g]?:=λg b=>
  (o.block g Y).trans (m.grown.block g b.2.1 (λe=>b.2.2 e.symm))
 have r:∀g,(M<=g/\g<a.heap.size/\j.ownBlock≠N g)->(M<=g/\g<i.heap.size/\n.ownBlock≠N g):=λg b=>
  ⟨b.1,by rw[o.size];exact jB b.2.1 m.grown.size,m.ne b.2.1 b.2.2⟩
 refine⟨t,?_,aN.append (aN.mono r _ _ (aN.keep q _ _ h.kids)) (aN.one (aV.mono r _ _ (aV.keep q _ _ s))),?_⟩
 ·have e:cR (l++[x]) (c++[d])=cR l c++gU x d:=by
   rw[sM l [x] c [d] u];simp[cR]
  rw[e,jJ];exact F7 m.own (λk w _=>o.block k Y)
 rw[o.size];exact jH h.sz m.grown.size
@[simp] theorem Uh (n):(vI n).k=1:=I
@[simp] theorem Uj (b):(vT b).k=2:=I
@[simp] theorem Uk (l):(vL l).k=3:=I
@[simp] theorem Ul (n):(vI n).n=n:=I
@[simp] theorem Ue (b):(vT b).s=ofB b:=I
@[simp] theorem Ug (l):(vL l).l=l:=I
structure tl(c:Cmt):Prop where
 box:∀b∈c.box,b.body.length<=200
 wel:∀b∈c.wel,b.body.length<=200
 nchg:c.chg.length<=10
 npath:c.path.length<=12
 nbox:c.box.length<=40
 nwel:c.wel.length<=10
structure IH(c:Cmt):Prop where
 ints:IR c.folder/\IR c.epoch/\IR c.author/\IR c.r/\IR c.s
 chg:∀x∈c.chg,IR x.k/\IR x.d/\IR x.p/\IR x.v/\IR x.c
 path:∀x∈c.path,IR x
 box:∀b∈c.box,IR b.node/\IR b.lev/\IR b.u
 wel:∀b∈c.wel,IR b.dev/\IR b.u
theorem OD(h:tl r)(a:IH r)(e:r.parent.length=32)(f:r.confirm.length=32):fJ r where
 ints:=a.ints
 plen:=e
 clen:=f
 chg:=⟨by have:=h.nchg;omega,a.chg⟩
 path:=⟨h.npath,a.path⟩
 box:=⟨by have:=h.nbox;omega,λb d=>⟨(a.box b d).1,(a.box b d).2.1,(a.box b d).2.2,h.box b d⟩⟩
 wel:=⟨by have:=h.nwel;omega,λb d=>⟨(a.wel b d).1,(a.wel b d).2,h.wel b d⟩⟩
section
open Go.RowKit Go.ChangeShapes Go.WideShapes Go.Deep
theorem Sy(g o j:T):(⟨g,o,je⟩:jM).add j=⟨g,o+j,je⟩:=by unfold Addr.add;split<;>simp_all
instance:Inhabited ap:=⟨Ed⟩
instance:Inhabited aK:=⟨da⟩
instance:Inhabited Bx:=⟨⟨0,0,0,[]⟩⟩
instance:Inhabited Wl:=⟨⟨0,0,[]⟩⟩
theorem Fy(h:(Lit.int .u8 d).wf=jk):jj .u8 d=v8 (r4 8 d.toNat):=by
 have a:=bounds_u8 h;show _ =jj .u8 ((r4 8 d.toNat).toNat:ja);rw[BitVec.toNat_ofNat]
 congr 1
 omega
theorem rt[Inhabited α]{enc:jt×jb->H}{W:jg}{k:T}(u:0<k){t e:jt}(S:jl.underlying t=N (.slice e))(U:jl.cellsOf e=k)(F:α->A jb)(p:∀x,(F x).length=k)(w:α->Prop)
 (he:∀(fuel:T) (a:A jb) (x:nn H×A nv),DataW.trod enc jl W 0 (λ_=>jk) jk fuel e a=N x->∃E,a=F E/\w E)
 {fuel:T} {v:jb} {x:nn H×A nv} (h:DataW.trod enc jl W 0 (λ_=>jk) jk fuel t [v]=N x):
 ∃l:A α,aG (·<W.heap.size) W v k l.length (l.flatMap F)/\(∀E∈l,w E)/\l.length<=jX:=by
 rcases open_slice S h with⟨y,-⟩|⟨a,b,z,m,n,D,P0,y,-,V,hm,X,-,B⟩
 ·obtain rfl:v=.slice je 0 0:=ak y
  exact⟨[],⟨by simp,je,0,I,jE _,λ_=>rfl,λh=>jA h ar⟩,λE h=>by simp at h,oj _⟩
 obtain rfl:v=.slice (N a) b z:=ak y;have YQ:m=z:=ak X;have aa:∀i,i<b->∃E:α,(∀j,j<k->W.cell? (a.add (i*k+j))=(F E)[j]?)/\w E:=λi c=>by
  obtain⟨o,d,q⟩:=B i Y;rw[U]at d;obtain⟨E,rfl,f⟩:=he _ _ _ q;obtain⟨-,-,g⟩:=World.cells?_some d;refine⟨E,λj r=>?_,f⟩;have:=g j r
  rwa [add_add]at this
 obtain⟨E,C⟩:=choose_lt aa;have f:((qe b).map E).length=b:=by simp
 refine⟨(qe b).map E,⟨flat_length F k p _,N a,z,by rw[f],by rw[f];exact V,(λe=>by cases e),λK=>?_⟩,λx B=>?_,by rw[f];omega⟩
 ·rw[f]at K
  obtain⟨g,o,ad⟩:=a;have au:∃M,(F (E 0))[0]?=N M:=⟨_,mz (by rw[p];exact u)⟩;obtain⟨u0,ax⟩:=au;have s:=(C 0 K).1 0 u;rw[ax]at s;have ay:ad=je:=by
   simp[Addr.add]at s;exact World.cell?_spot s
  subst ay;have hg:g<W.heap.size:=gh (by simpa [Addr.add]using s);refine⟨g,o,I,hg,λj M r=>?_⟩;have P:=(jT.1 r).1;rw[flat_length F k p,f]at P;have c:j/k<b:=Nat.div_lt_of_lt_mul (by rw[sy];exact P);have Q:j%k<k:=Nat.mod_lt _ u;have d:=flat_get F k p ((qe b).map E) (j/k) (j%k) (E (j/k)) (by simp[c]) Q;have R:j/k*k+j%k=j:=by rw[sy];exact xz j k
  rw[R]at d;have q:=(C (j/k) c).1 (j%k) Q;rw[R,Sy]at q;rw[q,<-d];exact r
 obtain⟨i,c,rfl⟩:=jy.1 B;exact(C i (wt.1 c)).2
theorem zy{enc:jt×jb->H}(j:jl.underlying e=N (.array 32 5))(k:jl.cellsOf e=32){fuel:T}{d:A jb}{x:nn H×A nv}(h:DataW.trod enc jl w 0 (λ_=>jk) jk fuel e d=N x):
 ∃g:LBy,d=g.map v8/\g.length=32:=by
 obtain⟨xs,m,-,-,l,r,n⟩:=DataW.trod_array j h;rw[k]at l;have o:jl.cellsOf 5=1:=by kernel_rfl
 have p:∀i,i<32->∃b:BitVec 8,d[i]?=N (v8 b):=λi c=>by
  have t:=n i c;rw[o,Nat.mul_one,qy Y,mz Y]at t;simp only[xC,wv]at t;obtain⟨a,f,-,q⟩:=DataW.trod_int xk t;injection f with f _
  exact⟨r4 8 a.toNat,by rw[mz Y,f,Fy q]⟩
 obtain⟨E,a⟩:=choose_lt p;refine⟨(qe 32).map E,?_,by simp⟩
 apply wx
 intro i
 by_cases c:i<32
 ·rw[a i c];simp[c]
 rw[xa Y];symm;simp;omega
theorem Pw{enc:jt×jb->H}{x:nn H×A nv}(h:DataW.trod enc jl w 0 (λ_=>jk) jk M 62 i=N x):
 ∃e:ap,i=e.cells/\(IR e.k/\IR e.d/\IR e.p/\IR e.v/\IR e.c):=by
 obtain⟨xs,n,-,-,p,q,a⟩:=DataW.trod_struct underlying62 h;have r:i.length=5:=p.trans af;have s:jl.cellsOf 3=1:=by kernel_rfl
 match i,r,xs,q with
 |[v0,v1,v2,v3,v4],_,[y0,y1,y2,y3,y4],_=>
  have c:=a 0 _ I;have d:=a 1 _ I;have f:=a 2 _ I;have g:=a 3 _ I;have b:=a 4 _ I;simp only[qH,qI,qJ,s]at c d f g b;obtain⟨t,j,-,w0⟩:=DataW.trod_int j3 c;obtain⟨u,k,-,v⟩:=DataW.trod_int j3 d;obtain⟨W,l,-,y⟩:=DataW.trod_int j3 f;obtain⟨z,m,-,B⟩:=DataW.trod_int j3 g;obtain⟨C,o,-,D⟩:=DataW.trod_int j3 b;simp at j k l m o;exact⟨⟨t,u,W,z,C⟩,by rw[j,k,l,m,o];rfl,IR.of w0,IR.of v,IR.of y,IR.of B,IR.of D⟩
theorem NS{enc:jt×jb->H}{x:nn H×A nv}(h:DataW.trod enc jl w 0 (λ_=>jk) jk M 42 [a]=N x):
 ∃l:A ap,aG (·<w.heap.size) w a 5 l.length (l.flatMap ap.cells)/\(∀x∈l,IR x.k/\IR x.d/\IR x.p/\IR x.v/\IR x.c)/\l.length<=jX:=
 rt L underlying42 af ap.cells (λ_=>rfl) _ (λ_ _ _ h=>Pw h) h
theorem I9{enc:jt×jb->H}{fuel:T}{v:jb}{x:nn H×A nv}(h:DataW.trod enc jl W 0 (λ_=>jk) jk fuel 69 [v]=N x):
 ∃l:LBy,aG (·<W.heap.size) W v 1 l.length (l.map v8)/\l.length<=jX:=by
 obtain⟨l,c,-,d⟩:=rt (α:=BitVec 8) L underlying69 af (λb=>[v8 b]) (λ_=>rfl) (λ_=>True) (λ_ _ _ h=>by
  obtain⟨a,rfl,-,e⟩:=DataW.trod_int xk h;exact⟨r4 8 a.toNat,by rw[Fy e],trivial⟩) h
 have e:∀l:LBy,(l.flatMap λb=>[v8 b])=l.map v8:=λl=>by
  induction l with
  |nil=>rfl
  |cons b l a=>rw[qD,a];rfl
 rw[e]at c;exact⟨l,c,d⟩
theorem KT{enc:jt×jb->H}{x:nn H×A nv}(h:DataW.trod enc jl w 0 (λ_=>jk) jk M 29 [a]=N x):
 ∃l:A ja,aG (·<w.heap.size) w a 1 l.length (l.map (jj .i64))/\(∀x∈l,IR x)/\l.length<=jX:=by
 obtain⟨l,c,d,f⟩:=rt (α:=ja) L xj af (λb=>[jj .i64 b]) (λ_=>rfl) (λx=>IR x) (λ_ _ _ h=>by
  obtain⟨v,rfl,-,e⟩:=DataW.trod_int j3 h;exact⟨v,I,IR.of e⟩) h
 have e:∀l:A ja,(l.flatMap λb=>[jj .i64 b])=l.map (jj .i64):=λl=>by
  induction l with
  |nil=>rfl
  |cons b l v=>rw[qD,v];rfl
 rw[e]at c;exact⟨l,c,d,f⟩
theorem IY{enc:jt×jb->H}{x:nn H×A nv}(h:DataW.trod enc jl w 0 (λ_=>jk) jk M 90 i=N x):
 ∃(n:ja) (b:jb) (l:LBy),i=[.int .i64 n,b]/\IR n/\aG (·<w.heap.size) w b 1 l.length (l.map v8):=by
 obtain⟨xs,n,-,-,g,a,c⟩:=DataW.trod_struct underlying90 h;have j:i.length=2:=g.trans af;have k:jl.cellsOf 3=1:=by kernel_rfl
 have m:jl.cellsOf 69=1:=by kernel_rfl
 match i,j,xs,a with
 |[v0,v1],_,[y0,y1],_=>
  have d:=c 0 _ I;have e:=c 1 _ I;simp only[qH,qI,qJ,k,m]at d e;obtain⟨o,f,-,w0⟩:=DataW.trod_int j3 d;obtain⟨l,p,-⟩:=I9 (v:=v1) (ak e);simp at f;exact⟨o,v1,l,by rw[f],IR.of w0,p⟩
theorem RE{enc:jt×jb->H}{x:nn H×A nv}(h:DataW.trod enc jl w 0 (λ_=>jk) jk M 92 i=N x):
 ∃e:Bx×jb,i=e.1.cells e.2/\(IR e.1.node/\IR e.1.lev/\IR e.1.u)/\aG (·<w.heap.size) w e.2 1 e.1.body.length (e.1.body.map v8):=by
 obtain⟨xs,n,-,-,k,m,b⟩:=DataW.trod_struct underlying92 h;have o:i.length=4:=k.trans af;have p:jl.cellsOf 3=1:=by kernel_rfl
 have q:jl.cellsOf 90=2:=by kernel_rfl
 match i,o,xs,m with
 |[v0,v1,v2,v3],_,[y0,y1,y2],_=>
  have d:=b 0 _ I;have f:=b 1 _ I;have g:=b 2 _ I;simp only[qH,qI,qJ,p,q]at d f g;obtain⟨r,a,-,w0⟩:=DataW.trod_int j3 d;obtain⟨s,j,-,t⟩:=DataW.trod_int j3 f;obtain⟨u,v,l,c,W,y⟩:=IY g;simp at a j c;exact⟨(⟨r,s,u,l⟩,v),by rw[a,j,c.1,c.2];rfl,⟨IR.of w0,IR.of t,W⟩,y⟩
theorem NC{enc:jt×jb->H}{x:nn H×A nv}(h:DataW.trod enc jl w 0 (λ_=>jk) jk M 95 i=N x):
 ∃e:Wl×jb,i=e.1.cells e.2/\(IR e.1.dev/\IR e.1.u)/\aG (·<w.heap.size) w e.2 1 e.1.body.length (e.1.body.map v8):=by
 obtain⟨xs,n,-,-,a,j,c⟩:=DataW.trod_struct underlying95 h;have k:i.length=3:=a.trans af;have m:jl.cellsOf 3=1:=by kernel_rfl
 have o:jl.cellsOf 90=2:=by kernel_rfl
 match i,k,xs,j with
 |[v0,v2,v3],_,[y0,y2],_=>
  have d:=c 0 _ I;have f:=c 1 _ I;simp only[qH,qI,qJ,m,o]at d f;obtain⟨p,g,-,w0⟩:=DataW.trod_int j3 d;obtain⟨q,r,l,b,s,t⟩:=IY f;simp at g b;exact⟨(⟨p,q,l⟩,r),by rw[g,b.1,b.2];rfl,⟨IR.of w0,s⟩,t⟩
theorem yy(f:H->jb->A jb):∀(l:A (H×jb)),dU f (l.map (·.1)) (l.map (·.2))=l.flatMap λe=>f e.1 e.2
 |[]=>rfl
 |e::l=>by simp only[jU,dU,qD,yy f l]
theorem Bi(f:H->LBy):∀(l:A (H×jb)),(∀e∈l,aG D w e.2 1 (f e.1).length ((f e.1).map v8))->ez D w ((l.map (·.1)).map f) (l.map (·.2))
 |[],_=>rfl
 |e::l,h=>⟨e.2,l.map (·.2),rfl,h e (j0 ..),Bi f l λx a=>h x (j7 _ a)⟩
theorem kY{cl:A jb}{o n:T}(h:o+n=m):cl.drop o=(cl.drop o).take n++cl.drop m:=by
 have:=(xD n (cl.drop o)).symm
 rwa [List.drop_drop,h]at this
theorem Kg{enc:jt×jb->H}{cl:A jb}{x:nn H×A nv}(X:DataW.trod enc jl w 0 (λ_=>jk) jk M 48 cl=N x):
 ∃(c:Cmt) (q:CQ),cl=aE c q/\aW (·<w.heap.size) w c q/\(IR c.folder/\IR c.epoch/\IR c.author/\IR c.r/\IR c.s)/\(c.chg.length<=jX/\∀x∈c.chg,IR x.k/\IR x.d/\IR x.p/\IR x.v/\IR x.c)/\
  (c.path.length<=jX/\∀x∈c.path,IR x)/\(c.box.length<=jX/\∀b∈c.box,IR b.node/\IR b.lev/\IR b.u)/\(c.wel.length<=jX/\∀b∈c.wel,IR b.dev/\IR b.u):=by
 obtain⟨xs,n,-,-,hl,aa,a⟩:=DataW.trod_struct qX X;have bh:cl.length=73:=hl.trans af;have u:jl.cellsOf 3=1:=by kernel_rfl
 have g:jl.cellsOf 23=32:=by kernel_rfl
 have i3:jl.cellsOf 42=1:=by kernel_rfl
 have i4:jl.cellsOf 29=1:=by kernel_rfl
 have i5:jl.cellsOf 43=1:=by kernel_rfl
 have i6:jl.cellsOf 44=1:=by kernel_rfl
 have i7:jl.cellsOf 46=2:=by kernel_rfl
 match xs,aa with
 |[y0,y1,y2,y3,y4,y5,y6,y7,y8,y9],_=>
  have v:=a 0 _ I;have W:=a 1 _ I;have z:=a 2 _ I;have B:=a 3 _ I;have i:=a 4 _ I;have j:=a 5 _ I;have l:=a 6 _ I;have p:=a 7 _ I;have C:=a 8 _ I;have D:=a 9 _ I;simp only[qH,qI,qJ,u,g,i3,i4,i5,i6,i7]at v W z B i j l p C D;obtain⟨a0,e0,-,w0⟩:=DataW.trod_int j3 v;obtain⟨a1,e1,-,w1⟩:=DataW.trod_int j3 W;obtain⟨kb,e2,ad⟩:=zy qg g z;obtain⟨a3,e3,-,w3⟩:=DataW.trod_int j3 B;have d:∀o (h:o<cl.length),(cl.drop o).take 1=[cl[o]]:=λo h=>by rw[qy h];rfl
  rw[d 35 Y]at i;rw[d 36 Y]at j;rw[d 37 Y]at l;rw[d 38 Y]at p;obtain⟨lc,Wg,au,ax⟩:=NS i;obtain⟨lp,ay,a2,a4⟩:=KT j;obtain⟨lb,a5,E,US⟩:=rt (α:=Bx×jb) (k:=4) L underlying43 af (λe=>e.1.cells e.2) (λ_=>rfl) _ (λ_ _ _ h=>RE h) l;obtain⟨f,a6,F,ba⟩:=rt (α:=Wl×jb) (k:=3) L underlying44 af (λe=>e.1.cells e.2) (λ_=>rfl) _ (λ_ _ _ h=>NC h) p;obtain⟨kc,e8,bb⟩:=zy qg g C;obtain⟨zs,n9,-,-,bi,bc,r⟩:=DataW.trod_struct underlying46 D;have bd:(cl.drop 71).take 2=[cl[71],cl[72]]:=by rw[qy Y,qy Y];rfl
  rw[bd]at r
  match zs,bc with
  |[z0,z1],_=>
   have K:=r 0 _ I;have s1:=r 1 _ I;simp only[qH,qI,qJ,u]at K s1;obtain⟨fuel,er,-,wr⟩:=DataW.trod_int j3 K;obtain⟨r1,es,-,ws⟩:=DataW.trod_int j3 s1;have bf:cl[71]=.int .i64 fuel:=ak er;have bg:cl[72]=.int .i64 r1:=ak es;have e:cl=aE ⟨a0,a1,kb,a3,lc,lp,lb.map (·.1),f.map (·.1),kc,fuel,r1⟩ ⟨cl[35],cl[36],cl[37],cl[38]⟩:=by
    have s:=kY (cl:=cl) (o:=0) (n:=1) (m:=1) I;have t:=kY (cl:=cl) (o:=1) (n:=1) (m:=2) I;have y:=kY (cl:=cl) (o:=2) (n:=32) (m:=34) I;have P:=kY (cl:=cl) (o:=34) (n:=1) (m:=35) I;have Q:=kY (cl:=cl) (o:=35) (n:=1) (m:=36) I;have R:=kY (cl:=cl) (o:=36) (n:=1) (m:=37) I;have S:=kY (cl:=cl) (o:=37) (n:=1) (m:=38) I;have U:=kY (cl:=cl) (o:=38) (n:=1) (m:=39) I;have V:=kY (cl:=cl) (o:=39) (n:=32) (m:=71) I;have b9:cl.drop 71=[cl[71],cl[72]]:=by
     rw[qy Y,qy Y,xE Y]
    rw[e0]at s;rw[e1]at t;rw[e2]at y;rw[e3]at P;rw[d 35 Y]at Q;rw[d 36 Y]at R;rw[d 37 Y]at S;rw[d 38 Y]at U;rw[e8,b9,bf,bg]at V;rw[List.drop_zero]at s;refine s.trans ?_;rw[t,y,P,Q,R,S,U,V]
    rfl
   refine⟨_,_,e,⟨Wg,ay,⟨lb.map (·.2),?_,?_⟩,⟨f.map (·.2),?_,?_⟩,ad,bb⟩,⟨IR.of w0,IR.of w1,IR.of w3,IR.of wr,IR.of ws⟩,⟨ax,au⟩,⟨a4,a2⟩,⟨?_,?_⟩,⟨?_,?_⟩⟩
   ·show aG _ _ _ 4 (lb.map (·.1)).length (dU Bx.cells (lb.map (·.1)) _)
    rw[yy,ju];exact a5
   ·exact Bi Bx.body lb λx s=>(E x s).2
   ·show aG _ _ _ 3 (f.map (·.1)).length (dU Wl.cells (f.map (·.1)) _)
    rw[yy,ju];exact a6
   ·exact Bi Wl.body f λx s=>(F x s).2
   ·show(lb.map (·.1)).length<=_
    rw[ju];exact US
   ·intro b s
    obtain⟨y,t,rfl⟩:=jy.1 s;exact(E y t).1
   ·show(f.map (·.1)).length<=_
    rw[ju];exact ba
   intro b s;obtain⟨y,t,rfl⟩:=jy.1 s;exact(F y t).1
end
abbrev Io:={p:CP//p.1.parent.length=32/\p.1.confirm.length=32}
instance:Inhabited Io:=⟨⟨(mO,nE),by decide,by decide⟩⟩
structure uN(c:Cmt):Prop where
 ints:IH c
 nbox:c.box.length<=jX
 nwel:c.wel.length<=jX
theorem N2{enc:jt×jb->H}{t:jt}(j:jl.underlying t=N (.slice 48)){fuel:T}{v:jb}{x:nn H×A nv}(h:DataW.trod enc jl W 0 (λ_=>jk) jk fuel t [v]=N x):
 ∃b:A CP,cA W v b/\b.length<=jX/\∀p∈b,uN p.1:=by
 obtain⟨l,m,f,n⟩:=rt (α:=Io) (k:=73) L j af (λp=>sQ p.1) (λp=>dl _ _ p.2.1 p.2.2) (λp=>aW (·<W.heap.size) W p.1.1 p.1.2/\uN p.1.1)
  (λfuel s x h=>by
   obtain⟨c,q,e,d,o,r,a,g,i⟩:=Kg h;exact⟨⟨(c,q),d.plen,d.clen⟩,e,d,⟨o,r.2,a.2,g.2,i.2⟩,g.1,i.1⟩) h
 refine⟨l.map (·.1),⟨?_,λp a=>?_⟩,by rw[ju];exact n,λp a=>?_⟩
 ·rw[ju,xG];exact m
 ·obtain⟨y,c,rfl⟩:=jy.1 a
  exact(f y c).1
 obtain⟨y,c,rfl⟩:=jy.1 a;exact(f y c).2
def aQ(l:A Cmt)(i:T):Cmt:=l.getD i mO
def bW(l:A Cmt)(n:T):A T:=(qe n).filter λi=>decide (∀j,j<i->aH (aQ l j)≠aH (aQ l i))
theorem oX(l:A Cmt)(n:T):bW l (n+1)=bW l n++if∀j,j<n->aH (aQ l j)≠aH (aQ l n)then [n]else []:=by
 unfold bW;rw[List.range_succ,xt,List.filter_cons,List.filter_nil]
 congr 1
 by_cases h:∀j,j<n->aH (aQ l j)≠aH (aQ l n)
 ·rw[jp h,jp (xl h)]
 rw[jq h,jq (by rw[decide_eq_false h];decide)]
theorem oS:R∈bW j M↔R<M/\∀l,l<R->aH (aQ j l)≠aH (aQ j R):=by
 unfold bW;rw[qj,wt,decide_eq_true_eq]
structure aM where
 ix:T
 com:Cmt
 id:LBy
 since:ja
 leads:Grp
def eV(g:Grp)(d:ja):ja:=((dn g.mem d).map aK.since).getD 0
noncomputable def eW(g:Grp)(l:A Cmt)(i:T):jv aM:=by
 classical exact if(aQ l i).parent=g.last/\cN g (aQ l i)=0 then N ⟨i,aQ l i,aH (aQ l i),eV g (aQ l i).author,aC g (aQ l i)⟩else je
noncomputable def eR(g:Grp)(l:A Cmt):A aM:=(bW l l.length).filterMap (eW g l)
def dF:LBy->LBy->ja
 |[],[]=>0
 |[],_ ::_=> -1
 |_ ::_,[]=>1
 |a::l,b::m=>if a=b then dF l m else if a<b then -1 else 1
def kQ(a b:aM):ja:=if cC a.since b.since≠0 then cC a.since b.since else if cC a.com.author b.com.author≠0 then cC a.com.author b.com.author else dF a.id b.id
def leC(a b:aM):jS:= !decide (kQ b a<0)
noncomputable def fg(g:Grp)(l:A Cmt):A aM:=(eR g l).mergeSort leC
def oY(c:Cmt)(d:ja):jS:=c.chg.any λx=>x.k==2&&x.d==d
def nB(c:Cmt):T:=c.chg.countP λx=>x.k==2
def rN(left:A aM)(c:aM):jS:=left.any λx=>x.com.author !=c.com.author&&oY x.com c.com.author
def wj(w:jv aM)(c:aM):jS:=match w with|none=>jk|some w=>decide (nB w.com<nB c.com)
def gz(s:A aM×jv aM)(c:aM):A aM×jv aM:=
 if rN s.1 c=jk then s else(s.1++[c],if wj s.2 c=jk then N c else s.2)
noncomputable def dH(g:Grp)(l:A Cmt):jv aM:=((fg g l).foldl gz ([],je)).2
def aI(fol:ja):Grp:=⟨fol,0,qu 32 0#8,[],[]⟩
noncomputable def eS(fol:ja)(fid:LBy)(l:A Cmt):jv aM:=
 ((bW l l.length).find? λi=>decide (aH (aQ l i)=fid)).bind λi=>
  if cN (aI fol) (aQ l i)=0 then N ⟨i,aQ l i,fid,0,aC (aI fol) (aQ l i)⟩else je
noncomputable def kT(l:A Cmt):T->jv aM->A aM
 |0,_=>[]
 |_ +1,je=>[]
 |n+1,N c=>c::kT l n (dH c.leads l)
def iF(l:A Cmt)(g:Grp):T:=l.countP λc=>decide (g.epoch<c.epoch)
noncomputable def dA(fol:ja)(fid:LBy)(l:A Cmt):A aM:=kT l (l.length+1) (eS fol fid l)
theorem OG(h:M<j.length):aQ j M∈j:=by
 unfold aQ;rw[List.getD_eq_getElem?_getD,mz h];exact rn h
structure fO(g:Grp)(l:A Cmt)(c:aM):Prop where
 lt:c.ix<l.length
 com:c.com=aQ l c.ix
 id:c.id=aH c.com
 next:cN g c.com=0
 leads:c.leads=aC g c.com
theorem tQ{c:aM}(h:eW b j M=N c):c.ix=M/\c.com=aQ j M/\c.id=aH c.com/\c.com.parent=b.last/\cN b c.com=0/\c.since=eV b c.com.author/\c.leads=aC b c.com:=by
 unfold eW at h
 split at h
 ·rename_i a
  injection h with h
  subst h;exact⟨by dsimp only,by dsimp only,by dsimp only,a.1,a.2,by dsimp only,by dsimp only⟩
 cases h
theorem oy{c:aM}(h:c∈eR b j):fO b j c/\c.com.parent=b.last/\c.since=eV b c.com.author/\∀l,l<c.ix->aH (aQ j l)≠c.id:=by
 unfold eR at h;obtain⟨i,e,f⟩:=List.mem_filterMap.1 h;obtain⟨a,g,d,k,m,n,o⟩:=tQ f;obtain⟨p,q⟩:=oS.1 e;refine⟨⟨by rw[a];exact p,by rw[a];exact g,d,m,o⟩,k,n,λl r=>?_⟩;rw[d,g];exact q l (by rw[<-a];exact r)
theorem sE{c:aM}:c∈fg b j↔c∈eR b j:=(ms _ _).mem_iff
theorem Iz:∀(b:A aM) (s:A aM×jv aM) (w:aM),(b.foldl gz s).2=N w->w∈b\/s.2=N w
 |[],s,w,h=>.inr h
 |c::b,s,w,h=>by
  rcases Iz b (gz s c) w h with a|a
  ·exact .inl (j7 _ a)
  unfold gz at a
  split at a
  ·exact .inr a
  dsimp only at a
  split at a
  ·injection a with a
   rw[<-a];exact .inl (j0 ..)
  exact .inr a
theorem rE{w:aM}(h:dH b j=N w):w∈eR b j:=by
 rcases Iz _ _ _ h with a|a
 ·exact sE.1 a
 cases a
theorem nS{c:aM}(h:fO b j c):gS b c.com:=fQ.1 h.next
theorem ig(g:Grp)(c:Cmt):(aC g c).epoch=c.epoch:=by unfold aC;dsimp only
theorem vV(g:Grp)(c:Cmt):(aC g c).last=aH c:=by unfold aC;dsimp only
theorem Hg{p q:H->jS}:∀{l:A H},(∀x,p x=jk->q x=jk)->∀x∈l,q x=jk->p x=jr->l.countP p<l.countP q
 |y::l,h,x,a,b,c=>by
  rw[xH,xH]
  rcases jD.1 a with rfl|a
  ·have:=List.countP_mono_left (l:=l) (p:=p) (q:=q) (λx _=>h x)
   rw[b,c,jp I,jq L];omega
  have d:=Hg h x a b c
  by_cases e:p y=jk
  ·rw[jp e,jp (h y e)];omega
  rw[jq e];omega
theorem sO{c:aM}(h:fO b j c):iF j c.leads<iF j b:=by
 have a:=nS h;have he:c.leads.epoch=b.epoch+1:=by rw[h.leads,ig];exact a.ep
 have g:c.com∈j:=by rw[h.com];exact OG h.lt
 unfold iF;refine Hg (λx d=>?_) c.com g ?_ ?_
 ·rw[decide_eq_true_eq]at d⊢
  omega
 ·rw[decide_eq_true_eq,a.ep];omega
 rw[decide_eq_false_iff_not,he,a.ep];omega
theorem N7(l:A Cmt)(g:Grp):iF l g<=l.length:=xI
theorem uJ(l:A Cmt)(n:T):kT l n je=[]:=by cases n<;>rw[kT]
theorem zT(l:A Cmt):∀(n m:T) (c:aM),iF l c.leads<n->iF l c.leads<m->kT l n (N c)=kT l m (N c)
 |0,_,_,h,_=>jA h (qQ _)
 |_,0,_,_,h=>jA h (qQ _)
 |n+1,m+1,c,a,b=>by
  rw[kT,kT]
  cases hw:dH c.leads l with
  |none=>rw[uJ,uJ]
  |some w=>
   have d:=sO (oy (rE hw)).1;rw[zT l n m w Y Y]
noncomputable def fE(l:A Cmt)(c:aM):A aM:=kT l (iF l c.leads+1) (N c)
theorem nG(l:A Cmt)(c:aM):fE l c=c::match dH c.leads l with|none=>[]|some w=>fE l w:=by
 unfold fE;rw[kT]
 cases hw:dH c.leads l with
 |none=>rw[uJ]
 |some w=>
  have a:=sO (oy (rE hw)).1;dsimp only;rw[zT l (iF l c.leads) (iF l w.leads+1) w a Y]
theorem pQ(fol:ja)(fid:LBy)(l:A Cmt):dA fol fid l=match eS fol fid l with|none=>[]|some c=>fE l c:=by
 unfold dA fE
 cases hf:eS fol fid l with
 |none=>rw[uJ]
 |some c=>
  dsimp only;have:=N7 l c.leads;exact zT l _ _ c Y Y
theorem tw{c:aM}(h:eS d p j=N c):fO (aI d) j c/\c.id=p/\∀l,l<c.ix->aH (aQ j l)≠p:=by
 unfold eS at h
 cases hf:(bW j j.length).find? λi=>decide (aH (aQ j i)=p)with
 |none=>rw[hf]at h;cases h
 |some i=>
  rw[hf,Option.bind_some]at h
  split at h
  ·rename_i b
   injection h with h
   have a:aH (aQ j i)=p:=by
    have h:=List.find?_some hf
    simpa using h
   obtain⟨fol,e⟩:=oS.1 (List.mem_of_find?_eq_some hf);subst h;refine⟨⟨fol,by dsimp only,?_,b,by dsimp only⟩,by dsimp only,λl f=>?_⟩
   ·dsimp only;exact a.symm
   rw[<-a];exact e l f
  cases h
def dP(g:Grp):A aM->T->Grp
 |_,0=>g
 |[],_=>g
 |c::a,n+1=>dP c.leads a n
def kU(D:T->Prop)(v:jb):Prop:=∀p k c,v=jf p k c->0<k->∀a,p=N a->D a.block
theorem kU.mono{v:jb}(h:kU D v)(b:∀g,D g->E g):kU E v:=λp k c e d a f=>b _ (h p k c e d a f)
theorem cE.keepD{v:jb}(h:cE w v M R i)(d:kU D v)(e:∀g,D g->W.heap[g]?=w.heap[g]?):cE W v M R i:=by
 obtain⟨f,p,c,rfl,xs,k,l⟩:=h;refine⟨f,p,c,I,xs,k,λb=>?_⟩;obtain⟨g,o,rfl,m⟩:=l b;exact⟨g,o,I,λj q r=>(dY (a:=⟨g,o+j,je⟩) (e g (d _ _ _ I b _ I))).trans (m j q r)⟩
theorem bJ.keepD{v:jb}(h:bJ w v t)(i:kU D v)(k:∀g,D g->W.heap[g]?=w.heap[g]?):bJ W v t:=by
 obtain⟨p,c,rfl,l,m,n,q⟩:=h;refine⟨p,c,I,l,m,λb=>?_,q⟩;obtain⟨g,o,rfl,d⟩:=n b;have e:=k g (i _ _ _ I b _ I);exact⟨g,o,I,λj f=>⟨(dY (a:=⟨g,o+j*2,je⟩) e).trans (d j f).1,(dY (a:=⟨g,o+j*2+1,je⟩) e).trans (d j f).2⟩⟩
theorem cE.lt(h:cE w a M R i)(f:0<M):kU (·<w.heap.size) a:=by
 obtain⟨xs,p,c,rfl,-,-,j⟩:=h;rintro r k s e d v rfl;injection e with b l t
 subst l;obtain⟨g,o,rfl,m⟩:=j d;injection b with b
 subst b;have q:0<i.length:=by rw[xs];exact Nat.mul_pos d f
 exact gh (m 0 _ (mz q))
theorem bJ.lt(h:bJ w a t):kU (·<w.heap.size) a:=by
 obtain⟨p,c,rfl,-,-,f,-⟩:=h;rintro l k m e d v rfl;injection e with b i n
 subst i;obtain⟨g,o,rfl,j⟩:=f d;injection b with b
 subst b;exact gh (j 0 d).1
structure dz(D:T->Prop)(w:jg)(g:Grp)(vm vt:jb):Prop where
 grp:bL w g vm vt
 bm:kU D vm
 bt:kU D vt
theorem dz.keep{g:Grp}(h:dz D w g vm vt)(a:∀k,D k->w'.heap[k]?=w.heap[k]?):dz D w' g vm vt:=
 ⟨⟨cE.keepD h.grp.mem h.bm a,h.grp.tree.keepD h.bt a,h.grp.llen⟩,h.bm,h.bt⟩
theorem dz.mono{g:Grp}(h:dz D w g vm vt)(a:∀k,D k->E k):dz E w g vm vt:=⟨h.grp,h.bm.mono a,h.bt.mono a⟩
theorem dz.of{n:T}{g:Grp}(h:bL w g vm vt)(f:Fr n vm)(i:Fr n vt):dz (λk=>n<=k/\k<w.heap.size) w g vm vt:=
 ⟨h,λp k c e d a b=>⟨f p k c e a b,cE.lt h.mem L p k c e d a b⟩,λp k c e d a b=>⟨i p k c e a b,h.tree.lt p k c e d a b⟩⟩
theorem dz.below{n:T}{g:Grp}(h:dz (λk=>n<=k/\k<w.heap.size) w g vm vt)(b:jo w w w'):dz (λk=>n<=k/\k<w'.heap.size) w' g vm vt:=
 (h.keep λk a=>b.block k a.2).mono λk a=>⟨a.1,jB a.2 b.size⟩
def CK.cand(k:CK):aM:=⟨k.ix,k.p.1,k.id,k.since,k.g⟩
structure KD(D:T->Prop)(a:A CP)(w:jg)(k:CK):Prop where
 at_:a[k.ix]?=N k.p
 grp:dz D w k.g k.vm k.vt
 idl:k.id.length=32
theorem KD.keep{a:A CP}{k:CK}(h:KD D a w k)(b:∀k,D k->w'.heap[k]?=w.heap[k]?):KD D a w' k:=⟨h.at_,h.grp.keep b,h.idl⟩
theorem KD.mono{a:A CP}{k:CK}(h:KD D a w k)(b:∀k,D k->E k):KD E a w k:=⟨h.at_,h.grp.mono b,h.idl⟩
theorem KD.below{n:T}{a:A CP}{k:CK}(h:KD (λk=>n<=k/\k<w.heap.size) a w k)(b:jo w w w'):KD (λk=>n<=k/\k<w'.heap.size) a w' k:=⟨h.at_,h.grp.below b,h.idl⟩
theorem KD.kin{v:A CP}{k:CK}(h:KD D v w k)(b:cA w a v):KIn w k:=⟨b.all _ (j1 h.at_),h.grp.grp,h.idl⟩
theorem KD.len{v:A CP}{k:CK}(h:KD D v w k)(c:cA W a v):(aL k).length=143:=by
 have b:=c.all _ (j1 h.at_);unfold aL;rw[jV,jJ,jJ,jV,ju,dl _ _ b.plen b.clen,h.idl,eH h.grp.grp.llen]
section
variable{b f:T}{e:jt}
section
variable {P:qc} {ops:js jN} {Q:Exit->Act->jg->Prop}
theorem M0(t e:jt)(k:T)(x z:jb)(c:P.underlying t=N (.slice e))(d:∀w,(sizeOf e).run P w=.ok k w)(f:∀w,(zeroValue e).run P w=.ok z w)(j:z.cells.size=k)(b:x.cells.size=k)(l:0<k)(m:k<=1000)(w:jg):
 (Instr.buildSlice t 1 #[(0,x)]).run P w=.ok (jf (N ⟨w,0,je⟩) 1 1) (w.alloc (jh x.cells e)):=by
 have g:qN (λa y=>a.setIfInBounds (0+y.2) y.1) ((Array.range k).map (z.cells[·%z.cells.size]!)) x.cells.zipIdx 0 k=x.cells:=by
  rw[vU x.cells _ 0 k b ar,wv,xo,xE ar,qz,xJ]
 unfold Instr.buildSlice;simp[qK c,d,f,Result.andThen,show ¬(2^24<k) by omega,show k≠0 by omega,Instr.fill,b];have i:qN (fun(a:js jb) (x:jb×T)=>a.setIfInBounds x.snd x.fst) ((Array.range k).map (z.cells[·%z.cells.size]!)) x.cells.zipIdx 0 k=x.cells:=by
  have h:=g;simp only[qT]at h;exact h
 have a:(newRow e x.cells).run P w=.ok ⟨w,0,je⟩ (w.alloc (jh x.cells e)):=by simp[newRow,go_sem]
 rw[i,a]
theorem fc{S:jg->Prop}{a:Act}{w:jg}(h:Q .normal a w):cX P ops (NoPanic Q) S f .done a w:=qn h
structure eL(P:qc) where
 t:jt
 e:jt
 k:T
 b:T
 i:TypeInfo
 z:jb
 ht:P.underlying t=N (.slice e)
 hi:P.info? e=N i
 hz:i.zero=N z
 hs:i.size=k
 hb:i.bytes=b
 hzs:z.cells.size=k
 h0:0<k
 hk:k<=1000
 hbb:b<=8000
theorem rB{z:jb}(h:(P.info? e).map (λi=>(i.zero,i.size,i.bytes))=N (N z,f,b)):(P.info? e).isSome=jk:=by
 cases hq:P.info? e with
 |none=>rw[hq]at h;cases h
 |some i=>rfl
theorem Bl{z:jb}(h:(P.info? e).map (λi=>(i.zero,i.size,i.bytes))=N (N z,f,b)):((P.info? e).get (rB h)).zero=N z/\((P.info? e).get (rB h)).size=f/\((P.info? e).get (rB h)).bytes=b:=by
 have a:P.info? e=N ((P.info? e).get (rB h)):=(xK _).symm;generalize(P.info? e).get (rB h)=i at a⊢;rw[a]at h
 simpa using h
def eL.of(t e:jt)(k b:T)(z:jb)(a:P.underlying t=N (.slice e))(h:(P.info? e).map (λi=>(i.zero,i.size,i.bytes))=N (N z,k,b))(c:z.cells.size=k)(d:0<k)(f:k<=1000)(g:b<=8000):eL P:=
 ⟨t,e,k,b,(P.info? e).get (rB h),z,a,(xK _).symm,(Bl h).1,(Bl h).2.1,(Bl h).2.2,c,d,f,g⟩
theorem eL.size(R:eL P)(w:jg):(sizeOf R.e).run P w=.ok R.k w:=by simp[sizeOf,typeInfo,R.hi,R.hs]
theorem eL.zero(R:eL P)(w:jg):(zeroValue R.e).run P w=.ok R.z w:=by simp[zeroValue,typeInfo,R.hi,R.hz]
theorem eL.wp_build(R:eL P){o:jN}{a:Act}{w:jg}{K:Act->jg->Prop}(x:jW)(b:o.op=.buildSlice R.t 1 #[(0,x)])(v:jb)(c:a.eval x=v)(d:v.cells.size=R.k)
 (h:K (a.put o.dst (jf (N ⟨w,0,je⟩) 1 1)) (w.alloc (jh v.cells R.e))):o.wp P a w K Q:=by
 refine IG (v:=jf (N ⟨w,0,je⟩) 1 1) (w':=w.alloc (jh v.cells R.e)) ?_ h;unfold o1;simp only[b,xL,jU,qs,c,Sem.run_bind,M0 R.t R.e R.k v R.z R.ht R.size R.zero R.hzs d R.h0 R.hk w,Result.andThen_ok,Sem.run_pure]
theorem MN{w:jg}{a:js jb}(h:w.heap[f]?=N (jh a e (0,0)))(k:a.size=b):cE w (jf (N ⟨f,0,je⟩) 1 1) b 1 a.toList:=by
 refine⟨by rw[qd,k,Nat.one_mul],_,1,I,jE _,(λe=>by cases e),λ_=>⟨f,0,I,λj d c=>?_⟩⟩;rw[qT];exact ai h (ak c)
theorem eL.wp_append(R:eL P){o:jN}{a:Act}{w:jg}{K:Act->jg->Prop}(s x:jW)(d:o.op=.call {callee:=.builtin .append,args:=#[s,x],argTypes:=#[R.t,R.t]})
 (base:T) (v:jb) (n:T) (xs:A jb) (e:a.eval s=v) (f:w.ownsRow base R.e R.k v n xs) (g:T) (b:js jb) (i:a.eval x=jf (N ⟨g,0,je⟩) 1 1) (j:w.heap[g]?=N (jh b R.e (0,0))) (k:b.size=R.k) (l:∀c∈b.toList,c.oneCell'=jk)
 (p:n<=1000000) (m:base<=w.heap.size)
 (h:∀c w',w'.ownsRow base R.e R.k c (n+1) (xs++b.toList)->w.grownBy w' v.ownBlock->(c.ownBlock=v.ownBlock\/c.ownBlock=N w.heap.size)->K (a.put o.dst c) w'):o.wp P a w K Q:=
 nT s x R.t d base R.e R.i R.z R.k R.b R.ht R.hi R.hz R.hs R.hb R.hzs R.h0 v n xs e f _ 1 b.toList i (MN j k) l (by unfold jX;omega) (by
  have:=R.hbb;have c:(n+1)*R.b<=1000001*8000:=Nat.mul_le_mul Y this
  omega) m h
structure zP(c d:eL P)(base:T)(w w':jg)(u1 u2 a b:jb)(e f:T)(g h:A jb):Prop where
 own1:w'.ownsRow base c.e c.k a e g
 own2:w'.ownsRow base d.e d.k b f h
 sep:∀k,a.ownBlock=N k->b.ownBlock≠N k
 lie1:a.ownBlock=u1.ownBlock\/∀k,a.ownBlock=N k->w.heap.size<=k
 lie2:b.ownBlock=u2.ownBlock\/∀k,b.ownBlock=N k->w.heap.size<=k
 heap:∀k,k<w.heap.size->u1.ownBlock≠N k->u2.ownBlock≠N k->w'.heap[k]?=w.heap[k]?
 bel:jo 0 w w'
theorem iD{w w':jg}{n:T}{z:jb}{xs:A jb}(h:w.ownsRow f e b z n xs)(c:∀g,z.ownBlock=N g->w'.heap[g]?=w.heap[g]?):w'.ownsRow f e b z n xs:=by
 refine⟨h.1,?_⟩
 rcases h.2 with a|⟨g,d,B,sz,a,i,j⟩
 ·exact .inl a
 exact .inr ⟨g,d,B,sz,a,(c g (by rw[sz];rfl)).trans i,j⟩
theorem GH{w w':jg}(h:jo f w w'):jo 0 w w':=h.mono (oj _)
theorem GU{w w':jg}{a:jv T}(h:w.grownBy w' a):jo 0 w w':=⟨h.os,h.tape,h.output,h.size,λk b=>jA b (qQ k)⟩
theorem RO{S:jg->Prop}{f m i:T}{o:jN}{l:bE->bE}{E:Act->Act}{r:bE}{a:Act}{w:jg}(s:ops[b]?=N o)(t:Region.noSelect ops=jk)(u:∀c a e w,Q (.panic c) a w->Q (.panic c) e w)
 (K:nV ops b m=jk) (M:nV ops b i=jk) (c:T->Act->jg->jv jb->Prop) (x:c 0 a w je) (n:∀j a w d,c j a w d->S w)
 (y:∀a w d,c 0 a w d->wpOp P ops Q m (λe w'=>c 1 e w' d) a w) (z:∀a w d,c 1 a w d->wpOp P ops Q i (λe w'=>c 2 e w' d) a w)
 (U:∀j a w,c j a w je->wpOp P ops Q b (λe w'=>∃v,e=a.put o.dst v/\c j a w' (N v)) a w)
 (p:∀a w d,c 2 a w d->c 3 (E a) w d/\(∀R,cX P ops Q S f R (E a) w->cX P ops Q S f (l R) a w)/\∀v R,cX P ops Q S f R ((E a).put o.dst v) w->cX P ops Q S f (l R) (a.put o.dst v) w)
 (B:∀a w v,c 3 a w (N v)->cX P ops Q S f r (a.put o.dst v) w):
 cX P ops Q S f (.w m b (.w i b (l (.o b r)) (.o i (l r))) (.o m (.o i (l r)))) a w:=by
 obtain⟨V,C,W⟩:=Ad s K;obtain⟨X,D,q2⟩:=Ad s M;have F:∀a w v,c 1 a w (N v)->cX P ops Q S f (.o i (l r)) (a.put o.dst v) w:=λa w v h=>by
  refine qY (λH w' g=>?_) (zw (v:=v) D q2 (λk b=>Region.noSelect_spec t i X k b D) u (z a w (N v) h));obtain⟨e,rfl,d⟩:=g;exact .inr ⟨n _ _ _ _ d,λ_=>(p e w' _ d).2.2 v r (B _ _ _ (p e w' _ d).1)⟩
 have e1:∀a w v,c 0 a w (N v)->cX P ops Q S f (.o m (.o i (l r))) (a.put o.dst v) w:=λa w v h=>by
  refine qY (λH w' g=>?_) (zw (v:=v) C W (λk b=>Region.noSelect_spec t m V k b C) u (y a w (N v) h));obtain⟨e,rfl,d⟩:=g;exact .inr ⟨n _ _ _ _ d,λ_=>F _ _ _ d⟩
 have q:∀(j:T) (R:bE) a w,c j a w je->(∀w' v,c j a w' (N v)->cX P ops Q S f R (a.put o.dst v) w')->cX P ops Q S f (.o b R) a w:=λj R a w h hr=>by
  refine qY (λH w' g=>?_) (U j a w h);obtain⟨v,rfl,d⟩:=g;exact .inr ⟨n _ _ _ _ d,λ_=>hr w' v d⟩
 refine⟨qY (λe w' g=>.inr ⟨n _ _ _ _ g,λ_=>?_⟩) (y a w je x),q 0 _ a w x λw' v d=>e1 _ _ _ d⟩;refine⟨qY (λa2 w2 H=>.inr ⟨n _ _ _ _ H,λ_=>?_⟩) (z e w' je g),q 1 _ e w' g λw' v d=>F _ _ _ d⟩;obtain⟨k,h3,-⟩:=p a2 w2 je H;exact h3 _ (q 3 _ _ _ k λw' v d=>B _ _ _ d)
def rU(a:bE->bE)(r:bE):bE:=.w 3 8 (.w 4 8 (a (.o 8 (.o 9 r))) (.o 4 (a (.o 9 r)))) (.o 3 (.o 4 (a (.o 9 r))))
theorem Ae(i n:eL P){S:jg->Prop}{f:T}{a:Act}{w:jg}{r:bE}{T0:bE->bE}{E:Act->Act}{o3 o4 U o9:jN}{r1 r2 rb r3 s1 s2 t1 t2:T}(hs:Region.noSelect ops=jk)(a3:∀c a b w,Q (.panic c) a w->Q (.panic c) b w)
 (a4:nV ops 8 3=jk) (a5:nV ops 8 4=jk) (h3:ops[3]?=N o3) (h4:ops[4]?=N o4) (h8:ops[8]?=N U) (h9:ops[9]?=N o9)
 (g3:o3.guard=je) (g4:o4.guard=je) (g8:U.guard=je) (g9:o9.guard=je) (d3:o3.dst=N r1) (d4:o4.dst=N r2) (d8:U.dst=N rb) (d9:o9.dst=N r3)
 (p3:o3.op=.buildSlice i.t 1 #[(0,.tmp s1)]) (p4:o4.op=.call {callee:=.builtin .append,args:=#[.tmp t1,.tmp r1],argTypes:=#[i.t,i.t]})
 (p8:U.op=.buildSlice n.t 1 #[(0,.tmp s2)]) (p9:o9.op=.call {callee:=.builtin .append,args:=#[.tmp t2,.tmp rb],argTypes:=#[n.t,n.t]})
 (l1:r1<a.tmps.size) (lb:rb<a.tmps.size) (q1:r1≠t1) (q2:r1≠s2) (q3:r2≠s2) (q4:r1≠t2) (q5:r2≠t2) (q6:rb≠t2)
 (hE:∀(b:Act) v,E (b.put (N rb) v)=(E b).put (N rb) v) (a6:∀b:Act,(E b).eval (.tmp s2)=b.eval (.tmp s2)) (ba:∀b:Act,(E b).eval (.tmp t2)=b.eval (.tmp t2)) (bb:∀b:Act,(E b).tmps.size=b.tmps.size)
 (hT:∀(b:Act) (w':jg) R,(∀s,s≠r1->s≠r2->s≠rb->b.eval (.tmp s)=a.eval (.tmp s))->cX P ops Q S f R (E b) w'->cX P ops Q S f (T0 R) b w')
 {x1 x2 u1 u2:jb} (e1:a.eval (.tmp s1)=x1) (q:a.eval (.tmp s2)=x2) (f1:a.eval (.tmp t1)=u1) (f2:a.eval (.tmp t2)=u2) (c1:x1.cells.size=i.k) (c2:x2.cells.size=n.k) (y1:∀c∈x1.cells.toList,c.oneCell'=jk) (y2:∀c∈x2.cells.toList,c.oneCell'=jk)
 {base l o:T} {K aa:A jb} (au:w.ownsRow base i.e i.k u1 l K) (ax:w.ownsRow base n.e n.k u2 o aa) (ay:∀k,u1.ownBlock=N k->u2.ownBlock≠N k) (m1:l<=1000000) (m2:o<=1000000) (WY:base<=w.heap.size)
 (a1:∀w',(∀k,k<w.heap.size->u1.ownBlock≠N k->u2.ownBlock≠N k->w'.heap[k]?=w.heap[k]?)->w.heap.size<=w'.heap.size->S w')
 (hQ:∀z1 z2 d c w',zP i n base w w' u1 u2 d c (l+1) (o+1) (K++x1.cells.toList) (aa++x2.cells.toList)->cX P ops Q S f r (((E ((a.put (N r1) z1).put (N r2) d)).put (N rb) z2).put (N r3) c) w'):
 cX P ops Q S f (rU T0 r) a w:=by
 have z1:∀k,u1.ownBlock=N k->k<w.heap.size:=λk c=>(au.lt k c).2
 have z2:∀k,u2.ownBlock=N k->k<w.heap.size:=λk c=>(ax.lt k c).2
 have bc:∀k,w.heap.size<=k->u1.ownBlock≠N k:=λk c e=>by have:=z1 k e;omega
 unfold rU;refine RO h8 hs a3 a4 a5 (E:=E) (λj b w' V=>jo 0 w w'/\(∀k,k<w.heap.size->u1.ownBlock≠N k->w'.heap[k]?=w.heap[k]?)/\
  (∀v,V=N v->∃g,v=jf (N ⟨g,0,je⟩) 1 1/\w.heap.size<=g/\w'.heap[g]?=N (jh x2.cells n.e (0,0)))/\
  match j with
  |0=>b=a/\w'.ownsRow base i.e i.k u1 l K
  |1=>∃g,b=a.put (N r1) (jf (N ⟨g,0,je⟩) 1 1)/\w'.ownsRow base i.e i.k u1 l K/\w.heap.size<=g/\w'.heap[g]?=N (jh x1.cells i.e (0,0))
  |j+2=>∃z d,b=(if j=0 then id else E) ((a.put (N r1) z).put (N r2) d)/\w'.ownsRow base i.e i.k d (l+1) (K++x1.cells.toList)/\(d.ownBlock=u1.ownBlock\/∀k,d.ownBlock=N k->w.heap.size<=k)/\
   ∀g,V=N (jf (N ⟨g,0,je⟩) 1 1)->∀k,d.ownBlock=N k->k≠g)
  ⟨j9 _ _,λ_ _ _=>rfl,(λv e=>by cases e),rfl,au⟩ (λ_ _ _ _ H=>a1 _ (λk c l _=>H.2.1 k c l) H.1.size) ?_ ?_ ?_ ?_ ?_
 ·rintro W p V ⟨b,t,B,rfl,m⟩
  refine Ay h3 g3 (i.wp_build _ p3 x1 e1 c1 ?_);rw[d3];have u:=ao p (jh x1.cells i.e);refine⟨b.trans (GH u),λk c x=>(u.block k (jB c b.size)).trans (t k c x),λv e=>?_,_,I,cL m u,b.size,jC p _⟩;obtain⟨g,rfl,D,y⟩:=B v e;exact⟨g,I,D,av y u⟩
 ·rintro W p V ⟨b,t,B,g,rfl,m,bd,Yk⟩
  refine Ay h4 g4 (i.wp_append _ _ p4 base u1 l K ((iq q1).trans f1) m g x1.cells (B6 l1) Yk c1 y1 m1 (jH WY b.size) ?_);intro v' w' ad C X;rw[d4];have F:v'.ownBlock=u1.ownBlock\/∀k,v'.ownBlock=N k->w.heap.size<=k:=by
   rcases X with h|h
   ·exact .inl h
   exact .inr λk e=>by rw[h]at e;cases e;exact b.size
  refine⟨b.trans (GU C),λk c x=>(C.block k (jB c b.size) (λe=>x e.symm)).trans (t k c x),λv e=>?_,_,_,I,ad,F,λgb e k M=>?_⟩
  ·obtain⟨gb,rfl,D,y⟩:=B v e
   exact⟨gb,I,D,(C.block gb (jP.1 y).1 (λe=>bc gb D e.symm)).trans y⟩
  obtain⟨a2,e',D,y⟩:=B _ e;obtain rfl:gb=a2:=ak e';have bf:=(jP.1 y).1
  rcases X with h|h
  ·rw[h]at M
   have:=z1 k M;omega
  rw[h]at M
  cases M
  omega
 ·intro j W p H
  obtain⟨b,t,B,H⟩:=H;have bd:W.eval (.tmp s2)=x2:=by
   match j,H with
   |0,⟨h,_⟩=>rw[h];exact q
   |1,⟨g,h,_⟩=>rw[h];exact(iq q2).trans q
   |j+2,⟨z,d,h,_⟩=>
    rw[h];have h0:((a.put (N r1) z).put (N r2) d).eval (.tmp s2)=x2:=(iq q3).trans ((iq q2).trans q)
    by_cases a2:j=0
    ·rw[jp a2];exact h0
    rw[jq a2];exact(a6 _).trans h0
  refine Ay h8 g8 (n.wp_build _ p8 x2 bd c2 ?_);have u:=ao p (jh x2.cells n.e);refine⟨_,I,b.trans (GH u),λk c x=>(u.block k (jB c b.size)).trans (t k c x),λv e=>?_,?_⟩
  ·injection e with e
   exact⟨_,e.symm,b.size,jC p _⟩
  match j,H with
  |0,⟨h,m⟩=>exact⟨h,cL m u⟩
  |1,⟨g,h,m,D,y⟩=>exact⟨g,h,cL m u,D,av y u⟩
  |j+2,⟨z,d,h,m,F,_⟩=>
   refine⟨z,d,h,cL m u,F,λg e k M=>?_⟩;have h1:p.heap.size=g:=ak e;have:=(m.lt k M).2;omega
 ·rintro W p V ⟨b,t,B,z,d,rfl,m,F,x⟩
  refine⟨⟨b,t,B,z,d,I,m,F,x⟩,λR h=>?_,λv R h=>?_⟩
  ·exact hT _ p R (λs l o j=>(iq (Ne.symm o)).trans (iq (Ne.symm l))) h
  rw[d8]at h⊢;exact hT _ p R (λs l o j=>(iq (Ne.symm j)).trans ((iq (Ne.symm o)).trans (iq (Ne.symm l)))) (by rw[hE];exact h)
 rintro W p v ⟨b,t,B,z,d,rfl,m,F,x⟩;obtain⟨gb,rfl,D,y⟩:=B v I;replace x:=x gb I;obtain⟨u,s⟩:=J (E ((a.put (N r1) z).put (N r2) d));have H:u.eval (.tmp t2)=u2/\u.tmps.size=a.tmps.size:=by
  rw[s];exact⟨(ba _).trans ((iq q5).trans ((iq q4).trans f2)),(bb _).trans (by rw[yQ,yQ])⟩
 show cX P ops Q S f (.o 9 r) (Act.put (E ((a.put (N r1) z).put (N r2) d)) U.dst _) p;rw[<-s,d8];have R:p.ownsRow base n.e n.k u2 o aa:=iD ax λg j=>t g (z2 g j) (λe=>ay g e j)
 refine cV h9 λK' V=>?_
 rw[jp (by unfold Region.wanted;simp[g9])];refine n.wp_append _ _ p9 base u2 o aa ((iq q6).trans H.1) R gb x2.cells (B6 (by rw[H.2];exact lb)) y c2 y2 m2 (jH WY b.size) λv' w' ad C X=>V _ _ (a1 _ (λk c l o=>(C.block k (jB c b.size) (λe=>o e.symm)).trans (t k c l)) (jH b.size C.size)) λ_=>?_
 rw[d9,s];have M:∀k,d.ownBlock=N k->u2.ownBlock≠N k:=λk e q=>by
  rcases F with h|h
  ·rw[h]at e;exact ay k e q
  have:=h k e;have:=z2 k q;omega
 refine hQ z _ d v' w' ⟨iD m λg j=>C.block g (m.lt g j).2 (λe=>M g j e.symm),ad,λk e q=>?_,F,?_,λk c l o=>(C.block k (jB c b.size) (λe=>o e.symm)).trans (t k c l),b.trans (GU C)⟩
 ·rcases X with h|h
  ·rw[h]at q;exact M k e q
  rw[h]at q
  cases q
  have:=(m.lt _ e).2;omega
 rcases X with h|h
 ·exact .inl h
 exact .inr λk e=>by rw[h]at e;cases e;exact b.size
end
end
section
theorem yh(w:jg)(Z C:js jb)(t:jt):(w.alloc (jh Z t)).setRow w.heap.size C=w.alloc (jh C t):=by
 have h:∀k:T,((w.alloc (jh Z t)).setRow w.heap.size C).heap[k]?=(w.alloc (jh C t)).heap[k]?:=by
  intro k
  by_cases a:k=w.heap.size
  ·subst a;exact(j4 _ _ _ _ _ _ (jC w _)).trans (jC w _).symm
  rw[qo _ _ _ _ a];show(w.heap.push _)[k]?=(w.heap.push _)[k]?;rw[xM,xM,jq a,jq a]
 have a:((w.alloc (jh Z t)).setRow w.heap.size C).heap=(w.alloc (jh C t)).heap:=Array.ext_getElem? h;show({w with heap:=_}:jg)={w with heap:=_};exact jR (λH=>({w with heap:=H}:jg)) a
section
variable {P:qc} {ops:js jN} {Q:Exit->Act->jg->Prop}
structure VarT(P:qc) where
 t:jt
 n:T
 Z:js jb
 d:TypeDesc
 hu:P.underlying t=N d
 hd:d.isRow=jk
 hi:(P.info? t).map (·.size)=N n
 hZ:Z.size=n
 hal:∀w,(Instr.alloc t jk (jZ #[])).run P w=.ok (jG (N ⟨w,0,je⟩)) (w.alloc (jh Z t))
variable (V:VarT P) {o:jN} {rest:A jN} {a:Act} {w:jg}
theorem VarT.made(b:o.guard=je)(c:o.op=.alloc V.t)(h:j6 P ops Q rest (a.put o.dst (jG (N ⟨w,0,je⟩))) (w.alloc (jh V.Z V.t))):j6 P ops Q (o::rest) a w:=
 jO b λ_ d=>gM V.t c V.Z V.hal (d _ _ h)
theorem VarT.store(d:o.guard=je){x y:jW}(e:o.op=.store V.t x y){g:T}(f:a.eval x=jG (N ⟨g,0,je⟩))(C:js jb)(i:a.eval y=jn C)(c:C.size=V.n)(j:C.all (·.oneCell')=jk)
 {b:js jb} (k:w.heap[g]?=N (jh b V.t (0,0))) (l:b.size=V.n) (h:j6 P ops Q rest (a.put o.dst qf) (w.setRow g C)):j6 P ops Q (o::rest) a w:=
 jO d λ_ m=>j8 V.t x y e g C f i V.t b k (by rw[c];exact V.hi) (l.trans c.symm) j (m _ _ h)
theorem VarT.first(b:o.guard=je){x y:jW}(c:o.op=.store V.t x y)(d:a.eval x=jG (N ⟨w,0,je⟩))(C:js jb)(e:a.eval y=jn C)(f:C.size=V.n)(g:C.all (·.oneCell')=jk)
 (h:j6 P ops Q rest (a.put o.dst qf) (w.alloc (jh C V.t))):j6 P ops Q (o::rest) a (w.alloc (jh V.Z V.t)):=
 V.store b c d C e f g (jC w _) V.hZ (by rw[yh];exact h)
theorem VarT.load(c:Region.wanted o (yielded ops a.tmps)=jk){x:jW}(d:o.op=.load V.t x){g f:T}(e:a.eval x=jG (N ⟨g,f,je⟩))(b:A jb)(i:b.length=V.n)(j:w.rangeAt g f b)
 (h:j6 P ops Q rest (a.put o.dst (jn b.toArray)) w):j6 P ops Q (o::rest) a w:=
 ei c (eF o a V.t x d g f e b V.d j V.hu V.hd (by rw[i];exact V.hi)) h
theorem VarT.loadA(b:Region.wanted o (yielded ops a.tmps)=jk){x:jW}(c:o.op=.load V.t x){g:T}(d:a.eval x=jG (N ⟨g,0,je⟩))(C:js jb)(e:C.size=V.n){t:jt}(f:w.heap[g]?=N (jh C t (0,0)))
 (h:j6 P ops Q rest (a.put o.dst (jn C)) w):j6 P ops Q (o::rest) a w:=by
 refine V.load b c d C.toList (by rw[qd];exact e) (λj v i=>?_) (by rw[xJ];exact h);rw[qT];exact ai f (ak i)
end
end
section
open Go.RowKit Go.Maps Go.Sort Go.Shelf
structure fu{α β:Type}(p:α->β)(c:α->α->ja):Prop where
 eq:∀x y,c x y=0↔p x=p y
 anti:∀x y,c x y<0↔0<c y x
 trans:∀x y z,c x y<0->c y z<0->c x z<0
 depl:∀x y z,p x=p y->c x z=c y z
 depr:∀x y z,p x=p y->c z x=c z y
theorem fu.lex{i:Type}{p:H->C}{q:H->i}{c d:H->H->ja}(a:fu p c)(f:fu q d):fu (λx=>(p x,q x)) (λx y=>if c x y≠0 then c x y else d x y) where
 eq x y:=by
  by_cases h:c x y=0
  ·rw[jq Y,f.eq]
   have:=(a.eq x y).1 h;simp[this]
  rw[jp h];have:¬p x=p y:=λe=>h ((a.eq x y).2 e)
  simp[h,this]
 anti x y:=by
  by_cases h:c x y=0
  ·have b:c y x=0:=(a.eq y x).2 ((a.eq x y).1 h).symm
   rw[jq Y,jq Y];exact f.anti x y
  have b:¬c y x=0:=λe=>h ((a.eq x y).2 ((a.eq y x).1 e).symm)
  rw[jp h,jp b];exact a.anti x y
 trans x y z hxy hyz:=by
  by_cases h:c x y=0
  ·have e:=(a.eq x y).1 h
   rw[jq Y]at hxy
   by_cases b:c y z=0
   ·rw[jq Y]at hyz
    rw[jq (by rw[a.depl x y z e];omega)];exact f.trans x y z hxy hyz
   rw[jp b]at hyz;rw[jp (by rw[a.depl x y z e];exact b),a.depl x y z e];exact hyz
  rw[jp h]at hxy
  by_cases b:c y z=0
  ·have e:=(a.eq y z).1 b
   rw[jp (by rw[<-a.depr y z x e];exact h),<-a.depr y z x e];exact hxy
  rw[jp b]at hyz;have g:=a.trans x y z hxy hyz;rw[jp Y];exact g
 depl x y z e:=by
  have b:=jR Prod.fst e;have g:=jR Prod.snd e;simp only at b g;rw[a.depl x y z b,f.depl x y z g]
 depr x y z e:=by
  have b:=jR Prod.fst e;have g:=jR Prod.snd e;simp only at b g;rw[a.depr x y z b,f.depr x y z g]
theorem fu.int(p:α->ja):fu p (λx y=>cC (p x) (p y)) where
 eq x y:=by unfold cC;split<;>(try split)<;>omega
 anti x y:=by unfold cC;split<;>(try split)<;>(try split)<;>omega
 trans x y z:=by
  intro c d;unfold cC at*
  by_cases a:p x<p y
  ·by_cases b:p y<p z
   ·rw[jp Y];decide
   rw[jq b]at d;split at d<;>omega
  rw[jq a]at c;split at c<;>omega
 depl x y z e:=by simp only[e]
 depr x y z e:=by simp only[e]
theorem Cv:∀(a b:LBy),dF a b=0↔a=b
 |[],[]=>by simp[dF]
 |[],_ ::_=>by simp[dF]
 |_ ::_,[]=>by simp[dF]
 |a::c,b::d=>by
  unfold dF
  by_cases h:a=b
  ·rw[jp h,Cv c d,h];simp
  rw[jq h];have:¬(a::c=b::d):=λe=>h (by injection e)
  split<;>simp[this]
theorem IU{a b:BitVec 8}(h:a≠b):a<b↔¬b<a:=by
 have:a.toNat≠b.toNat:=λe=>h (xd e)
 rw[r5,r5];omega
theorem F6:∀(a b:LBy),dF a b<0↔0<dF b a
 |[],[]=>by simp[dF]
 |[],_ ::_=>by simp[dF]
 |_ ::_,[]=>by simp[dF]
 |a::d,b::e=>by
  unfold dF
  by_cases h:a=b
  ·rw[jp h,jp h.symm];exact F6 d e
  rw[jq h,jq (Ne.symm h)]
  by_cases c:a<b
  ·rw[jp c,jq ((IU h).1 c)];decide
  rw[jq c,jp ((IU (Ne.symm h)).2 c)];decide
theorem Jj{a b:BitVec 8}{V:LBy}:dF (a::p) (b::V)<0↔a<b\/a=b/\dF p V<0:=by
 rw[dF]
 by_cases h:a=b
 ·rw[jp h]
  subst h;have:¬a<a:=by rw[r5];omega
  simp[this]
 rw[jq h]
 by_cases c:a<b
 ·rw[jp c];simp[c]
 rw[jq c];simp[h,c]
theorem Cu:∀(a b c:LBy),dF a b<0->dF b c<0->dF a c<0
 |[],[],c,h,_=>by simp[dF]at h
 |[],_ ::_,[],_,h=>by simp[dF]at h
 |[],_ ::_,_ ::_,_,_=>by simp[dF]
 |_ ::_,[],_,h,_=>by simp[dF]at h
 |_ ::_,_ ::_,[],_,h=>by simp[dF]at h
 |a::f,b::g,c::i,e,d=>by
  rw[Jj]at*
  rcases e with e|⟨rfl,e⟩
  ·rcases d with d|⟨rfl,d⟩
   ·exact .inl (by rw[r5]at*;omega)
   exact .inl e
  rcases d with d|⟨rfl,d⟩
  ·exact .inl d
  exact .inr ⟨I,Cu f g i e d⟩
theorem fu.bytes(p:α->LBy):fu p (λx y=>dF (p x) (p y)) where
 eq x y:=Cv _ _
 anti x y:=F6 _ _
 trans x y z:=Cu _ _ _
 depl x y z e:=by simp only[e]
 depr x y z e:=by simp only[e]
theorem Tl:fu (λx:aM=>(x.since,x.com.author,x.id)) kQ:=
 (fu.int aM.since).lex ((fu.int λx:aM=>x.com.author).lex (fu.bytes aM.id))
theorem fu.on{a:Type}{p:H->C}{c:H->H->ja}(h:fu p c)(f:a->H):fu (λx=>p (f x)) (λx y=>c (f x) (f y)) where
 eq x y:=h.eq _ _
 anti x y:=h.anti _ _
 trans x y z:=h.trans _ _ _
 depl x y z e:=h.depl _ _ _ e
 depr x y z e:=h.depr _ _ _ e
theorem fu.swo{p:H->C}{c:H->H->ja}(h:fu p c):SWO (ltOf c) where
 irrefl x:=by
  have:=(h.eq x x).2 I;simp only[ltOf,decide_eq_false_iff_not];omega
 trans x y z h1 h2:=by
  simp only[ltOf,decide_eq_true_eq]at*;exact h.trans x y z h1 h2
 ntrans x y z h1 h2:=by
  simp only[ltOf,decide_eq_false_iff_not]at*;intro a
  by_cases b:c x y=0
  ·rw[h.depl x y z ((h.eq x y).1 b)]at a;exact h2 a
  exact h2 (h.trans y x z ((h.anti y x).2 Y) a)
theorem fu.tot{p:H->C}{c:H->H->ja}(h:fu p c){x y:H}(b:ltOf c x y=jr)(a:ltOf c y x=jr):p x=p y:=by
 simp only[ltOf,decide_eq_false_iff_not]at b a
 by_cases e:c x y=0
 ·exact(h.eq x y).1 e
 exact jA ((h.anti y x).2 Y) a
theorem FE{f:H->C}:∀{l:A H},(l.map f).Nodup->∀x∈l,∀y∈l,f x=f y->x=y
 |[],_,x,g,_,_,_=>by cases g
 |a::l,d,x,g,y,h,e=>by
  rw[jU,sv]at d
  rcases jD.1 g with c|c
  ·rcases jD.1 h with b|b
   ·rw[c,b]
   exact jA (jy.2 ⟨y,b,by rw[<-e,c]⟩) d.1
  rcases jD.1 h with b|b
  ·exact jA (jy.2 ⟨x,c,by rw[e,b]⟩) d.1
  exact FE d.2 x c y b e
end
section
open Go.RowKit Go.Maps Go.Sort Go.Shelf
def Grw(w w':jg):Prop:=∃q os,w'=grow (w.drewN q) os
theorem Grw.refl(w:jg):Grw w w:=⟨0,#[],(grow_empty (w.drewN 0)).symm⟩
theorem Grw.trans{a b c:jg}(h:Grw a b)(k:Grw b c):Grw a c:=by
 obtain⟨q,os,rfl⟩:=h;obtain⟨d,e,rfl⟩:=k;refine⟨q+d,os++e,?_⟩;show({a with heap:=a.heap++os++e,drawn:=a.drawn+q+d}:jg)={a with heap:=a.heap++(os++e),drawn:=a.drawn+(q+d)};rw[Array.append_assoc,qi]
theorem Grw.alloc(w:jg)(o:Obj):Grw w (w.alloc o):=⟨0,#[o],by
 show({w with heap:=w.heap.push o}:jg)={w with heap:=w.heap++ #[o]}
 congr 1⟩
theorem Grw.drew(w:jg):Grw w w.drew:=⟨1,#[],(grow_empty (w.drewN 1)).symm⟩
theorem Grw.drewN(w:jg)(n:T):Grw w (w.drewN n):=⟨n,#[],(grow_empty (w.drewN n)).symm⟩
theorem Grw.size(h:Grw w w'):w.heap.size<=w'.heap.size:=by
 obtain⟨q,os,rfl⟩:=h;simp[grow,World.drewN]
theorem Grw.heap(h:Grw w w'){k:T}(a:k<w.heap.size):w'.heap[k]?=w.heap[k]?:=by
 obtain⟨q,os,rfl⟩:=h;show(w.heap++os)[k]?=_;rw[xN a]
theorem Grw.below(h:Grw w w'):jo w w w':=by
 refine⟨?_,?_,?_,h.size,λk a=>h.heap a⟩<;>(obtain⟨q,os,rfl⟩:=h;rfl)
theorem Grw.keep(h:Grw w w'){g:T}{o:Obj}(a:w.heap[g]?=N o):w'.heap[g]?=N o:=
 (h.heap (jP.1 a).1).trans a
theorem zS[Inhabited H]{enc:H->A jb}{k m off:T}{w:jg}{a:T}{d:js H}{os:js Obj}{g:T}(c:g<w.heap.size)(b:g≠a):(sortWorldK enc k w a off m d os).heap[g]?=w.heap[g]?:=by
 unfold sortWorldK putRowK putRow mapBlock Go.Sort.ahead Go.Sort.grow;simp only;rw[xN (by simp;omega),xq,jq (Ne.symm b)]
theorem OE[Inhabited H]{enc:H->A jb}{k m off:T}{w:jg}{a:T}{d:js H}{os:js Obj}:w.heap.size<=(sortWorldK enc k w a off m d os).heap.size:=by
 unfold sortWorldK putRowK putRow mapBlock Go.Sort.ahead Go.Sort.grow;simp
end
section
open Go.RowKit Go.Maps Go.Sort Go.Shelf
theorem DN:∀(a b:LBy),Lib.compareBytes (Lib.bytesOf (a.map λx=>(x.toNat:ja))) (Lib.bytesOf (b.map λx=>(x.toNat:ja)))=dF a b
 |[],[]=>rfl
 |[],_ ::_=>rfl
 |_ ::_,[]=>rfl
 |x::a,y::b=>by
  have g:=DN a b;unfold Lib.bytesOf at g⊢;rw[jU,jU,jU,jU,Lib.compareBytes,g,dF];have i:=x.isLt;have j:=y.isLt;have c:∀z:BitVec 8,((z.toNat:ja).toNat.toUInt8).toNat=z.toNat:=λz=>by have:=z.isLt;simp
  by_cases h:x=y
  ·subst h
   rw[jq (UInt8.lt_irrefl _),jq (UInt8.lt_irrefl _),jp I]
  have k:x.toNat≠y.toNat:=λe=>h (xd e)
  rw[jq h]
  by_cases d:x<y
  ·have f:x.toNat<y.toNat:=d
   rw[jp d,jp (by rw[UInt8.lt_iff_toNat_lt,c,c];exact f)]
  have f:¬x.toNat<y.toNat:=d;rw[jq d,jq (by rw[UInt8.lt_iff_toNat_lt,c,c];exact f),jp (by rw[UInt8.lt_iff_toNat_lt,c,c];omega)]
theorem CI(h:w.rangeAt M R (p.map v8))(c:T):(Extern.Bytes.bytesOf (jf (N ⟨M,R,je⟩) p.length c)).run jl w=.ok ⟨(Lib.bytesOf (p.map λx=>(x.toNat:ja))).toArray⟩ w:=by
 have d:=Lib.run_loadBytesX (P:=jl) w (p.map λx=>(x.toNat:ja)) ⟨M,R,je⟩ .empty (λj x a=>by
  have e:(⟨M,R,je⟩:jM).add j=⟨M,R+j,je⟩:=by unfold Addr.add;split<;>simp_all
  rw[e];refine h j _ ?_;rw[p6]at a⊢
  cases hq:p[j]? with
  |none=>rw[hq]at a;cases a
  |some z=>rw[hq]at a;injection a with a;rw[<-a];rfl)
 rw[ju]at d;simp only[Extern.Bytes.bytesOf];rw[d];simp
theorem JX{V:LBy}(g:w.rangeAt M R (p.map v8))(h:w.rangeAt m y (V.map v8))(e f:T):
 (Extern.BytealgCompare.compare #[jf (N ⟨M,R,je⟩) p.length e,jf (N ⟨m,y,je⟩) V.length f]).run jl w=.ok (jc jd (dF p V)) w:=by
 show(do pure (goInt (Extern.BytealgCompare.cmp (<-Extern.Bytes.bytesOf (jf (N ⟨M,R,je⟩) p.length e)) (<-Extern.Bytes.bytesOf (jf (N ⟨m,y,je⟩) V.length f)))):Sem jb).run jl w=_;simp only[Sem.run_bind,CI g,CI h,Sem.run_pure,Result.andThen];rw[Lib.cmp_eq,<-DN]
 rfl
theorem Qa{b c d f:T}{l m:LBy}(g:w.rangeAt b c (l.map v8))(h:w.rangeAt d f (m.map v8))(i j k n:T)(o:k=l.length)(p:n=m.length):
 jz jl 171 #[jf (N ⟨b,c,je⟩) k i,jf (N ⟨d,f,je⟩) n j] w λe w'=>e=jw (jc jd (dF l m))/\w'=w:=by
 have a:=JX g h i j;rw[<-o,<-p]at a;generalize dF l m=r at a⊢;clear g h o p
 go_enter func171,ntmps171
 go_wp2_with fail
 rw[run_callFunc_extern func224 af af af (e:=Extern.BytealgCompare.compare) af,a];simp only[Result.andThen];rw[Oper.upon_value]
 go_wp2_with fail
 go_ret;exact⟨I,I⟩
end
theorem BC(g:Grp)(a:ja)(l:A ap):(dV g a l).length<=1000000:=by
 unfold dV
 split
 ·rename_i h
  obtain⟨b,c,d⟩:=lB.1 h;obtain⟨e,f⟩:=vQ b c d;have i:=Cb (aX g.tree l) (ib a) 1;rw[Aw e f]at i;show(fz (aX g.tree l) (ib a) 1).length<=_;omega
 simp
theorem DD(a:ja)(l:A ap):(dw a l).length<=l.length:=by
 unfold dw fj;rw[(ms _ _).length_eq];exact qS _ _
theorem dc{B:Act}{x:jW}{X:js jb}{t:jt}{d:TypeDesc}(g:jl.underlying e=N d)(i:d.isRow=jk)(j:(jl.info? e).map (·.size)=N X.size)(k:o.op=.load e x)(m:B.eval x=jG (N ⟨M,0,je⟩))(n:w.heap[M]?=N (jh X t (0,0))):
 (o1 B.eval o).run jl w=.ok (.value (jn X)) w:=by
 have h:=eF (P:=jl) o B e x k M 0 m X.toList _ (vP (t:=t) (l:=X.toList) (ak n)) g i (by rw[qd];exact j)
 simpa using h
theorem P6{a:Act}{parts:js (T×jW)}{f e:ja}{b:js jb}(c:b.size=32)(d:o.op=.build 41 parts)(g:(parts.map fun(i,x)=>(i,a.eval x))= #[(0,jc jd f),(1,jc jd e),(2,jn b)])(W:jg):
 (o1 a.eval o).run jl W=.ok (.value (jn (#[jc jd f,jc jd e]++b++ #[jf je 0 0,jf je 0 0]))) W:=by
 simp only[o1,d,g,Sem.run_bind,Ly f e b c,Result.andThen_ok,Sem.run_pure]
theorem Aa{B:Act}{P:jN}(b:P.op=.build 41 #[])(W:jg):
 (o1 B.eval P).run jl W=.ok (.value (jn (aB ⟨0,0,qu 32 0#8,[],[]⟩ (jf je 0 0) (jf je 0 0)).toArray)) W:=by
 simp only[o1,b,xL,qs,Sem.run_bind,Qm,Result.andThen_ok,Sem.run_pure]
theorem Rn(f e:ja)(d:LBy)(g:d.length=32):∃X c:js jb,c=(d.map v8).toArray/\c.size=32/\X= #[jc jd f,jc jd e]++c++ #[jf je 0 0,jf je 0 0]/\
 X=(aB ⟨f,e,d,[],[]⟩ (jf je 0 0) (jf je 0 0)).toArray/\(jl.info? 41).map (·.size)=N X.size/\X.all (·.oneCell')=jk/\X.size=36:=by
 have h:(aB ⟨f,e,d,[],[]⟩ (jf je 0 0) (jf je 0 0)).toArray.size=36:=by rw[jL,eH g]
 have a: #[jc jd f,jc jd e]++(d.map v8).toArray++ #[jf je 0 0,jf je 0 0]=(aB ⟨f,e,d,[],[]⟩ (jf je 0 0) (jf je 0 0)).toArray:=by unfold aB;simp
 refine⟨_,_,I,by rw[jL,ju];exact g,I,a,?_,?_,?_⟩
 ·rw[a,h];kernel_rfl
 ·rw[a,qb]
  intro i b;simp only[aB,vi,jD,jQ,ql,or_false]at b
  rcases b with rfl|rfl|b|rfl|rfl
  ·rfl
  ·rfl
  ·exact iU _ i b
  ·rfl
  rfl
 rw[a];exact h
theorem JE(g:Grp)(c:Cmt):∀a,a=aH c->∀b v:jb,aB ⟨g.folder,c.epoch,a,[],[]⟩ b v=aB (aC g c) b v:=by
 intro a h b v;rw[h];clear h;unfold aC;generalize aH c=i;dsimp only[aB]
theorem Me(g:Grp)(c:Cmt):(aC g c).last.length=32:=by
 have h:=dQ c;unfold aC
 revert h
 generalize aH c=i;exact λh=>h
theorem Sc(g:Grp)(c:Cmt)(W:jg)(a v:jb)(b:EM.At W a (fK (gd g.mem c.chg c.epoch)))(d:bJ W v (gr (aX g.tree c.chg) c.author c.path)):bL W (aC g c) a v:=by
 have h:=Me g c
 revert h
 unfold aC;generalize aH c=i;exact λh=>⟨b,d,h⟩
def Ci(g:Grp)(c:Cmt)(w:jg)(e:Ending)(w':jg):Prop:=
 (cN g c=0->∃vm vt,e=jw (jZ #[jn (aB (aC g c) vm vt).toArray,jc jd 0])/\bL w' (aC g c) vm vt/\Fr w.heap.size vm/\Fr w.heap.size vt)/\
 (cN g c≠0->e=jw (jZ #[jn (aB ku (jf je 0 0) (jf je 0 0)).toArray,jc jd (cN g c)]))/\jo w w w'
theorem yS(g:Grp)(vm vt:jb)(c:Cmt)(q:CQ)(w:jg)(h:bL w g vm vt)(hC:aW (·<w.heap.size) w c q)(i:cZ (aR c))(hT:bH w)(bi:g.mem.length<=900000)(bm:g.tree.length<=600000):
 jz jl 9 #[jn (aB g vm vt).toArray,jn (aE c q).toArray] w (Ci g c w):=by
 obtain⟨er,V⟩:=J (cN g c);obtain⟨NG,b⟩:=J (aC g c);obtain⟨P,d⟩:=J (Ci g c w);have HP:ji (∀e w',((er=0->∃vm vt,e=jw (jZ #[jn (aB NG vm vt).toArray,jc jd 0])/\bL w' NG vm vt/\Fr w.heap.size vm/\Fr w.heap.size vt)/\(er≠0->e=jw (jZ #[jn (aB ku (jf je 0 0) (jf je 0 0)).toArray,jc jd er]))/\jo w w w')->P e w'):=O (by
  rw[d,V,b];exact λe w' h=>h)
 rw[<-d];clear d;have cs:ji (∀F,F=aH c->∀ad v:jb,aB ⟨g.folder,c.epoch,F,[],[]⟩ ad v=aB NG ad v):=O (by rw[b];exact JE g c);have ct:ji (∀(W:jg) (ad v:jb),EM.At W ad (fK (gd g.mem c.chg c.epoch))->bJ W v (gr (aX g.tree c.chg) c.author c.path)->bL W NG ad v):=O (by rw[b];exact Sc g c);clear b;have a2:=O V;have au:=rA (vm:=vm) (vt:=vt) h.llen;have ax:(jl.info? 48).map (·.size)=N (aE c q).toArray.size:=by rw[jL,dl c q hC.plen hC.clen];exact mQ
 have VS:=lP (vm:=vm) (vt:=vt) h.llen;have bn:=iO c q hC.plen hC.clen;have a1:∀(w:jg) (b:T),w.heap[b]?=N (jh (aB g vm vt).toArray 41 (0,0))->w.rangeAt b 2 (g.last.map v8):=λw b hb=>dG.last ⟨hb,h.llen⟩
 have a4:∀(w:jg) (b:T),w.heap[b]?=N (jh (aE c q).toArray 48 (0,0))->w.rangeAt b 2 (c.parent.map v8):=λw b hb j v hj=>by
  have d:=(jT.1 hj).1;rw[ju,hC.plen]at d;have h1:=C5 c q hC.plen d;refine(ai hb (ak h1)).trans ?_;rw[<-hj,p6,mz (by rw[hC.plen];exact d)];simp[qA,hC.plen,d]
 have HV:ji (∀W,bL W g vm vt->jz jl 24 #[jn (aB g vm vt).toArray] W λe w'=>e=jw (.bool (fH g))/\jo W W w'):=O (λW d=>BU g vm vt W d Y Y);have HK:ji (∀W,aW (·<W.heap.size) W c q->jz jl 25 #[jn (aE c q).toArray] W λe w'=>e=jw (jc jd (gW c))/\jo W W w'):=O (λW d=>MI c q W d i);have HN:ji (∀W,bL W g vm vt->EC.At W q.vc c.chg->jz jl 26 #[jn (aB g vm vt).toArray,jc jd c.author,q.vc] W λe w'=>∃ad,e=jw (jZ #[ad,jc jd (du g c.author c.chg)])/\w'.ownsRow W 92 4 ad (dV g c.author c.chg).length (EB0.flat (dV g c.author c.chg))/\jo W W w'):=O (λW d f=>Gn g vm vt _ _ _ W d f Y Y i.lens.1);have bk:ji (∀W,dD g->eX c.chg->gN g c.author c.chg->bL W g vm vt->EC.At W q.vc c.chg->jz jl 33 #[jn (aB g vm vt).toArray,jc jd c.author,q.vc] W λe w'=>e=jw (jc jd (dT g c.author c.chg))/\jo W W w'):=O (λW hv hf hp d f=>Gb g vm vt _ _ _ W d (uz hv) Y f (λhn=>by
  have h0:=hp.own;rw[hn]at h0;obtain⟨x,r,h1,-⟩:=hp.first (by have:=hv.ep.1;have h2:=of_decide_eq_false h0.symm;omega);rw[h1];simp))
 have bK:ji (∀W,aW (·<W.heap.size) W c q->bH W->jz jl 34 #[jn (aE c q).toArray] W λe w'=>∃D,e=jw (jf (N ⟨D,0,je⟩) 32 32)/\bD w' (jf (N ⟨D,0,je⟩) 32 32) (dt c)/\jo W W w'):=O (λW d hT=>Hn c q W d i hT);have bM:ji (∀W,aW (·<W.heap.size) W c q->bH W->jz jl 16 #[jn (aE c q).toArray] W λe w'=>e=jw (jn ((aH c).map v8).toArray)/\jo W W w'):=O (λW d hT=>ta c q W d i hT);have bp:ji (∀W,eX c.chg->bL W g vm vt->EC.At W q.vc c.chg->jz jl 36 #[jn (aB g vm vt).toArray,q.vc] W λe w'=>∃ad,e=jw (jn #[ad])/\bJ w' ad (aX g.tree c.chg)/\jo W W w'):=O (λW hf d f=>yC g vm vt _ _ W d hf Y f);obtain⟨aa,hA⟩:=J ((aB g vm vt).toArray);obtain⟨C,B⟩:=J ((aE c q).toArray);rw[<-hA]at au HV HN bk bp a1⊢;rw[<-B]at ax HK bK bM a4⊢;obtain⟨x0,k⟩:=J ((((w.alloc (jh aa 41)).alloc (jh C 48)).alloc (jh #[jc jd 0,jc jd 0,jj jm 0,jj jm 0,jj jm 0,jj jm 0,jj jm 0,jj jm 0,jj jm 0,jj jm 0,jj jm 0,jj jm 0,jj jm 0,jj jm 0,jj jm 0,jj jm 0,jj jm 0,jj jm 0,jj jm 0,jj jm 0,jj jm 0,jj jm 0,jj jm 0,jj jm 0,jj jm 0,jj jm 0,jj jm 0,jj jm 0,jj jm 0,jj jm 0,jj jm 0,jj jm 0,jj jm 0,jj jm 0,jf je 0 0,jf je 0 0] 41)));obtain⟨s,r⟩:=J w.heap.size;have d:=jC w (jh aa 41);have u:=ao w (jh aa 41);have a6:=jC (w.alloc (jh aa 41)) (jh C 48);have H:=ao (w.alloc (jh aa 41)) (jh C 48);have M:=jC ((w.alloc (jh aa 41)).alloc (jh C 48)) (jh #[jc jd 0,jc jd 0,jj jm 0,jj jm 0,jj jm 0,jj jm 0,jj jm 0,jj jm 0,jj jm 0,jj jm 0,jj jm 0,jj jm 0,jj jm 0,jj jm 0,jj jm 0,jj jm 0,jj jm 0,jj jm 0,jj jm 0,jj jm 0,jj jm 0,jj jm 0,jj jm 0,jj jm 0,jj jm 0,jj jm 0,jj jm 0,jj jm 0,jj jm 0,jj jm 0,jj jm 0,jj jm 0,jj jm 0,jj jm 0,jf je 0 0,jf je 0 0] 41);have Q:=ao ((w.alloc (jh aa 41)).alloc (jh C 48)) (jh #[jc jd 0,jc jd 0,jj jm 0,jj jm 0,jj jm 0,jj jm 0,jj jm 0,jj jm 0,jj jm 0,jj jm 0,jj jm 0,jj jm 0,jj jm 0,jj jm 0,jj jm 0,jj jm 0,jj jm 0,jj jm 0,jj jm 0,jj jm 0,jj jm 0,jj jm 0,jj jm 0,jj jm 0,jj jm 0,jj jm 0,jj jm 0,jj jm 0,jj jm 0,jj jm 0,jj jm 0,jj jm 0,jj jm 0,jj jm 0,jf je 0 0,jf je 0 0] 41);replace d:=av d H;replace d:=av d Q;rw[jK]at a6;replace a6:=av a6 Q;rw[jK,jK]at M;have z:=((u).trans (H.mono (u).size)).trans (Q.mono ((u).trans (H.mono (u).size)).size);rw[<-k]at z;rw[<-k,<-r]at d;rw[<-k,<-r]at a6;rw[<-k,<-r]at M;have U:=O d;have UN:=O a6;have S:=O M;have o:=O z;have HW:=O k;have HG:=O r;have bq:=O h;have bb:=O hC;have bo:=h.below z;have bw:=hC.below z;obtain⟨Z,m⟩:∃y:js jb,y= #[jc jd 0,jc jd 0,jj jm 0,jj jm 0,jj jm 0,jj jm 0,jj jm 0,jj jm 0,jj jm 0,jj jm 0,jj jm 0,jj jm 0,jj jm 0,jj jm 0,jj jm 0,jj jm 0,jj jm 0,jj jm 0,jj jm 0,jj jm 0,jj jm 0,jj jm 0,jj jm 0,jj jm 0,jj jm 0,jj jm 0,jj jm 0,jj jm 0,jj jm 0,jj jm 0,jj jm 0,jj jm 0,jj jm 0,jj jm 0,jf je 0 0,jf je 0 0]:=⟨_,I⟩;have bA:(aB ku (jf je 0 0) (jf je 0 0)).toArray=Z:=by rw[m];rfl
 have bB:(jl.info? 41).map (·.size)=N Z.size:=by rw[m];kernel_rfl
 have bC:Z.all (·.oneCell')=jk:=by rw[m];kernel_rfl
 replace S:ji (x0.heap[s+1+1]?=N (jh Z 41 (0,0))):=O (by rw[m];exact S);have YU:=O au;have br:=O ax;have K:=O bB;have a3:=O bC;have bN:ji (Z.size=36):=O (by rw[m];rfl);have ay:=O bA;have YY:=O bo;have X:=O bw;have cu:=O a1;have cv:=O a4;have bs:=O hT;have cw:=O i;have Vx:=O h.llen;have VM:=O hC.plen;have cx:=O hC.clen;have Wi:=O bi;have Wx:=O bm;have bd:ji (aa[0]?=N (jc jd g.folder)/\aa[1]?=N (jc jd g.epoch)/\aa[34]?=N vm/\aa[35]?=N vt):=O (by rw[hA];simpa using VS);have t:ji (C[0]?=N (jc jd c.folder)/\C[1]?=N (jc jd c.epoch)/\C[34]?=N (jc jd c.author)/\C[35]?=N q.vc/\C[36]?=N q.vp/\C[37]?=N q.vb/\C[38]?=N q.vw/\C[71]?=N (jc jd c.r)/\C[72]?=N (jc jd c.s)):=O (by rw[B];simpa using bn);have Yx:=O hA;have VV:=O B;have V8:=O (Tw c);have bu:=O (yD g c.author c.chg);obtain⟨vb,a5⟩:=J (fH g);obtain⟨ek,f⟩:=J (gW c);rw[<-a5]at HV bu;rw[<-f]at HK V8;have bl:=O a5;have bO:=O f;obtain⟨pc,nc,em,ba⟩:∃p n c',q.vc=jf p n c':=by obtain⟨p,c',h⟩:=hC.chg.form;exact⟨p,_,c',h⟩
 obtain⟨pp,np,cp,bc⟩:∃p n c',q.vp=jf p n c':=by obtain⟨p,c',h⟩:=hC.path.form;exact⟨p,_,c',h⟩
 obtain⟨pb,nb,eq,bg⟩:∃p n c',q.vb=jf p n c':=by obtain⟨us,h,-⟩:=hC.box;obtain⟨p,c',h⟩:=h.form;exact⟨p,_,c',h⟩
 obtain⟨pw,nw,ev,bh⟩:∃p n c',q.vw=jf p n c':=by obtain⟨us,h,-⟩:=hC.wel;obtain⟨p,c',h⟩:=h.form;exact⟨p,_,c',h⟩
 obtain⟨pm,nm,cy,cz⟩:∃p n c',vm=jf p n c':=by obtain⟨p,c',h,-⟩:=h.mem.form;exact⟨p,_,c',h⟩
 obtain⟨pt,nt,e2,c5⟩:=gP h.tree;rw[ba]at t HN bk bp;rw[bc,bg,bh]at t;have bf:=O ba;have c6:=O bc;have bv:=O bg;have bT:=O bh;subst cz;subst c5;clear bo bw m bA bB bC au ax a1 a4 hT i bi bm hA B VS bn h hC a5 f ba bc bg bh V;clear z k r d u a6 H M Q
 go_enter func9,ntmps9
 go_upto_region 1 with fail
 rw[<-HW,<-HG];refine jY ?_;refine xm I 41 _ I s I 41 aa (0,0) _ U.out jI I YU ?_
 go_wp2_with fail
 refine(HV x0 YY).mono ?_;rintro e x1 ⟨rfl,d⟩;have UU:=ae U d;have Q:=ae UN d;have V:=ae S d;have WI:=O (YY.below d);have WS:=O (aW.below X d);have Up:=ah o d;clear U UN S YY X o;clear d
 cases vb with
 |false=>
  have m:ji (er=1):=O (by rw[a2];unfold cN;rw[jp bl.symm])
  go_upto_region 2 with fail
  refine jY ?_;refine ei (v:=jn Z) aj (dc jI I K I I V) (G ?_);refine jO I λ_ r=>j8 41 _ _ I (s+1+1) Z I I 41 _ V.out K I a3 (r _ _ ?_)
  clear r;refine G ?_;refine eh ?_;rename_i KR Zu XR;refine Zu _ _ ?_;refine wp_ret ?_;show o8 _ _ P .ret _ _;exact n0 (fS I _ _ (s+1+1) 41 Z (0,0) _ I (j4 _ _ _ _ _ _ V.out) jI I K) I (HP _ _ ⟨λh=>jA (m.symm.trans h) L,λ_=>by rw[ay,m];kernel_rfl,ob Up.out (by rw[HG];omega) _⟩)
 |true=>
 go_upto_region 3 with fail
 refine jY ?_;refine xm I 48 _ I (s+1) I 48 C (0,0) _ Q.out qX I br ?_
 go_wp2_with fail
 refine(HK x1 WS).mono ?_;rintro e x2 ⟨rfl,d⟩;have Vo:=ae UU d;have M:=ae Q d;have H:=ae V d;have WV:=O (WI.below d);have VL:=O (aW.below WS d);have Ur:=ah Up d;clear UU Q V WI WS Up;clear d
 rcases V8.out with⟨f,rfl⟩|⟨f,rfl⟩
 case inr=>
  have m:ji (er=220):=O (by rw[a2];unfold cN;rw[jq (by rw[<-bl];decide),jp (by rw[<-bO];decide)])
  go_upto_region 5 with fail
  refine jY ?_;refine ei (v:=jn Z) aj (dc jI I K I I H) (G ?_);refine eh ?_;refine jO I λ_ r=>j8 41 _ _ I (s+1+1) Z I I 41 _ H.out K I a3 (r _ _ ?_)
  clear r;refine G ?_;refine eh ?_;rename_i KR Zu XR;refine Zu _ _ ?_;refine wp_ret ?_;show o8 _ _ P .ret _ _;exact n0 (fS I _ _ (s+1+1) 41 Z (0,0) _ I (j4 _ _ _ _ _ _ H.out) jI I K) I (HP _ _ ⟨λh=>jA (m.symm.trans h) L,λ_=>by rw[ay,m];kernel_rfl,ob Ur.out (by rw[HG];omega) _⟩)
 have Vy:=O f;clear f;have f:ji (cN g c=if onB g c=jr then 220 else if du g c.author c.chg≠0 then du g c.author c.chg else if kA g c=jr then 220
  else if lX (dT g c.author c.chg) c.r c.s (dt c)=jr then 222 else fb (aX g.tree c.chg) c.author c.path):=O (by unfold cN;rw[jq (by rw[<-bl];decide),jq (by rw[<-bO];decide)])
 obtain⟨B,z⟩:=J g.folder;obtain⟨ep,i⟩:=J g.epoch;obtain⟨cf,au⟩:=J c.folder;obtain⟨u,ax⟩:=J c.epoch;rw[<-z,<-i]at bd;rw[<-au,<-ax]at t;have bw:=O z;have WK:=O i;have b4:=O au;have bm:=O ax;have k:dD g:=by
  by_cases hx:dD g
  ·exact hx
  have h2:=bl.out;rw[kj hx]at h2;cases h2
 have bA:=O k;have e4:0<=ep:=by rw[i];exact k.ep.1
 have e5:ep<=1099511627776:=by rw[i];exact k.ep.2
 clear z i au ax k;have c0:=ai M t.1;have c1:=ai M t.2.1;have a0:=ai Vo bd.1;have bh:=ai Vo bd.2.1;have Wp:=O (cu _ _ Vo.out);have ax:=O (cv _ _ M.out);obtain⟨TL,i⟩:=J ((g.last.map v8).toArray);obtain⟨TP,k⟩:=J ((c.parent.map v8).toArray);obtain⟨b5,au⟩:=J (decide (c.parent=g.last));have a1:=O i;have a5:=O k;have b6:=O au;have bi:∀z,(Op.equalIn 10000 23 (jn TP) (jn TL)).run jl z=.ok b5 z:=by
  rw[i,k,au];exact λz=>pC c.parent g.last VM Vx z
 clear i k au
 by_cases h1:cf=B
 case neg=>
  have bg:(cf==B)=jr:=ak h1;have b7:(cf !=B)=jk:=ak h1;have m:ji (er=220):=O (by rw[a2,f,jp (by unfold onB;rw[<-b4,<-bw,bg];rfl)]);clear h1
  go_upto_region 7 with fail
  refine jY ?_;refine ei (v:=jn Z) aj (dc jI I K I I H) (G ?_);refine jO I λ_ r=>j8 41 _ _ I (s+1+1) Z I I 41 _ H.out K I a3 (r _ _ ?_)
  clear r;refine G ?_;refine eh ?_;rename_i KR Zu XR;refine Zu _ _ ?_;refine wp_ret ?_;show o8 _ _ P .ret _ _;exact n0 (fS I _ _ (s+1+1) 41 Z (0,0) _ I (j4 _ _ _ _ _ _ H.out) jI I K) I (HP _ _ ⟨λh=>jA (m.symm.trans h) L,λ_=>by rw[ay,m];kernel_rfl,ob Ur.out (by rw[HG];omega) _⟩)
 have bg:(cf==B)=jk:=ak h1;have b7:(cf !=B)=jr:=ak h1;clear h1
 by_cases h2:u=ep+1
 case neg=>
  have hd2:(u==ep+1)=jr:=ak h2;have b8:(u !=ep+1)=jk:=ak h2;have m:ji (er=220):=O (by rw[a2,f,jp (by unfold onB;rw[<-bm,<-WK,hd2];simp)]);clear h2
  go_upto_region 7 with fail
  refine jY ?_;refine ei (v:=jn Z) aj (dc jI I K I I H) (G ?_);refine jO I λ_ r=>j8 41 _ _ I (s+1+1) Z I I 41 _ H.out K I a3 (r _ _ ?_)
  clear r;refine G ?_;refine eh ?_;rename_i KR Zu XR;refine Zu _ _ ?_;refine wp_ret ?_;show o8 _ _ P .ret _ _;exact n0 (fS I _ _ (s+1+1) 41 Z (0,0) _ I (j4 _ _ _ _ _ _ H.out) jI I K) I (HP _ _ ⟨λh=>jA (m.symm.trans h) L,λ_=>by rw[ay,m];kernel_rfl,ob Ur.out (by rw[HG];omega) _⟩)
 have hd2:(u==ep+1)=jk:=ak h2;have b8:(u !=ep+1)=jr:=ak h2;have e6:=O h2;clear h2;have bc:(jl.info? 23).map (·.size)=N (c.parent.map v8).length:=by rw[ju,VM];kernel_rfl
 have i:(jl.info? 23).map (·.size)=N (g.last.map v8).length:=by rw[ju,Vx];kernel_rfl
 have bn:=O bc;have ba:=O i;clear bc i;have i:IntKind.i64.wrap (ep+1)=ep+1:=IntWalk.i64_in _ Y
 go_upto_region 6 with fail
 refine jY ?_;iterate 15 refine eh ?_
 refine uQ aj λ_ r=>wp_load_mid 23 _ I (s+1) 2 I (c.parent.map v8) _ ax.out qg I bn (r _ _ ?_)
 rw[<-a5];refine G ?_;refine eh ?_;refine uQ aj λ_ r=>wp_load_mid 23 _ I s 2 I (g.last.map v8) _ Wp.out qg I ba (r _ _ ?_)
 rw[<-a1];refine G ?_;clear i
 cases b5 with
 |false=>
  have m:ji (er=220):=O (by rw[a2,f,jp (by unfold onB;rw[<-b6];simp)])
  go_upto_region 7 with fail
  refine jY ?_;refine ei (v:=jn Z) aj (dc jI I K I I H) (G ?_);refine jO I λ_ r=>j8 41 _ _ I (s+1+1) Z I I 41 _ H.out K I a3 (r _ _ ?_)
  clear r;refine G ?_;refine eh ?_;rename_i KR Zu XR;refine Zu _ _ ?_;refine wp_ret ?_;show o8 _ _ P .ret _ _;exact n0 (fS I _ _ (s+1+1) 41 Z (0,0) _ I (j4 _ _ _ _ _ _ H.out) jI I K) I (HP _ _ ⟨λh=>jA (m.symm.trans h) L,λ_=>by rw[ay,m];kernel_rfl,ob Ur.out (by rw[HG];omega) _⟩)
 |true=>
 have i:ji (cN g c=if du g c.author c.chg≠0 then du g c.author c.chg else if kA g c=jr then 220
  else if lX (dT g c.author c.chg) c.r c.s (dt c)=jr then 222 else fb (aX g.tree c.chg) c.author c.path):=O (by rw[f,jq (by unfold onB;rw[<-b4,<-bw,<-bm,<-WK,bg,hd2,<-b6];decide)])
 obtain⟨au,k⟩:=J c.author;rw[<-k]at t HN bk bu;have a4:=O k;clear k;have k:=ai M t.2.2.1;have Y8:=ai M t.2.2.2.1
 go_upto_region 8 with fail
 clear c0 c1 a0 bh Wp ax bi bg b7 hd2 b8 a1 a5 bn ba f;refine jY ?_;refine xm I 41 _ I s I 41 aa (0,0) _ Vo.out jI I YU ?_
 go_wp2_with fail
 refine(HN x2 WV.out (by rw[<-bf];exact EK.At.of_sl (E:=EC) VL.chg)).mono ?_;rintro e x3 ⟨ad,rfl,hu,d⟩;have ax:=O (EK.At.of_own (E:=EB0) hu);clear hu k Y8;have WZ:=ae Vo d;have U2:=ae M d;have f:=ae H d;have a5:=O (WV.below d);have Wy:=O (aW.below VL d);have Ut:=ah Ur d;clear Vo M H WV VL Ur;clear d;obtain⟨pu,e7,rfl,-,-⟩:=ax.form;obtain⟨nu,k⟩:=J ((dV g au c.chg).length);rw[<-k]at ax⊢;have e8:=O k;clear k
 rcases bu.out with⟨hx,-⟩|⟨-,-,hx⟩|⟨-,hf,hp,hx⟩
 case inl=>cases hx
 case inr.inl=>
  have m:ji (er=221):=O (by rw[a2,i,<-a4,hx];rfl);rw[hx];clear hx
  go_upto_region 10 with fail
  refine jY ?_;refine ei (v:=jn Z) aj (dc jI I K I I f) (G ?_);refine eh ?_;refine jO I λ_ r=>j8 41 _ _ I (s+1+1) Z I I 41 _ f.out K I a3 (r _ _ ?_)
  clear r;refine G ?_;refine eh ?_;rename_i KR Zu XR;refine Zu _ _ ?_;refine wp_ret ?_;show o8 _ _ P .ret _ _;exact n0 (fS I _ _ (s+1+1) 41 Z (0,0) _ I (j4 _ _ _ _ _ _ f.out) jI I K) I (HP _ _ ⟨λh=>jA (m.symm.trans h) L,λ_=>by rw[ay,m];kernel_rfl,ob Ut.out (by rw[HG];omega) _⟩)
 rw[hx];have bB:ji (cN g c=if kA g c=jr then 220 else if lX (dT g c.author c.chg) c.r c.s (dt c)=jr then 222 else fb (aX g.tree c.chg) c.author c.path):=O (by rw[i,<-a4,hx];rfl);have Yo:=O (oA.1 hf);have b9:=O (tH.1 hp);clear hf hp hx i;have ZC:=O cw.lens;obtain⟨eb,i⟩:=J (decide (c.box.map (λb:Bx=>(b.lev,b.node))=(dV g au c.chg).map (λx:ja×ja=>x)));have bh:=O i;obtain⟨ew,k⟩:=J (decide (c.wel.map Wl.dev=(dw au c.chg).map ap.d));have bo:=O k;clear i k
 go_upto_region 13 with fail
 cases eb with
 |false=>
  have m:ji (er=220):=O (by rw[a2,bB,jp (by unfold kA;rw[<-a4];have h:=bh.out;rw[List.map_id']at h;rw[<-h];rfl)]);refine pz ?_;refine dj (λk=>k.heap[s+1]?=N (jh C 48 (0,0))) (.t 0 (.t 1 (.t 2 (.t 3 (.o 4 (.t 5 (.t 6 (.t 7 (.t 8 (.t 9 (.t 10 (.t 11 (.t 12 (.t 14 (.o 13 (.o 15 (.t 16 (.t 17 .done)))))))))))))))))) af af af L (λ_ _ _ _ h=>h) U2 ?_;obtain⟨z0,UJ⟩:=J x3.drew;have d:=bV x3;rw[<-UJ]at d⊢;have U:=ae WZ d;have UN:=ae U2 d;have S:=ae f d;have YY:=O (a5.below d);have X:=O (aW.below Wy d);have o:=ah Ut d;have a1:=O (ax.below d);clear d UJ WZ U2 f a5 Wy Ut ax;refine aO ?_
  (refine aS (v:=?_) I aj (λk i=>?_) ?_;rotate_left;(have b0:=ai i t.2.2.1;have b1:=ai i t.2.2.2.1;have b2:=ai i t.2.2.2.2.2.1;have b3:=ai i t.2.2.2.2.2.2.1;go_simp;with_reducible rfl);refine G ?_)
  iterate 2 refine aO ?_
  refine aF I (λK' r=>?_);go_simp;refine(zZ c.box (dV g au c.chg) _ _ z0 (by rw[<-bv];exact X.box) a1 ZC.2.2.1 (BC g au c.chg)).mono ?_;rintro e z1 ⟨rfl,d⟩;rw[<-bh];have UU:=ae U d;have Q:=ae UN d;have V:=ae S d;have WI:=O (YY.below d);have WS:=O (aW.below X d);have Up:=ah o d;have YX:=O (a1.below d);clear U UN S YY X o a1;clear d;refine r _ _ Q.out λ_=>?_
  clear r;refine G ?_;iterate 2 refine aO ?_
  iterate 7 refine io ?_
  refine aF I (λK' r=>?_);rw[jq (xO.1 aj)];refine r _ _ Q.out λ_=>?_
  clear r;refine G ?_;refine aF I (λK' r=>?_);rw[jq (xO.1 aj)];refine r _ _ Q.out λ_=>?_
  clear r;refine G ?_;refine io ?_;refine aO ?_;refine qn ?_
  go_upto_region 14 with fail
  refine jY ?_;refine ei (v:=jn Z) aj (dc jI I K I I V) (G ?_);refine jO I λ_ r=>j8 41 _ _ I (s+1+1) Z I I 41 _ V.out K I a3 (r _ _ ?_)
  clear r;refine G ?_;refine eh ?_;rename_i KR Zu XR;refine Zu _ _ ?_;refine wp_ret ?_;show o8 _ _ P .ret _ _;exact n0 (fS I _ _ (s+1+1) 41 Z (0,0) _ I (j4 _ _ _ _ _ _ V.out) jI I K) I (HP _ _ ⟨λh=>jA (m.symm.trans h) L,λ_=>by rw[ay,m];kernel_rfl,ob Up.out (by rw[HG];omega) _⟩)
 |true=>
 cases ew with
 |false=>
  have m:ji (er=220):=O (by rw[a2,bB,jp (by unfold kA;rw[<-a4,<-bo];simp)]);refine pz ?_;refine dj (λk=>k.heap[s+1]?=N (jh C 48 (0,0))) (.t 0 (.t 1 (.t 2 (.t 3 (.o 4 (.t 5 (.t 6 (.t 7 (.t 8 (.t 9 (.t 10 (.t 11 (.t 12 (.t 14 (.o 13 (.o 15 (.t 16 (.t 17 .done)))))))))))))))))) af af af L (λ_ _ _ _ h=>h) U2 ?_;obtain⟨z0,UJ⟩:=J x3.drew;have d:=bV x3;rw[<-UJ]at d⊢;have U:=ae WZ d;have UN:=ae U2 d;have S:=ae f d;have YY:=O (a5.below d);have X:=O (aW.below Wy d);have o:=ah Ut d;have a1:=O (ax.below d);clear d UJ WZ U2 f a5 Wy Ut ax;refine aO ?_
  (refine aS (v:=?_) I aj (λk i=>?_) ?_;rotate_left;(have b0:=ai i t.2.2.1;have b1:=ai i t.2.2.2.1;have b2:=ai i t.2.2.2.2.2.1;have b3:=ai i t.2.2.2.2.2.2.1;go_simp;with_reducible rfl);refine G ?_)
  iterate 2 refine aO ?_
  refine aF I (λK' r=>?_);go_simp;refine(zZ c.box (dV g au c.chg) _ _ z0 (by rw[<-bv];exact X.box) a1 ZC.2.2.1 (BC g au c.chg)).mono ?_;rintro e z1 ⟨rfl,d⟩;rw[<-bh];have UU:=ae U d;have Q:=ae UN d;have V:=ae S d;have WI:=O (YY.below d);have WS:=O (aW.below X d);have Up:=ah o d;have YX:=O (a1.below d);clear U UN S YY X o a1;clear d;refine r _ _ Q.out λ_=>?_
  clear r;refine G ?_;iterate 3 refine aO ?_
  (refine aS (v:=?_) I aj (λk i=>?_) ?_;rotate_left;(have b0:=ai i t.2.2.1;have b1:=ai i t.2.2.2.1;have b2:=ai i t.2.2.2.2.2.1;have b3:=ai i t.2.2.2.2.2.2.1;go_simp;with_reducible rfl);refine G ?_)
  refine aO ?_
  (refine aS (v:=?_) I aj (λk i=>?_) ?_;rotate_left;(have b0:=ai i t.2.2.1;have b1:=ai i t.2.2.2.1;have b2:=ai i t.2.2.2.2.2.1;have b3:=ai i t.2.2.2.2.2.2.1;go_simp;with_reducible rfl);refine G ?_)
  refine aO ?_
  (refine aS (v:=?_) I aj (λk i=>?_) ?_;rotate_left;(have b0:=ai i t.2.2.1;have b1:=ai i t.2.2.2.1;have b2:=ai i t.2.2.2.2.2.1;have b3:=ai i t.2.2.2.2.2.2.1;go_simp;with_reducible rfl);refine G ?_)
  refine aO ?_;refine aF I (λK' r=>?_);rw[jp aj];go_simp;refine(zu au c.chg _ z1 (by rw[<-bf];exact EK.At.of_sl (E:=EC) WS.chg) Yo.once ZC.1).mono ?_;rintro e z2 ⟨ad,rfl,hu,d⟩;have ba:=O hu;clear hu;obtain⟨py,c7,rfl,-,-⟩:=ba.form;have Vo:=ae UU d;have M:=ae Q d;have H:=ae V d;have WV:=O (WI.below d);have VL:=O (aW.below WS d);have Ur:=ah Up d;have bi:=O (YX.below d);clear UU Q V WI WS Up YX;clear d;refine r _ _ M.out λ_=>?_
  clear r;refine G ?_;refine aF I (λK' r=>?_);rw[jp aj];go_simp;refine(Fq c.wel (dw au c.chg) _ _ z2 (by rw[<-bT];exact VL.wel) ba ZC.2.2.2 (by have:=DD au c.chg;have:=ZC.1;omega)).mono ?_;rintro e z3 ⟨rfl,d⟩;rw[<-bo];have WZ:=ae Vo d;have U2:=ae M d;have f:=ae H d;have a5:=O (WV.below d);have Wy:=O (aW.below VL d);have Ut:=ah Ur d;have ax:=O (bi.below d);clear Vo M H WV VL Ur bi ba;clear d;refine r _ _ U2.out λ_=>?_
  clear r;refine G ?_;iterate 2 refine aO ?_
  refine qn ?_
  go_upto_region 14 with fail
  refine jY ?_;refine ei (v:=jn Z) aj (dc jI I K I I f) (G ?_);refine jO I λ_ r=>j8 41 _ _ I (s+1+1) Z I I 41 _ f.out K I a3 (r _ _ ?_)
  clear r;refine G ?_;refine eh ?_;rename_i KR Zu XR;refine Zu _ _ ?_;refine wp_ret ?_;show o8 _ _ P .ret _ _;exact n0 (fS I _ _ (s+1+1) 41 Z (0,0) _ I (j4 _ _ _ _ _ _ f.out) jI I K) I (HP _ _ ⟨λh=>jA (m.symm.trans h) L,λ_=>by rw[ay,m];kernel_rfl,ob Ut.out (by rw[HG];omega) _⟩)
 |true=>
 have ca:ji (cN g c=if lX (dT g c.author c.chg) c.r c.s (dt c)=jr then 222 else fb (aX g.tree c.chg) c.author c.path):=O (by rw[bB,jq (by unfold kA;rw[<-a4,<-bo];have h:=bh.out;rw[List.map_id']at h;rw[<-h];decide)]);refine pz ?_;refine dj (λk=>k.heap[s+1]?=N (jh C 48 (0,0))) (.t 0 (.t 1 (.t 2 (.t 3 (.o 4 (.t 5 (.t 6 (.t 7 (.t 8 (.t 9 (.t 10 (.t 11 (.t 12 (.t 14 (.o 13 (.o 15 (.t 16 (.t 17 .done)))))))))))))))))) af af af L (λ_ _ _ _ h=>h) U2 ?_;obtain⟨z0,UJ⟩:=J x3.drew;have d:=bV x3;rw[<-UJ]at d⊢;have U:=ae WZ d;have UN:=ae U2 d;have S:=ae f d;have YY:=O (a5.below d);have X:=O (aW.below Wy d);have o:=ah Ut d;have a1:=O (ax.below d);clear d UJ WZ U2 f a5 Wy Ut ax;refine aO ?_
 (refine aS (v:=?_) I aj (λk i=>?_) ?_;rotate_left;(have b0:=ai i t.2.2.1;have b1:=ai i t.2.2.2.1;have b2:=ai i t.2.2.2.2.2.1;have b3:=ai i t.2.2.2.2.2.2.1;go_simp;with_reducible rfl);refine G ?_)
 iterate 2 refine aO ?_
 refine aF I (λK' r=>?_);go_simp;refine(zZ c.box (dV g au c.chg) _ _ z0 (by rw[<-bv];exact X.box) a1 ZC.2.2.1 (BC g au c.chg)).mono ?_;rintro e z1 ⟨rfl,d⟩;rw[<-bh];have UU:=ae U d;have Q:=ae UN d;have V:=ae S d;have WI:=O (YY.below d);have WS:=O (aW.below X d);have Up:=ah o d;have YX:=O (a1.below d);clear U UN S YY X o a1;clear d;refine r _ _ Q.out λ_=>?_
 clear r;refine G ?_;iterate 3 refine aO ?_
 (refine aS (v:=?_) I aj (λk i=>?_) ?_;rotate_left;(have b0:=ai i t.2.2.1;have b1:=ai i t.2.2.2.1;have b2:=ai i t.2.2.2.2.2.1;have b3:=ai i t.2.2.2.2.2.2.1;go_simp;with_reducible rfl);refine G ?_)
 refine aO ?_
 (refine aS (v:=?_) I aj (λk i=>?_) ?_;rotate_left;(have b0:=ai i t.2.2.1;have b1:=ai i t.2.2.2.1;have b2:=ai i t.2.2.2.2.2.1;have b3:=ai i t.2.2.2.2.2.2.1;go_simp;with_reducible rfl);refine G ?_)
 refine aO ?_
 (refine aS (v:=?_) I aj (λk i=>?_) ?_;rotate_left;(have b0:=ai i t.2.2.1;have b1:=ai i t.2.2.2.1;have b2:=ai i t.2.2.2.2.2.1;have b3:=ai i t.2.2.2.2.2.2.1;go_simp;with_reducible rfl);refine G ?_)
 refine aO ?_;refine aF I (λK' r=>?_);rw[jp aj];go_simp;refine(zu au c.chg _ z1 (by rw[<-bf];exact EK.At.of_sl (E:=EC) WS.chg) Yo.once ZC.1).mono ?_;rintro e z2 ⟨ad,rfl,hu,d⟩;have ba:=O hu;clear hu;obtain⟨py,c7,rfl,-,-⟩:=ba.form;have Vo:=ae UU d;have M:=ae Q d;have H:=ae V d;have WV:=O (WI.below d);have VL:=O (aW.below WS d);have Ur:=ah Up d;have bi:=O (YX.below d);clear UU Q V WI WS Up YX;clear d;refine r _ _ M.out λ_=>?_
 clear r;refine G ?_;refine aF I (λK' r=>?_);rw[jp aj];go_simp;refine(Fq c.wel (dw au c.chg) _ _ z2 (by rw[<-bT];exact VL.wel) ba ZC.2.2.2 (by have:=DD au c.chg;have:=ZC.1;omega)).mono ?_;rintro e z3 ⟨rfl,d⟩;rw[<-bo];have WZ:=ae Vo d;have U2:=ae M d;have f:=ae H d;have a5:=O (WV.below d);have Wy:=O (aW.below VL d);have Ut:=ah Ur d;have ax:=O (bi.below d);clear Vo M H WV VL Ur bi ba;clear d;refine r _ _ U2.out λ_=>?_
 clear r;refine G ?_;iterate 2 refine aO ?_
 refine qn ?_;clear a5 Wy ax
 go_upto_region 15 with fail
 refine pz ?_;refine dj (λk=>k.heap[s]?=N (jh aa 41 (0,0))/\k.heap[s+1]?=N (jh C 48 (0,0))) (.t 0 (.t 1 (.t 2 (.t 3 (.t 4 (.t 6 (.t 8 (.t 9 (.o 5 (.o 7 (.o 10 (.t 11 .done)))))))))))) af af af L (λ_ _ _ _ h=>h) ⟨WZ,U2⟩ ?_;obtain⟨y0,UJ⟩:=J z3.drew;have d:=bV z3;rw[<-UJ]at d⊢;have a1:=ae WZ d;have a5:=ae U2 d;have ba:=ae f d;have ZE:=ah Ut d;clear d UJ WZ U2 f Ut;have U:=a1;clear a1;have UN:=a5;clear a5;have S:=ba;clear ba;have o:=ZE;clear ZE
 (refine aS (v:=jn aa) I aj (λk i=>dc jI I YU I I i.1) (G ?_))
 refine aO ?_
 (refine aS (v:=?_) I aj (λk i=>?_) ?_;rotate_left;(have b0:=ai i.2 t.2.2.1;have b1:=ai i.2 t.2.2.2.1;have b2:=ai i.2 t.2.2.2.2.2.2.2.1;have b3:=ai i.2 t.2.2.2.2.2.2.2.2;go_simp;with_reducible rfl);refine G ?_)
 refine aO ?_
 (refine aS (v:=?_) I aj (λk i=>?_) ?_;rotate_left;(have b0:=ai i.2 t.2.2.1;have b1:=ai i.2 t.2.2.2.1;have b2:=ai i.2 t.2.2.2.2.2.2.2.1;have b3:=ai i.2 t.2.2.2.2.2.2.2.2;go_simp;with_reducible rfl);refine G ?_)
 (refine aS (v:=jn C) I aj (λk i=>dc qX I br I I i.2) (G ?_))
 refine aO ?_
 (refine aS (v:=?_) I aj (λk i=>?_) ?_;rotate_left;(have b0:=ai i.2 t.2.2.1;have b1:=ai i.2 t.2.2.2.1;have b2:=ai i.2 t.2.2.2.2.2.2.2.1;have b3:=ai i.2 t.2.2.2.2.2.2.2.2;go_simp;with_reducible rfl);refine G ?_)
 refine aF I (λK' r=>?_);go_simp;refine(bk y0 bA Yo b9 (bq.below o) (by rw[<-bf];exact(EK.At.of_sl (E:=EC) bb.chg).below o)).mono ?_;rintro e y1 ⟨rfl,d⟩;have UU:=ae U d;have Q:=ae UN d;have V:=ae S d;have Up:=ah o d;clear U UN S o;clear d;refine r _ _ ⟨UU,Q⟩ λ_=>?_
 clear r;refine G ?_;refine aF I (λK' r=>?_);go_simp;refine(bK y1 (bb.below Up) (bs.below Up)).mono ?_;rintro e y2 ⟨D,rfl,X,d⟩;have ax:=O X;clear X;have Vo:=ae UU d;have M:=ae Q d;have H:=ae V d;have Ur:=ah Up d;clear UU Q V Up;clear d;refine r _ _ ⟨Vo,M⟩ λ_=>?_
 clear r;refine G ?_;refine aF I (λK' r=>?_);go_simp;refine(N8 (dT g au c.chg) c.r c.s (dt c) _ (by rw[MH];decide) y2 ax (bs.below Ur)).mono ?_;rintro e y3 ⟨vr,rfl,X,d⟩;have bi:=O X;clear X;have WZ:=ae Vo d;have U2:=ae M d;have f:=ae H d;have Ut:=ah Ur d;clear Vo M H Ur ax;clear d;refine r _ _ ⟨WZ,U2⟩ λ_=>?_
 clear r;refine G ?_;refine aO ?_;refine qn ?_;have X:vr=lX (dT g au c.chg) c.r c.s (dt c):=by rw[xy,As];exact bi
 have ZN:=O X;clear X bi
 cases vr with
 |false=>
  have m:ji (er=222):=O (by rw[a2,ca,jp (by rw[<-a4];exact ZN.symm)])
  go_upto_region 16 with fail
  refine jY ?_;refine ei (v:=jn Z) aj (dc jI I K I I f) (G ?_);refine jO I λ_ r=>j8 41 _ _ I (s+1+1) Z I I 41 _ f.out K I a3 (r _ _ ?_)
  clear r;refine G ?_;refine eh ?_;rename_i KR Zu XR;refine Zu _ _ ?_;refine wp_ret ?_;show o8 _ _ P .ret _ _;exact n0 (fS I _ _ (s+1+1) 41 Z (0,0) _ I (j4 _ _ _ _ _ _ f.out) jI I K) I (HP _ _ ⟨λh=>jA (m.symm.trans h) L,λ_=>by rw[ay,m];kernel_rfl,ob Ut.out (by rw[HG];omega) _⟩)
 |true=>
 have cb:ji (er=fb (aX g.tree c.chg) au c.path):=O (by rw[a2,ca,jq (by rw[<-a4,<-ZN];decide),<-a4]);obtain⟨F,bc⟩:=J (aH c);have bi:F.length=32:=by rw[bc];exact dQ c
 have bn:=O bc;have ax:=O bi;obtain⟨X,c9,hT,cc,hX,cd,ce,cg,bC⟩:=Rn B u F bi;have ci:Z.size=X.size:=by rw[bC];exact bN
 have WH:=O cc;have db:ji (∀W,aW (·<W.heap.size) W c q->bH W->jz jl 16 #[jn C] W λe w'=>e=jw (jn c9)/\jo W W w'):=O (by rw[hT,bc];exact bM);have Zn:=O cd;have dd:=O ce;have dk:=O cg;have Wm:=O hX;have dr:=O ci;have bI:=O bC;clear hT hX cd ce cg cc ci bC bc bi
 go_upto_region 17 with fail
 refine pz ?_;refine dj (λk=>k.heap[s]?=N (jh aa 41 (0,0))/\k.heap[s+1]?=N (jh C 48 (0,0))) (.t 0 (.t 1 (.t 2 (.t 3 (.t 4 (.o 5 (.t 6 (.o 7 .done)))))))) af af af L (λ_ _ _ _ h=>h) ⟨WZ,U2⟩ ?_;obtain⟨u0,UJ⟩:=J y3.drew;have d:=bV y3;rw[<-UJ]at d⊢;have a1:=ae WZ d;have a5:=ae U2 d;have ba:=ae f d;have ZE:=ah Ut d;clear d UJ WZ U2 f Ut;have U:=a1;clear a1;have UN:=a5;clear a5;have S:=ba;clear ba;have o:=ZE;clear ZE;refine aO ?_
 (refine aS (v:=?_) I aj (λk i=>?_) ?_;rotate_left;(have b0:=ai i.1 bd.1;have b1:=ai i.2 t.2.1;go_simp;with_reducible rfl);refine G ?_)
 refine aO ?_
 (refine aS (v:=?_) I aj (λk i=>?_) ?_;rotate_left;(have b0:=ai i.1 bd.1;have b1:=ai i.2 t.2.1;go_simp;with_reducible rfl);refine G ?_)
 (refine aS (v:=jn C) I aj (λk i=>dc qX I br I I i.2) (G ?_))
 refine aF I (λK' r=>?_);go_simp;refine(db u0 (bb.below o) (bs.below o)).mono ?_;rintro e u1 ⟨rfl,d⟩;have UU:=ae U d;have Q:=ae UN d;have V:=ae S d;have Up:=ah o d;clear U UN S o;clear d;refine r _ _ ⟨UU,Q⟩ λ_=>?_
 clear r;refine G ?_
 (refine aS (v:=jn X) I aj (λk i=>by rw[Wm];exact P6 (f:=B) (e:=u) WH I af k) ?_;refine G ?_)
 refine aF I (λK' r=>?_);rw[jp aj];refine j8 41 _ _ I (s+1+1) X I I 41 _ V.out dd dr dk (r _ _ ⟨(qo _ _ _ _ Y).trans UU,(qo _ _ _ _ Y).trans Q⟩ λ_=>?_);clear r;have ZW:ji ((u1.setRow (s+1+1) X).heap[s]?=N (jh aa 41 (0,0))):=O ((qo _ _ _ _ Y).trans UU);have Zm:ji ((u1.setRow (s+1+1) X).heap[s+1]?=N (jh C 48 (0,0))):=O ((qo _ _ _ _ Y).trans Q);have Z6:ji ((u1.setRow (s+1+1) X).heap[s+1+1]?=N (jh X 41 (0,0))):=O (j4 _ _ _ _ _ _ V.out);have VJ:=O (ob Up (show w.heap.size<=s+1+1 by rw[HG];omega) X);generalize u1.setRow (s+1+1) X=u9 at ZW Zm Z6 VJ⊢;clear UU Q V Up;refine G ?_;refine qn ?_;obtain⟨re,bc⟩:=J (fb (aX g.tree c.chg) au c.path);have bi:(aX g.tree c.chg).length<=800000:=by have:=wM g.tree c.chg;have:=Wx.out;have:=Yo.len;omega
 have bC:aP au:=by
  obtain⟨h1,h2⟩:=vQ bA Yo b9;exact aP.of Y
 have cc:∀j,aP (c.path.getD j 0):=λj=>by
  rcases Nat.lt_or_ge j c.path.length with h1|h1
  ·rw[ft _ h1];exact Af (Vy.path _ (rn h1))
  rw[show c.path.getD j 0=0 by simp[qA,h1]];exact aP.of Y
 have Zv:ji (∀W v,bJ W v (aX g.tree c.chg)->df W (jf pp np cp) c.path->jz jl 35 #[jn #[v],jc jd au,jf pp np cp] W λe w'=>∃x,e=jw (jZ #[jn #[x],jc jd re])/\(bJ w' x (gr (aX g.tree c.chg) au c.path)/\Fr W.heap.size x)/\jo W W w'):=O (by
  rw[bc];exact λW v hv hp=>Pf _ v au c.path _ W hv bi bC hp ZC.2.1 cc)
 have cd:=O bc;have dv:ji (df w (jf pp np cp) c.path):=O (by rw[<-c6];exact aG.ints bb.path);clear bc bi bC cc
 go_upto_region 18 with fail
 refine pz ?_;refine dj (λk=>k.heap[s]?=N (jh aa 41 (0,0))/\k.heap[s+1]?=N (jh C 48 (0,0))) (.t 0 (.t 1 (.t 2 (.t 4 (.t 5 (.t 6 (.t 7 (.o 3 (.o 8 (.t 9 (.t 10 (.t 11 (.t 12 (.o 13 (.t 14 .done))))))))))))))) af af af L (λ_ _ _ _ h=>h) ⟨ZW,Zm⟩ ?_;obtain⟨v0,UJ⟩:=J u9.drew;have d:=bV u9;rw[<-UJ]at d⊢;have a1:=ae ZW d;have a5:=ae Zm d;have ba:=ae Z6 d;have ZE:=ah VJ d;clear d UJ ZW Zm Z6 VJ;have U:=a1;clear a1;have UN:=a5;clear a5;have S:=ba;clear ba;have o:=ZE;clear ZE
 (refine aS (v:=jn aa) I aj (λk i=>dc jI I YU I I i.1) (G ?_))
 refine aO ?_
 (refine aS (v:=?_) I aj (λk i=>?_) ?_;rotate_left;(have b0:=ai i.2 t.2.2.1;have b1:=ai i.2 t.2.2.2.1;have b2:=ai i.2 t.2.2.2.2.1;go_simp;with_reducible rfl);refine G ?_)
 refine aO ?_
 (refine aS (v:=?_) I aj (λk i=>?_) ?_;rotate_left;(have b0:=ai i.2 t.2.2.1;have b1:=ai i.2 t.2.2.2.1;have b2:=ai i.2 t.2.2.2.2.1;go_simp;with_reducible rfl);refine G ?_)
 refine aO ?_
 (refine aS (v:=?_) I aj (λk i=>?_) ?_;rotate_left;(have b0:=ai i.2 t.2.2.1;have b1:=ai i.2 t.2.2.2.1;have b2:=ai i.2 t.2.2.2.2.1;go_simp;with_reducible rfl);refine G ?_)
 refine aF I (λK' r=>?_);go_simp;refine(bp v0 Yo (bq.below o) (by rw[<-bf];exact(EK.At.of_sl (E:=EC) bb.chg).below o)).mono ?_;rintro e v1 ⟨u1,rfl,hu,d⟩;have i:=O hu;clear hu;obtain⟨p2,n2,c2,rfl⟩:=gP i;have UU:=ae U d;have Q:=ae UN d;have V:=ae S d;have Up:=ah o d;clear U UN S o;clear d;refine r _ _ ⟨UU,Q⟩ λ_=>?_
 clear r;refine G ?_;refine aF I (λK' r=>?_);go_simp;refine(Zv v1 _ i.out (eu dv Up)).mono ?_;rintro e v2 ⟨x9,rfl,hx,d⟩;have o:=O hx.1;have ea:=O (hx.2.mono Up.size);clear hx;obtain⟨S,nx,U,rfl⟩:=gP o;have Vo:=ae UU d;have M:=ae Q d;have H:=ae V d;have Ur:=ah Up d;clear UU Q V Up i;clear d;refine r _ _ ⟨Vo,M⟩ λ_=>?_
 clear r;refine G ?_;iterate 4 refine aO ?_
 refine aF I (λK' r=>?_);rw[jp aj];refine wp_store_mid 39 _ _ I (s+1+1) 35 #[jf S nx U] I I (su H.out (by rw[bI];exact jE _)) ri (by simp[r6]) (r _ _ ⟨(dC _ Y).trans Vo,(dC _ Y).trans M⟩ λ_=>?_);clear r;have W:v2.setCells (s+1+1) 35 (#[jf S nx U]:js jb).toList=v2.setCell ⟨s+1+1,35,je⟩ (jf S nx U):=I;rw[W];have ZW:ji ((v2.setCell ⟨s+1+1,35,je⟩ (jf S nx U)).heap[s]?=N (jh aa 41 (0,0))):=O ((dC _ Y).trans Vo);have Zm:ji ((v2.setCell ⟨s+1+1,35,je⟩ (jf S nx U)).heap[s+1]?=N (jh C 48 (0,0))):=O ((dC _ Y).trans M);have Z6:ji ((v2.setCell ⟨s+1+1,35,je⟩ (jf S nx U)).heap[s+1+1]?=N (jh (aB ⟨B,u,F,[],[]⟩ (jf je 0 0) (jf S nx U)).toArray 41 (0,0))):=O (by
  have h:=fs (i:=35) (jf S nx U) H;rw[Zn,C6 ⟨B,u,F,[],[]⟩ _ _ _ ax.out]at h;exact h)
 have cc:ji (bJ (v2.setCell ⟨s+1+1,35,je⟩ (jf S nx U)) (jf S nx U) (gr (aX g.tree c.chg) au c.path)):=O (o.ints (uI (i:=35) (X:=X) H Z6 (λj hj=>by rw[Zn];exact Sn ⟨B,u,F,[],[]⟩ _ _ _ ax.out j hj) (by rw[Zn];exact(m7 ⟨B,u,F,[],[]⟩ _ _ ax.out).2.1) (λk _ hk=>dC _ hk)));have VJ:ji (jo w w (v2.setCell ⟨s+1+1,35,je⟩ (jf S nx U))):=O (Ur.setCell (p:=⟨s+1+1,35,je⟩) (by show w.heap.size<=s+1+1;rw[HG];omega) _);generalize v2.setCell ⟨s+1+1,35,je⟩ (jf S nx U)=s9 at ZW Zm Z6 VJ cc⊢;clear W Vo M H Ur o;refine G ?_;refine aO ?_;refine qn ?_
 by_cases h0:re=0
 case neg=>
  have bg:(re !=0)=jk:=ak h0;have hd2:(re==0)=jr:=ak h0;have m:ji (er=re):=O (by rw[cb,cd]);have o:=O h0;clear h0
  go_upto_region 20 with fail
  refine jY ?_;refine ei (v:=jn Z) aj (by rw[<-ay];exact Aa I _) ?_;refine G ?_;refine eh ?_;refine jO I λ_ r=>j8 41 _ _ I (s+1+1) Z I I 41 _ Z6.out K.out (by rw[bN];exact(m7 ⟨B,u,F,[],[]⟩ _ _ ax.out).2.2) a3 (r _ _ ?_)
  clear r;refine G ?_;refine eh ?_;rename_i KR Zu XR;refine Zu _ _ ?_;refine wp_ret ?_;show o8 _ _ P .ret _ _;exact n0 (fS I _ _ (s+1+1) 41 Z (0,0) _ I (j4 _ _ _ _ _ _ Z6.out) jI I K) I (HP _ _ ⟨λh=>jA (m.symm.trans h) o,λ_=>by rw[ay,m];kernel_rfl,ob VJ.out (by rw[HG];omega) _⟩)
 subst h0;have ec:ji (er=0):=O (cb.trans cd.symm);have W:=ai ZW bd.2.2.1;have m:dW s9 (s+1) c q:=⟨by rw[Zm,VV],VM,cx⟩;have Va:=O m;clear m
 go_upto_region 22 with fail
 go_wp2_with fail
 refine(PI g.mem (jf pm nm cy) s9 (bq.below VJ).mem (aJ Wi)).mono ?_;rintro e t1 ⟨u1,rfl,hu,d⟩;have M:=O hu;have o:=O d;clear hu d W
 go_wp2_with fail
 refine(JJ (Ql c q (s+1) s9 Va ((EK.At.of_sl (E:=EC) bb.chg).below VJ) ZC.1) g.mem u1 t1 M o o.size (aJ Wi)).mono ?_;rintro e t2 ⟨u2,rfl,hu,a1⟩;have Vm:=O hu;have a5:=O (o.trans a1);obtain⟨p3,c3,Wj⟩:=cK hu;obtain⟨n3,W⟩:=J ((g.mem.filter λm=> !fM c.chg m).length);rw[<-W]at Wj;subst Wj;have ce:=O W;clear hu a1 o M W;have bc:s+1+1<s9.heap.size:=(jP.1 Z6).1;have M:=(a5.block (s+1+1) bc).trans Z6;have cg:=ai M (m7 ⟨B,u,F,[],[]⟩ _ _ ax.out).1;have e9:=gt (o:=34) M;have H:=O M;clear M
 go_upto_region 23 with fail
 obtain⟨mL,ba⟩:∃f:T->A aK,f=λi=>(g.mem.filter λm=> !fM c.chg m)++((c.chg.take i).filter λx=> !(x.k==2)).map λx=>(⟨x.d,u,x.v⟩:aK):=⟨_,I⟩
 have Y6:=O ba;have bC:mL 0=g.mem.filter λm=> !fM c.chg m:=by rw[ba];simp
 have ci:∀i,(mL i).length<=900100:=λi=>by
  rw[ba];have h1:=qS (λm=> !fM c.chg m) g.mem;have h2:=qS (λx:ap=> !(x.k==2)) (c.chg.take i);have h3:=List.length_take_le i c.chg;have M:=Yo.len;have h5:=Wi.out;simp only[jJ,ju];have h6:(c.chg.take i).length<=c.chg.length:=List.length_take_le' _ _;omega
 have cj:=O ci;obtain⟨M,hM⟩:=J s9.heap.size;have Yp:ji (s+1+1<M):=O (by rw[hM];exact bc);have bi:∀ad v,((λv=>(aB ⟨B,u,F,[],[]⟩ v (jf S nx U)).toArray) ad).setIfInBounds 34 v=(λv=>(aB ⟨B,u,F,[],[]⟩ v (jf S nx U)).toArray) v:=λad v=>Dr ⟨B,u,F,[],[]⟩ ad _ v ax
 have Ve:=O bi;have ZD:=O hM;have a1:=gB.first (M:=M) (R:=s+1+1) (i:=34) (X:=(λv=>(aB ⟨B,u,F,[],[]⟩ v (jf S nx U)).toArray)) (e:=107) (sz:=3) (w0:=s9) H.out (by rw[hM];exact Vm) (by rw[hM];exact a5) (by rw[hM];exact a5.size) Yp (bi _ (jf p3 n3 c3));rw[<-ce,<-bC]at a1;clear ba bC ci hM bi H Vm a5 bc;have W:n3=(mL 0).length:=by rw[Y6,ce];simp
 generalize t2.setCell ⟨s+1+1,34,je⟩ (jf p3 n3 c3)=W9 at a1⊢;have YD:=O a1;have a5:=O W;clear W a1;have hA:W9.heap[s]?=N (jh aa 41 (0,0)):=(YD.but.block s (aJ Yp) Y).trans ZW;have hC:W9.heap[s+1]?=N (jh C 48 (0,0)):=(YD.but.block (s+1) (aJ Yp) Y).trans Zm;have ci:=bb.chg;rw[bf]at ci;obtain⟨ba,p1,q1,ed,eg,a6,H⟩:=ci;injection ed with e1 W e3
 subst e1;subst e3;have bc:=O W;rw[<-W]at eg H;have ck:=O H;clear ba a6 H W;have Y8:=ai hC t.2.2.2.1;have Yv:ji (nc<=64):=O (by rw[bc];exact Yo.len);clear hA hC
 go_wp2_with fail
 go_loopw [123] (λv wr=>∃(i m:T) (H:jv jM) (W:T),v=jc jd i/\i<=nc/\ji (m=(mL i).length)/\ji (gB M (s+1+1) 41 107 3 (λv=>(aB ⟨B,u,F,[],[]⟩ v (jf S nx U)).toArray) s9 wr m (jf H m W) (EM.flat (mL i)))) (λv _=>nc-(jF v).toNat)
 case atStart=>exact⟨0,n3,p3,c3,I,oj _,a5,YD⟩
 clear YD a5 Y8;obtain⟨i,m,H,W,rfl,hi,HM,HR⟩:=hrel;have fe:=Yv.out
 by_cases cm:i<nc
 ·have hd:=aw ((i:ja)<(nc:ja))
  have UL:=aw (i<nc);obtain⟨g0,o,rfl,a5,a6⟩:=ck Y;obtain⟨x,hx,ba⟩:=wR (l:=c.chg) (j:=i) (by rw[<-bc];exact cm);have bi:g0<M:=by have:=Yp.out;have:=HG.out;omega
  have bC:g0≠s+1+1:=aJ HG;have Vk:=(HR.but.block g0 bi bC).trans (VJ.block g0 a5);have a1:=λk hk=>(dY (a:=⟨g0,o+(i*5+k),je⟩) Vk).trans (a6 (i*5+k) _ ((flat_get ap.cells 5 (λ_=>rfl) c.chg i k x hx hk).trans (show x.cells[k]?=N (x.cells.getD k (jc jd 0)) by have:x.cells.length=5:=I;simp[qA,mz (show k<x.cells.length by omega)])))
  have d0:wr.cell? ⟨g0,o+i*5,je⟩=N (jc jd x.k):=a1 0 L;have d1:wr.cell? ⟨g0,o+i*5+1,je⟩=N (jc jd x.d):=a1 1 L;have d2:wr.cell? ⟨g0,o+i*5+2,je⟩=N (jc jd x.p):=a1 2 L;have d3:wr.cell? ⟨g0,o+i*5+3,je⟩=N (jc jd x.v):=a1 3 L;have d4:wr.cell? ⟨g0,o+i*5+4,je⟩=N (jc jd x.c):=a1 4 L;have cn:=LY g.mem c.chg u ba;have Wd:ji (mL (i+1)=mL i++(if x.k=2 then []else [⟨x.d,u,x.v⟩])):=O (by rw[Y6];exact cn);have cq:ji (wr.heap[s+1]?=N (jh C 48 (0,0))):=O ((HR.but.block (s+1) (aJ Yp) Y).trans Zm);clear bi bC Vk a1 a6 hx ba cn a5
  go_upto_region 26 with fail
  obtain⟨bx,bi⟩:=J wr.heap.size;have a6:=jC wr (jh #[jc jd x.k,jc jd x.d,jc jd x.p,jc jd x.v,jc jd x.c] 62);have d:=ao wr (jh #[jc jd x.k,jc jd x.d,jc jd x.p,jc jd x.v,jc jd x.c] 62);have YC:ji ((qB H m W).ownBlock≠N bx):=O (eY HR.own (.inl (qP bi.symm)));rw[<-bi]at a6⊢;obtain⟨k0,Zl⟩:=J (wr.alloc (jh #[jc jd x.k,jc jd x.d,jc jd x.p,jc jd x.v,jc jd x.c] 62));rw[<-Zl]at a6 d⊢;have ba:=O (HR.later Yp d);have bC:=ae cq d;have a5:=O a6;clear a6 d Zl bi HR cq d0 d1 d2 d3 d4
  by_cases a6:x.k=2
  ·have hd2:(x.k !=2)=jr:=ak a6
   have e0:k0.cell? ⟨bx,0,je⟩=N (jc jd x.k):=ai a5 I;have VE:=O a6;clear a6
   go_wp2_with fail
   refine⟨⟨i+1,m,H,W,by go_num,by omega,O ?_,O ?_⟩,?_⟩
   ·rw[Wd,jp VE.out,qz];exact HM
   ·rw[Wd,jp VE.out,qz];exact ba
   simp only[jF];omega
  have hd2:(x.k !=2)=jk:=ak a6;have e0:k0.cell? ⟨bx,0,je⟩=N (jc jd x.k):=ai a5 I;have VE:=O a6;clear a6;have bi:=O ba.box;have cq:ji (((λv=>(aB ⟨B,u,F,[],[]⟩ v (jf S nx U)).toArray) (jf H m W))[34]?=N (jf H m W)):=O (m7 ⟨B,u,F,[],[]⟩ _ _ ax.out).1;have bI:ji (((λv=>(aB ⟨B,u,F,[],[]⟩ v (jf S nx U)).toArray) (jf H m W)).size=36):=O (m7 ⟨B,u,F,[],[]⟩ _ _ ax.out).2.2
  go_upto_region 27 with fail
  clear e0;refine jY ?_;have b0:=ai bi cq;have b1:=ai (i:=1) a5 I;have b2:=ai bC t.2.1;have b3:=ai (i:=3) a5 I;iterate 9 refine eh ?_
  clear b0 b1 b2 b3;refine jO I λ_ r=>?_
  go_simp;have d:=ao k0 (jh #[jc jd x.d,jc jd u,jc jd x.v] 107);have Uv:=jC k0 (jh #[jc jd x.d,jc jd u,jc jd x.v] 107);obtain⟨k1,hx⟩:=J (k0.alloc (jh #[jc jd x.d,jc jd u,jc jd x.v] 107));have Wp:=lz k0 [jc jd x.d,jc jd u,jc jd x.v] 107 (0,0) 3 1 1 I (jE _);replace Wp:cE (k0.alloc (jh #[jc jd x.d,jc jd u,jc jd x.v] 107)) (jf (N ⟨k0,0,je⟩) 1 1) 3 1 [jc jd x.d,jc jd u,jc jd x.v]:=Wp;rw[<-hx]at Wp;have Zv:=O Wp;clear Wp;rw[<-hx]at d Uv⊢;have a6:=O (ba.later Yp d);have ej:=ae bi d;have fm:=ae a5 d;have ck:=ae bC d;clear ba bi a5 bC;have bC:=O Uv;clear Uv hx d;refine r _ _ ?_;clear r;refine G ?_;refine jO I λ_ r=>?_
  refine LL _ _ I M (jf H m W) m _ I a6.own _ 1 _ I Zv (by simp[r6]) (by have h1:=cj i;rw[<-HM]at h1;omega) a6.sz' λv' m2 YF=>?_
  have UC:=YF.own;obtain⟨pn,cn,rfl⟩:=cK UC;have a5:=lf ej YF.grown (eY a6.own (.inr Yp));refine r _ _ ?_;replace YF:=O YF;have ba:ji (gB M (s+1+1) 41 107 3 (λv=>(aB ⟨B,u,F,[],[]⟩ v (jf S nx U)).toArray) s9 (m2.setCell ⟨s+1+1,34,je⟩ (jf pn (m+1) cn)) (m+1) (jf pn (m+1) cn) (EM.flat (mL (i+1)))):=O (by
   have h:=a6.push (i:=34) Yp YF (Ve _ _);rw[Wd,jq VE.out,EK.flat_append,EK.flat_one];exact h)
  clear r UC;refine G ?_;refine eh ?_;refine jO I λ_ r=>?_
  obtain⟨⟨vo,bi⟩,f3,-,-⟩:=kp (i:=34) (jf pn (m+1) cn) a5 (by rw[bI];decide);go_simp;refine r _ _ ?_;clear r bi f3 a5
  go_wp2_with fail
  refine⟨⟨i+1,m+1,pn,cn,by go_num,by omega,O ?_,ba⟩,?_⟩
  ·rw[Wd,jq VE.out,jJ,<-HM];rfl
  simp only[jF];omega
 have hd:=az ((i:ja)<(nc:ja));have UL:=az (i<nc);have a5:mL i=gd g.mem c.chg c.epoch:=by
  rw[Y6,bm];dsimp only;unfold gd;rw[qh (by rw[<-bc];omega)]
 have e0:=O a5;have b1:ji (Fr w.heap.size (jf H m W)):=O ((Fr.of_own HR.own).mono (by rw[ZD];exact VJ.size));have UC:=HR.own;have Zw:=HM.out;rw[a5]at UC Zw;rw[Zw]at UC;have Zf:=O UC;have b2:=O Zw;have cg:=ai HR.box (m7 ⟨B,u,F,[],[]⟩ (jf H m W) (jf S nx U) ax).1;have b3:=O (Hd (ep:=c.epoch) (wg bA) Yo.once);have cn:ji ((gd g.mem c.chg c.epoch).length<=1000000):=O (by rw[<-a5];have:=cj i;omega);clear a5 UC Zw
 go_upto_region 29 with fail
 go_wp2_with fail
 refine(Jz (gd g.mem c.chg c.epoch) b3 M (jf H m W) wr (by rw[b2];exact Zf) HR.sz' cn).mono ?_;rintro e f1 ⟨rfl,VS,d⟩;have Vl:=O VS;have ZY:=O d;have a6:ji (f1.heap[s+1+1]?=N (jh ((λv=>(aB ⟨B,u,F,[],[]⟩ v (jf S nx U)).toArray) (jf H m W)) 41 (0,0))):=O ((d.block (s+1+1) Yp).trans HR.box);have cq:ji (jo w w f1):=O (VJ.trans ((HR.but.below (n:=w.heap.size) (by rw[HG];omega) (ee Yp HG)).trans (d.mono (ee Yp HG))));have ej:ji (∀k,k<s9.heap.size->k≠s+1+1->f1.heap[k]?=s9.heap[k]?):=O (λk hk hn=>(d.block k (by rw[ZD];exact hk)).trans (HR.but.block k (by rw[ZD];exact hk) hn));clear VS d HR cg hd UL cm;obtain⟨d,hY⟩:=J ((λv=>(aB ⟨B,u,F,[],[]⟩ v (jf S nx U)).toArray) (jf H m W));have ba:d.size=36:=by rw[hY];exact(m7 ⟨B,u,F,[],[]⟩ _ _ ax.out).2.2
 have bi:(jl.info? 41).map (·.size)=N d.size:=by rw[ba];kernel_rfl
 have bC:d.all (·.oneCell')=jk:=by
  rw[hY,qb];intro ad hu;simp only[aB,vi,jD,jQ,ql,or_false]at hu
  rcases hu with rfl|rfl|hu|rfl|rfl
  ·rfl
  ·rfl
  ·exact iU _ ad hu
  ·rfl
  rfl
 have a5:ji (f1.heap[s+1+1]?=N (jh d 41 (0,0))):=O (by rw[hY];exact a6);have b0:=O hY;have Yq:=O bi;have cm:=O bC;clear hY ba bi bC a6
 go_upto_region 30 with fail
 refine jY ?_;refine ei (v:=jn d) aj (dc jI I Yq I I a5) (G ?_);refine jO I λ_ r=>j8 41 _ _ I (s+1+1) d I I 41 _ a5.out Yq I cm (r _ _ ?_)
 clear r;refine G ?_;refine eh ?_;rename_i KR Zu XR;refine Zu _ _ ?_;refine wp_ret ?_;show o8 _ _ P .ret _ _;refine n0 (fS I _ _ (s+1+1) 41 d (0,0) _ I (j4 _ _ _ _ _ _ a5.out) jI I Yq) I (HP _ _ ⟨λ_=>⟨jf H m W,jf S nx U,?_,ct _ _ _ ?_ ?_,b1,ea⟩,λh=>jA ec h,ob cq.out (by rw[HG];omega) _⟩)
 ·rw[b0]
  have h1:(λv=>(aB ⟨B,u,F,[],[]⟩ v (jf S nx U)).toArray) (jf H m W)=(aB NG (jf H m W) (jf S nx U)).toArray:=by
   show(aB ⟨B,u,F,[],[]⟩ _ _).toArray=_;rw[bw,bm];exact jR List.toArray (cs F bn _ _)
  exact jR (λz=>Ending.returned (jZ #[jn z,jc jd 0])) h1
 ·rw[rp a5]
  exact Vl
 have h2:(f1.setRow (s+1+1) d).heap[s+1+1]?=N (jh ((λv=>(aB ⟨B,u,F,[],[]⟩ v (jf S nx U)).toArray) (jf H m W)) 41 (0,0)):=(j4 f1 (s+1+1) d _ _ _ a5.out).trans (jR (λz=>N (Obj.cells z 41 (0,0))) b0);have h3:bJ (f1.setRow (s+1+1) d) (jf S nx U) (gr (aX g.tree c.chg) au c.path):=cc.ints (uI (i:=34) (X:=(λv=>(aB ⟨B,u,F,[],[]⟩ v (jf S nx U)).toArray) (jf je 0 0)) Z6 h2 (λj hj=>Nq ⟨B,u,F,[],[]⟩ _ _ _ ax.out j hj) (m7 ⟨B,u,F,[],[]⟩ _ _ ax.out).1 (λk hk hn=>(qo _ _ _ _ hn).trans (ej k hk hn)));rw[a4]at h3;exact h3
section
open Go.RowKit Go.Maps Go.Sort Go.Shelf
theorem R9(c B:js jb)(a b:ja)(f:c[106]?=N (jc jd a))(g:B[106]?=N (jc jd b))(w:jg):
 jz jl 168 #[jn c,jn B] w λe w'=>e=jw (jc jd (cC a b))/\w'=(w.alloc (jh c 82)).alloc (jh B 82):=by
 have d:=O (tL a b)
 go_enter func168,ntmps168
 go_wp2_with fail
 refine(d _).mono ?_;rintro e h ⟨rfl,rfl⟩
 go_wp2_with fail
 go_ret;exact⟨I,I⟩
theorem Jq(c B:js jb)(a b:ja)(f:c[35]?=N (jc jd a))(g:B[35]?=N (jc jd b))(w:jg):
 jz jl 169 #[jn c,jn B] w λe w'=>e=jw (jc jd (cC a b))/\w'=(w.alloc (jh c 82)).alloc (jh B 82):=by
 have d:=O (tL a b)
 go_enter func169,ntmps169
 go_wp2_with fail
 refine(d _).mono ?_;rintro e h ⟨rfl,rfl⟩
 go_wp2_with fail
 go_ret;exact⟨I,I⟩
theorem Le(c B:js jb)(a b:LBy)(k:a.length=32)(lb:b.length=32)(h:∀(j:T) v,(a.map v8)[j]?=N v->c[74+j]?=N v)(i:∀(j:T) v,(b.map v8)[j]?=N v->B[74+j]?=N v)(w:jg):
 jz jl 170 #[jn c,jn B] w λe w'=>e=jw (jc jd (dF a b))/\∃q,w'=((w.alloc (jh c 82)).alloc (jh B 82)).drewN q:=by
 obtain⟨d,f⟩:=J ((w.alloc (jh c 82)).alloc (jh B 82));have n:=O h;have o:=O i;have g:=O f;rw[<-f];clear h i f;have p:ji (∀W,W=d.drew->W.rangeAt w.heap.size 74 (a.map v8)):=O (by
  rintro W rfl j v f;rw[g];exact(World.cell?_alloc2_first c _ _ _).trans (n j v f))
 have r:ji (∀W,W=d.drew->W.rangeAt (w.heap.size+1) 74 (b.map v8)):=O (by
  rintro W rfl j v f;rw[g];exact(World.cell?_alloc2_new _ B _ _).trans (o j v f))
 go_enter func170,ntmps170
 go_upto_region 1 with fail
 rw[<-g];refine pz ?_;refine dj (λ_=>True) (.t 0 (.t 1 (.t 2 (.t 3 (.o 4 (.t 5 .done)))))) af af af L (λ_ _ _ _ h=>h) trivial ?_;obtain⟨i,f⟩:=J d.drew;rw[<-f];have h:=O f;clear f;iterate 4 refine aO ?_
 refine aF I (λj f=>?_);go_simp;refine(Qa (l:=a) (m:=b) (p i h) (r i h) 32 32 32 32 k.symm lb.symm).mono ?_;rintro e j ⟨rfl,rfl⟩;refine f _ _ trivial λ_=>?_
 clear f;refine G ?_;refine aO ?_;refine qn ?_
 go_wp2_with fail
 go_ret;exact⟨I,1,h⟩
def pA(r:T->ja):ja:=if r 0≠0 then r 0 else if r 1≠0 then r 1 else r 2
theorem OY{r:T->ja}(b:M<3)(h:∀j,j<M->r j=0)(a:r M≠0):pA r=r M:=by
 unfold pA
 rcases(by omega:M=0\/M=1\/M=2)with rfl|rfl|rfl
 ·rw[jp a]
 ·rw[jq (by rw[h 0 L];decide),jp a]
 rw[jq (by rw[h 0 L];decide),jq (by rw[h 1 L];decide)]
theorem Tq{r:T->ja}(h:∀j,j<3->r j=0):pA r=0:=by
 unfold pA;rw[jq (by rw[h 0 L];decide),jq (by rw[h 1 L];decide),h 2 L]
theorem Grw.cell(h:Grw w w'){a:jM}{v:jb}(b:w.cell? a=N v):w'.cell? a=N v:=(dY (h.heap (gh b))).trans b
theorem Kz(a B:js jb)(j:a.size=143)(m:B.size=143)(F:T->T)(r:T->ja)(n:∀k,k<3->∀args w,(r8 (F k) args).run jl w=.ok (.enter (F k) args) w)
 (o:∀k,k<3->∀W,jz jl (F k) #[jn a,jn B] W λe w'=>e=jw (jc jd (r k))/\Grw W w') (w:jg) (p l:T)
 (q:w.cell? ⟨p,0,je⟩=N (jf (N ⟨l,0,je⟩) 3 3)) (s:∀k,k<3->w.cell? ⟨l,k,je⟩=N (.func (.func (F k)) #[] #[])):
 jz jl 223 #[jn a,jn B,jG (N ⟨p,0,je⟩)] w λe w'=>e=jw (jc jd (pA r))/\Grw w w':=by
 have i:(jl.info? 82).map (·.size)=N 143:=by kernel_rfl
 have E:ji ((jl.info? 82).map (·.size)=N a.size):=O (by rw[j];exact i);have H:ji ((jl.info? 82).map (·.size)=N B.size):=O (by rw[m];exact i);obtain⟨c,b⟩:=J ((w.alloc (jh a 82)).alloc (jh B 82));obtain⟨g,d⟩:=J w.heap.size;have f:Grw w c:=by rw[b];exact(Grw.alloc _ _).trans (Grw.alloc _ _)
 have t:c.heap[g]?=N (jh a 82 (0,0)):=by rw[b,d];exact av (jC w _) (ao _ _)
 have u:c.heap[g+1]?=N (jh B 82 (0,0)):=by
  have h:=jC (w.alloc (jh a 82)) (jh B 82);rw[jK]at h;rw[b,d];exact h
 have z:=f.cell q;have K:ji (∀k,k<3->c.cell? ⟨l,k,je⟩=N (.func (.func (F k)) #[] #[])):=O λk v=>f.cell (s k v)
 have x:=O f;have M:=O t;have P:=O u;have y:=O (And.intro b d);have Q:=O n;have R:=O o;clear j m i b d f t u n o q s
 go_enter func223,ntmps223
 go_upto_region 1 with fail
 rw[<-y.1,<-y.2]
 go_wp2_with fail
 clear z
 go_loopw [11] (λi wr=>∃k:T,i=jc jd k/\k<=3/\ji (∀j,j<k->r j=0)/\ji (Grw c wr)) (λi _=>3-(jF i).toNat)
 case atStart=>exact⟨0,I,by omega,O (λj q=>jA q (qQ j)),O (Grw.refl _)⟩
 obtain⟨k,rfl,v,m,d⟩:=hrel
 by_cases i:k<3
 case neg=>
  have S:=az ((k:ja)<3);have U:=az (k<3);obtain rfl:k=3:=Y;have b:=O (Tq m)
  go_wp2_with fail
  go_ret;exact⟨by rw[b];rfl,x.trans d⟩
 have S:=aw ((k:ja)<3);have U:=aw (k<3);have s:=d.cell (K k i);have t:=Q k i;have b:=O (R k i);have u:ji (wr.heap[g]?=N (jh a 82 (0,0))):=O (d.keep M);have z:ji (wr.heap[g+1]?=N (jh B 82 (0,0))):=O (d.keep P);have C:ji (r k≠0->pA r=r k):=O (OY i m);obtain⟨n,o⟩:=J (r k);obtain⟨f,D⟩:=J (F k);rw[<-D]at s t b;rw[<-o]at b C;have V:=O o;clear D o
 go_wp2_with (first|(refine ei aj (dc qZ I E I I u) (G ?_))|(refine ei aj (dc qZ I H I I z) (G ?_)))
 refine(b wr).mono ?_;rintro e W ⟨rfl,o⟩;have D:=O (d.trans o);clear o s t b u z
 by_cases b:n=0
 case neg=>
  have o:(n !=0)=jk:=ak b;have s:=O (C b);clear b
  go_wp2_with fail
  go_ret;exact⟨by rw[s];rfl,x.trans D⟩
 have o:(n !=0)=jr:=ak b;have s:ji (∀j,j<k+1->r j=0):=O λj q=>by
  rcases(by omega:j<k\/j=k)with h|rfl
  ·exact m j h
  rw[<-V];exact b
 clear b
 go_wp2_with fail
 exact⟨⟨k+1,by go_num,by omega,s,D⟩,by simp only[jF];omega⟩
end
section
open Go.RowKit Go.Maps Go.Sort Go.Shelf
def De:T->T
 |0=>168
 |1=>169
 |_=>170
structure ly(w:jg)(b a:T):Prop where
 var:w.cell? ⟨b,0,je⟩=N (jf (N ⟨a,0,je⟩) 3 3)
 fns:∀k,k<3->w.cell? ⟨a,k,je⟩=N (.func (.func (De k)) #[] #[])
theorem ly.below{a b:T}(h:ly w a b)(c:jo w w w'):ly w' a b:=⟨aD h.var c,λk d=>aD (h.fns k d) c⟩
theorem ly.lt(h:ly w M R):M<w.heap.size/\R<w.heap.size:=⟨gh h.var,gh (h.fns 0 L)⟩
theorem Sl(p:jv jM)(n c:T)(w:jg):jz jl 167 #[jf p n c] w λe w'=>e=jw (.func (.func 223) #[] #[jG (N ⟨w,0,je⟩)])/\w'=w.alloc (jh #[jf p n c] 321):=by
 go_enter func167,ntmps167
 go_wp2_with fail
 go_ret;exact⟨I,I⟩
theorem M9(w:jg):jz jl 116 #[] w λe w'=>∃d h,e=jw (.func (.func 223) #[] #[jG (N ⟨d,0,je⟩)])/\ly w' d h/\w.heap.size<=d/\w.heap.size<=h/\jo w w w':=by
 go_enter func116,ntmps116
 go_wp2_with fail
 refine(Sl _ _ _ _).mono ?_;rintro e m ⟨rfl,rfl⟩;obtain⟨a,f⟩:∃a:Obj,a=(jh #[.func (.func 168) #[] #[],.func (.func 169) #[] #[],.func (.func 170) #[] #[]] 193):=⟨_,I⟩;have b:=av (jC w a) (ao _ (jh #[jf (N ⟨w,0,je⟩) 3 3] 321));have c:=jC (w.alloc a) (jh #[jf (N ⟨w,0,je⟩) 3 3] 321);have g:=(ao w a).trans ((ao (w.alloc a) (jh #[jf (N ⟨w,0,je⟩) 3 3] 321)).mono ar);rw[<-f];generalize i:(w.alloc a).alloc (jh #[jf (N ⟨w,0,je⟩) 3 3] 321)=W at b c g⊢;rw[f]at b;rw[jK]at c;have j:ji (ly W (w.heap.size+1) w.heap.size):=O ⟨ai c I,λk n=>ai b (by rcases(by omega:k=0\/k=1\/k=2)with rfl|rfl|rfl<;>rfl)⟩;have l:=O g;clear b c g i f
 go_wp2_with fail
 go_ret;exact⟨_,_,I,j,by omega,jE _,l⟩
def DO(x y:aM):T->ja
 |0=>cC x.since y.since
 |1=>cC x.com.author y.com.author
 |_=>dF x.id y.id
theorem Kr(x y:aM):pA (DO x y)=kQ x y:=I
theorem OO{x y:CK}{c:A CP}(d:KD D c w x)(f:KD D c w y)(m:cA w a c){g n:T}(o:ly W g n):
 jz jl 223 (#[jn (aL x).toArray,jn (aL y).toArray]++ #[jG (N ⟨g,0,je⟩)]) W λe w'=>e=jw (jc jd (kQ x.cand y.cand))/\∃q os,w'=grow (W.drewN q) os:=by
 have i:=d.kin m;have l:=f.kin m;obtain⟨-,p,-,r,-,-⟩:=mM i;obtain⟨-,s,-,t,-,-⟩:=mM l;rw[<-Kr];refine Kz (aL x).toArray (aL y).toArray (by rw[jL,i.len]) (by rw[jL,l.len]) De (DO x.cand y.cand) (λk v=>?_) (λk v w0=>?_) W g n o.var o.fns
 ·rcases(by omega:k=0\/k=1\/k=2)with rfl|rfl|rfl
  ·exact r9 func168 af I
  ·exact r9 func169 af I
  exact r9 func170 af I
 rcases(by omega:k=0\/k=1\/k=2)with rfl|rfl|rfl
 ·refine(R9 _ _ x.since y.since (ak r) (ak t) w0).mono ?_
  rintro e w' ⟨rfl,rfl⟩;exact⟨I,(Grw.alloc _ _).trans (Grw.alloc _ _)⟩
 ·refine(Jq _ _ x.p.1.author y.p.1.author (ak p) (ak s) w0).mono ?_
  rintro e w' ⟨rfl,rfl⟩;exact⟨I,(Grw.alloc _ _).trans (Grw.alloc _ _)⟩
 refine(Le _ _ x.id y.id d.idl f.idl (λj b v=>?_) (λj b v=>?_) w0).mono ?_
 ·have b:=(jT.1 v).1
  rw[ju,d.idl]at b;have h:=BH i b
  simpa using h.trans v
 ·have b:=(jT.1 v).1
  rw[ju,f.idl]at b;have h:=BH l b
  simpa using h.trans v
 rintro e w' ⟨rfl,q,rfl⟩;exact⟨I,((Grw.alloc _ _).trans (Grw.alloc _ _)).trans (Grw.drewN _ _)⟩
end
section
open Go.RowKit Go.Maps Go.Sort Go.Shelf
theorem mC{q:CQ}(h:aW D w r q):∀v∈aE r q,v.oneCell'=jk:=by
 obtain⟨f,g,a⟩:=h.chg.form;obtain⟨i,j,b⟩:=h.path.form;obtain⟨s,k,-⟩:=h.box;obtain⟨l,m,d⟩:=k.form;obtain⟨t,n,-⟩:=h.wel;obtain⟨o,p,e⟩:=n.form;obtain⟨u,x,y,z⟩:=q;dsimp only at a b d e;subst a b d e;have h:=zL r f i l o r.chg.length r.path.length r.box.length r.wel.length g j m p;rw[qb]at h;exact λv c=>h v (ak c)
theorem KD.ones{d:A CP}{k:CK}(h:KD D d w k)(e:cA W a d):∀b∈aL k,b.oneCell'=jk:=by
 intro b v;unfold aL at v;rw[jD,jQ,jQ,jD]at v
 rcases v with rfl|v|v|rfl|v
 ·rfl
 ·exact mC (e.all _ (j1 h.at_)) b v
 ·exact iu _ b v
 ·rfl
 obtain⟨p,c,f,-,-⟩:=h.grp.grp.mem.form;obtain⟨i,n',j,g⟩:=gP h.grp.grp.tree;rw[f,g]at v;unfold aB at v;rw[jD,jD,jQ]at v
 rcases v with rfl|rfl|v|v
 ·rfl
 ·rfl
 ·exact iu _ b v
 simp only[jD,xP,or_false]at v
 rcases v with rfl|rfl<;>rfl
abbrev CW:={k:CK//(aL k).length=143/\∀a∈aL k,a.oneCell'=jk}
def EKK:EK CW:=⟨λk=>aL k.1,143,82,by decide,λk=>k.2.1,λk v a=>k.2.2 v a⟩
theorem F8(l:A CW):EKK.flat l=(l.map (·.1)).flatMap aL:=by rw[xG];rfl
def KD.cw{D:T->Prop}{a:A CP}{w w0:jg}{v:jb}{k:CK}(h:KD D a w k)(b:cA w0 v a):CW:=⟨k,h.len b,h.ones b⟩
def mm(l:A CW):A CW:=l.mergeSort λx y=>leC x.1.cand y.1.cand
theorem Tf(l:A CW):(mm l).map (λk=>k.1.cand)=(l.map λk=>k.1.cand).mergeSort leC:=
 xQ λ_ _ _ _=>rfl
theorem No{l:A CW}{x:CW}:x∈mm l↔x∈l:=(ms _ _).mem_iff
theorem TA(l:A CW):(mm l).length=l.length:=(ms _ _).length_eq
theorem Pe(l:A CW)(F:(l.map λk=>k.1.id).Nodup)(p g n c:T)(w W:jg)(h:dx EKK p w W g n c l)(P:n<=1000000){w0:jg}{D:T->Prop}{q:A CP}{v:jb}(d:∀x∈l,KD D q w0 x.1)(H:cA w0 v q)
 {i t:T} (j:ly W i t) (K:i≠g) (M:t≠g):
 jz jl 115 #[jf (N ⟨g,0,je⟩) n c,.func (.func 223) #[] #[jG (N ⟨i,0,je⟩)]] W λe w'=>
  e=jw (jZ #[])/\EKK.At w' (jf (N ⟨g,0,je⟩) n c) (mm l)/\jo p W w'/\W.heap.size<=w'.heap.size/\∀k,k<W.heap.size->k≠g->w'.heap[k]?=W.heap[k]?:=by
 rcases Nat.eq_zero_or_pos n with u|u
 ·subst u
  obtain rfl:l=[]:=xR h.len.symm;refine(Tryzx.sortFunc_noneK _ c _ W).mono ?_;rintro e w' ⟨rfl,rfl⟩;have e:mm []=[]:=by unfold mm;simp
  rw[e];exact⟨I,h.at,j9 _ _,jE _,λ_ _ _=>rfl⟩
 have o:l≠[]:=λe=>by have:=h.len;rw[e]at this;simp at this;omega
 haveI:Inhabited {x//x∈l}:=⟨⟨l.head o,List.head_mem o⟩⟩
 have B:=Tl.on (λx:{x//x∈l}=>x.1.1.cand);have C:=AnyQ.slices_SortFunc_total (α:={x//x∈l}) Tryzx.laysK 143 isAgg82 sizeOf82 (λx=>EKK.cells x.1) (λx=>EKK.len x.1) (λx v a=>EKK.one x.1 v a) (λx y=>kQ x.1.1.cand y.1.1.cand) B.swo 223 #[jG (N ⟨i,0,je⟩)] g 0 c l.attach.toArray W
  (r9 func223 af rfl)
  (λm os a _ x y=>OO (d x.1 x.2) (d y.1 y.2) H ⟨(dY (zS j.lt.1 K)).trans j.var,λk d=>(dY (zS j.lt.2 M)).trans (j.fns k d)⟩)
  h.holds h.lt.2 (by rw[jL,xe,<-h.len];omega)
  (λx y a b=>Subtype.ext (FE F x.1 x.2 y.1 y.2 (by
   have e:=B.tot a b;exact jR (λz=>z.2.2) e)))
 rw[jL,xe,<-h.len]at C;refine C.mono ?_;rintro e w' ⟨rfl,m,os,rfl⟩;have z:((l.attach.mergeSort λx y=> !ltOf (λx y:{x//x∈l}=>kQ x.1.1.cand y.1.1.cand) y x).map Subtype.val)=mm l:=by
  refine(xQ (r:=λx y:{x//x∈l}=> !ltOf (λx y:{x//x∈l}=>kQ x.1.1.cand y.1.1.cand) y x) (s:=λx y:CW=>leC x.1.cand y.1.cand) (f:=Subtype.val) (λa _ b _=>rfl)).trans ?_;rw[xS]
  rfl
 have a:=holdsK_sortWorldK (λx:{x//x∈l}=>EKK.cells x.1) 143 W g 0 m l.attach.toArray (l.attach.mergeSort λx y=> !ltOf (λx y:{x//x∈l}=>kQ x.1.1.cand y.1.1.cand) y x).toArray os h.lt.2 h.holds (by simp[(ms _ _).length_eq]);refine⟨I,?_,AP h.lt.1 (cT h.lt),OE,λk d o=>zS d o⟩;rw[<-z];exact Bo (E:=EKK) a (by rw[ju,(ms _ _).length_eq,xe];exact h.len) h.cap
end
section
open Go Go.RowKit Go.Maps
def dgV(d:LBy):jb:=jn (d.map v8).toArray
theorem FB{a b:LBy}(h:dgV a=dgV b):a=b:=by
 unfold dgV at h;injection h with h
 have c:=jR Array.toList h;rw[r7,r7]at c;refine(List.map_inj_right (λx y e=>?_)).1 c;injection e with _ e
 exact xd Y
def en(w:jg)(b:T)(S:A (LBy)):Prop:=
 ∃a c,w.heap[b]?=N (.map a c)/\a.toList.map MapEntry.key=S.map dgV/\(∀x∈a.toList,x.val=.bool jk)/\∀d∈S,d.length=32
theorem en.made(w:jg):en (w.alloc (.map #[] 0)) w.heap.size []:=⟨#[],0,jC _ _,I,ar,ar⟩
theorem en.keep{w w':jg}{b:T}{S:A (LBy)}(h:en w b S)(a:w'.heap[b]?=w.heap[b]?):en w' b S:=by
 obtain⟨c,d,e,f⟩:=h;exact⟨c,d,a.trans e,f⟩
theorem en.lt{w:jg}{b:T}{S:A (LBy)}(h:en w b S):b<w.heap.size:=by
 obtain⟨c,d,a,-⟩:=h;exact(jP.1 a).1
theorem en.below{w w':jg}{b:T}{S:A (LBy)}(h:en w b S)(a:jo w w w'):en w' b S:=h.keep (a.block b h.lt)
section
variable {P:qc} {k e t:jt} {w:jg} {b:T} {S:A (LBy)}
structure ra(P:qc)(k:jt):Prop where
 law:WideMaps.KeyLaw P k
 key:∀d:LBy,d.length=32->∃l,keyOf P k (dgV d)=N l
theorem en.keys(K:ra P k){a:js MapEntry}(c:a.toList.map MapEntry.key=S.map dgV)(f:∀d∈S,d.length=32):∀x∈a.toList,∃l,keyOf P k x.key=N l:=λx d=>by
 have h:x.key∈a.toList.map MapEntry.key:=jy.2 ⟨x,d,I⟩;rw[c]at h;obtain⟨b,g,e⟩:=jy.1 h;rw[<-e];exact K.key b (f b g)
theorem en.look(h:en w b S)(K:ra P k)(m:P.underlying t=N (.map k e))(q:(zeroValue e).run P w=.ok (.bool jr) w){d:LBy}(r:d.length=32):
 (Instr.lookup t (.map (N b)) (jn (d.map v8).toArray) jr).run P w=.ok (.bool (decide (d∈S))) w:=by
 show(Instr.lookup t (.map (N b)) (dgV d) jr).run P w=_;obtain⟨n,B,o,a,s,u⟩:=h;obtain⟨l,c⟩:=K.key d r
 rcases K.law.find w c n.toList (en.keys K a u)with⟨f,g⟩|⟨j,i,f,g,v⟩
 ·have p:d∉S:=λy=>by
   have h:dgV d∈n.toList.map MapEntry.key:=by rw[a];exact jy.2 ⟨d,y,I⟩
   obtain⟨x,z,e⟩:=jy.1 h;exact g x z e
  rw[decide_eq_false p];simp[Instr.lookup,qK m,MapKept.run_getObj_map o,K.law.check w _ c,f,q,Result.andThen]
 have p:=j1 g;have x:d∈S:=by
  have h:i.key∈S.map dgV:=by rw[<-a];exact jy.2 ⟨i,p,I⟩
  obtain⟨z,y,e⟩:=jy.1 h;rw[v]at e;rw[<-FB e];exact y
 rw[xl x];simp[Instr.lookup,qK m,MapKept.run_getObj_map o,K.law.check w _ c,f,s i p,Result.andThen]
theorem en.put(h:en w b S)(K:ra P k)(z:P.underlying t=N (.map k e)){d:LBy}(B:d.length=32):
 ∃n,(Instr.mapUpdate t (.map (N b)) (jn (d.map v8).toArray) (.bool jk)).run P w=.ok () n/\en n b (if d∈S then S else S++[d])/\dy b w.heap.size w n:=by
 show∃n,(Instr.mapUpdate t (.map (N b)) (dgV d) (.bool jk)).run P w=.ok () n/\_;obtain⟨c,s,f,p,C,u⟩:=h;obtain⟨l,q⟩:=K.key d B;have D:∀o,dy b w.heap.size w (ChangeMaps.setBlock w b o):=λo=>⟨I,I,I,by simp[ChangeMaps.setBlock],λg _ H=>ChangeMaps.heap_setBlock_other f o H⟩
 rcases K.law.find w q c.toList (en.keys K p u)with⟨v,m⟩|⟨j,r,v,m,y⟩
 ·have F:d∉S:=λM=>by
   have h:dgV d∈c.toList.map MapEntry.key:=by rw[p];exact jy.2 ⟨d,M,I⟩
   obtain⟨x,a,e⟩:=jy.1 h;exact m x a e
  refine⟨ChangeMaps.setBlock w b (.map (c.push ⟨dgV d,.bool jk,s⟩) (s+1)),?_,?_,D _⟩
  ·simp[Instr.mapUpdate,qK z,MapKept.run_getObj_map f,K.law.check w jr q,v,MapKept.run_setObj_map _ f,Result.andThen,ChangeMaps.setBlock]
  rw[jq F];refine⟨_,_,ChangeMaps.heap_setBlock_same f _,?_,?_,?_⟩
  ·rw[xT,j5,j5,p];rfl
  ·intro x a
   rw[xT,jQ,qk]at a
   rcases a with a|rfl
   ·exact C x a
   rfl
  intro E i;rw[jQ,qk]at i
  rcases i with i|rfl
  ·exact u E i
  exact B
 have M:=j1 m;have Q:c[j]?=N r:=ak m;have R:d∈S:=by
  have h:r.key∈S.map dgV:=by rw[<-p];exact jy.2 ⟨r,M,I⟩
  obtain⟨E,i,e⟩:=jy.1 h;rw[y]at e;rw[<-FB e];exact i
 have E:(c.modify j (λi=>{i with key:=dgV d,val:=.bool jk})).toList=c.toList.set j {r with key:=dgV d,val:=.bool jk}:=by rw[Array.toList_modify,ChangeMaps.modify_eq_set _ _ _ _ m]
 refine⟨ChangeMaps.setBlock w b (.map (c.modify j (λi=>{i with key:=dgV d,val:=.bool jk})) s),?_,?_,D _⟩
 ·simp[Instr.mapUpdate,qK z,MapKept.run_getObj_map f,K.law.check w jr q,v,Q,y,K.law.stays w q,MapKept.run_setObj_map _ f,Result.andThen,ChangeMaps.setBlock]
 rw[jp R];refine⟨_,_,ChangeMaps.heap_setBlock_same f _,?_,?_,u⟩
 ·rw[E,List.map_set,<-p]
  refine wx λi=>?_
  by_cases F:i=j
  ·subst F
   have U:=(jT.1 m).1;rw[xn (ak U),p6,m,q7,y]
  rw[List.getElem?_set_ne (Ne.symm F)]
 intro x a;rw[E]at a
 rcases List.mem_or_eq_of_mem_set a with a|rfl
 ·exact C x a
 rfl
end
end
section
open Go Go.RowKit Go.Maps
theorem Oa{P:qc}{t:jt}{n:T}{k:IntKind}(f:P.underlying t=N (.array n e))(he:P.underlying e=N (.int k))(h:P.cellsOf t=n)(j:P.cellsOf e=1)(m:T)(b:A ja)(d:b.length=n)(o:∀c∈b,(Lit.int k c).wf=jk):
 P.keyLits (m+2) t (b.map (jj k))=N (b.map (Lit.int k)):=by
 have p:∀i∈qe n,P.keyLits (m+1) e (((b.map (jj k)).drop (i*1)).take 1)=N [Lit.int k (b.getD i 0)]:=λi c=>by
  have a:i<b.length:=by rw[d];exact wt.1 c
  have l:((b.map (jj k)).drop (i*1)).take 1=[jj k b[i]]:=by
   rw[Nat.mul_one,<-List.map_drop,<-List.map_take,qy a,xC,wv,jU,qs]
  have q:b.getD i 0=b[i]:=by simp[qA,a]
  rw[l,q];unfold Program.keyLits;rw[he];simp[o _ (rn a)]
 unfold Program.keyLits;rw[f];simp only[ju,d,h,j,if_true];rw[A9 (g:=λi=>[Lit.int k (b.getD i 0)]) _ p];simp only[q7,q8.injEq];have q:∀(l:A T),(l.map λi=>[Lit.int k (b.getD i 0)]).flatten=l.map λi=>Lit.int k (b.getD i 0):=λl=>by
  induction l with
  |nil=>rfl
  |cons a l r=>rw[jU,xB,r];rfl
 rw[q]
 apply wx
 intro i;rw[p6,p6]
 by_cases c:i<n
 ·rw[List.getElem?_range c,mz Y]
  have:i<b.length:=Y;simp[qA,this]
 rw[xa (by simp;omega),xa Y]
 rfl
theorem vf:ra jl 23 where
 law:=deep_law (m:=2) L af af af
 key:=λd a=>by
  have f:=Oa (P:=jl) (t:=23) (e:=5) (n:=32) (k:=.u8) qg xk af af (jl.types.size-1) (d.map λb=>(b.toNat:ja)) (by rw[ju];exact a) (by
   intro c g;obtain⟨y,-,rfl⟩:=jy.1 g;have:=y.isLt;exact WalkArith.wf_u8 Y)
  have c:jl.types.size-1+2=jl.types.size+1:=by kernel_rfl
  have e:(d.map λb=>(b.toNat:ja)).map (jj .u8)=d.map v8:=by rw[ow];rfl
  rw[c,e]at f;have g:(jl.keyType 23&&(dgV d).formed jl 23)=jk:=by
   rw[xx];refine⟨by kernel_rfl,?_⟩;unfold Value.formed dgV;rw[qg];simp[a]
   kernel_rfl
  refine⟨.string (keyBytes ((d.map λb=>(b.toNat:ja)).map (Lit.int .u8))),?_⟩;unfold keyOf;rw[qg];dsimp only;rw[jp g];show((jl.keyLits (jl.types.size+1) 23 (d.map v8).toArray.toList).map λb=>Lit.string (keyBytes b))=_;rw[r7,f]
  rfl
end
section
variable{f:jb}
noncomputable def VC:VarT jl:=⟨48,73,(aE mO nE).toArray,_,qX,I,mQ,by rw[jL];exact dl _ _ L L,λ_=>by kernel_rfl⟩
noncomputable def VD:VarT jl:=⟨23,32,(qu 32 (jj .u8 0)).toArray,_,qg,I,vx,by simp,λ_=>by kernel_rfl⟩
noncomputable def VP:VarT jl:=⟨78,3,#[jf je 0 0,jf je 0 0,jf je 0 0],_,underlying78,I,by kernel_rfl,rfl,λ_=>by kernel_rfl⟩
noncomputable def RI:eL jl:=.of 29 3 1 8 (jc jd 0) xj af I L L L
noncomputable def RD:eL jl:=.of 33 23 32 32 (jn (qu 32 (jj .u8 0)).toArray) underlying33 af (by simp[qV]) L L L
theorem dh(W:jg)(C:js jb)(t:jt):∃x b,x=W.alloc (jh C t)/\b=W.heap.size/\ji (x.heap[b]?=N (jh C t (0,0)))/\jo W W x:=⟨_,_,I,I,jC W _,ao W _⟩
def gq(l:A Cmt)(n:T):A (LBy):=(bW l n).map λi=>aH (aQ l i)
theorem AM{l:A Cmt}{d:LBy}:∀{n:T},d∈gq l n↔∃i,i<n/\aH (aQ l i)=d
 |0=>by
  unfold gq bW;simp
 |n+1=>by
  have a:=AM (l:=l) (d:=d) (n:=n);unfold gq at a⊢;rw[oX,j5,jQ,a]
  constructor
  ·rintro(⟨i,b,e⟩|h)
   ·exact⟨i,by omega,e⟩
   split at h
   ·rw[jU,qs,qk]at h
    exact⟨n,by omega,h.symm⟩
   cases h
  rintro⟨i,b,e⟩
  by_cases c:i<n
  ·exact .inl ⟨i,c,e⟩
  obtain rfl:i=n:=Y
  by_cases h:∀j,j<i->aH (aQ l j)≠aH (aQ l i)
  ·right
   rw[jp h];simp[e]
  left
  have⟨j,hj⟩:=Classical.not_forall.1 h;have⟨h1,h2⟩:=Classical.not_imp.1 hj;exact⟨j,h1,(Classical.not_not.1 h2).trans e⟩
theorem Ct{l:A Cmt}{n:T}(h:aH (aQ l n)∉gq l n):bW l (n+1)=bW l n++[n]:=by
 rw[oX,jp λj a e=>h (AM.2 ⟨j,a,e⟩)]
theorem Hm{l:A Cmt}{n:T}(h:aH (aQ l n)∈gq l n):bW l (n+1)=bW l n:=by
 rw[oX,jq,qz];intro a;obtain⟨j,b,e⟩:=AM.1 h;exact a j b e
theorem BM(l:A Cmt)(n:T):(if aH (aQ l n)∈gq l n then gq l n else gq l n++[aH (aQ l n)])=gq l (n+1):=by
 by_cases h:aH (aQ l n)∈gq l n
 ·rw[jp h];unfold gq;rw[Hm h]
 rw[jq h];unfold gq;rw[Ct h,j5];rfl
theorem rV(l:A Cmt)(n:T):(bW l n).length<=n:=by
 unfold bW;exact jH (qS _ _) ar
def eM(l:A Cmt)(P:A T):A jb:=P.flatMap λi=>(aH (aQ l i)).map v8
def fx(P:A T):A jb:=P.map λi=>jc jd (i:T)
structure iw(D:T->Prop)(w:jg)(b c d:jb)(a:A CP):Prop where
 list:cA w b a
 ids:aG D w c 32 (bW (a.map (·.1)) a.length).length (eM (a.map (·.1)) (bW (a.map (·.1)) a.length))
 at_:aG D w d 1 (bW (a.map (·.1)) a.length).length (fx (bW (a.map (·.1)) a.length))
structure PSt(M b m:T)(f:jb)(l:A Cmt)(i j:T)(k:T)(a c:jv jM)(d e:T)(W:jg):Prop where
 box:W.heap[b]?=N (jh #[f,jf a k d,jf c k e] 78 (0,0))
 ids:W.ownsRow M RD.e RD.k (jf a k d) k (eM l (bW l i))
 at_:W.ownsRow M RI.e RI.k (jf c k e) k (fx (bW l i))
 map:en W m (gq l j)
 len:k=(bW l i).length
 lb:M<=b
 lm:M<=m
theorem PSt.below{M b m:T}{c:jb}{l:A Cmt}{i j k:T}{d e:jv jM}{f g:T}{W n:jg}(h:PSt M b m c l i j k d e f g W)(a:jo W W n):PSt M b m c l i j k d e f g n:=
 ⟨av h.box a,cL h.ids a,cL h.at_ a,h.map.below a,h.len,h.lb,h.lm⟩
theorem Bc{W:jg}{M:T}{e:jt}{sz n:T}{xs:A jb}(h:W.ownsRow M e sz f n xs){g:T}(a:f.ownBlock=N g):∃b,W.heap[g]?=N (jh b e (0,0)):=by
 rcases h.2 with⟨c,-⟩|⟨g',v,b,c,i,d,-⟩
 ·rw[c]at a;cases a
 rw[c]at a;cases a;exact⟨b,d⟩
theorem cP{W:jg}{M:T}{e t:jt}{sz n:T}{xs:A jb}(h:W.ownsRow M e sz f n xs){b:T}{c:js jb}{d:T×T}(v:W.heap[b]?=N (jh c t d))(g:e≠t):f.ownBlock≠N b:=λi=>by
 obtain⟨j,a⟩:=Bc h i;rw[v]at a;injection a with a
 injection a with _ a
 exact g a.symm
theorem AO{W:jg}{M b:T}{e t:jt}{sz n c n':T}{a:jb}{xs ys:A jb}(h:W.ownsRow M e sz f n xs)(d:W.ownsRow b t c a n' ys)(v:e≠t):∀k,f.ownBlock=N k->a.ownBlock≠N k:=λk g i=>by
 obtain⟨l,j⟩:=Bc d i;exact cP h j v g
theorem uC{W:jg}{M:T}{e:jt}{sz n:T}{xs:A jb}(h:W.ownsRow M e sz f n xs){b:T}{S:A (LBy)}(c:en W b S):f.ownBlock≠N b:=λd=>by
 obtain⟨g,a⟩:=Bc h d;obtain⟨i,j,v,-⟩:=c;rw[v]at a
 cases a
theorem PSt.put{M b m:T}{l:A Cmt}{i j k:T}{n o:jv jM}{p q:T}{W c:jg}(h:PSt M b m f l i j k n o p q W){r:T}(s:en c m (gq l r))(d:dy m W.heap.size W c):PSt M b m f l i r k n o p q c:=by
 have t:b≠m:=λe=>by
  obtain⟨u,v,g,-⟩:=h.map;have a:=h.box;rw[e,g]at a
  cases a
 exact⟨(d.block b (jP.1 h.box).1 t).trans h.box,iD h.ids (λg a=>d.block g (h.ids.lt g a).2 λe=>uC h.ids h.map (e▸a)),
  iD h.at_ (λg a=>d.block g (h.at_.lt g a).2 λe=>uC h.at_ h.map (e▸a)),s,h.len,h.lb,h.lm⟩
theorem PSt.old{M b m:T}{l:A Cmt}{i k:T}{d h:jv jM}{a g:T}{W:jg}(c:PSt M b m f l i i k d h a g W)(j:aH (aQ l i)∈gq l i):PSt M b m f l (i+1) i k d h a g W:=by
 have e:=Hm j;exact⟨c.box,by rw[e];exact c.ids,by rw[e];exact c.at_,c.map,by rw[e];exact c.len,c.lb,c.lm⟩
section
variable {P:qc} {ops:js jN} {Q:Exit->Act->jg->Prop} {k e t:jt} {w:jg} {b:T} {S:A (LBy)} {o:jN} {rest:A jN} {a:Act}
theorem Ht(h:en w b S)(K:ra P k)(f:P.underlying t=N (.map k e))(g:(zeroValue e).run P w=.ok (.bool jr) w){d:LBy}(i:d.length=32){c:js jb}(j:c=(d.map v8).toArray)
 (l:o.guard=je) (m x:jW) (n:o.op=Op.lookup t m x jr) (p:a.eval m=.map (N b)) (q:a.eval x=jn c) (r:j6 P ops Q rest (a.put o.dst (.bool (decide (d∈S)))) w):j6 P ops Q (o::rest) a w:=by
 subst j;refine jO l λv s=>?_
 have u:=h.look K f g i;unfold Oper.wp;simp[o1,n,p,q,u,Result.andThen];exact s _ _ r
theorem CY(h:en w b S)(K:ra P k)(f:P.underlying t=N (.map k e)){d:LBy}(g:d.length=32){c:js jb}(i:c=(d.map v8).toArray)
 (j:o.guard=je) (m x v:jW) (l:o.op=Op.mapUpdate t m x v) (n:a.eval m=.map (N b)) (p:a.eval x=jn c) (q:a.eval v=.bool jk)
 (r:∀w',en w' b (if d∈S then S else S++[d])->dy b w.heap.size w w'->j6 P ops Q rest (a.put o.dst qf) w'):j6 P ops Q (o::rest) a w:=by
 subst i;refine jO j λB s=>?_
 obtain⟨w',u,y,z⟩:=h.put K f g;unfold Oper.wp;simp[o1,l,n,p,q,u,Result.andThen];exact s _ _ (r w' y z)
end
theorem pV(s:A CP)(X:jb)(w:jg)(a:cA w X s)(c:∀p∈s,cZ (aR p.1))(h:bH w)(hn:s.length<=1000):
 jz jl 21 #[X] w λe w'=>∃v2 v3,e=jw (jn #[X,v2,v3])/\iw (λg=>w.heap.size<=g/\g<w'.heap.size) w' X v2 v3 s/\jo w w w':=by
 obtain⟨t,f,rfl⟩:=a.form;obtain⟨l,hl⟩:∃l:A Cmt,l=s.map (·.1):=⟨_,I⟩;obtain⟨n,b⟩:=J s.length;have HL:=O a;have HE:=O c;have HT:=O h;have a1:=O hl;have ZF:=O b;obtain⟨M,d⟩:=J w.heap.size;have u:=O d;rw[<-b]at hn⊢;have k:=ao w (jh #[jf je 0 0,jf je 0 0,jf je 0 0] 78);clear a c h hl b;have m:=@run_makeMap jl;have i:ji (∀W,W=((w.alloc (jh #[jf t n f,jf je 0 0,jf je 0 0] 78)).alloc (.map #[] 0))->PSt M M (M+1) (jf t n f) l 0 0 0 je je 0 0 W/\jo w w W):=O (by
  rintro W rfl;have a:=jC w (jh #[jf t n f,jf je 0 0,jf je 0 0] 78);have b:=ao w (jh #[jf t n f,jf je 0 0,jf je 0 0] 78);have c:=ao (w.alloc (jh #[jf t n f,jf je 0 0,jf je 0 0] 78)) (.map #[] 0);have j:=en.made (w.alloc (jh #[jf t n f,jf je 0 0,jf je 0 0] 78));rw[jK]at j;rw[u];refine⟨⟨av a c,qF _ _ _ _,qF _ _ _ _,j,I,jE _,Nat.le_succ _⟩,b.trans (c.mono b.size)⟩)
 go_enter func21,ntmps21
 go_wp2_with fail
 obtain⟨b,c⟩:=i _ I;rw[<-u];clear d;generalize((w.alloc (jh #[jf t n f,jf je 0 0,jf je 0 0] 78)).alloc (.map #[] 0))=W0 at b c⊢;have UY:=O b;have Uq:=O c;clear b c i m k
 go_loopw [12] (λv wr=>∃(i k:T) (x z:jv jM) (y B:T),v=jc jd i/\i<=n/\ji (PSt M M (M+1) (jf t n f) l i i k x z y B wr)/\ji (jo w w wr)) (λv _=>n-(jF v).toNat)
 case atStart=>exact⟨0,0,je,je,0,0,I,oj _,UY,Uq⟩
 obtain⟨i,k,x,z,y,B,rfl,hi,b,d⟩:=hrel
 by_cases bb:i<n
 case neg=>
  have hd:=az ((i:ja)<(n:ja));have UL:=az (i<n);obtain rfl:i=n:=Y;have c:=O b.box;have j:k=(bW (s.map (·.1)) s.length).length:=by rw[b.len,a1,ZF]
  have o:ji (iw (λg=>w.heap.size<=g/\g<wr.heap.size) wr (jf t i f) (jf x k y) (jf z k B) s):=O (by
   have a:=aG.of_own b.ids (λg S=>b.ids.lt g S);have m:=aG.of_own b.at_ (λg S=>b.at_.lt g S);rw[a1,ZF,u,j]at a m;refine⟨?_,?_,?_⟩
   ·rw[ZF];exact HL.below d
   ·rw[j];exact a
   rw[j];exact m)
  clear j
  go_wp2_with (first|(refine VP.loadA aj I I _ I c (G ?_))|(refine VP.store I I I #[jf t i f,jf x k y,jf z k B] I I (by simp[r6]) c I ?_;rw[setRow_self _ _ _ _ _ c.out];refine G ?_))
  refine bodyPost_ret (results_cell_row I _ _ M 78 _ (0,0) _ I c underlying78 I af) I ?_;exact⟨_,_,I,o,d⟩
 have hd:=aw ((i:ja)<(n:ja));have UL:=aw (i<n);obtain⟨⟨c,q⟩,a⟩:∃p,s[i]?=N p:=⟨_,mz (by rw[<-ZF];exact bb)⟩;obtain⟨g,o,bf,e1,S,-,-,D⟩:=HL.elem a;injection e1 with e1 _ e3
 subst e1;subst e3;have r:=j1 a;have HQ:=O (HL.all _ r);have bc:=O (HE _ r);have W:ji (aQ l i=c):=O (by unfold aQ;rw[a1];simp[qA,a]);have K:ji (wr.rangeAt g (o+i*73) (aE c q)):=O λj aa hj=>aD (D j aa hj) d
 have Vq:ji ((aE c q).length=VC.n):=O (dl c q HQ.plen HQ.clen);obtain⟨C,m⟩:=J ((aE c q).toArray);have VV:=O m;have Wc:ji (C.size=VC.n):=O (by rw[m,jL];exact Vq);have UK:ji (C.all (·.oneCell')=jk):=O (by
  rw[m,qb];exact λaa H=>mC HQ aa (ak H))
 clear m r a D S
 go_upto_region 6 with(first|(refine VC.load aj I I (aE c q) Vq K ?_;rw[<-VV];refine G ?_)|(refine VC.made I I (G ?_))|(refine VC.first I I I C I Wc UK (G ?_)))
 obtain⟨x1,bg,D,F,P,a⟩:=dh wr C VC.t;rw[<-D,<-F];replace b:=O (b.below a);replace d:=ah d a;obtain⟨r,h⟩:=J (((aH c).map v8).toArray);have m:=ta c q x1 ((HQ.below d)) bc (HT.below d);rw[<-h,<-VV]at m;replace m:=O m;have ad:=O h;have V:ji (r.size=VD.n):=O (by rw[h,jL,ju,dQ];rfl);have Vu:ji (r.all (·.oneCell')=jk):=O (by rw[h];exact eU _);clear D F a h K
 go_upto_region 7 with(first|(refine VC.loadA aj I I C Wc P (G ?_)))
 refine m.mono ?_;rintro e x2 ⟨rfl,a⟩;replace b:=O (b.below a);replace d:=ah d a;clear a P m
 go_upto_region 7 with(first|(refine VD.made I I (G ?_))|(refine VD.first I I I r I V Vu (G ?_)))
 obtain⟨x3,P,D,F,m,a⟩:=dh x2 r VD.t;rw[<-D,<-F];have Z3:ji (∀g,(qB x k y).ownBlock=N g->g<P):=O λg S=>by rw[F];exact(b.ids.lt g S).2
 replace b:=O (b.below a);replace d:=ah d a;clear D F a;obtain⟨bd,h⟩:=J (decide (aH c∈gq l i));have ax:=O h;clear h;have WR:=O (dQ c)
 cases bd with
 |true=>
  have F:=O (b.old (by rw[W];exact of_decide_eq_true ax.symm));clear b
  go_upto_region 10 with(first|(refine VD.loadA aj I I r V m (G ?_))|(refine Ht F.map vf sh (zeroValue4 _) WR ad I _ _ I I I ?_;rw[<-ax];refine G ?_)|
   (refine CY F.map vf sh WR ad I _ _ _ I I I I ?_;intro x9 au U;refine G ?_))
  have ZD:ji (PSt M M (M+1) (jf (N ⟨g,o,je⟩) n f) l (i+1) (i+1) k x z y B x9):=O (F.put (by have h:=BM l i;rw[W]at h;rw[<-h];exact au) U);have VJ:ji (jo w w x9):=O (d.trans (U.below (by rw[u];omega) d.size));clear au U
  go_wp2_with fail
  exact⟨⟨i+1,k,x,z,y,B,by go_num,by omega,ZD,VJ⟩,by simp only[jF];omega⟩
 |false=>
  go_upto_region 8 with(first|(refine VD.loadA aj I I r V m (G ?_))|(refine Ht b.map vf sh (zeroValue4 _) WR ad I _ _ I I I ?_;rw[<-ax];refine G ?_))
  have a2:ji (bW l (i+1)=bW l i++[i]):=O (Ct (by rw[W];exact of_decide_eq_false ax.symm));have F:k<=1000:=by rw[b.len];have:=rV l i;omega
  have a5:=O F;clear F;refine pz ?_;refine fP (λF=>F.heap[M]?=N (jh #[jf (N ⟨g,o,je⟩) n f,jf x k y,jf z k B] 78 (0,0))/\F.heap[P]?=N (jh r VD.t (0,0))) 11
   (.t 0 (.t 1 (.t 2 (.t 5 (.t 6 (.t 7 (rU (.t 10) (.o 11 (.o 12 (.o 13 .done)))))))))) af af af af L (λ_ _ _ _ h=>h) ⟨b.box,m⟩ ?_
  obtain⟨x4,D⟩:=J x3.drew;have a:=bV x3;rw[<-D]at a⊢;replace b:=O (b.below a);replace d:=ah d a;replace m:=ae m a;clear D a;refine co ?_
  (refine cJ (v:=?_) I aj (λF a=>?_) ?_;rotate_left;(have D:=ai (i:=1) a.1 I;clear a;go_simp;with_reducible rfl);refine G ?_)
  (refine cJ (v:=jn r) I aj (λF a=>dc qg I (by rw[V];exact vx) I I a.2) ?_;refine G ?_)
  refine co ?_
  (refine cJ (v:=?_) I aj (λF a=>?_) ?_;rotate_left;(have D:=ai (i:=2) a.1 I;clear a;go_simp;with_reducible rfl);refine G ?_)
  refine co ?_;refine Ae RD RI (T0:=.t 10) (E:=λa=>a.put (N 33) (jG (N ⟨M,1,je⟩))) (r1:=26) (r2:=27) (rb:=31) (r3:=32) (s1:=25) (s2:=30) (t1:=24) (t2:=29) af (λ_ _ _ _ h=>h) af af
   rfl rfl rfl rfl rfl rfl rfl rfl rfl rfl rfl rfl rfl rfl rfl rfl (show 26<39 by decide) (show 31<39 by decide) L L L L L L
   (λa v=>Act.put_comm a _ _ L) (λa=>iq L) (λa=>iq L) (λa=>yQ) (λa w' R h D=>cJ rfl rfl (λF _=>?_) D)
   (x1:=jn r) (x2:=jc jd (i:T)) (u1:=jf x k y) (u2:=jf z k B) rfl rfl rfl rfl V rfl (λaa H=>(qb.1 Vu) aa (by simpa [qV]using H)) (by simp[qV,r6]) b.ids b.at_ (AO b.ids b.at_ L) (aJ a5) (aJ a5) (by rw[u];exact d.size) (λw' F H=>?_) ?_
  ·have H:a.eval (.tmp 2)=jG (N ⟨M,0,je⟩):=h 2 L L L
   clear h D;generalize a.eval=D at H⊢;go_simp
  ·have hl:=(jP.1 b.box).1
   exact⟨(F M hl (cP b.ids b.box L) (cP b.at_ b.box L)).trans b.box,
    (F P (jP.1 m).1 (λe=>by have:=Z3 P e;omega) (cP b.at_ m L)).trans m⟩
  rintro z1 z2 X v2 Q a;obtain⟨D,F,rfl⟩:=cK a.own1;obtain⟨H,K,rfl⟩:=cK a.own2;have R:Q.heap[M]?=N (jh #[jf (N ⟨g,o,je⟩) n f,jf x k y,jf z k B] 78 (0,0)):=(a.heap M (jP.1 b.box).1 (cP b.ids b.box L) (cP b.at_ b.box L)).trans b.box;have a6:=fs (i:=1) (jf D (k+1) F) R;have ba:=fs (i:=2) (jf H (k+1) K) a6;have a3:ji (PSt M M (M+1) (jf (N ⟨g,o,je⟩) n f) l (i+1) i (k+1) D H F K ((Q.setCell ⟨M,1,je⟩ (jf D (k+1) F)).setCell ⟨M,2,je⟩ (jf H (k+1) K))):=O (by
   have a4:∀g',g'≠M->((Q.setCell ⟨M,1,je⟩ (jf D (k+1) F)).setCell ⟨M,2,je⟩ (jf H (k+1) K)).heap[g']?=Q.heap[g']?:=λg' h=>(dC _ h).trans (dC _ h)
   refine⟨ba,?_,?_,?_,?_,b.lb,b.lm⟩
   ·have h:=iD a.own1 λg' Z5=>a4 g' λe=>cP a.own1 R L (e▸Z5)
    have e:eM l (bW l (i+1))=eM l (bW l i)++(qW r).cells.toList:=by
     unfold eM;rw[a2,xf];simp[qV,ad.out,W.out]
    rw[e];exact h
   ·have h:=iD a.own2 λg' Z5=>a4 g' λe=>cP a.own2 R L (e▸Z5)
    have e:fx (bW l (i+1))=fx (bW l i)++(jj .i64 (i:T)).cells.toList:=by
     unfold fx;rw[a2,j5]
     rfl
    rw[e];exact h
   ·have ay:M+1≠M:=Y
    exact b.map.keep ((a4 _ ay).trans (a.heap _ b.map.lt (uC b.ids b.map) (uC b.at_ b.map)))
   rw[a2,jJ,<-b.len];rfl)
  have UF:ji (jo w w ((Q.setCell ⟨M,1,je⟩ (jf D (k+1) F)).setCell ⟨M,2,je⟩ (jf H (k+1) K))):=O (by
   have h5:jo w x4 Q:=⟨a.bel.os,a.bel.tape,a.bel.output,a.bel.size,λk' ZR=>a.heap k' (jB ZR d.size) (λe=>by have:=(b.ids.lt k' e).1;rw[u]at this;omega) (λe=>by have:=(b.at_.lt k' e).1;rw[u]at this;omega)⟩;exact((d.trans h5).setCell (p:=⟨M,1,je⟩) (qP u.symm) _).setCell (p:=⟨M,2,je⟩) (qP u.symm) _)
  have a4:ji (((Q.setCell ⟨M,1,je⟩ (jf D (k+1) F)).setCell ⟨M,2,je⟩ (jf H (k+1) K)).heap[P]?=N (jh r VD.t (0,0))):=O (by
   have ay:P≠M:=λe=>by have h:=m.out;rw[e,b.box]at h;injection h with h;injection h with _ h;exact jA h L
   exact((dC _ ay).trans (dC _ ay)).trans ((a.heap P (jP.1 m).1 (λe=>by have:=Z3 P e;omega) (cP b.at_ m L)).trans m))
  have m1:=ai (i:=1) R I;have m2:=ai (i:=2) R I;have f1:=gt (o:=1) R;have f2:=gt (o:=2) R;clear a6 ba R a b d m;refine G ?_;refine nC I L af (λb a=>?_);go_simp;refine a _ _ ?_;clear a;refine G ?_;refine nC I L af (λb a=>?_);go_simp;refine a _ _ ?_;clear a;refine G ?_;refine nC I L af (λb a=>?_);go_simp;refine a _ _ ?_;clear a m1 m2 f1 f2;refine G ?_;refine fc ?_;generalize((Q.setCell ⟨M,1,je⟩ (jf D (k+1) F)).setCell ⟨M,2,je⟩ (jf H (k+1) K))=a at a3 UF a4⊢
  go_upto_region 10 with(first|(refine VD.loadA aj I I r V a4 (G ?_))|
   (refine CY a3.map vf sh WR ad I _ _ _ I I I I ?_;intro x9 au U;refine G ?_))
  have ZD:ji (PSt M M (M+1) (jf (N ⟨g,o,je⟩) n f) l (i+1) (i+1) (k+1) D H F K x9):=O (a3.put (by have h:=BM l i;rw[W]at h;rw[<-h];exact au) U);have VJ:ji (jo w w x9):=O (UF.trans (U.below (by rw[u];omega) UF.size));clear au U
  go_wp2_with fail
  exact⟨⟨i+1,k+1,D,H,F,K,by go_num,by omega,ZD,VJ⟩,by simp only[jF];omega⟩
end
theorem LA{v:jM}(h:w.cell? v=N a):∀W,jo w w W->W.cell? v=N a:=λ_ b=>aD h b
theorem JA(w:jg):∀W o,jo w w W->jo w w (W.alloc o):=λ_ o h=>h.trans ((ao _ o).mono h.size)
theorem Ub(h:M<w.heap.size):∀W,jo w w W->M<W.heap.size:=λ_ a=>jB h a.size
theorem Pk(h:bL w b vm vt):∃(d:js jb) (a:jg) (g:T) (p:jv jM) (c:T),d=(aB b vm vt).toArray/\a=w.alloc (jh d 41)/\g=w.heap.size/\
 vm=jf p b.mem.length c/\jo w w a/\g<a.heap.size/\a.cell? ⟨g,34,je⟩=N (jf p b.mem.length c)/\EM.At a (jf p b.mem.length c) b.mem:=by
 have e:=dG.new w (vm:=vm) (vt:=vt) h.llen;obtain⟨p,c,rfl,-,-⟩:=h.mem.form;exact⟨_,_,_,p,c,I,I,I,I,ao _ _,by simp,e.at.2.2.1,h.mem.below (ao _ _)⟩
theorem Sr{p:H->jS}{l:A H}{x:H}(h:l.find? p=je)(a:p x=jr):(l++[x]).find? p=je:=by
 rw[xg,h];simp[a]
theorem OZ{p:α->jS}{l m:A α}{x:α}{k:T}(h:(l.take k).find? p=je)(a:l.take (k+1)=l.take k++[x])(b:p x=jk):l.find? p=N x:=by
 rw[<-xD (k+1) l,xg,a,xg,h];simp[b]
theorem SP(a:Grp)(vm vt:jb)(d:ja)(w:jg)(h:bL w a vm vt)(K:a.mem.length<=900000):
 jz jl 114 #[jn (aB a vm vt).toArray,jc jd d] w λe w'=>e=jw (jc jd (eV a d))/\jo w w w':=by
 obtain⟨V,q,b,p,c,g,i,k,rfl,o,t,r,u⟩:=Pk h;rw[<-g];have x:=O u.cells;obtain⟨n,f⟩:=J a.mem.length;rw[<-f]at r K x;have z:=O f;have s:=O o;have B:=O (And.intro i k);have W:=LA r;have C:=JA q;have X:=Ub t;have D:=O (j9 q.heap.size q);clear g i f r k t o u h
 go_enter func114,ntmps114
 go_upto_region 1 with fail
 rw[<-B.1,<-B.2];have f:=D.out
 go_wp2_with fail
 clear f
 go_loopw [10] (λi wr=>∃k:T,i=jc jd k/\k<=n/\ji (dn (a.mem.take k) d=je)/\jo q q wr) (λi _=>n-(jF i).toNat)
 case atStart=>exact⟨0,I,oj _,O I,D⟩
 obtain⟨k,rfl,hk,u,f⟩:=hrel
 by_cases M:k<n
 case neg=>
  have P:=az ((k:ja)<(n:ja));have Q:=az (k<n);obtain rfl:k=n:=Y;have v:ji (eV a d=0):=O (by
   have h:=u.out;rw[z,xU]at h;unfold eV;rw[h];rfl)
  go_wp2_with fail
  go_ret;exact⟨by rw[v];rfl,s.trans (f.mono s.size)⟩
 have P:=aw ((k:ja)<(n:ja));have Q:=aw (k<n);obtain⟨g,o,rfl,i⟩:=x.2.2 Y;obtain⟨y,t,E⟩:=dN (l:=a.mem) (j:=k) (by rw[<-z];exact M);have R:wr.cell? ⟨g,o+k*3,je⟩=N (jc jd y.dev):=aD (i k y t 0 _ I) f;have S:wr.cell? ⟨g,o+k*3+1,je⟩=N (jc jd y.since):=aD (i k y t 1 _ I) f;have r:wr.cell? ⟨g,o+k*3+2,je⟩=N (jc jd y.ver):=aD (i k y t 2 _ I) f;obtain⟨md,F,U⟩:=y;dsimp only at R S r;have H:=O E;clear i E t
 by_cases i:md=d
 case neg=>
  have he:(md==d)=jr:=ak i;have t:decide (md=d)=jr:=ak i;have E:ji (dn (a.mem.take (k+1)) d=je):=O (by rw[H];exact Sr u (ak i));clear i
  go_wp2_with fail
  exact⟨⟨k+1,by go_num,by omega,E,C _ _ f⟩,by simp only[jF];omega⟩
 have v:ji (eV a d=F):=O (by
  unfold eV;rw[show dn a.mem d=N ⟨md,F,U⟩from OZ (m:=[]) u H (ak i)];rfl)
 have he:(md==d)=jk:=ak i;have t:decide (md=d)=jk:=ak i;clear i
 go_wp2_with fail
 go_ret;exact⟨by rw[v];rfl,s.trans ((C _ _ f).mono s.size)⟩
noncomputable def VG:VarT jl:=⟨41,36,(aB ku (jf je 0 0) (jf je 0 0)).toArray,_,jI,I,by kernel_rfl,rfl,λ_=>by kernel_rfl⟩
def ck0:CK:=⟨0,(mO,nE),cF,0,ku,jf je 0 0,jf je 0 0⟩
noncomputable def VK:VarT jl:=⟨82,143,(aL ck0).toArray,_,qZ,I,by kernel_rfl,rfl,λ_=>by kernel_rfl⟩
noncomputable def RK:eL jl:=.of 127 82 143 344 (jn (aL ck0).toArray) underlying127 af I L L L
theorem mE{a:T->jv (T×T)}{i off size:T}(k:a i=N (off,size)){A0 B D:A jb}(d:A0.length=off)(f:B.length=size){v:jb}(g:v.cells.size=size)(j:A (T×jb)):
 Instr.fill a (A0++(B++D)).toArray ((i,v)::j)=Instr.fill a (A0++(v.cells.toList++D)).toArray j:=by
 rw[Instr.fill,k];dsimp only;rw[jq (by simp[d,f,g])];have h:=vU v.cells (A0++(B++D)).toArray off size g (by simp[d,f]);have e:v.cells.zipIdx.size=size:=by simp[g]
 refine jR (λc=>Instr.fill a c j) ?_;refine Eq.trans (b:=qN (λc x=>c.setIfInBounds (off+x.2) x.1) (A0++(B++D)).toArray v.cells.zipIdx 0 size) ?_ (h.trans ?_)
 ·rw[<-e]
 rw[r7,List.take_left' d,<-qM A0 B D,List.drop_left' (by rw[jJ,d,f]),qM]
theorem uB{P:qc}{t:jt}{a:js Field}{zero:jb}{places:js (T×T)}(b:∀w,(zeroValue t).run P w=.ok zero w)(c:P.underlying t=N (.struct a))(d:∀w,(a.mapM (λf=>Functor.map (Prod.mk f.offset) (sizeOf f.type)):Sem (js (T×T))).run P w=.ok places w)
 {parts:js (T×jb)} {X:js jb} (e:Instr.fill (places[·]?) zero.cells parts.toList=N X) (w:jg):(Instr.build t parts).run P w=.ok (jn X) w:=by
 unfold Instr.build;simp[b,qK c,d,e,Result.andThen]
theorem zv{a:Act}{parts:js (T×jW)}{i s:ja}{C I0 G0:js jb}(c:C.size=73)(d:I0.size=32)(f:G0.size=36)(g:o.op=.build 82 parts)
 (h:(parts.map fun(i,x)=>(i,a.eval x))= #[(0,jc jd i),(1,jn C),(2,jn I0),(3,jc jd s),(4,jn G0)]) (W:jg):
 (o1 a.eval o).run jl W=.ok (.value (jn (#[jc jd i]++C++I0++ #[jc jd s]++G0))) W:=by
 have j:(aL ck0).toArray=([]++([jj .i64 0]++(aE mO nE++(cF.map v8++([jj .i64 0]++(aB ku (jf je 0 0) (jf je 0 0)++[])))))).toArray:=by kernel_rfl
 have k:=uB (P:=jl) (t:=82) (zero:=jn (aL ck0).toArray) (places:=#[(0,1),(1,73),(74,32),(106,1),(107,36)]) (λw=>by kernel_rfl) qZ (λw=>by kernel_rfl)
  (parts:=#[(0,jc jd i),(1,jn C),(2,jn I0),(3,jc jd s),(4,jn G0)]) (X:=(#[jc jd i]++C++I0++ #[jc jd s]++G0)) (by
   show Instr.fill _ (aL ck0).toArray [(0,jj .i64 i),(1,qW C),(2,qW I0),(3,jj .i64 s),(4,qW G0)]=_;have m:∀l:A jb,[jj .i64 i]++(C.toList++l)=([jj .i64 i]++C.toList)++l:=λl=>by simp
   have n:∀l:A jb,([jj .i64 i]++C.toList)++(I0.toList++l)=([jj .i64 i]++C.toList++I0.toList)++l:=λl=>by simp
   have p:∀l:A jb,([jj .i64 i]++C.toList++I0.toList)++([jj .i64 s]++l)=([jj .i64 i]++C.toList++I0.toList++[jj .i64 s])++l:=λl=>by simp
   have b:C.toList.length=73:=by rw[qd];exact c
   have e:I0.toList.length=32:=by rw[qd];exact d
   rw[j,mE (A0:=[]) (off:=0) (size:=1) I I I I];show Instr.fill _ ([jj .i64 i]++_).toArray _ =_;rw[mE (A0:=[jj .i64 i]) (off:=1) (size:=73) I I (dl _ _ L L) (v:=jn C) c];show Instr.fill _ ([jj .i64 i]++(C.toList++_)).toArray _ =_;rw[m,mE (A0:=[jj .i64 i]++C.toList) (off:=74) (size:=32) I (by simp[b]) I (v:=jn I0) d];show Instr.fill _ (([jj .i64 i]++C.toList)++(I0.toList++_)).toArray _ =_;rw[n,mE (A0:=[jj .i64 i]++C.toList++I0.toList) (off:=106) (size:=1) I (by simp[b,e]) I (v:=jc jd s) I];show Instr.fill _ (([jj .i64 i]++C.toList++I0.toList)++([jj .i64 s]++_)).toArray _ =_;rw[p,mE (A0:=[jj .i64 i]++C.toList++I0.toList++[jj .i64 s]) (off:=107) (size:=36) I (by simp[b,e]) I (v:=jn G0) f];rw[Instr.fill,qz]
   congr 1
   apply qt
   simp[qV]) W
 simp only[o1,g,h,Sem.run_bind,k,Result.andThen_ok,Sem.run_pure]
structure KSt(M:T)(c:A CP)(a:jb)(m:T)(Ks:A CK)(W:jg):Prop where
 own:W.ownsRow M RK.e RK.k a m (Ks.flatMap aL)
 len:m=Ks.length
 all:∀k∈Ks,KD (λb=>M<=b/\b<W.heap.size/\a.ownBlock≠N b) c W k
theorem KSt.below{d:A CP}{e:jb}{Ks:A CK}{f:jg}(h:KSt M d e m Ks W)(c:jo W W f):KSt M d e m Ks f:=
 ⟨cL h.own c,h.len,λk g=>((h.all k g).keep λb a=>c.block b a.2.1).mono λb a=>⟨a.1,jB a.2.1 c.size,a.2.2⟩⟩
theorem KSt.push{s:T}{j:A CP}{c f:jb}{Ks:A CK}{l:jg}{k:CK}(h:KSt M j c m Ks W)(o:KD (λb=>s<=b/\b<W.heap.size) j W k)(p:M<=s)(q:∀b,c.ownBlock=N b->b<s)
 (r:l.ownsRow M RK.e RK.k f (m+1) (Ks.flatMap aL++aL k)) (g:W.grownBy l c.ownBlock) (t:f.ownBlock=c.ownBlock\/f.ownBlock=N W.heap.size):KSt M j f (m+1) (Ks++[k]) l:=by
 have n:∀b,b<W.heap.size->c.ownBlock≠N b->f.ownBlock≠N b:=λb a i e=>by
  rcases t with d|d
  ·exact i (d▸e)
  rw[d]at e;cases e;omega
 refine⟨by rw[xf];simpa using r,by rw[jJ,<-h.len];rfl,λx d=>?_⟩
 rcases jQ.1 d with d|d
 ·exact((h.all x d).keep λb a=>g.block b a.2.1 λe=>a.2.2 e.symm).mono λb a=>⟨a.1,jB a.2.1 g.size,n b a.2.1 a.2.2⟩
 rw[qk]at d;subst d;have i:∀b,s<=b->c.ownBlock≠N b:=λb a e=>by have:=q b e;omega
 exact(o.keep λb a=>g.block b a.2 λe=>i b a.1 e.symm).mono λb a=>⟨jH p a.1,jB a.2 g.size,n b a.2 (i b a.1)⟩
theorem DX(h:¬((aQ j M).parent=b.last/\cN b (aQ j M)=0)):eW b j M=je:=by
 unfold eW;rw[jq h]
theorem MD(a:(aQ j M).parent=b.last)(g:cN b (aQ j M)=0):eW b j M=N ⟨M,aQ j M,aH (aQ j M),eV b (aQ j M).author,aC b (aQ j M)⟩:=by
 unfold eW;rw[jp ⟨a,g⟩]
theorem N6(f:H->jv C){l:A H}{j:T}{x:H}(h:l[j]?=N x):(l.take (j+1)).filterMap f=(l.take j).filterMap f++(f x).toList:=by
 have a:=(jT.1 h).1;rw[wq a,List.filterMap_append,(jT.1 h).2]
 cases hx:f x<;>simp[hx]
theorem Km(l:A Cmt)(n:T):(bW l n).Pairwise λi j=>aH (aQ l i)≠aH (aQ l j):=by
 have h:(bW l n).Pairwise (·<·):=(List.pairwise_lt_range).filter _;refine List.Pairwise.imp_of_mem (λ{i j} c a b=>?_) h;exact(oS.1 a).2 i b
theorem KO(g:Grp)(l:A Cmt):((eR g l).map aM.id).Nodup:=by
 unfold eR;rw[List.map_filterMap,List.nodup_iff_pairwise_ne];refine(Km l l.length).filterMap _ λi j e b a c d=>?_
 rw[Option.map_eq_some_iff]at a d;obtain⟨x,f,rfl⟩:=a;obtain⟨y,h,rfl⟩:=d;obtain⟨-,x2,k,-⟩:=tQ f;obtain⟨-,y2,m,-⟩:=tQ h;rw[k,m,x2,y2];exact e
structure KsD(D:T->Prop)(a:A CP)(w:jg)(v:jb)(Ks:A CK):Prop where
 row:aG D w v 143 Ks.length (Ks.flatMap aL)
 all:∀k∈Ks,KD D a w k
theorem aG.at1(h:aG D w a M R i)(b:0<R):∃g o c,a=jf (N ⟨g,o,je⟩) R c/\D g/\R<=c/\∀(j:T) v,i[j]?=N v->w.cell? ⟨g,o+j,je⟩=N v:=by
 obtain⟨-,p,c,d,e,-,f⟩:=h;obtain⟨g,o,rfl,xs,k⟩:=f b;exact⟨g,o,c,d,xs,e,k⟩
theorem BB{P:A T}(d:P[M]?=N R){t:T}{a:jb}(b:((aH (aQ j R)).map v8)[t]?=N a):(eM j P)[M*32+t]?=N a:=by
 have c:=(jT.1 b).1;rw[ju,dQ]at c;exact(sc (λR=>(aH (aQ j R)).map v8) 32 P (λx _=>by rw[ju,dQ]) M t R d c).trans b
theorem G9{q:CQ}(b:(r.parent.map v8)[M]?=N a):(aE r q)[2+M]?=N a:=by
 unfold aE;rw[show 2+M=M+1+1 by omega,qx,qx,qU (jT.1 b).1];exact b
theorem mc(h:bL w b a f):∀g∈aB b a f,g.oneCell'=jk:=by
 intro g vm;obtain⟨p,c,d,-,-⟩:=h.mem.form;obtain⟨vt,n',i,e⟩:=gP h.tree;rw[d,e]at vm;unfold aB at vm;rw[jD,jD,jQ]at vm
 rcases vm with rfl|rfl|vm|vm
 ·rfl
 ·rfl
 ·exact iu _ g vm
 simp only[jD,xP,or_false]at vm
 rcases vm with rfl|rfl<;>rfl
structure SG(g:Grp)(c:Cmt)(w w':jg)(X:js jb)(a:ja):Prop where
 sz:X.size=36
 one:X.all (·.oneCell')=jk
 eq:a=cN g c
 new:a=0->∃vm vt,X=(aB (aC g c) vm vt).toArray/\dz (λk=>w.heap.size<=k/\k<w'.heap.size) w' (aC g c) vm vt
 bel:jo w w w'
theorem AW(g:Grp)(vm vt:jb)(c:Cmt)(q:CQ)(w:jg)(h:bL w g vm vt)(i:aW (·<w.heap.size) w c q)(j:cZ (aR c))(k:bH w)(l:g.mem.length<=900000)(m:g.tree.length<=600000):
 jz jl 9 #[jn (aB g vm vt).toArray,jn (aE c q).toArray] w λe w'=>∃X d,e=jw (jZ #[jn X,jc jd d])/\SG g c w w' X d:=by
 refine(yS g vm vt c q w h i j k l m).mono ?_;rintro e w' ⟨n,o,f⟩
 by_cases a:cN g c=0
 ·obtain⟨p,r,rfl,b,s,t⟩:=n a
  refine⟨_,0,I,by rw[jL,eH b.llen],?_,a.symm,λ_=>⟨p,r,I,dz.of b s t⟩,f⟩;rw[qb];exact λu v=>mc b u (ak v)
 obtain rfl:=o a;exact⟨_,_,I,I,by kernel_rfl,rfl,λh=>jA h a,f⟩
theorem KD.of{a:A CP}{i:T}{s:ja}{p:CP}{d:LBy}{g:Grp}{b c:jb}(e:a[i]?=N p)(f:dz D w g b c)(h:d.length=32):KD D a w ⟨i,p,d,s,g,b,c⟩:=⟨e,f,h⟩
theorem CK.cand_of{q:CQ}:(⟨M,(r,q),p,d,b,a,f⟩:CK).cand=⟨M,r,p,d,b⟩:=I
theorem Ao(i:T)(s:ja)(c:Cmt)(q:CQ)(d:LBy)(g:Grp)(a b:jb):
 (#[jj .i64 (i:T)]++(aE c q).toArray++(d.map v8).toArray++ #[jj .i64 s]++(aB g a b).toArray).toList=aL ⟨i,(c,q),d,s,g,a,b⟩:=by
 simp only[Array.toList_append,qM,aL]
 rfl
theorem KsD.mono{a:A CP}{v:jb}{Ks:A CK}(h:KsD D a w v Ks)(c:∀b,D b->E b):KsD E a w v Ks:=⟨h.row.mono c,λk b=>(h.all k b).mono c⟩
theorem QT{n:A CP}{q:jv jM}{Ks:A CK}(t:cA w a n)(v:KSt M n (jf q R m) R Ks w)(D:R<=1000000)(E:M<=w.heap.size)(F:(Ks.map λk=>k.id).Nodup)
 {o u:T} (H:ly w o u) (K:(qB q R m).ownBlock≠N o) (P:(qB q R m).ownBlock≠N u):
 jz jl 115 #[jf q R m,.func (.func 223) #[] #[jG (N ⟨o,0,je⟩)]] w λe w'=>
  e=jw (jZ #[])/\∃d,KsD (λb=>M<=b/\b<w'.heap.size) n w' (jf q R m) d/\d.map CK.cand=(Ks.map CK.cand).mergeSort leC/\jo M w w':=by
 rcases v.own.2 with⟨i,W⟩|⟨g,aa,Uw,i,h2,h3,h4⟩
 ·injection i with i y r
  subst i;subst y;subst r;obtain rfl:Ks=[]:=xR v.len.symm;refine(Tryzx.sortFunc_noneK _ _ _ w).mono ?_;rintro e w' ⟨rfl,rfl⟩;exact⟨I,[],⟨aG.of_own v.own (λg d=>v.own.lt g d),λk s=>by cases s⟩,by simp,j9 _ _⟩
 injection i with i y r
 subst i;subst r;obtain⟨d,j⟩:∃d:A CW,d.map (·.1)=Ks:=⟨Ks.attach.map λk=>(v.all k.1 k.2).cw t,by rw[ow];exact xS Ks⟩;have z:d.length=R:=by rw[v.len,<-j,ju]
 have Q:dx EKK M w w g R m d:=⟨by rw[F8,j];exact v.own,z.symm,j9 _ _,E⟩;have B:∀x∈d,x.1∈Ks:=λx l=>by rw[<-j];exact sx l
 refine(Pe d (by have h:=F;rw[<-j,ow]at h;exact h) M g R m w w Q D (λx l=>v.all x.1 (B x l)) t H (λe=>K (e▸I)) (λe=>P (e▸I))).mono ?_;rintro e w' ⟨rfl,c,S,C,U⟩;have hs:(mm d).length=R:=(TA d).trans z;refine⟨I,(mm d).map (·.1),⟨?_,?_⟩,?_,S⟩
 ·have h:=c
  unfold EK.At at h;rw[F8]at h;obtain⟨V,p,X,f,h6,h7,h8⟩:=h;rw[ju];refine⟨V,p,X,f,h6,h7,λW=>?_⟩;obtain⟨g',o',rfl,h9⟩:=h8 W;injection f with f _ _
  injection f with f
  injection f with f e6
  subst f;exact⟨_,_,I,⟨(v.own.lt _ I).1,jB (v.own.lt _ I).2 C⟩,h9⟩
 ·intro k s
  obtain⟨x,l,rfl⟩:=jy.1 s;refine((v.all _ (B x (No.1 l))).keep λb f=>U b f.2.1 λe=>f.2.2 (e▸I)).mono λb f=>⟨f.1,jB f.2.1 C⟩
 have h:=Tf d;rw[ow];refine Eq.trans h ?_;rw[<-j,ow]
 rfl
theorem EN(B:A CP)(v1 v2 v3:jb)(g:Grp)(vm vt:jb)(w:jg)(f:iw (·<w.heap.size) w v1 v2 v3 B)(a:bL w g vm vt)(C:∀p∈B,cZ (aR p.1))(hT:bH w)(hn:B.length<=1000)(K:g.mem.length<=900000)(E:g.tree.length<=600000):
 jz jl 53 #[jn #[v1,v2,v3],jn (aB g vm vt).toArray] w λe w'=>∃v Ks,e=jw v/\KsD (λb=>w.heap.size<=b/\b<w'.heap.size) B w' v Ks/\Ks.map CK.cand=fg g (B.map (·.1))/\jo w w w':=by
 obtain⟨l,u⟩:∃l:A Cmt,l=B.map (·.1):=⟨_,I⟩;obtain⟨W,r⟩:=J (bW l B.length);have bn:W.length<=1000:=by rw[r];have:=rV l B.length;omega
 have h2:=f.ids;have t:=f.at_;rw[<-u,<-r]at h2 t;obtain⟨p1,k1,rfl⟩:=f.list.form;obtain⟨p2,k2,rfl⟩:=h2.form;obtain⟨p3,k3,rfl⟩:=t.form;obtain⟨pm,d,Q,-,-⟩:=a.mem.form;obtain⟨pt,nt,ct,S⟩:=gP a.tree;have HL:=O f.list;have HI:=O h2;have HA:=O t;have HE:=O C;have HT:=O hT;have HG:=O a;have Wi:=O K;have Wx:=O E;have a5:=O u;have VM:=O r;obtain⟨n,x⟩:=J B.length;obtain⟨D,y⟩:=J W.length;have ZF:=O x;have a6:=O y;rw[<-x]at hn⊢;rw[<-y]at bn HI HA⊢;obtain⟨ad,m⟩:=J ((aB g vm vt).toArray);have Yx:=O m;have ba:ji (ad.size=VG.n):=O (by rw[m,jL,eH a.llen];rfl);have bo:ji (∀(j:T) o,(g.last.map v8)[j]?=N o->ad[2+j]?=N o):=O λj o hj=>by
  have h:=(dG.last (vm:=vm) (vt:=vt) (dG.new w a.llen)) j o hj;rw[World.cell?_alloc_new]at h;rw[m];exact h
 have Vx:=O a.llen;rw[<-m];obtain⟨M,q⟩:=J w.heap.size;have HM:=O q;obtain⟨R,c⟩:=J ((w.alloc (jh #[jf p1 n k1,jf p2 D k2,jf p3 D k3] 78)).alloc (jh ad 41));have z:R.heap[M]?=N (jh #[jf p1 n k1,jf p2 D k2,jf p3 D k3] 78 (0,0)):=by rw[c,q];exact av (jC w _) (ao _ _)
 have F:R.heap[M+1]?=N (jh ad 41 (0,0)):=by
  have h:=jC (w.alloc (jh #[jf p1 n k1,jf p2 D k2,jf p3 D k3] 78)) (jh ad 41);rw[jK]at h;rw[c,q];exact h
 have H:jo w w R:=by rw[c];exact(ao _ _).trans ((ao _ _).mono ar)
 have a1:ji (R.heap.size=M+2):=O (by rw[c,q,jK,jK]);have Za:=O z;have bb:=O F;have Uq:=O H;have P:=O c;have U:=ai (i:=2) z I;have U0:=O (j9 R.heap.size R);have Yw:ji (KSt (M+2) B (jf je 0 0) 0 [] R):=O ⟨qF _ _ _ _,I,λk hk=>by cases hk⟩;clear c z F H q m x y u r h2 t f a C hT K E Q S
 go_enter func53,ntmps53
 go_upto_region 1 with fail
 rw[<-P,<-HM];clear P
 go_wp2_with fail
 clear U
 go_loopw [4,13] (λa v wr=>∃(j m:T) (q:jv jM) (c:T) (Ks:A CK),v=jc jd j/\a=jf q m c/\j<=D/\ji (KSt (M+2) B (jf q m c) m Ks wr)/\ji (Ks.map CK.cand=(W.take j).filterMap (eW g l))/\ji (jo R R wr)) (λ_ v _=>D-(jF v).toNat)
 case atStart=>exact⟨0,0,je,0,[],I,I,oj _,Yw,O I,U0⟩
 obtain⟨j,m,q,c,Ks,rfl,rfl,hj,f,F,r⟩:=hrel
 by_cases bp:j<D
 case neg=>
  have hd:=az ((j:ja)<(D:ja));have UL:=az (j<D);obtain rfl:j=D:=Y;have t:ji (Ks.map CK.cand=eR g (B.map (·.1))):=O (by
   have h:=F.out;rw[a6,xU,VM,a5]at h;unfold eR;rw[ju];exact h)
  have Q:ji ((Ks.map λk=>k.id).Nodup):=O (by
   have h:=KO g (B.map (·.1));rw[<-t,ow]at h;exact h)
  have a3:ji (m<=1000):=O (by have h:=jR qL F;have h2:=xh (eW g l) (W.take j);rw[ju,<-f.len]at h;rw[xi]at h2;omega);have U:ji (M+2<=wr.heap.size):=O (by rw[<-a1];exact r.size);have E:jo w w wr:=Uq.trans (r.mono Uq.size);have u:=O E;clear E
  go_wp2_with fail
  refine(M9 wr).mono ?_;rintro e y ⟨V,X,rfl,x,z,H,a⟩;have aa:=O (f.below a);replace u:=ah u a;have C:=O (QT (HL.below u) aa (aJ a3) (jH U a.size) Q x (λe=>by have:=(f.own.lt V e).2;omega) (λe=>by have:=(f.own.lt X e).2;omega));clear x z H a
  go_wp2_with fail
  refine C.mono ?_;rintro e z ⟨rfl,au,x,H,P⟩;have HD:=O x;have Z7:=O H;have Ur:ji (jo w w z):=O (u.trans (P.mono (by rw[HM];omega)));clear x H P C
  go_wp2_with fail
  go_ret;refine⟨_,au,I,HD.mono λb S=>⟨by rw[<-HM];omega,S.2⟩,?_,Ur⟩;rw[Z7,t]
  rfl
 have hd:=aw ((j:ja)<(D:ja));have UL:=aw (j<D);obtain⟨i,y⟩:∃i,W[j]?=N i:=⟨_,mz (by rw[<-a6];exact bp)⟩;have bq:i<n:=by
  have h:=j1 y;rw[VM,<-ZF]at h;exact(oS.1 h).1
 obtain⟨ga,oa,ka,e3,ax,-,X⟩:=HA.at1 Y;injection e3 with e1 _ e2
 subst e1;subst e2;obtain⟨U,oi,ki,e4,aa,-,Q⟩:=HI.at1 Y;injection e4 with e1 _ e2
 subst e1;subst e2;obtain⟨⟨d,qm⟩,H⟩:∃p,B[i]?=N p:=⟨_,mz (by rw[<-ZF];exact bq)⟩;obtain⟨gl,ol,kl,e5,K,-,-,au⟩:=HL.elem H;injection e5 with e1 _ e2
 subst e1;subst e2;have V:=j1 H;have E:jo w w wr:=Uq.trans (r.mono Uq.size);have u:=O E;have ca:wr.cell? ⟨ga,oa+j,je⟩=N (jc jd (i:T)):=aD (X j _ (by unfold fx;rw[p6,y];rfl)) E;have br:ji (w.rangeAt U (oi+j*32) ((aH (aQ l i)).map v8)):=O λt o x=>by
  rw[qi];exact Q _ o (BB y x)
 have bO:ji (wr.rangeAt U (oi+j*32) ((aH (aQ l i)).map v8)):=O λt o x=>by
  rw[qi];exact aD (Q _ o (BB y x)) E
 have Vb:ji (wr.rangeAt gl (ol+i*73) (aE d qm)):=O λj o hj=>aD (au j o hj) E
 have HQ:=O (HL.all _ V);have bs:=O (HE _ V);have bu:=O H;have Z7:ji (aQ l i=d):=O (by unfold aQ;rw[a5];simp[qA,H]);have Vq:ji ((aE d qm).length=VC.n):=O (dl d qm HQ.plen HQ.clen);have bv:=O y;have bc:ji (U<w.heap.size):=O aa;have c0:=aD (ai (i:=0) Za I) r;obtain⟨C,P⟩:=J ((aE d qm).toArray);have VV:=O P;have Wc:ji (C.size=VC.n):=O (by rw[P,jL];exact Vq);have UK:ji (C.all (·.oneCell')=jk):=O (by
  rw[P,qb];exact λo hu=>mC HQ o (ak hu))
 clear P V H au X Q ax aa K y E
 go_upto_region 5 with(first|(refine VC.load aj I I (aE d qm) Vq Vb ?_;rw[<-VV];refine G ?_)|(refine VC.made I I (G ?_))|(refine VC.first I I I C I Wc UK (G ?_)))
 obtain⟨x1,bd,E,S,y,a⟩:=dh wr C VC.t;rw[<-E,<-S];replace f:=O (f.below a);replace r:=ah r a;replace u:=ah u a;have bw:ji (M+2<=x1.heap.size):=O (by rw[<-a1];exact r.size);have Vi:ji (∀b,(qB q m c).ownBlock=N b->b<x1.heap.size):=O λb S=>(f.own.lt b S).2
 have V:ji (x1.rangeAt bd 2 (d.parent.map v8)):=O λt o x=>ai y.out (by rw[VV];simpa using G9 x)
 have a2:ji (x1.heap[M+1]?=N (jh ad VG.t (0,0))):=O (av bb r);have a4:ji (x1.rangeAt (M+1) 2 (g.last.map v8)):=O λt o x=>ai a2 (bo t o x)
 have bf:ji ((d.parent.map v8).length=VD.n):=O (by rw[ju,HQ.plen];rfl);have bg:ji ((g.last.map v8).length=VD.n):=O (by rw[ju,Vx];rfl);obtain⟨TL,H⟩:=J ((g.last.map v8).toArray);obtain⟨TP,K⟩:=J ((d.parent.map v8).toArray);obtain⟨bh,P⟩:=J (decide (d.parent=g.last));have bi:=O H;have bk:=O K;have bl:=O P;have Q:∀z,(Op.equalIn 10000 23 (jn TP) (jn TL)).run jl z=.ok bh z:=by
  rw[H,K,P];exact λz=>pC d.parent g.last HQ.plen Vx z
 have YK:=O (N6 (eW g l) bv);clear E S a H K P ca c0 Vb
 rcases bh with _|_
 ·have ax:ji (Ks.map CK.cand=(W.take (j+1)).filterMap (eW g l)):=O (by
   rw[YK,DX (λh=>by have e:=bl.out;rw[<-Z7,xl h.1]at e;cases e)];rw[xV,qz];exact F)
  go_wp2_with (first|(refine VD.load aj I I (d.parent.map v8) bf V ?_;rw[<-bk];refine G ?_)|(refine VD.load aj I I (g.last.map v8) bg a4 ?_;rw[<-bi];refine G ?_))
  exact⟨⟨j+1,m,q,c,Ks,by go_num,rfl,by omega,f,ax,r⟩,by simp only[jF];omega⟩
 go_upto_region 6 with(first|(refine VD.load aj I I (d.parent.map v8) bf V ?_;rw[<-bk];refine G ?_)|(refine VD.load aj I I (g.last.map v8) bg a4 ?_;rw[<-bi];refine G ?_))
 have bA:ji (d.parent=g.last):=O (of_decide_eq_true bl.symm);clear Q
 go_upto_region 7 with(first|(refine VG.loadA aj I I ad ba a2 (G ?_))|(refine VC.loadA aj I I C Wc y (G ?_)))
 have H:=AW g vm vt d qm x1 (HG.below u) (HQ.below u) bs (HT.below u) Wi Wx;rw[<-Yx,<-VV]at H;refine H.mono ?_;clear H;rintro e x2 ⟨X,er,rfl,H⟩;have a:=H.bel;have HN:=O H;have YZ:=ae y a;replace f:=O (f.below a);replace r:=ah r a;replace u:=ah u a;have bT:ji (x1.heap.size<=x2.heap.size):=O a.size;clear H a
 go_upto_region 7 with(first|(refine VG.made I I (G ?_))|(refine VG.first I I I X I HN.sz HN.one (G ?_)))
 obtain⟨x3,bx,E,S,H,a⟩:=dh x2 X VG.t;rw[<-E,<-S];have UM:ji (bx=x2.heap.size):=O S;have K:=ae YZ a;replace f:=O (f.below a);replace r:=ah r a;replace u:=ah u a;have ay:=O a;clear E S a
 by_cases au:er=0
 case neg=>
  have bB:(er==0)=jr:=by simp[au]
  have bC:decide (er=0)=jr:=by simp[au]
  have ax:ji (Ks.map CK.cand=(W.take (j+1)).filterMap (eW g l)):=O (by
   rw[YK,DX (λh=>au (by rw[HN.eq,<-Z7];exact h.2))];rw[xV,qz];exact F)
  go_wp2_with fail
  exact⟨⟨j+1,m,q,c,Ks,by go_num,rfl,by omega,f,ax,r⟩,by simp only[jF];omega⟩
 have bB:(er==0)=jk:=by simp[au]
 have bC:decide (er=0)=jk:=by simp[au]
 obtain⟨um,ut,P,Q⟩:=HN.new au;have ax:ji ((W.take (j+1)).filterMap (eW g l)=Ks.map CK.cand++[⟨i,d,aH d,eV g d.author,aC g d⟩]):=O (by
  rw[YK,MD (by rw[Z7];exact bA) (by rw[Z7,<-HN.eq];exact au),Z7,<-F]
  rfl)
 have Wn:=O P;have UT:ji (dz (λk=>x1.heap.size<=k/\k<x2.heap.size) x2 (aC g d) um ut):=O Q;clear P Q
 go_upto_region 8 with fail
 have bm:ji (((aH d).map v8).length=VD.n):=O (by rw[ju,dQ];rfl);have bI:ji (C[34]?=N (jc jd d.author)):=O (by
  have h:(aE d qm)[2+32]?=N (jc jd d.author):=by
   unfold aE;rw[show 2+32=32+1+1 by rfl,qx,qx,qG (by rw[ju,HQ.plen];exact jE _),ju,HQ.plen]
   rfl
  rw[VV];simpa using h)
 have aa:ji (x3.rangeAt U (oi+j*32) ((aH d).map v8)):=O (by
  have h:=br.out;rw[Z7]at h;exact λt o x=>aD (h t o x) u)
 have bK:ji (∀b,b<M->(qB q m c).ownBlock≠N b):=O λb S e=>by have:=(f.own.lt b e).1;omega
 have a3:ji (m<=1000):=O (by have h:=jR qL F;have h2:=xh (eW g l) (W.take j);rw[ju,<-f.len]at h;rw[xi]at h2;omega);have P:=O (av Za r);have Q:=O (av bb r);clear YZ V a2 a4 F y;refine pz ?_;refine fP (λF=>F.heap[bd]?=N (jh C VC.t (0,0))/\F.heap[M]?=N (jh #[jf (N ⟨gl,ol,je⟩) n k1,jf (N ⟨U,oi,je⟩) D k2,jf (N ⟨ga,oa,je⟩) D k3] 78 (0,0))/\F.heap[M+1]?=N (jh ad VG.t (0,0))/\F.heap[bx]?=N (jh X VG.t (0,0))/\F.rangeAt U (oi+j*32) ((aH d).map v8)) 17
  (.t 0 (.t 1 (.t 2 (.t 3 (.t 4 (.t 5 (.t 6 (.t 7 (.t 8 (.t 9 (.t 10 (.t 12 (.o 11 (.t 13 (.o 14 (.o 15 (.t 16 .done))))))))))))))))) af af af af L (λ_ _ _ _ h=>h) ⟨K,P,Q,H,aa⟩ ?_
 obtain⟨x4,E⟩:=J x3.drew;have a:=bV x3;rw[<-E]at a⊢;replace f:=O (f.below a);replace r:=ah r a;replace u:=ah u a;replace K:=ae K a;replace P:=ae P a;replace Q:=ae Q a;replace H:=ae H a;replace ay:=ah ay a;replace aa:ji (x4.rangeAt U (oi+j*32) ((aH d).map v8)):=O (λt o x=>aD (aa t o x) a);clear E a;iterate 2 refine co ?_
 (refine cJ (v:=jn C) I aj (λF y=>dc VC.hu VC.hd (by rw[Wc];exact VC.hi) I I y.1) ?_;refine G ?_)
 refine co ?_
 (refine cJ (v:=?_) I aj (λF y=>?_) ?_;rotate_left;(have V:=ai (i:=1) y.2.1 I;clear y;go_simp;with_reducible rfl);refine G ?_)
 iterate 2 refine co ?_
 (refine cJ (v:=jn ((aH d).map v8).toArray) I aj (λF y=>eF _ _ VD.t _ I _ _ I _ VD.d y.2.2.2.2 VD.hu VD.hd (by rw[bm];exact VD.hi)) ?_;refine G ?_)
 (refine cJ (v:=jn ad) I aj (λF y=>dc VG.hu VG.hd (by rw[ba];exact VG.hi) I I y.2.2.1) ?_;refine G ?_)
 refine co ?_
 (refine cJ (v:=?_) I aj (λF y=>?_) ?_;rotate_left;(have V:=ai (i:=34) y.1 bI;clear y;go_simp;with_reducible rfl);refine G ?_)
 (refine cJ (v:=jn X) I aj (λF y=>dc VG.hu VG.hd (by rw[HN.sz];exact VG.hi) I I y.2.2.2.1) ?_;refine G ?_)
 refine cV I (λK' hK=>?_);go_simp;have V:=SP g vm vt d.author x4 (HG.below u) Wi;rw[<-Yx]at V;refine V.mono ?_;clear V;rintro e x5 ⟨rfl,a⟩;replace f:=O (f.below a);replace r:=ah r a;replace u:=ah u a;replace K:=ae K a;replace P:=ae P a;replace Q:=ae Q a;replace H:=ae H a;replace ay:=ah ay a;replace aa:ji (x5.rangeAt U (oi+j*32) ((aH d).map v8)):=O (λt o x=>aD (aa t o x) a);refine hK _ _ ⟨K,P,Q,H,aa⟩ λ_=>?_
 clear hK a;refine G ?_;obtain⟨V,hT⟩:=J ((#[jj .i64 (i:T)]++C++((aH d).map v8).toArray++ #[jj .i64 (eV g d.author)]++X))
 (refine cJ (v:=jn V) I aj (λF y=>by rw[hT];exact zv (i:=(i:T)) (s:=eV g d.author) (C:=C) (I0:=((aH d).map v8).toArray) (G0:=X) Wc.out (by rw[jL];exact bm) HN.sz I af F) ?_;refine G ?_)
 obtain⟨k,hk⟩:∃k:CK,k=⟨i,(d,qm),aH d,eV g d.author,aC g d,um,ut⟩:=⟨_,I⟩;have Wx:ji (V.toList=aL k):=O (by rw[hT,hk,VV,Wn];exact Ao _ _ _ _ _ _ _ _);have y:ji (KD (λb=>x1.heap.size<=b/\b<x5.heap.size) B x5 k):=O (by
  rw[hk];exact KD.of bu (UT.below ay) (dQ d))
 have WH:ji (V.size=143):=O (by rw[<-qd,Wx];exact y.len HL);have Vu:ji (∀o∈V.toList,o.oneCell'=jk):=O (by rw[Wx];exact y.ones HL);have a4:ji (k.cand=⟨i,d,aH d,eV g d.author,aC g d⟩):=O (by rw[hk];exact CK.cand_of);clear hT hk;refine cV I (λK' hK=>?_);rw[jp aj];refine RK.wp_build (.tmp 49) I (jn V) I WH ?_;have a:=ao x5 (jh V RK.e);have F:=jC x5 (jh V RK.e);obtain⟨x6,E⟩:=J (x5.alloc (jh V RK.e));obtain⟨bt,a2⟩:=J x5.heap.size;have bM:x6.heap.size=bt+1:=by rw[E,jK,a2]
 have e0:(qW V).cells=V:=I;rw[e0,<-E,<-a2];rw[<-E]at a F;rw[<-a2]at F;have bN:=O F;replace f:=O (f.below a);replace r:=ah r a;replace u:=ah u a;replace K:=ae K a;replace P:=ae P a;replace Q:=ae Q a;replace H:=ae H a;replace aa:ji (x6.rangeAt U (oi+j*32) ((aH d).map v8)):=O (λt o x=>aD (aa t o x) a);replace y:=O (y.below a);refine hK _ _ ⟨K,P,Q,H,aa⟩ λ_=>?_
 clear hK a E F a2 bM e0;refine G ?_;refine cV I (λK' hK=>?_);rw[jp aj];refine RK.wp_append (.tmp 36) (.tmp 50) I (M+2) (jf q m c) m (Ks.flatMap aL) I f.own bt V I bN WH Vu (aJ a3) (by rw[<-a1];exact r.size) ?_;intro v' F E a hv;obtain⟨q',c',rfl⟩:=cK E;have a2:ji (KSt (M+2) B (jf q' (m+1) c') (m+1) (Ks++[k]) F):=O (by
  rw[Wx]at E;exact f.push y bw Vi E a hv)
 have Zh:ji (jo R R F):=O (r.trans ⟨a.os,a.tape,a.output,a.size,λk' ZR=>a.block k' (jB ZR r.size) λe=>by have:=(f.own.lt k' e.symm).1;rw[<-a1]at this;omega⟩);refine hK _ _ ⟨?_,?_,?_,?_,?_⟩ λ_=>?_
 ·exact(a.block _ (jP.1 K).1 λe=>cP f.own K L e.symm).trans K
 ·exact(a.block _ (jP.1 P).1 λe=>cP f.own P L e.symm).trans P
 ·exact(a.block _ (jP.1 Q).1 λe=>cP f.own Q L e.symm).trans Q
 ·exact(a.block _ (jP.1 H).1 λe=>cP f.own H L e.symm).trans H
 ·intro t o x
  have e1:=a.block U (jB bc u.size) λe=>bK U (by rw[HM];exact bc) e.symm
  have h:=aa t o x;unfold World.cell? at h⊢;dsimp only at h⊢;rw[e1];exact h
 clear hK E a hv;refine G ?_;refine co ?_;refine fc ?_;have a:ji ((Ks++[k]).map CK.cand=(W.take (j+1)).filterMap (eW g l)):=O (by
  rw[j5,ax,jU,qs,a4])
 go_wp2_with fail
 exact⟨⟨j+1,m+1,q',c',Ks++[k],by go_num,rfl,by omega,a2,a,Zh⟩,by simp only[jF];omega⟩
structure D9(Ks:A CK)(F:T)(caps:js jb)(w:jg)(p:CK->jS):Prop where
 enter:∀args w,(r8 F args).run jl w=.ok (.enter F args) w
 call:∀x∈Ks,∀w',jo w w w'->jz jl F (#[jn (aL x).toArray]++caps) w' λe a=>e=jw (.bool (p x))/\jo w' w' a
theorem Se{Ks:A CK}{X:js jb}{p:CK->jS}(a:D9 Ks M X w p)(v:jb)(h:cE w v 143 Ks.length (Ks.flatMap aL))(d:∀k∈Ks,(aL k).length=143)(H:Ks.length<=1000000):
 jz jl 117 #[v,.func (.func M) #[] X] w λe w'=>∃r,e=jw (jc jd r)/\mX p Ks r/\jo w w w':=by
 obtain⟨-,q,c,rfl,K,-,g⟩:=h;have EG:=a.enter;have F:=O a;have u:=O g;have f:=O d;obtain⟨n,b⟩:=J Ks.length;have z:=O b;rw[<-b]at H K u⊢;clear b a g d
 go_enter func117,ntmps117
 go_wp2_with fail
 go_loopw [8] (λi wr=>∃k:T,i=jc jd k/\k<=n/\ji (∀y∈Ks.take k,p y=jr)/\ji (jo w w wr)) (λi _=>n-(jF i).toNat)
 case atStart=>exact⟨0,I,oj _,O ar,O (j9 _ _)⟩
 obtain⟨k,rfl,hk,i,b⟩:=hrel
 by_cases P:k<n
 ·have Q:=aw ((k:ja)<(n:ja))
  have R:=aw (k<n);obtain⟨e,he,x⟩:=dN (l:=Ks) (j:=k) (by rw[<-z];exact P);have a:=j1 he;obtain⟨g,o,rfl,B⟩:=u Y;have d:=O (F.call e a wr b);obtain⟨r,m⟩:=J (p e);rw[<-m]at d;have C:=O m;have S:=O x;have U:=O he;have V:ji ((aL e).length=VK.n):=O (f e a);have D:ji (wr.rangeAt g (o+k*143) (aL e)):=O λt W E=>by
   rw[qi];exact aD (B _ W ((sc aL 143 Ks f k t e he (by rw[<-f e a];exact(jT.1 E).1)).trans E)) b
  obtain⟨caps,s⟩:=J ((aL e).toArray);rw[<-s]at d;have HX:=O s;clear B he x m a s
  go_wp2_with (first|(refine VK.load aj I I (aL e) V D ?_;rw[<-HX];refine G ?_))
  refine(d).mono ?_;rintro x s ⟨rfl,a⟩;have m:=ah b a;clear a d D
  rcases r with _|_
  ·go_wp2_with fail
   exact⟨⟨k+1,by go_num,by omega,O (by
    rw[S];intro y a
    rcases jQ.1 a with a|a
    ·exact i y a
    rw[qk]at a;rw[a];exact C.symm),m⟩,by simp only[jF];omega⟩
  go_wp2_with fail
  go_ret;exact⟨_,I,.inr ⟨k,_,I,U,C.symm,i⟩,m⟩
 have Q:=az ((k:ja)<(n:ja));have R:=az (k<n);obtain rfl:k=n:=Y
 go_wp2_with fail
 go_ret;exact⟨_,I,.inl ⟨I,by have h:=i.out;rw[qh (by rw[<-z];exact jE _)]at h;exact h⟩,b⟩
theorem Ob{Ks:A CK}{F:T}{caps:js jb}{p:CK->jS}(d:D9 Ks F caps w p)(v:jb)(h:cE w v 143 Ks.length (Ks.flatMap aL))(a:∀k∈Ks,(aL k).length=143)(b:Ks.length<=1000000):
 jz jl 58 #[v,.func (.func F) #[] caps] w λe w'=>e=jw (.bool (Ks.any p))/\jo w w w':=by
 have c:=O (Se d v h a b);clear h a b
 go_enter func58,ntmps58
 go_wp2_with fail
 refine(c).mono ?_;rintro x h ⟨r,rfl,a,b⟩;have f:=O a.any;have g:=O b;clear a b c
 go_wp2_with fail
 go_ret;exact⟨iB f,g⟩
theorem Kd(d:ja)(b:T)(x:ap)(w:jg)(h:Boxed w b 3 (jc jd d)):
 jz jl 118 #[jn x.cells.toArray,jG (N ⟨b,0,je⟩)] w λe w'=>e=jw (.bool (x.k==2&&x.d==d))/\jo w w w':=by
 obtain⟨a,f,i,j,k⟩:=x;obtain⟨r,c⟩:=J ((a==2&&f==d));show jz _ _ _ _ λe w'=>e=jw (.bool (a==2&&f==d))/\_
 rw[<-c];have l:=O c;unfold ap.cells;have g:=ao w (jh #[jc jd a,jc jd f,jc jd i,jc jd j,jc jd k] 62);have o:(w.alloc (jh #[jc jd a,jc jd f,jc jd i,jc jd j,jc jd k] 62)).cell? ⟨b,0,je⟩=N (jc jd d):=aD h.cell g;have m:=O g;clear c g h
 by_cases c:a=2
 ·have g:(a==2)=jk:=ak c
  have h:decide (a=2)=jk:=ak c;have n:ji (r=(f==d)):=O (by rw[l];simp[c]);clear c
  go_enter func118,ntmps118
  go_wp2_with fail
  go_ret;exact⟨iB n.symm,m⟩
 have g:(a==2)=jr:=ak c;have h:decide (a=2)=jr:=ak c;obtain rfl:r=jr:=by rw[l,g];rfl
 clear c
 go_enter func118,ntmps118
 go_wp2_with fail
 go_ret;exact⟨I,m⟩
theorem LV(d:ja)(b a:T)(c:b<a):fV EC 118 #[jG (N ⟨b,0,je⟩)] a (λW=>Boxed W b 3 (jc jd d)) (λx=>x.k==2&&x.d==d) where
 enter _ _:=I
 keep w w' hn h hB:=(hB.block b c).trans h
 call x w hn h:=Kd d b x w h
theorem Og(k:CK)(d:ja)(w:jg)(h:KIn w k)(g:k.p.1.chg.length<=1000000):
 jz jl 60 #[jn (aL k).toArray,jc jd d] w λe w'=>e=jw (.bool (oY k.p.1 d))/\jo w w w':=by
 have b:=ao w (jh (aL k).toArray 82);have c:=b.trans ((ao (w.alloc (jh (aL k).toArray 82)) (jh #[jc jd d] 3)).mono b.size);have j:((w.alloc (jh (aL k).toArray 82)).alloc (jh #[jc jd d] 3)).heap[w.heap.size]?=N (jh (aL k).toArray 82 (0,0)):=av (jC w _) (ao _ _);have l:Boxed ((w.alloc (jh (aL k).toArray 82)).alloc (jh #[jc jd d] 3)) (w.heap.size+1) 3 (jc jd d):=by
  have h:=jC (w.alloc (jh (aL k).toArray 82)) (jh #[jc jd d] 3);rw[jK]at h;exact h
 have f:=ai (i:=36) (v:=k.p.2.vc) j (by simpa using(mM h).2.2.1);have a:=O (Bq (LV d (w.heap.size+1) (w.heap.size+2) Y) k.p.1.chg k.p.2.vc _ (EK.At.of_sl (h.com.below c).chg) l (by rw[jK,jK];exact jE _) g);have m:=O c;obtain⟨r,s,o⟩:=h.com.chg.form;rw[o]at f a;obtain⟨n,p⟩:=J k.p.1.chg.length;rw[<-p]at f a;obtain⟨X,q⟩:=J ((aL k).toArray);rw[<-q]at f a m⊢;clear b c j l h q o p g
 go_enter func60,ntmps60
 go_wp2_with fail
 refine a.mono ?_;rintro e x1 ⟨rfl,b⟩;have c:=ah m b;clear b a
 go_wp2_with fail
 go_ret;exact⟨I,c⟩
theorem G6(k:CK)(w:jg)(h:KIn w k)(D:k.p.1.chg.length<=1000000):
 jz jl 61 #[jn (aL k).toArray] w λe w'=>e=jw (jc jd (nB k.p.1:T))/\jo w w w':=by
 have b:=ao w (jh (aL k).toArray 82);have d:=ai (i:=36) (v:=k.p.2.vc) (jC w (jh (aL k).toArray 82)) (by simpa using(mM h).2.2.1);have a:=EK.At.of_sl (E:=EC) (h.com.below b).chg;obtain⟨l,g⟩:=J k.p.1.chg;have m:nB k.p.1=l.countP λx=>x.k==2:=by rw[g];rfl
 rw[<-g]at a D;obtain⟨q,c,f,M,-⟩:=a.form;rw[f]at d a;rw[m];have s:=O a;have t:=O b;obtain⟨n,j⟩:=J l.length;have F:=O j;rw[<-j]at d s D M;obtain⟨X,o⟩:=J ((aL k).toArray);rw[<-o]at d s t⊢;clear b h o g m a f j
 go_enter func61,ntmps61
 go_wp2_with fail
 obtain⟨H,a⟩:=J (w.alloc (jh X 82));rw[<-a]at d s t⊢;clear d a
 go_loopw [2,9] (λm i wr=>∃j:T,i=jc jd j/\m=jc jd ((l.take j).countP λx=>x.k==2:T)/\j<=n/\ji (jo w w wr)/\ji (jo H H wr)) (λ_ i _=>n-(jF i).toNat)
 case atStart=>exact⟨0,I,I,oj _,t,O (j9 _ _)⟩
 obtain⟨j,rfl,rfl,U,h,a⟩:=hrel
 by_cases P:j<n
 case neg=>
  have Q:=az ((j:ja)<(n:ja));have R:=az (j<n);obtain rfl:j=n:=Y;have e:l.take j=l:=qh (by rw[<-F];exact jE _);rw[e];clear e
  go_wp2_with fail
  go_ret;exact⟨I,h⟩
 have Q:=aw ((j:ja)<(n:ja));have R:=aw (j<n);obtain⟨e,he,C⟩:=dN (l:=l) (j:=j) (by rw[<-F];exact P);obtain⟨g,o,rfl,r⟩:=(s.cells).2.2 Y;have u:ji ((l.take (j+1)).countP (λx=>x.k==2)=(l.take j).countP (λx=>x.k==2)+if e.k==2 then 1 else 0):=O (by rw[C,List.countP_append,List.countP_singleton]);have S:(l.take j).countP (λx=>x.k==2)<=n:=by
  have:=xI (p:=λx:ap=>x.k==2) (l:=l.take j);rw[xi]at this;omega
 obtain⟨b,f,y,z,B⟩:=e;have V:wr.cell? ⟨g,o+j*5,je⟩=N (jc jd b):=aD (r j _ he 0 _ I) a;have d:wr.cell? ⟨g,o+j*5+1,je⟩=N (jc jd f):=aD (r j _ he 1 _ I) a;have W:wr.cell? ⟨g,o+j*5+2,je⟩=N (jc jd y):=aD (r j _ he 2 _ I) a;have c3:wr.cell? ⟨g,o+j*5+3,je⟩=N (jc jd z):=aD (r j _ he 3 _ I) a;have c4:wr.cell? ⟨g,o+j*5+4,je⟩=N (jc jd B):=aD (r j _ he 4 _ I) a;obtain⟨m,K⟩:=J ((l.take j).countP (λx=>x.k==2));rw[<-K]at S u⊢;replace h:=O (h.trans ((ao wr (jh #[jc jd b,jc jd f,jc jd y,jc jd z,jc jd B] 62)).mono h.size));replace a:=O (a.trans ((ao wr (jh #[jc jd b,jc jd f,jc jd y,jc jd z,jc jd B] 62)).mono a.size));clear he C r K
 by_cases r:b=2
 ·have C:(b==2)=jk:=by simp[r]
  have K:decide (b=2)=jk:=by simp[r]
  clear r
  go_wp2_with fail
  exact⟨⟨j+1,by go_num,by rw[u];simp[C],by omega,h,a⟩,by simp only[jF];omega⟩
 have C:(b==2)=jr:=by simp[r]
 have K:decide (b=2)=jr:=by simp[r]
 clear r
 go_wp2_with fail
 exact⟨⟨j+1,by go_num,by rw[u];simp[C],by omega,h,a⟩,by simp only[jF];omega⟩
def oz(k x:CK):jS:=x.p.1.author !=k.p.1.author&&oY x.p.1 k.p.1.author
theorem Kt(x k:CK)(b:T)(w:jg)(h:KIn w x)(q:KIn w k)(t:w.heap[b]?=N (jh (aL k).toArray VK.t (0,0)))(u:x.p.1.chg.length<=1000000):
 jz jl 59 #[jn (aL x).toArray,jG (N ⟨b,0,je⟩)] w λe w'=>e=jw (.bool (oz k x))/\jo w w w':=by
 have a:=ao w (jh (aL x).toArray 82);have j:=jC w (jh (aL x).toArray 82);have y:=ai (i:=35) (v:=jc jd x.p.1.author) j (by simpa using(mM h).2.1);have z:=ai (i:=35) (v:=jc jd k.p.1.author) (av t a) (by simpa using(mM q).2.1);have l:=O j;have m:ji ((aL x).toArray.size=VK.n):=O (by rw[jL];exact h.len);have f:=O (Og x k.p.1.author _ (h.below a) u);have n:=O a;obtain⟨s,o⟩:=J (oz k x);rw[<-o];obtain⟨r,p⟩:=J (oY x.p.1 k.p.1.author);have g:ji (s=(x.p.1.author !=k.p.1.author&&r)):=O (by rw[o,p];rfl);rw[<-p]at f;obtain⟨X,B⟩:=J ((aL x).toArray);rw[<-B]at y z l m f n⊢;obtain⟨c,C⟩:=J x.p.1.author;obtain⟨d,D⟩:=J k.p.1.author;rw[<-C]at y g;rw[<-D]at z g f;clear a j h q t u p o B C D
 by_cases a:c=d
 ·have j:(c==d)=jk:=by simp[a]
  have o:decide (c=d)=jk:=by simp[a]
  have h:(c !=d)=jr:=by simp[a]
  have p:decide (c≠d)=jr:=by simp[a]
  obtain rfl:s=jr:=by rw[g,h];rfl
  clear a
  go_enter func59,ntmps59
  go_wp2_with (first|(refine VK.loadA aj I I X m l (G ?_)))
  go_ret;exact⟨I,n⟩
 have j:(c==d)=jr:=by simp[a]
 have o:decide (c=d)=jr:=by simp[a]
 have h:(c !=d)=jk:=by simp[a]
 have p:decide (c≠d)=jk:=by simp[a]
 obtain rfl:s=r:=by rw[g,h];rfl
 clear a
 go_enter func59,ntmps59
 go_wp2_with (first|(refine VK.loadA aj I I X m l (G ?_)))
 refine f.mono ?_;rintro e x1 ⟨rfl,a⟩;have q:=ah n a;clear a f
 go_wp2_with fail
 go_ret;exact⟨I,q⟩
theorem iw.below{c d e:jb}{f:A CP}(h:iw (·<w.heap.size) w c d e f)(b:jo w w w'):iw (·<w'.heap.size) w' c d e f:=
 ⟨h.list.below b,(h.ids.keep λg a=>b.block g a).mono λg a=>jB a b.size,(h.at_.keep λg a=>b.block g a).mono λg a=>jB a b.size⟩
theorem iw.mono{c d:jb}{e:A CP}(h:iw D w a c d e)(f:∀b,D b->E b):iw E w a c d e:=⟨h.list,h.ids.mono f,h.at_.mono f⟩
theorem KsD.keep{a:A CP}{v:jb}{Ks:A CK}(h:KsD D a w v Ks)(c:∀b,D b->w'.heap[b]?=w.heap[b]?):KsD D a w' v Ks:=⟨h.row.keep c,λk b=>(h.all k b).keep c⟩
noncomputable def dm:jv CK->js jb
 |none=>VK.Z
 |some k=>(aL k).toArray
structure WSt(M a:T)(d:A CP)(v:jb)(Ks:A CK)(e:jb)(m j:T)(c:A CK)(wk:jv CK)(w0 W:jg):Prop where
 ks:KsD (λb=>M+3<=b/\b<a) d W v Ks
 own:W.ownsRow a RK.e RK.k e m (c.flatMap aL)
 len:m=c.length
 le:m<=j
 sub:∀k∈c,k∈Ks
 wsub:∀k,wk=N k->k∈Ks
 var:W.heap[M+2]?=N (jh (dm wk) VK.t (0,0))
 bel:jo (M+2) w0 W
 st:((Ks.map CK.cand).take j).foldl gz ([],je)=(c.map CK.cand,wk.map CK.cand)
 sz:a<=W.heap.size
 big:M+3<=a
theorem KIn.ones{k:CK}(h:KIn w k):∀b∈aL k,b.oneCell'=jk:=by
 intro b a;unfold aL at a;rw[jD,jQ,jQ,jD]at a
 rcases a with rfl|a|a|rfl|a
 ·rfl
 ·exact mC h.com b a
 ·exact iu _ b a
 ·rfl
 exact mc h.leads b a
theorem sH{wk:jv CK}(h:∀k,wk=N k->KIn w k):(dm wk).size=VK.n/\(dm wk).all (·.oneCell')=jk:=by
 rcases wk with _|k
 ·exact⟨VK.hZ,by kernel_rfl⟩
 have a:=h k I;refine⟨by unfold dm;rw[jL];exact a.len,?_⟩;unfold dm;rw[qb];exact λb c=>a.ones b (ak c)
theorem WSt.below{c:T}{d:A CP}{v:jb}{Ks:A CK}{e:jb}{j:T}{f:A CK}{wk:jv CK}{g:jg}(h:WSt M c d v Ks e m j f wk w0 W)(a:jo W W g):WSt M c d v Ks e m j f wk w0 g:=
 ⟨h.ks.keep λb i=>a.block b (jB i.2 h.sz),cL h.own a,h.len,h.le,h.sub,h.wsub,av h.var a,h.bel.trans (a.mono (by have:=h.sz;have:=h.big;omega)),h.st,jH h.sz a.size,h.big⟩
theorem WSt.step{c:T}{d:A CP}{v:jb}{Ks:A CK}{j:T}{a:A CK}{wk:jv CK}(h:WSt M c d v Ks f m j a wk w0 W){k:CK}(b:Ks[j]?=N k):
 ((Ks.map CK.cand).take (j+1)).foldl gz ([],je)=gz (a.map CK.cand,wk.map CK.cand) k.cand:=by
 have g:=(jT.1 b).1;have e:(Ks.map CK.cand).take (j+1)=(Ks.map CK.cand).take j++[k.cand]:=by
  rw[wq (by rw[ju];exact g)];simp[(jT.1 b).2]
 rw[e,List.foldl_append,h.st]
 rfl
theorem C8(a:A CK)(k:CK):rN (a.map CK.cand) k.cand=a.any (oz k):=by
 unfold rN;rw[List.any_map]
 rfl
theorem WSt.struck{c:A CP}{Ks:A CK}{v:A CK}{wk:jv CK}(h:WSt M R c a Ks f m y v wk w W){k:CK}(e:Ks[y]?=N k)(d:v.any (oz k)=jk):WSt M R c a Ks f m (y+1) v wk w W:=
 ⟨h.ks,h.own,h.len,Nat.le_succ_of_le h.le,h.sub,h.wsub,h.var,h.bel,by rw[h.step e];unfold gz;rw[jp (by rw[C8];exact d)],h.sz,h.big⟩
def sI(wk:jv CK)(k:CK):jS:=match wk with|none=>jk|some x=>decide (nB x.p.1<nB k.p.1)
theorem NX(wk:jv CK)(k:CK):wj (wk.map CK.cand) k.cand=sI wk k:=by cases wk<;>rfl
structure nR(M a:T)(d:A CP)(v:jb)(Ks:A CK)(e:jb)(m j:T)(c:A CK)(wk:jv CK)(k:CK)(w0 W:jg):Prop where
 ks:KsD (λb=>M+3<=b/\b<a) d W v Ks
 own:W.ownsRow a RK.e RK.k e m (c.flatMap aL)
 len:m=c.length
 le:m<=j
 sub:∀k∈c,k∈Ks
 wsub:∀k,wk=N k->k∈Ks
 mem:k∈Ks
 var:W.heap[M+2]?=N (jh (dm wk) VK.t (0,0))
 bel:jo (M+2) w0 W
 st:((Ks.map CK.cand).take j).foldl gz ([],je)=(c.map CK.cand,if sI wk k=jk then N k.cand else wk.map CK.cand)
 sz:a<=W.heap.size
 big:M+3<=a
theorem WSt.push{f:T}{o:A CP}{v:jb}{Ks:A CK}{l p:jb}{j:T}{g:A CK}{wk:jv CK}{i:jg}(h:WSt M f o v Ks l m j g wk w0 W){k:CK}(q:Ks[j]?=N k)(s:g.any (oz k)=jr)
 (t:i.ownsRow f RK.e RK.k p (m+1) (g.flatMap aL++aL k)) (a:W.grownBy i l.ownBlock):nR M f o v Ks p (m+1) (j+1) (g++[k]) wk k w0 i:=by
 have u:∀b,b<f->l.ownBlock≠N b:=λb c e=>by have:=(h.own.lt b e).1;omega
 have n:∀b,b<f->i.heap[b]?=W.heap[b]?:=λb c=>a.block b (jB c h.sz) λe=>u b c e.symm
 have r:=j1 q;refine⟨h.ks.keep λb c=>n b c.2,by rw[xf];simpa using t,by rw[jJ,<-h.len];rfl,Nat.succ_le_succ h.le,λx d=>?_,h.wsub,r,(n _ (cT h.big)).trans h.var,
  h.bel.trans ⟨a.os,a.tape,a.output,a.size,λb c=>n b (cT h.big)⟩,?_,jH h.sz a.size,h.big⟩
 ·rcases jQ.1 d with d|d
  ·exact h.sub x d
  rw[qk]at d;rw[d];exact r
 rw[h.step q,gz,jq (by rw[C8,s];decide)];dsimp only;rw[NX,j5]
 rfl
theorem nR.below{c:T}{d:A CP}{v:jb}{Ks:A CK}{e:jb}{j:T}{f:A CK}{wk:jv CK}{k:CK}{g:jg}(h:nR M c d v Ks e m j f wk k w0 W)(a:jo W W g):nR M c d v Ks e m j f wk k w0 g:=
 ⟨h.ks.keep λb i=>a.block b (jB i.2 h.sz),cL h.own a,h.len,h.le,h.sub,h.wsub,h.mem,av h.var a,h.bel.trans (a.mono (by have:=h.sz;have:=h.big;omega)),h.st,jH h.sz a.size,h.big⟩
theorem nR.stay{b:A CP}{Ks:A CK}{d:A CK}{wk:jv CK}{k:CK}(h:nR M R b a Ks f m y d wk k w W)(e:sI wk k=jr):WSt M R b a Ks f m y d wk w W:=
 ⟨h.ks,h.own,h.len,h.le,h.sub,h.wsub,h.var,h.bel,by rw[h.st,e];rfl,h.sz,h.big⟩
theorem nR.set{d:T}{e:A CP}{v:jb}{Ks:A CK}{j:T}{g:A CK}{wk:jv CK}{k:CK}(h:nR M d e v Ks f m j g wk k w0 W)(a:sI wk k=jk):WSt M d e v Ks f m j g (N k) w0 (W.setRow (M+2) (aL k).toArray):=
 ⟨h.ks.keep λb a=>qo _ _ _ _ Y,iD h.own λb a=>qo _ _ _ _ (by have:=(h.own.lt b a).1;have:=h.big;omega),h.len,h.le,h.sub,λx c=>by injection c with c;rw[<-c];exact h.mem,
  j4 _ _ _ _ _ _ h.var,iR h.bel (jE _) _,by rw[h.st,a];rfl,by rw[setRow_size];exact h.sz,h.big⟩
theorem C0{c:jS}{p q:Prop}(h:c=jr)(k:q):if c=jk then p else q:=by rw[h];exact k
theorem uf(o:A CP)(v1 v2 v3:jb)(g:Grp)(vm vt:jb)(w:jg)(d:iw (·<w.heap.size) w v1 v2 v3 o)(n:bL w g vm vt)(q:∀p∈o,cZ (aR p.1))(r:bH w)(a:o.length<=1000)(t:g.mem.length<=900000)(u:g.tree.length<=600000)(v:∀p∈o,p.1.chg.length<=1000000):
 jz jl 23 #[jn #[v1,v2,v3],jn (aB g vm vt).toArray] w λe w'=>∃wk,e=jw (jZ #[jn (dm wk),.bool wk.isSome])/\(∀k,wk=N k->KD (λb=>w.heap.size<=b/\b<w'.heap.size) o w' k)/\wk.map CK.cand=dH g (o.map (·.1))/\jo w w w':=by
 obtain⟨p1,k1,e1⟩:=d.list.form;obtain⟨p2,k2,s⟩:=d.ids.form;obtain⟨p3,k3,e3⟩:=d.at_.form;obtain⟨K,j⟩:=J ((aB g vm vt).toArray);obtain⟨B,l⟩:=J (#[v1,v2,v3]);have bf:ji (B.size=VP.n):=O (by rw[l];rfl);have bg:ji (K.size=VG.n):=O (by rw[j,jL,eH n.llen];rfl);obtain⟨M,f⟩:=J w.heap.size;have HM:=O f;obtain⟨P,c⟩:=J (((w.alloc (jh B 78)).alloc (jh K 41)).alloc (jh VK.Z VK.t));have ad:=ao w (jh B 78);have U:=ad.trans ((ao (w.alloc (jh B 78)) (jh K 41)).mono ad.size);have m:=ao ((w.alloc (jh B 78)).alloc (jh K 41)) (jh VK.Z VK.t);have x:ji (P.heap[M]?=N (jh B VP.t (0,0))):=O (by rw[c,f];exact av (av (jC w _) (ao _ _)) m);have y:ji (P.heap[M+1]?=N (jh K VG.t (0,0))):=O (by
  have h:=jC (w.alloc (jh B 78)) (jh K 41);rw[jK]at h;rw[c,f];exact av h m)
 have z:ji (P.heap[M+2]?=N (jh VK.Z VK.t (0,0))):=O (by
  have h:=jC ((w.alloc (jh B 78)).alloc (jh K 41)) (jh VK.Z VK.t);rw[jK,jK]at h;rw[c,f];exact h)
 have V:ji (jo w w P):=O (by rw[c];exact U.trans (m.mono U.size));have bh:ji (P.heap.size=M+3):=O (by rw[c,f,jK,jK,jK]);have i:=EN o v1 v2 v3 g vm vt P (d.below V) (n.below V) q (r.below V) a t u;rw[<-j,<-l]at i;replace i:=O i;have HL:=O d.list;have Vy:=O v;have Yv:=O a;rw[<-j,<-l];have C:=O c;clear ad U m c f j l d n q r a t u v e1 s e3
 go_enter func23,ntmps23
 go_upto_region 2 with(first|(refine VK.made I I (G ?_)))
 rw[<-C];simp only[jK];rw[show w.heap.size+1+1=w.heap.size+2 from I,<-HM];clear C
 go_wp2_with (first|(refine VP.loadA aj I I B bf x (G ?_))|(refine VG.loadA aj I I K bg y (G ?_)))
 refine i.mono ?_;rintro e x1 ⟨v,Ks,rfl,c,d,Q⟩;obtain⟨pv,kv,rfl⟩:=c.row.form;obtain⟨au,j⟩:=J x1.heap.size;have f:ji (WSt M au o (jf pv Ks.length kv) Ks (jf je 0 0) 0 0 [] je P x1):=O (by
  have hz:=bh.out;have hs:=Q.size;rw[j];exact⟨c.mono λb R=>⟨by have:=R.1;omega,R.2⟩,qF _ _ _ _,I,jE _,(λk u=>by cases u),(λk u=>by cases u),av z Q,Q.mono Y,I,jE _,by omega⟩)
 obtain⟨n,a⟩:=J Ks.length;rw[<-a]at f⊢;have ZF:=O a;have Z7:=O d;have bn:n<=1000:=by
  have h:=jR qL d;have l:(fg g (o.map (·.1))).length<=(bW (o.map (·.1)) (o.map (·.1)).length).length:=by
   unfold fg;rw[List.length_mergeSort];exact xh _ _
  have m:=rV (o.map (·.1)) (o.map (·.1)).length;rw[ju]at h l m;have:=Yv.out;omega
 clear j a c d Q i z y x
 go_wp2_with fail
 go_loopw [6,14,5] (λa i ok wr=>∃(j m:T) (q:jv jM) (c:T) (C:A CK) (wk:jv CK),i=jc jd j/\a=jf q m c/\ok=.bool wk.isSome/\j<=n/\ji (WSt M au o (jf pv n kv) Ks (jf q m c) m j C wk P wr)) (λ_ i _ _=>n-(jF i).toNat)
 case atStart=>exact⟨0,0,je,0,[],je,I,I,I,oj _,f⟩
 obtain⟨j,m,q,c,C,wk,rfl,rfl,rfl,hj,a⟩:=hrel;clear f
 by_cases bi:j<n
 case neg=>
  have hd:=az ((j:ja)<(n:ja));have UL:=az (j<n);obtain rfl:j=n:=Y;have r:ji (∀x∈Ks,KIn wr x):=O λx d=>(a.ks.all x d).kin (HL.below (V.trans (a.bel.mono (by rw[<-HM];omega))))
  have f:=O (sH (wk:=wk) λk u=>r k (a.wsub k u));have i:=O a.var
  go_wp2_with (first|(refine VK.loadA aj I I (dm wk) f.1 i (G ?_))|(refine VK.store I I I (dm wk) I f.1 f.2 i f.1 ?_;rw[setRow_self _ _ _ _ _ i.out];refine G ?_))
  refine n0 (fS I _ _ (M+2) VK.t (dm wk) (0,0) _ I i qZ I (by rw[f.1];exact VK.hi)) I ?_;refine⟨wk,I,λk u=>(a.ks.all k (a.wsub k u)).mono λb R=>⟨by rw[<-HM];omega,jB R.2 a.sz⟩,?_,V.trans (a.bel.mono (by rw[<-HM];omega))⟩;have h:=a.st;rw[qh (by rw[ju,<-ZF];exact jE _),Z7]at h;unfold dH;rw[h]
 have hd:=aw ((j:ja)<(n:ja));have UL:=aw (j<n);obtain⟨k,u⟩:∃k,Ks[j]?=N k:=⟨_,mz (by rw[<-ZF];exact bi)⟩;have f:=j1 u;have l:ji (jo w w wr):=O (V.trans (a.bel.mono (by rw[<-HM];omega)));have r:ji (∀x∈Ks,KIn wr x):=O λx d=>(a.ks.all x d).kin (HL.below l)
 obtain⟨gk,ok,ck,e1,z,-,y⟩:=a.ks.row.at1 (by rw[<-ZF];omega);injection e1 with e1 s e3
 subst e1;subst e3;clear s;have a4:ji ((aL k).length=VK.n):=O (r k f).len;have s:ji (wr.rangeAt gk (ok+j*143) (aL k)):=O λt W ht=>by
  rw[qi];exact y _ W ((sc aL 143 Ks (λx d=>(r x d).len) j t k u (by rw[<-(r k f).len];exact(jT.1 ht).1)).trans ht)
 have Ym:ji (∀W∈aL k,W.oneCell'=jk):=O ((a.ks.all k f).ones (HL.below l));obtain⟨X,i⟩:=J ((aL k).toArray);have HX:=O i;have D:ji (X.size=VK.n):=O (by rw[i,jL];exact a4);have U7:ji (X.all (·.oneCell')=jk):=O (by rw[i,qb];exact λW E=>Ym W (ak E));have a5:=O u;have ay:=O f;clear y z i u f
 go_upto_region 5 with(first|(refine VK.load aj I I (aL k) a4 s ?_;rw[<-HX];refine G ?_)|(refine VK.made I I (G ?_))|(refine VK.first I I I X I D U7 (G ?_)))
 obtain⟨x2,bc,d,R,z,f⟩:=dh wr X VK.t;rw[<-d,<-R];have bk:ji (∀b,(qB q m c).ownBlock=N b->b<bc):=O λb h=>by rw[R];exact(a.own.lt b h).2
 replace a:=O (a.below f);replace r:ji (∀x∈Ks,KIn x2 x):=O λx d=>(r x d).below f
 have i:=O (Ob (Ks:=C) (F:=59) (caps:=#[jG (N ⟨bc,0,je⟩)]) (p:=oz k) (w:=x2) ⟨λ_ _=>rfl,λx d w' Q=>Kt x k bc w' ((r x (a.sub x d)).below Q) ((r k ay).below Q) (av (by rw[<-HX];exact z) Q) (Vy _ (j1 (a.ks.all x (a.sub x d)).at_))⟩
  (jf q m c) (by rw[<-a.len];exact cE.of_own a.own) (λx d=>(r x (a.sub x d)).len) (by have:=a.le;have:=a.len;omega))
 clear d R f s l
 go_wp2_with fail
 refine i.mono ?_;rintro e x3 ⟨rfl,f⟩;replace a:=O (a.below f);replace r:ji (∀x∈Ks,KIn x3 x):=O λx d=>(r x d).below f
 replace z:=ae z f;obtain⟨s,hs⟩:=J (C.any (oz k));rw[<-hs];have a6:=O hs;clear hs f i
 cases s with
 |true=>
  have E:=O (a.struck a5 a6.symm)
  go_wp2_with fail
  exact⟨⟨j+1,m,q,c,C,wk,by go_num,rfl,rfl,by omega,E⟩,by simp only[jF];omega⟩
 |false=>
  have ba:ji (X.toList=aL k):=O (by rw[HX]);have bl:ji (∀W∈X.toList,W.oneCell'=jk):=O (by rw[ba];exact Ym);have bb:ji (m<=1000000/\au<=x3.heap.size+1):=O ⟨by have:=a.le;omega,by have:=a.sz;omega⟩
  go_upto_region 8 with(first|(refine VK.loadA aj I I X D z (G ?_))|(refine jO I λ_ i=>RK.wp_build (.tmp 23) I (jn X) I D (i _ _ ?_);clear i;refine G ?_)|
   (refine jO I λ_ i=>RK.wp_append (.tmp 22) (.tmp 24) I au (jf q m c) m (C.flatMap aL) I (cL a.own (ao x3 (jh X RK.e))) x3.heap.size X I (jC _ _) D bl bb.1 (by rw[jK];exact bb.2) ?_;intro v' x4 l y hv;obtain⟨q',c',rfl⟩:=cK l;refine i _ _ ?_;clear i;refine G ?_;have S:=O l;have H:=O y;clear l y hv))
  have l:=O ((a.below (ao x3 (jh X RK.e))).push a5 a6.symm (by rw[<-ba];exact S) H);have y:ji (x4.heap[bc]?=N (jh X VK.t (0,0))):=O ((H.block bc (by rw[jK];have:=(jP.1 z).1;omega) λe=>by have:=bk bc e.symm;omega).trans (av z (ao _ _)));have f:=bV x4;obtain⟨x5,d⟩:=J x4.drew;rw[<-d]at f;replace l:=O (l.below f);replace y:=ae y f;have a1:=O d;have bm:ji (cA x5 v1 o):=O (HL.below (V.trans (l.bel.mono (by rw[<-HM];omega))));have aa:ji (∀x∈Ks,KIn x5 x):=O λx d=>(l.ks.all x d).kin bm
  clear S H r z d f
  rcases wk with _|H
  ·refine pz ?_
   refine fP (λ_=>True) 9 (.t 0 (.t 1 (.t 2 (.t 3 (.t 5 (.o 4 (.o 6 (.t 7 (.t 8 .done))))))))) af af af af L (λ_ _ _ _ h=>h) trivial ?_;rw[<-a1];iterate 3 refine co ?_
   iterate 2 (refine Hh I aj (G ?_))
   refine cV I (λK' i=>C0 aj (i _ _ trivial λ_=>?_));clear i;refine G ?_;refine cV I (λK' i=>C0 aj (i _ _ trivial λ_=>?_));clear i;refine G ?_
   (refine Hh I aj (G ?_))
   refine co ?_;refine fc ?_;have E:=O (l.set I);rw[<-HX]at E
   go_wp2_with (first|(refine VK.loadA aj I I X D y (G ?_))|(refine VK.store I I I X I D U7 l.var VK.hZ (G ?_)))
   exact⟨⟨j+1,m+1,q',c',C++[k],N k,by go_num,rfl,rfl,by omega,E⟩,by simp only[jF];omega⟩
  obtain⟨UG,hY⟩:=J ((aL H).toArray);have ax:=l.wsub H I;have S:ji (x5.heap[M+2]?=N (jh UG VK.t (0,0))):=O (by rw[hY];exact l.var);have Yq:ji (UG.size=VK.n):=O (by rw[hY,jL];exact(aa H ax).len);obtain⟨na,a2⟩:=J (nB k.p.1);obtain⟨nb,a3⟩:=J (nB H.p.1);have bd:ji (sI (N H) k=decide (nb<na)):=O (by rw[a2,a3];rfl);have UQ:ji (∀z,(∀x∈Ks,KIn z x)->jz jl 61 #[jn X] z λe w'=>e=jw (jc jd (na:T))/\jo z z w'):=O λz hz=>by
   rw[a2,HX];exact G6 k z (hz k ay) (Vy _ (j1 (l.ks.all k ay).at_))
  have UP:ji (∀z,(∀x∈Ks,KIn z x)->jz jl 61 #[jn UG] z λe w'=>e=jw (jc jd (nb:T))/\jo z z w'):=O λz hz=>by
   rw[a3,hY];exact G6 H z (hz H ax) (Vy _ (j1 (l.ks.all H ax).at_))
  clear a2 a3 ax hY;refine pz ?_;refine fP (λW'=>W'.heap[bc]?=N (jh X VK.t (0,0))/\W'.heap[M+2]?=N (jh UG VK.t (0,0))) 9 (.t 0 (.t 1 (.t 2 (.t 3 (.t 5 (.o 4 (.o 6 (.t 7 (.t 8 .done))))))))) af af af af L (λ_ _ _ _ h=>h) (by rw[<-a1];exact⟨y,S⟩) ?_;rw[<-a1];iterate 3 refine co ?_
  (refine cJ (v:=jn X) I aj (λW' hS=>dc VK.hu VK.hd (by rw[D];exact VK.hi) I I hS.1) ?_;refine G ?_)
  (refine cJ (v:=jn UG) I aj (λW' hS=>dc VK.hu VK.hd (by rw[Yq];exact VK.hi) I I hS.2) ?_;refine G ?_)
  refine cV I (λK' i=>?_);go_simp;refine(UQ x5 aa).mono ?_;rintro e x6 ⟨rfl,f⟩;replace l:=O (l.below f);replace y:=ae y f;replace S:=ae S f;replace aa:ji (∀x∈Ks,KIn x6 x):=O λx d=>(aa x d).below f
  refine i _ _ ⟨y,S⟩ λ_=>?_
  clear i f;refine G ?_;refine cV I (λK' i=>?_);go_simp;refine(UP x6 aa).mono ?_;rintro e x7 ⟨rfl,f⟩;replace l:=O (l.below f);replace y:=ae y f;replace S:=ae S f;refine i _ _ ⟨y,S⟩ λ_=>?_
  clear i f aa UQ UP;refine G ?_
  by_cases f:nb<na
  ·have ad:=aw ((nb:ja)<(na:ja))
   have U:=aw (nb<na);have E:=O (l.set (by rw[bd];exact U));rw[<-HX]at E;iterate 2 refine co ?_
   refine fc ?_
   go_wp2_with (first|(refine VK.loadA aj I I X D y (G ?_))|(refine VK.store I I I X I D U7 S Yq (G ?_)))
   exact⟨⟨j+1,m+1,q',c',C++[k],N k,by go_num,rfl,rfl,by omega,E⟩,by simp only[jF];omega⟩
  have ad:=az ((nb:ja)<(na:ja));have U:=az (nb<na);have E:=O (l.stay (by rw[bd];exact U));iterate 2 refine co ?_
  refine fc ?_
  go_wp2_with fail
  exact⟨⟨j+1,m+1,q',c',C++[k],N H,by go_num,rfl,rfl,by omega,E⟩,by simp only[jF];omega⟩
end Go.Proofs.YtngkfaggaccpoaaGreatDoor
