/- Contracts of functions that the law reaches, part 5 of 10; no condition. -/
import Derived.Deep.SlicePairs
import Derived.WalkLawsBesides
import Derived.Lib.BytesEntry
import Derived.Test.YtjbiancnijgmgaaGreatDoorZJ4
namespace Go.Proofs.YtjbiancnijgmgaaGreatDoor
set_option maxHeartbeats 64000000
set_option maxRecDepth 100000
set_option linter.unusedVariables false
set_option linter.unusedSimpArgs false
set_option linter.unusedSectionVars false
open Go.RowKit
open Go.Proofs.Tryz
open _root_ renaming rfl->I,Nat->T,List->A,Int->ja,if_pos->jp,if_neg->jq,Array->js,Option->jv,absurd->jA,congrArg->jR,Bool->jS,decide_eq_true->xi
open _root_.Option renaming some->N,none->je,map_some->qY,some->qZ,some_get->xH,toList->xS
open Go renaming Value->jb,World->jg,TypeId->jt,Calls->jz,Addr->jM,Oper->jN,wpList_plain->jO,Operand->jW,maxLen->jX,wp_region_lit->jY,setRow_heap->j4,wpList->j6,wp_store_row->j8,DataW->nn,MemPlace->nv,bodyPost_ret_by->n0,below_setRow->ob,execOp->o1,bodyPost->o3,wp_region_noPanic->o5,Program->qa,undef->qe,setRow_other->qk,run_underlying->qI,wpOp_mono->qW,callFunc->r7,wpList_load_row->xj
open Go.Value renaming int->jc
open Go.IntKind renaming i64->jd
open Go.Value renaming slice->jf,agg->jn,pointer->jG,tuple->jZ
open Go.Obj renaming cells->jh
open Go.RowKit renaming Hid->ji,Below->jo
open Go.Value renaming int->jj,slice->qz,cells->qT,agg->qU,oneCell'->r4
open _root_.Bool renaming true->jk,false->jr,and_eq_true->xt,eq_iff_iff->xz,eq_false_iff->xL
open Go.Proofs.Tryz renaming prog->jl
open Go.IntKind renaming u8->jm
open _root_.List renaming length_map->ju,mem_map->jy,mem_cons->jD,length_append->jJ,size_toArray->jL,mem_append->jQ,map_cons->jT,length_cons->jU,getElem?_eq_some_iff->jV,mem_cons_self->j0,mem_of_getElem?->j1,map_append->j5,mem_cons_of_mem->j7,mergeSort_perm->ms,getElem?_eq_getElem->mz,map_map->ow,getElem?_map->o8,set_cons_succ->pz,range->qc,take_of_length_le->qf,mem_filter->qg,mem_singleton->qh,mem_nil_iff->qi,map_nil->ql,replicate->qs,set_append_right->qt,length_nil->qu,drop_eq_getElem_cons->qv,getElem?_cons_succ->qw,append_nil->qx,getD->qy,flatMap_cons->qB,getElem_toArray->qD,getElem_cons_zero->qE,getElem_cons_succ->qF,getElem?_append_right->qH,length->qJ,append_assoc->qK,set->qM,length_filter_le->qP,getElem?_append_left->qS,any_eq_true->q8,getElem_mem->q9,map->rk,toList_toArray->r6,zipIdx_cons->sh,filter_sublist->sl,nodup_cons->sn,mem_map_of_mem->sq,mem_range->sx,take_zero->sy,ext_getElem?->vi,getElem?_eq_none->wi,mem_toArray->wq,take_succ_eq_append_getElem->wt,length_attach->wx,flatMap_append->xa,find?_append->xd,length_filterMap_le->xe,length_take->xf,getElem?_set_self->xk,nil_append->xl,filter_append->xo,pairwise_mergeSort->xq,pairwise_map->xr,take_succ_cons->xw,take_append_drop->xx,drop_eq_nil_of_le->xy,flatMap_def->xA,flatten_cons->xB,flatMap_map->xC,countP_cons->xD,countP_le_length->xE,map_toArray->xI,not_mem_nil->xM,map_mergeSort->xN,eq_nil_of_length_eq_zero->xO,attach_map_subtype_val->xP,take_length->xR
open Go.Ending renaming returned->jw
open _root_.Nat renaming lt_of_lt_of_le->jB,le_refl->jE,le_trans->jH,zero_le->oj,add_assoc->qn,mul_le_mul_right->qC,le_of_eq->qN,not_lt_zero->qO,zero_add->qQ,mul_comm->sv,div_add_mod->xu
open Go.World renaming alloc_heap_new->jC,size_alloc->jK,ownsRow_nil->qG,frozen?->xn
open Go.Proofs renaming intOf->jF,enters_of->r8
open Go.Proofs.Tryz renaming underlying45->jI,underlying3->j3,underlying23->qd,underlying34->qV,underlying80->qX,underlying129->r9,underlying5->xg,underlying28->xh
open _root_.Array renaming getElem?_eq_some_iff->jP,all_eq_true_iff_forall_mem->p6,length_toList->qb,ext'->qo,toList_setIfInBounds->qA,foldl->qL,getElem?_setIfInBounds_ne->q7,getElem?_modify->xm,toArray_toList->xG,getElem?_push->xJ,getElem?_append_left->xK,toList_push->xQ
open Go.RowKit.Below renaming refl->j9
open Go.NoPanic renaming normal->qj
open _root_.BitVec renaming ofNat->rn,lt_def->rv,eq_of_toNat_eq->wv
variable{t:A (ja×ja)}{i:A Cmt}{Q:A aL}{r:A ap}{x:A ja}{b xs:A jb}{p:Cmt}{a:Grp}{o:LBy}{M R j m y:T}{C H α:Type}{D E:T->Prop}{S d:ja}{f u vm vt:jb}{X:jb->js jb}{W w w' w0:jg}{e:jt}
theorem Lr(a c b d:ja)(f:ja)(g:jv jM)(i j:T)(w:jg):jz jl 25 #[jn #[jc jd a,jc jd c,jc jd f,jf g i j],jn #[jc jd b,jc jd d,jc jd 0,jf je 0 0]] w λe w'=>e=jw (.bool ((a==b)&&(c==d)))/\jo w w w':=by
 have h:=(ao w (jh #[jc jd a,jc jd c,jc jd f,jf g i j] 88)).trans ((ao (w.alloc (jh #[jc jd a,jc jd c,jc jd f,jf g i j] 88)) (jh #[jc jd b,jc jd d,jc jd 0,jf je 0 0] 88)).mono (ao w _).size);have l:=O h;clear h
 by_cases h:a=b
 ·have k:(a==b)=jk:=ak h
  rw[k,Bool.true_and];clear h
  go_enter func25,ntmps25
  go_wp2_with fail
  go_ret;exact⟨I,l⟩
 have k:(a==b)=jr:=ak h;rw[k,Bool.false_and];clear h
 go_enter func25,ntmps25
 go_wp2_with fail
 go_ret;exact⟨I,l⟩
theorem Ab(l:A Bx)(r:A (ja×ja))(v u:jb)(w:jg)(h:∃R,aH D w v 4 l.length (dS Bx.cells l R)/\eA D w (l.map Bx.body) R)(a:EB0.At w u r)(hl:l.length<=1000000)(hr:r.length<=1000000):
 jz jl 27 #[v,u,.func (.func 25) #[] #[]] w λe w'=>e=jw (.bool (decide (l.map (λb:Bx=>(b.lev,b.node))=r.map (λx:ja×ja=>x))))/\jo w w w':=by
 obtain⟨X,f⟩:=J (decide (l.map (λb:Bx=>(b.lev,b.node))=r.map (λx:ja×ja=>x)));rw[<-f];have ZD:=O f;obtain⟨p,c,g⟩:∃p c,v=jf p l.length c:=by obtain⟨R,h,-⟩:=h;exact h.form
 obtain⟨q,d,rfl,hd,-⟩:=a.form;obtain⟨n,i⟩:=J l.length;obtain⟨m,k⟩:=J r.length;have HU:=O h;have HV:=O a;have ZQ:=O g;rw[g];have HN:=O i;have HM:=O k;rw[<-i]at hl⊢;rw[<-k]at hr hd HV⊢;have EG:∀args w,(r7 25 args).run jl w=.ok (.enter 25 args) w:=λ_ _=>rfl
 clear h a i k f g
 by_cases H:n=m
 ·have a4:((n:ja)!=(m:ja))=jr:=by simp[H]
  have UM:((n:ja)==(m:ja))=jk:=by simp[H]
  have aa:=O H;clear H
  go_enter func27,ntmps27
  go_wp2_with fail
  go_loopw [17] (λi wr=>∃k:T,i=jc jd k/\k<=n/\ji ((l.take k).map (λb:Bx=>(b.lev,b.node))=(r.take k).map (λx:ja×ja=>x))/\ji (jo w w wr)) (λi _=>n-(jF i).toNat)
  case atStart=>exact⟨0,I,oj _,O ar,O (j9 _ _)⟩
  obtain⟨k,rfl,hk,HG,a⟩:=hrel
  by_cases a5:k<n
  ·have a6:=aA ((k:ja)<(n:ja))
   have ba:=aA (k<n);have bb:k<m:=aI aa;have hd2:=aA ((k:ja)<(m:ja));have bk:=aA (k<m);obtain⟨x,S,ad⟩:=dL (l:=l) (j:=k) (by rw[<-HN];exact a5);obtain⟨y,F,au⟩:=dL (l:=r) (j:=k) (by rw[<-HM];exact bb);obtain⟨R,ax,ay⟩:=HU.out;obtain⟨bl,a1,a2⟩:=ay.at (i:=k) (b:=x.body) (by rw[o8,S];rfl);obtain⟨g,o,c',hq,K⟩:=oK ax (λ_ _=>rfl) S a1;rw[ZQ]at hq;injection hq with e1 e2 e3
   subst e1;subst e3;obtain⟨t,B,rfl⟩:=a2.form;obtain⟨C,a3⟩:=J x.body.length;rw[<-a3]at K;obtain⟨U,V,rfl,M⟩:=(HV.cells).2.2 Y;have bc:=O ad;have bd:=O au;have Wz:=O S;have bf:=O F;obtain⟨f,s,E,xb⟩:=x;obtain⟨P,Q⟩:=y;have z:=ao wr (jh #[jc jd f,jc jd s,jc jd E,jf t C B] 88);have WG:=ao (wr.alloc (jh #[jc jd f,jc jd s,jc jd E,jf t C B] 88)) (jh #[jc jd Q,jc jd P,jc jd 0,jf je 0 0] 88);have a0:wr.cell? ⟨g,o+k*4,je⟩=N (jc jd f):=aB (K 0 _ I) a;have bg:wr.cell? ⟨g,o+k*4+1,je⟩=N (jc jd s):=aB (K 1 _ I) a;have bh:wr.cell? ⟨g,o+k*4+2,je⟩=N (jc jd E):=aB (K 2 _ I) a;have bi:wr.cell? ⟨g,o+k*4+3,je⟩=N (jf t C B):=aB (K 3 _ I) a;have b0:(wr.alloc (jh #[jc jd f,jc jd s,jc jd E,jf t C B] 88)).cell? ⟨U,V+k*4,je⟩=N (jc jd Q):=aB (aB (M k _ F 0 _ I) a) z;have b1:(wr.alloc (jh #[jc jd f,jc jd s,jc jd E,jf t C B] 88)).cell? ⟨U,V+k*4+1,je⟩=N (jc jd P):=aB (aB (M k _ F 1 _ I) a) z;have b2:(wr.alloc (jh #[jc jd f,jc jd s,jc jd E,jf t C B] 88)).cell? ⟨U,V+k*4+2,je⟩=N (jc jd 0):=aB (aB (M k _ F 2 _ I) a) z;have b3:(wr.alloc (jh #[jc jd f,jc jd s,jc jd E,jf t C B] 88)).cell? ⟨U,V+k*4+3,je⟩=N (jf je 0 0):=aB (aB (M k _ F 3 _ I) a) z;have HC:=O (λW=>Lr f s Q P E t C B W);have W:=O (z.trans (WG.mono z.size));clear K ax ay a1 a2 M S F ad au z WG e2 a3
   go_wp2_with fail
   refine(HC _).mono ?_;rintro e w1 ⟨rfl,z⟩;have M:=O (a.trans ((W.trans (z.mono W.size)).mono a.size));clear z HC W a0 bg bh bi b0 b1 b2 b3
   by_cases F:((f==Q)&&(s==P))=jk
   ·rw[F]
    have z:ji ((l.take (k+1)).map (λb:Bx=>(b.lev,b.node))=(r.take (k+1)).map (λx:ja×ja=>x)):=O (by
     rw[bc,bd,j5,j5,HG]
     congr 1
     simp only[jT,ql];simp at F;simp[F])
    clear F
    go_wp2_with fail
    exact⟨⟨k+1,by go_num,by omega,z,M⟩,by simp only[jF];omega⟩
   have S:((f==Q)&&(s==P))=jr:=ak F;rw[S];obtain rfl:X=jr:=by
    rw[ZD,decide_eq_false_iff_not];intro e;have K:=jR (λz=>z[k]?) e;simp only[o8,Wz.out,bf.out,qY,qZ.injEq]at K
    apply F
    try simp at K
    simp[K]
   clear F S
   go_wp2_with fail
   go_ret;exact⟨I,M⟩
  have a6:=az ((k:ja)<(n:ja));have ba:=az (k<n);obtain rfl:k=n:=Y;obtain rfl:X=jk:=by
   rw[ZD,decide_eq_true_iff];have h:=HG.out;rw[qf (l:=l) (by rw[<-HN];exact jE _),qf (l:=r) (by rw[<-HM,<-aa];exact jE _)]at h;exact h
  go_wp2_with fail
  go_ret;exact⟨I,a⟩
 have a4:((n:ja)!=(m:ja))=jk:=by simp;omega
 have UM:((n:ja)==(m:ja))=jr:=by simp;omega
 obtain rfl:X=jr:=by
  rw[ZD,decide_eq_false_iff_not];intro e;have:=jR qJ e;rw[ju,ju,<-HN,<-HM]at this;exact H this
 clear H
 go_enter func27,ntmps27
 go_wp2_with fail
 go_ret;exact⟨I,j9 _ _⟩
theorem RS(a b h c:ja)(i j k:ja)(d:jv jM)(f g:T)(w:jg):jz jl 26 #[jn #[jc jd a,jc jd b,jf d f g],jn #[jc jd h,jc jd c,jc jd i,jc jd j,jc jd k]] w λe w'=>e=jw (.bool (a==c))/\jo w w w':=by
 have l:=(ao w (jh #[jc jd a,jc jd b,jf d f g] 91)).trans ((ao (w.alloc (jh #[jc jd a,jc jd b,jf d f g] 91)) (jh #[jc jd h,jc jd c,jc jd i,jc jd j,jc jd k] 56)).mono (ao w _).size);have m:=O l;clear l
 go_enter func26,ntmps26
 go_wp2_with fail
 go_ret;exact⟨I,m⟩
theorem Fw(l:A Wl)(r:A ap)(v u:jb)(w:jg)(h:∃R,aH D w v 3 l.length (dS Wl.cells l R)/\eA D w (l.map Wl.body) R)(a:EC.At w u r)(hl:l.length<=1000000)(hr:r.length<=1000000):
 jz jl 28 #[v,u,.func (.func 26) #[] #[]] w λe w'=>e=jw (.bool (decide (l.map (Wl.dev)=r.map (ap.d))))/\jo w w w':=by
 obtain⟨U,f⟩:=J (decide (l.map (Wl.dev)=r.map (ap.d)));rw[<-f];have V:=O f;obtain⟨p,c,g⟩:∃p c,v=jf p l.length c:=by obtain⟨R,h,-⟩:=h;exact h.form
 obtain⟨q,d,rfl,hd,-⟩:=a.form;obtain⟨n,i⟩:=J l.length;obtain⟨m,k⟩:=J r.length;have HU:=O h;have HV:=O a;have ZQ:=O g;rw[g];have X:=O i;have HM:=O k;rw[<-i]at hl⊢;rw[<-k]at hr hd HV⊢;have EG:∀args w,(r7 26 args).run jl w=.ok (.enter 26 args) w:=λ_ _=>rfl
 clear h a i k f g
 by_cases F:n=m
 ·have a4:((n:ja)!=(m:ja))=jr:=by simp[F]
  have UM:((n:ja)==(m:ja))=jk:=by simp[F]
  have aa:=O F;clear F
  go_enter func28,ntmps28
  go_wp2_with fail
  go_loopw [17] (λi wr=>∃k:T,i=jc jd k/\k<=n/\ji ((l.take k).map (Wl.dev)=(r.take k).map (ap.d))/\ji (jo w w wr)) (λi _=>n-(jF i).toNat)
  case atStart=>exact⟨0,I,oj _,O ar,O (j9 _ _)⟩
  obtain⟨k,rfl,hk,HG,a⟩:=hrel
  by_cases a5:k<n
  ·have a6:=aA ((k:ja)<(n:ja))
   have ba:=aA (k<n);have bb:k<m:=aI aa;have hd2:=aA ((k:ja)<(m:ja));have bi:=aA (k<m);obtain⟨x,S,ad⟩:=dL (l:=l) (j:=k) (by rw[<-X];exact a5);obtain⟨y,E,au⟩:=dL (l:=r) (j:=k) (by rw[<-HM];exact bb);obtain⟨R,ax,ay⟩:=HU.out;obtain⟨bk,a1,a2⟩:=ay.at (i:=k) (b:=x.body) (by rw[o8,S];rfl);obtain⟨g,o,c',hq,K⟩:=oK ax (λ_ _=>rfl) S a1;rw[ZQ]at hq;injection hq with e1 e2 e3
   subst e1;subst e3;obtain⟨s,t,rfl⟩:=a2.form;obtain⟨B,a3⟩:=J x.body.length;rw[<-a3]at K;obtain⟨M,P,rfl,H⟩:=(HV.cells).2.2 Y;have bc:=O ad;have bd:=O au;have Wz:=O S;have bf:=O E;obtain⟨f,C,xb⟩:=x;obtain⟨yk,Q,yp,yv,yc⟩:=y;have z:=ao wr (jh #[jc jd f,jc jd C,jf s B t] 91);have WG:=ao (wr.alloc (jh #[jc jd f,jc jd C,jf s B t] 91)) (jh #[jc jd yk,jc jd Q,jc jd yp,jc jd yv,jc jd yc] 56);have a0:wr.cell? ⟨g,o+k*3,je⟩=N (jc jd f):=aB (K 0 _ I) a;have bg:wr.cell? ⟨g,o+k*3+1,je⟩=N (jc jd C):=aB (K 1 _ I) a;have bh:wr.cell? ⟨g,o+k*3+2,je⟩=N (jf s B t):=aB (K 2 _ I) a;have b0:(wr.alloc (jh #[jc jd f,jc jd C,jf s B t] 91)).cell? ⟨M,P+k*5,je⟩=N (jc jd yk):=aB (aB (H k _ E 0 _ I) a) z;have b1:(wr.alloc (jh #[jc jd f,jc jd C,jf s B t] 91)).cell? ⟨M,P+k*5+1,je⟩=N (jc jd Q):=aB (aB (H k _ E 1 _ I) a) z;have b2:(wr.alloc (jh #[jc jd f,jc jd C,jf s B t] 91)).cell? ⟨M,P+k*5+2,je⟩=N (jc jd yp):=aB (aB (H k _ E 2 _ I) a) z;have b3:(wr.alloc (jh #[jc jd f,jc jd C,jf s B t] 91)).cell? ⟨M,P+k*5+3,je⟩=N (jc jd yv):=aB (aB (H k _ E 3 _ I) a) z;have b4:(wr.alloc (jh #[jc jd f,jc jd C,jf s B t] 91)).cell? ⟨M,P+k*5+4,je⟩=N (jc jd yc):=aB (aB (H k _ E 4 _ I) a) z;have HC:=O (λW=>RS f C yk Q yp yv yc s B t W);have W:=O (z.trans (WG.mono z.size));clear K ax ay a1 a2 H S E ad au z WG e2 a3
   go_wp2_with fail
   refine(HC _).mono ?_;rintro e w1 ⟨rfl,z⟩;have K:=O (a.trans ((W.trans (z.mono W.size)).mono a.size));clear z HC W a0 bg bh b0 b1 b2 b3 b4
   by_cases E:(f==Q)=jk
   ·rw[E]
    have z:ji ((l.take (k+1)).map (Wl.dev)=(r.take (k+1)).map (ap.d)):=O (by
     rw[bc,bd,j5,j5,HG]
     congr 1
     simp only[jT,ql];simp at E;simp[E])
    clear E
    go_wp2_with fail
    exact⟨⟨k+1,by go_num,by omega,z,K⟩,by simp only[jF];omega⟩
   have S:(f==Q)=jr:=ak E;rw[S];obtain rfl:U=jr:=by
    rw[V,decide_eq_false_iff_not];intro e;have H:=jR (λz=>z[k]?) e;simp only[o8,Wz.out,bf.out,qY,qZ.injEq]at H
    apply E
    try simp at H
    simp[H]
   clear E S
   go_wp2_with fail
   go_ret;exact⟨I,K⟩
  have a6:=az ((k:ja)<(n:ja));have ba:=az (k<n);obtain rfl:k=n:=Y;obtain rfl:U=jk:=by
   rw[V,decide_eq_true_iff];have h:=HG.out;rw[qf (l:=l) (by rw[<-X];exact jE _),qf (l:=r) (by rw[<-HM,<-aa];exact jE _)]at h;exact h
  go_wp2_with fail
  go_ret;exact⟨I,a⟩
 have a4:((n:ja)!=(m:ja))=jk:=by simp;omega
 have UM:((n:ja)==(m:ja))=jr:=by simp;omega
 obtain rfl:U=jr:=by
  rw[V,decide_eq_false_iff_not];intro e;have:=jR qJ e;rw[ju,ju,<-X,<-HM]at this;exact F this
 clear F
 go_enter func28,ntmps28
 go_wp2_with fail
 go_ret;exact⟨I,j9 _ _⟩
def fN(l:A ap)(m:aL):jS:=l.any λx=>x.d==m.dev
theorem OD(d:ja)(b:T)(f g:ja)(x:ap)(w:jg)(c:w.heap[b]?=N (jh #[jc jd d,jc jd f,jc jd g] 103 (0,0))):
 jz jl 37 #[jn x.cells.toArray,jG (N ⟨b,0,je⟩)] w λe w'=>e=jw (.bool (x.d==d))/\jo w w w':=by
 obtain⟨h,j,k,l,m⟩:=x;unfold ap.cells;have a:=ao w (jh #[jc jd h,jc jd j,jc jd k,jc jd l,jc jd m] 56);have o:=ai (i:=0) (av c a) I;have n:=O a;clear a c
 go_enter func37,ntmps37
 go_wp2_with fail
 go_ret;exact⟨I,n⟩
theorem OR(d:ja)(a b:T)(c e:ja)(f:a<b):fU EC 37 #[jG (N ⟨a,0,je⟩)] b (λW=>W.heap[a]?=N (jh #[jc jd d,jc jd c,jc jd e] 103 (0,0))) (λx=>x.d==d) where
 enter _ _:=I
 keep w w' hn h hB:=(hB.block a f).trans h
 call x w hn h:=OD d a c e x w h
theorem Nk(c:Cmt)(q:CQ)(b:T)(m:aL)(w:jg)(r:dV w b c q)(h:EC.At w q.vc c.chg)(s:c.chg.length<=1000000):
 jz jl 35 #[jn m.cells.toArray,jG (N ⟨b,0,je⟩)] w λe w'=>e=jw (.bool (fN c.chg m))/\jo w w w':=by
 obtain⟨md,a,d⟩:=m;unfold aL.cells;have f:=ao w (jh #[jc jd md,jc jd a,jc jd d] 103);have g:=jC w (jh #[jc jd md,jc jd a,jc jd d] 103);obtain⟨t,i⟩:=J (w.alloc (jh #[jc jd md,jc jd a,jc jd d] 103));obtain⟨y,j⟩:=J w.heap.size;rw[<-i]at f g;rw[<-j]at g;have k:=h.below f;have l:=(r.below f).at.2.2.2.1;obtain⟨p,D,u,-,-⟩:=h.form;rw[u]at l k;have o:=O (Bq (OR md y t.heap.size a d (jP.1 g).1) c.chg _ t k g (jE _) s);have v:=O f;have z:=O i;have B:=O j;have C:ji ((c.chg.any λx=>x.d==md)=fN c.chg ⟨md,a,d⟩):=O I;obtain⟨n,x⟩:=J c.chg.length;rw[<-x]at l o;clear r h s f g i j k u x
 go_enter func35,ntmps35
 go_upto_region 1 with fail
 rw[<-z,<-B]
 go_wp2_with fail
 refine(o).mono ?_;rintro e x1 ⟨rfl,f⟩;have g:=ah v f;clear f o v l
 go_wp2_with fail
 go_ret;exact⟨iu C,g⟩
theorem Qq(c:Cmt)(q:CQ)(b:T)(a:jg)(d:dV a b c q)(e:EC.At a q.vc c.chg)(f:c.chg.length<=1000000):
 fU EM 35 #[jG (N ⟨b,0,je⟩)] a.heap.size (λW=>jo a a W) (fN c.chg) where
 enter _ _:=I
 keep w w' hn h hB:=h.trans hB
 call x w hn h:=Nk c q b x w (d.below h) (e.below h) f
theorem En:∀(xs:A jb) (k i:T) (a:js jb),k+i+xs.length<=a.size->((xs.zipIdx i).foldl (λa x=>a.setIfInBounds (k+x.2) x.1) a).toList=a.toList.take (k+i)++xs++a.toList.drop (k+i+xs.length)
 |[],k,i,a,h=>by simp
 |x::xs,k,i,a,h=>by
  rw[jU]at h;have b:k+i<a.toList.length:=by rw[qb];omega
  rw[sh,List.foldl_cons,En xs k (i+1) _ (by rw[Array.size_setIfInBounds];omega),qA,<-qn,List.take_add_one,List.take_set_of_le (jE _),xk b,List.drop_set_of_lt Y,jU];simp only[Option.toList_some,qK,List.singleton_append,List.cons_append,xl];rw[show k+i+1+xs.length=k+i+(xs.length+1) by omega]
theorem vZ(X Z:js jb)(k n:T)(h:X.size=n)(d:k+n<=Z.size):qL (λa x=>a.setIfInBounds (k+x.2) x.1) Z X.zipIdx 0 n=(Z.toList.take k++X.toList++Z.toList.drop (k+n)).toArray:=by
 have b:X.zipIdx.size=n:=by simp[h]
 have c:qL (λa (x:jb×T)=>a.setIfInBounds (k+x.2) x.1) Z X.zipIdx 0 n=X.zipIdx.toList.foldl (λa x=>a.setIfInBounds (k+x.2) x.1) Z:=by
  rw[Array.foldl_toList,b]
 rw[c,Array.toList_zipIdx]
 apply qo
 rw[En _ _ _ _ (by rw[qb];omega)];simp[h]
theorem LF(f e:ja)(a:js jb)(b:a.size=32)(w:jg):
 (Instr.build 45 #[(0,jc jd f),(1,jc jd e),(2,jn a)]).run jl w=.ok (jn (#[jc jd f,jc jd e]++a++ #[jf je 0 0,jf je 0 0])) w:=by
 unfold Instr.build;go_simp;rw[vZ a _ 2 32 b ar];obtain⟨l⟩:=a;simp
theorem Qr(w:jg):(Instr.build 45 #[]).run jl w=.ok (jn (aD ⟨0,0,qs 32 0#8,[],[]⟩ (jf je 0 0) (jf je 0 0)).toArray) w:=by
 unfold Instr.build;go_simp
 rfl
theorem bJ.ints{v:jb}(h:bJ w v t)(key:∀(g o:T) (x:ja),w.cell? ⟨g,o,je⟩=N (jc jd x)->w'.cell? ⟨g,o,je⟩=N (jc jd x)):bJ w' v t:=by
 obtain⟨p,c,d,f,i,k,l⟩:=h;refine⟨p,c,d,f,i,λm=>?_,l⟩;obtain⟨g,o,e,a⟩:=k m;exact⟨g,o,e,λj b=>⟨key _ _ _ (a j b).1,key _ _ _ (a j b).2⟩⟩
theorem uN{b i:T}{X l:js jb}{t:jt}(m:w.heap[b]?=N (jh X t (0,0)))(q:w'.heap[b]?=N (jh l t (0,0)))(r:∀j,j≠i->l[j]?=X[j]?){p:jv jM}{n c:T}(j:X[i]?=N (jf p n c))
 (s:∀k,k<w.heap.size->k≠b->w'.heap[k]?=w.heap[k]?):∀(g o:T) (x:ja),w.cell? ⟨g,o,je⟩=N (jc jd x)->w'.cell? ⟨g,o,je⟩=N (jc jd x):=λg o x d=>by
 by_cases e:g=b
 ·subst e
  unfold World.cell? at d⊢;rw[m]at d;rw[q];simp only at d⊢;have f:X[o]?=N (jc jd x):=ak d;have k:o≠i:=λe=>by rw[e,j]at f;injection f with h;cases h
  have:=(r o k).trans f
  simpa using this
 rw[<-d];exact dY (a:=⟨g,o,je⟩) (s g (gg d) e)
theorem nr(g:Grp)(a b:jb)(h:g.last.length=32):(aD g a b).toArray[34]?=N a/\(aD g a b).toArray[35]?=N b/\(aD g a b).toArray.size=36:=by
 have c:=lR (vm:=a) (vt:=b) h;exact⟨by simpa using c.2.2.1,by simpa using c.2.2.2,by rw[jL,eE h]⟩
theorem Du(g:Grp)(a b x:jb)(h:g.last.length=32):(aD g a b).toArray.setIfInBounds 34 x=(aD g x b).toArray:=by
 apply qo
 rw[qA];unfold aD;have c:(g.last.map v8).length=32:=by rw[ju];exact h
 show qM (_ ::_ ::(g.last.map v8++[a,b])) 34 x=_;rw[pz,pz,qt _ _ Y,c]
 rfl
theorem C9(g:Grp)(a b x:jb)(h:g.last.length=32):(aD g a b).toArray.setIfInBounds 35 x=(aD g a x).toArray:=by
 apply qo
 rw[qA];unfold aD;have c:(g.last.map v8).length=32:=by rw[ju];exact h
 show qM (_ ::_ ::(g.last.map v8++[a,b])) 35 x=_;rw[pz,pz,qt _ _ Y,c]
 rfl
theorem Nv(g:Grp)(a c b:jb)(h:g.last.length=32)(j:T)(d:j≠34):(aD g c b).toArray[j]?=(aD g a b).toArray[j]?:=by
 rw[<-Du g a b c h,q7 (Ne.symm d)]
theorem Sz(g:Grp)(a b c:jb)(h:g.last.length=32)(j:T)(d:j≠35):(aD g a c).toArray[j]?=(aD g a b).toArray[j]?:=by
 rw[<-C9 g a b c h,q7 (Ne.symm d)]
theorem ft{b i:T}{a:js jb}{t:jt}(v:jb)(h:w.heap[b]?=N (jh a t (0,0))):(w.setCell ⟨b,i,je⟩ v).heap[b]?=N (jh (a.setIfInBounds i v) t (0,0)):=by
 show(w.heap.modify b _)[b]?=_;rw[xm];simp[h]
theorem dz{b i k:T}(v:jb)(h:k≠b):(w.setCell ⟨b,i,je⟩ v).heap[k]?=w.heap[k]?:=Below.heap_setCell _ _ _ _ h
theorem sF{b o n:T}{a:js jb}{t:jt}(h:w.heap[b]?=N (jh a t (0,0)))(c:o+n<=a.size):w.there b o n:=by
 intro j d;refine⟨?_,by simp[xn,h]⟩;rw[ai h (Array.getElem?_eq_getElem (show o+j<a.size by omega))]
 rfl
theorem gs{b o:T}{a:js jb}{t:jt}(h:w.heap[b]?=N (jh a t (0,0))):w.frozen? ⟨b,o,je⟩=jr:=by simp[xn,h]
def fZ(l:A aL)(a:A ap)(ep:ja):A aL:=(l.filter λm=> !fN a m)++(a.filter λx=> !(x.k==2)).map λx=>⟨x.d,ep,x.v⟩
theorem wn(h:dA a):(a.mem.map aL.dev).Nodup:=by
 rw[h.dev];exact(pN a.tree).imp λh=>Int.ne_of_lt h
theorem Hh{l:A aL}{c:A ap}{ep:ja}(f:(l.map aL.dev).Nodup)(g:(c.map ap.d).Nodup):((fZ l c ep).map aL.dev).Nodup:=by
 unfold fZ;rw[j5,List.nodup_append];refine⟨f.sublist (sl.map _),?_,?_⟩
 ·rw[ow]
  exact g.sublist (sl.map _)
 intro a h b i e;obtain⟨m,j,rfl⟩:=jy.1 h;obtain⟨y,k,rfl⟩:=jy.1 i;obtain⟨x,n,rfl⟩:=jy.1 k;have d:=(qg.1 j).2;have o:fN c m=jk:=by
  unfold fN;exact q8.2 ⟨x,(qg.1 n).1,by simpa using e.symm⟩
 rw[o]at d
 cases d
theorem TU(l:A aL)(a b:A ap)(x:ap)(ep:ja):(l.filter λm=> !fN a m)++((b++[x]).filter λx=> !(x.k==2)).map (λx=>(⟨x.d,ep,x.v⟩:aL))=
 ((l.filter λm=> !fN a m)++(b.filter λx=> !(x.k==2)).map (λx=>(⟨x.d,ep,x.v⟩:aL)))++(if x.k=2 then []else [⟨x.d,ep,x.v⟩]):=by
 rw[xo,j5,qK]
 congr 1
 by_cases h:x.k=2
 ·simp[h]
 simp[h]
noncomputable def l9(p r s:ja)(msg:LBy):jS:=by classical exact decide (mI p r s msg)
theorem Aw{s:ja}:l9 d S s o=jk↔mI d S s o:=by unfold l9;simp
def onB(g:Grp)(c:Cmt):jS:=(c.folder==g.folder)&&(c.epoch==g.epoch+1)&&decide (c.parent=g.last)
noncomputable def kC(g:Grp)(c:Cmt):jS:=decide (c.box.map (λb:Bx=>(b.lev,b.node))=dT g c.author c.chg)&&decide (c.wel.map Wl.dev=(dt c.author c.chg).map ap.d)
noncomputable def cA(g:Grp)(c:Cmt):ja:=
 if fH g=jr then 1 else if gV c≠0 then 220 else if onB g c=jr then 220 else if dq g c.author c.chg≠0 then dq g c.author c.chg else if kC g c=jr then 220
 else if l9 (dP g c.author c.chg) c.r c.s (dp c)=jr then 222 else fc (aX g.tree c.chg) c.author c.path
noncomputable def aC(g:Grp)(c:Cmt):Grp:=⟨g.folder,c.epoch,aG c,fL (fZ g.mem c.chg c.epoch),gq (aX g.tree c.chg) c.author c.path⟩
def kw:Grp:=⟨0,0,qs 32 0#8,[],[]⟩
structure gA(M R:T)(t e:jt)(sz:T)(X:jb->js jb)(w0 wr:jg)(n:T)(a:jb)(xs:A jb):Prop where
 box:wr.heap[R]?=N (jh (X a) t (0,0))
 own:wr.ownsRow M e sz a n xs
 but:dw R M w0 wr
 sz':M<=wr.heap.size
theorem gA.later{z:jt}{j:jb->js jb}{F:jg}(h:gA M R e z m j w W y u b)(d:R<M)(a:jo W W F):gA M R e z m j w F y u b:=
 ⟨(a.block R (jB d h.sz')).trans h.box,cK h.own a,h.but.trans (dw.of_below (a.mono h.sz')) (jE _),jH h.sz' a.size⟩
theorem nD{sz n:T}{v:jb}(h:w.ownsRow M e sz v n xs)(b:∀k,M<=k->w'.heap[k]?=w.heap[k]?):w'.ownsRow M e sz v n xs:=by
 refine⟨h.1,?_⟩
 rcases h.2 with a|⟨g,c,d,f,a,i,j⟩
 ·exact .inl a
 exact .inr ⟨g,c,d,f,a,(b g a).trans i,j⟩
theorem pI(w:jg)(a:jM)(v:jb):(w.setCell a v).heap.size=w.heap.size:=by simp[World.setCell]
theorem gA.push{i:T}{t:jt}{sz:T}{f d:jg}{n:T}{c b:jb}{ys:A jb}(h:gA M R t e sz X w0 f n c xs)(j:R<M)(a:cG M e sz f d c b m ys)(l:(X c).setIfInBounds i b=X b):
 gA M R t e sz X w0 (d.setCell ⟨R,i,je⟩ b) m b ys:=by
 have o:d.heap[R]?=N (jh (X c) t (0,0)):=lh h.box a.grown (eX h.own (.inr j));refine⟨?_,nD a.own (λk g=>dz _ Y),?_,?_⟩
 ·rw[<-l];exact ft b o
 ·refine h.but.trans ⟨a.grown.os,a.grown.tape,a.grown.output,by rw[pI];exact a.grown.size,λk g p=>(dz _ p).trans (a.grown.block k (jB g h.sz') (λe=>?_))⟩ (jE _)
  have:=(h.own.lt k e.symm).1;omega
 rw[pI];exact jH h.sz' a.grown.size
theorem gA.first{i:T}{t:jt}{sz:T}{a:jg}{n:T}{v:jb}(b:a.heap[R]?=N (jh (X u) t (0,0)))(c:a.ownsRow M e sz v n xs)(d:jo M w0 a)(f:M<=a.heap.size)(l:R<M)(g:(X u).setIfInBounds i v=X v):
 gA M R t e sz X w0 (a.setCell ⟨R,i,je⟩ v) n v xs:=by
 refine⟨?_,nD c (λk h=>dz _ Y),?_,by rw[pI];exact f⟩
 ·rw[<-g];exact ft v b
 exact(dw.of_below d).trans ⟨I,I,I,qN (pI _ _ _).symm,λk h j=>dz _ j⟩ (jE _)
theorem LQ{w:jg}{P:jN}{B:Act}{K:Act->jg->Prop}{h:Exit->Act->jg->Prop}(s x:jW)
 (d:P.op=.call {callee:=.builtin .append,args:=#[s,x],argTypes:=#[40,40]})
 (a:T) (v:jb) (n:T) (xs:A jb) (e:B.eval s=v) (f:w.ownsRow a 103 3 v n xs) (u:jb) (m:T) (ys:A jb) (g:B.eval x=u) (i:cF w u 3 m ys) (j:∀u∈ys,u.oneCell'=jk)
 (D:n+m<=4000000) (k:a<=w.heap.size) (c:∀b w',cG a 103 3 w w' v b (n+m) (xs++ys)->K (B.put P.dst b) w'):P.wp jl B w K h:=by
 obtain⟨l,p,q,r,t⟩:=oC Cu;exact m0 s x 40 d a 103 l _ 3 24 underlying40 p q r t I G v n xs e f u m ys g i j (by unfold jX;omega) Y k
  λb w' y z C=>c b w' (oB y z C)
theorem L0(l:A aL)(a:A ap)(ep:ja){x:ap}{i:T}(h:a.take (i+1)=a.take i++[x]):((l.filter λm=> !fN a m)++((a.take (i+1)).filter λx=> !(x.k==2)).map λx=>(⟨x.d,ep,x.v⟩:aL))=
 ((l.filter λm=> !fN a m)++((a.take i).filter λx=> !(x.k==2)).map λx=>(⟨x.d,ep,x.v⟩:aL))++(if x.k=2 then []else [⟨x.d,ep,x.v⟩]):=by rw[h];exact TU l a (a.take i) x ep
theorem Kn(h:cW d=0):bL d:=by
 rcases Classical.em (bL d)with a|a
 ·exact a
 rw[lf a]at h;exact jA h G
theorem Bb(z:ja×ja):∀l,z∈en z l
 |[]=>by simp[en]
 |x::r=>by
  unfold en
  split
  ·exact j0 ..
  exact j7 _ (Bb z r)
theorem vR{z e:ja×ja}:∀{l},e∈l->e∈en z l
 |[],h=>by cases h
 |x::r,h=>by
  unfold en
  split
  ·exact j7 _ h
  rcases jD.1 h with rfl|h
  ·exact j0 ..
  exact j7 _ (vR h)
theorem zr(a:0<=d)(b:d<512)(e:512<=S)(h:Und (512+d) S):S=512+d:=by
 obtain⟨k,c,rfl⟩:=J5 a b h
 rcases k with _|k
 ·simp
 have f:=(sa a b c).2 0 (Nat.succ_pos k);have g:(512+d)/2^(k+1)<=(512+d)/2:=by
  rw[Int.pow_succ,Int.mul_comm,<-Int.ediv_ediv_of_nonneg G];exact Int.ediv_le_self _ Y
 omega
theorem Oy{e:ja×ja}(he:e∈t)(a:¬Und (512+d) e.1):e∈dH t d:=by
 unfold dH;exact qg.2 ⟨he,by rw[Es a];rfl⟩
theorem Pv(c:0<=d)(g:d<512){e:ja×ja}(i:oy t e.1)(j:¬Und (512+d) e.1):oy (dH t d) e.1:=by
 obtain⟨f,k,a,b⟩:=i;refine⟨f,Oy k (λh=>j ?_),a,b⟩;rw[<-zr c g a h];exact b
theorem Az(h:fW t)(a:0<=d)(b:d<512):fW (dH t d):=by
 refine⟨sH h.1 d,λe he=>?_⟩;obtain⟨c,f⟩:=Ib he;obtain⟨g,i,j,k⟩:=h.2 e c;exact⟨g,i,j,Pv a b k f⟩
theorem Fa{s:A (ja×ja)}(h:oy t d)(b:∀e∈t,e∈s):oy s d:=by
 obtain⟨f,c,h⟩:=h;exact⟨f,b f c,h⟩
theorem NV(h:fW t)(a:0<=d)(b:d<512)(c:bL S):fW (en (512+d,S) (dH t d)):=by
 refine⟨vP (sH h.1 d) (sJ (rU Y)),λe he=>?_⟩
 rcases rc he with rfl|he
 ·refine⟨?_,?_,c,(512+d,S),Bb _ _,?_,rU ?_⟩<;>show _ <=_ <;>omega
 obtain⟨g,i,j,k⟩:=(Az h a b).2 e he;exact⟨g,i,j,Fa k (λf l=>vR l)⟩
theorem Hf{e:ja×ja}(he:e∈dH t d):∀k,e∈eL t d x k
 |0=>he
 |k+1=>vR (Hf he k)
theorem FSo{l:A ja}:∀{k},j<k->((512+d)/2^j,l.getD j 0)∈eL t d l k
 |0,h=>jA h (qO _)
 |k+1,h=>by
  unfold eL
  rcases Nat.lt_or_eq_of_le (Nat.le_of_lt_succ h)with a|rfl
  ·exact vR (FSo a)
  exact Bb _ _
theorem Jc{l:A ja}(h:fW t)(a:0<=d)(b:d<512)(q:l.length=10)(c:iq l):fW (eL t d l 10):=by
 refine⟨Bv h.1 a b (jE 10),λe he=>?_⟩;have g:(512+d,l.getD 0 0)∈eL t d l 10:=by
  have:=FSo (t:=t) (d:=d) (l:=l) (j:=0) (k:=10) G
  simpa using this
 rcases AD he with he|⟨j,r,rfl⟩
 ·obtain⟨i,m,n,o⟩:=(Az h a b).2 e he
  exact⟨i,m,n,Fa o (λf p=>Hf p 10)⟩
 have f:=ED (k:=j) a b;exact⟨(sa a b Y).1,f.2,Kn (c j Y),_,g,by show 512<=512+d;omega,A8 a b Y⟩
theorem mem_iff(t:A (ja×ja))(d:ja):d∈cr t↔0<=d/\d<512/\(bG t (512+d)).isSome=jk:=by
 rw[oI,Cb]
theorem yz{f:ja->jv ja}:∀{h n:T},d∈dh f h n->(f d).isSome=jk
 |0,n,a=>by
  unfold dh at a
  split at a
  ·rw[qh.1 a];assumption
  cases a
 |h+1,n,a=>by
  unfold dh at a
  split at a
  ·rw[qh.1 a];assumption
  rcases jQ.1 a with a|a
  ·exact yz a
  exact yz a
theorem KM(h:S∈fg t d):(bG t S).isSome=jk:=by
 unfold fg at h
 split at h
 ·exact yz h
 cases h
theorem GM(c:df t=0)(h:d∈cr t)(b:jS):dD t d b=0:=by
 obtain⟨e,f,a⟩:=(mem_iff _ _).1 h;unfold dD;rw[jp c,jq];rintro(h|h|⟨-,h⟩)
 ·omega
 ·omega
 rw[h]at a;cases a
theorem LG(g:0<=d)(h:d<512)(x:ja):x∈cr (dH t d)↔x≠d/\x∈cr t:=by
 rw[mem_iff,mem_iff,BE]
 constructor
 ·rintro⟨a,b,c⟩
  split at c
  ·cases c
  rename_i f;refine⟨λe=>f ?_,a,b,c⟩;rw[e];exact uj (rU Y)
 rintro⟨e,a,b,c⟩;refine⟨a,b,?_⟩;rw[jq]
 ·exact c
 intro f;have:=zr g h Y ((z8 _ _).1 f);omega
theorem ID(h:dA a)(d:ja):cL a.mem d=jk↔d∈cr a.tree:=by
 rw[<-h.dev];unfold cL;rw[q8]
 constructor
 ·rintro⟨m,g,e⟩
  exact jy.2 ⟨m,g,by simpa using e⟩
 intro h;obtain⟨m,g,e⟩:=jy.1 h;exact⟨m,g,by simpa using e⟩
theorem Al(h:d∈cr t):0<=d/\d<512:=by
 have:=(oI t d).1 h;exact⟨this.1,this.2.1⟩
structure Gz(t:A (ja×ja))(l:A ap):Prop where
 each:∀x∈l,oV x
 once:(l.map ap.d).Nodup
 mem:∀x∈l,(x.d∈cr t↔x.k≠1)
theorem Fe(a:0<=d)(b:d<512)(x:ja):x∈cr (dH t d)↔x≠d/\x∈cr t:=LG a b x
theorem Kk(b:0<=d)(c:d<512)(x:ja):x∈cr (en (512+d,S) (dH t d))↔x=d\/x∈cr t:=by
 rw[mem_iff];have e:=uZ (z:=(512+d,S)) (sJ (t:=t) (rU Y)) (512+x);rw[e]
 by_cases h:x=d
 ·subst h
  simp[b,c]
 rw[jq (by show ¬512+x=512+d;omega)];have f:=Fe (t:=t) b c x;rw[mem_iff]at f;rw[f]
 constructor
 ·exact λh=>.inr h.2
 rintro(a|a)
 ·exact jA a h
 exact⟨h,a⟩
theorem O2{x:ap}(h:fW t)(j:oV x)(k:x.d∈cr t↔x.k≠1):fW (ib t x)/\∀d,d∈cr (ib t x)↔(d=x.d/\x.k≠2)\/(d≠x.d/\d∈cr t):=by
 have f:=tC h;obtain⟨⟨b,c⟩,l⟩:=j
 by_cases a:x.k=2
 ·have g:x.d∈cr t:=k.2 Y
  have e:ib t x=dH t x.d:=by unfold ib kJ;rw[jp a,jp (GM f g jk)]
  rw[e];refine⟨Az h b c,λd=>?_⟩;rw[Fe b c]
  constructor
  ·exact λh=>.inr h
  rintro(⟨-,h⟩|h)
  ·exact jA a h
  exact h
 have g:bL x.p:=by
  rcases l with⟨-,h,-⟩|⟨h,-⟩|⟨-,h,-⟩
  ·exact h
  ·exact jA h a
  exact h
 have m:dD t x.d jr=0:=by
  unfold dD;rw[jp f,jq (by rintro(h|h|⟨h,-⟩);omega;omega;cases h)]
 have n:gJ t x.d x.p=0:=by unfold gJ;rw[jp m,jp (gE g)]
 have e:ib t x=en (512+x.d,x.p) (dH t x.d):=by unfold ib kU;rw[jq a,jp n]
 rw[e];refine⟨NV h b c g,λd=>?_⟩;rw[Kk b c]
 by_cases i:d=x.d
 ·simp[i,a]
 simp[i]
theorem Pz(t:A (ja×ja))(x:ap)(l:A ap):aX t (x::l)=aX (ib t x) l:=I
theorem oZ:∀(l:A ap) (t:A (ja×ja)),fW t->Gz t l->fW (aX t l)/\∀d,d∈cr (aX t l)↔(∃x∈l,x.d=d/\x.k≠2)\/((∀x∈l,x.d≠d)/\d∈cr t)
 |[],t,h,b=>⟨h,λd=>by simp[aX]⟩
 |x::l,t,h,b=>by
  obtain⟨m,g⟩:=O2 h (b.each x (j0 ..)) (b.mem x (j0 ..));have i:=sn.1 (show(x.d::l.map ap.d).Nodup from b.once);have j:∀y∈l,y.d≠x.d:=λy a e=>i.1 (by rw[<-e];exact sq a)
  obtain⟨n,o⟩:=oZ l _ m ⟨λy a=>b.each y (j7 _ a),i.2,λy a=>by
   rw[g,<-b.mem y (j7 _ a)];have:=j y a;simp[this]⟩
  refine⟨n,λd=>?_⟩;rw[Pz,o,g]
  constructor
  ·rintro(⟨y,a,e,k⟩|⟨c,⟨e,k⟩|⟨p,f⟩⟩)
   ·exact .inl ⟨y,j7 _ a,e,k⟩
   ·exact .inl ⟨x,j0 ..,e.symm,k⟩
   refine .inr ⟨λy a=>?_,f⟩
   rcases jD.1 a with rfl|a
   ·exact λe=>p e.symm
   exact c y a
  rintro(⟨y,a,e,k⟩|⟨c,f⟩)
  ·rcases jD.1 a with rfl|a
   ·refine .inr ⟨λz p=>?_,.inl ⟨e.symm,k⟩⟩
    rw[<-e];exact j z p
   exact .inl ⟨y,a,e,k⟩
  exact .inr ⟨λy a=>c y (j7 _ a),.inr ⟨λe=>c x (j0 ..) e.symm,f⟩⟩
theorem rm(c:dA a)(b:eW r)(g:gL a d r):Gz a.tree r:=by
 refine⟨b.each,b.once,λx e=>?_⟩;rw[<-ID c,(g.each x e).1];simp
theorem yK(b:dA a)(f:eW r)(c:gL a d r):d∈cr (aX a.tree r):=by
 rw[(oZ r _ (lQ b.tree) (rm b f c)).2]
 rcases Int.lt_or_le 0 a.epoch with h|h
 ·have g:cL a.mem d=jk:=by rw[c.own];simpa using h
  exact .inr ⟨λx e=>(c.each x e).2 g,(ID b d).1 g⟩
 have g:a.epoch=0:=by have:=b.ep.1;omega
 obtain⟨x,l,rfl,e⟩:=c.first g;have i:x.k=1:=by
  have:=(c.each x (j0 ..)).1;rw[(b.zero g).1]at this
  simpa [cL]using this
 exact .inl ⟨x,j0 ..,e,by omega⟩
theorem Iz{l:A ja}(a:0<=d)(b:d<512){k:T}:∀m,k<m->m<=10->bG (eL t d l m) ((512+d)/2^k)=N (l.getD k 0)
 |0,h,_=>jA h Y
 |m+1,h,c=>by
  rw[uo a b Y]
  by_cases e:k=m
  ·rw[jp (by rw[e]),e]
  rw[jq,Iz a b m Y Y];have:=(sa a b (k:=m) Y).2 k Y;omega
theorem Ha(a:0<=d)(b:d<512){y:ja}(c:¬Und (512+d) y):∀m,m<=10->bG (eL t d x m) y=bG t y
 |0,_=>by
  unfold eL;rw[BE,jq (λh=>c ((z8 _ _).1 h))]
 |m+1,f=>by
  rw[uo a b Y,jq,Ha a b c m Y];exact λe=>c (by rw[e];exact A8 a b Y)
theorem OT{l:A ja}(c:d∈cr t):cr (eL t d l 10)=cr t:=by
 obtain⟨a,b⟩:=Al c;refine AI (pN _) (pN _) (λx=>?_);rw[mem_iff,mem_iff]
 by_cases f:Und (512+d) (512+x)
 ·by_cases h:0<=x
  ·have e:512+x=512+d:=zr a b Y f
   have i:x=d:=Y;subst i;have g:=Iz (t:=t) (l:=l) a b (k:=0) 10 Y Y;simp only[Int.pow_zero,Int.ediv_one]at g;rw[g];have j:=(mem_iff t x).1 c;simp[j]
  simp[h]
 rw[Ha a b f 10 Y]
theorem Tb(h:(r.map ap.d).Nodup):((fl r).map ap.d).Pairwise (·<·):=by
 have d:(fl r).Perm r:=ms _ _;have a:(fl r).Pairwise λx y=>decide (x.d<=y.d)=jk:=xq (λa b c e f=>by simp at*;omega) (λa b=>by simp;omega) r
 have b:((fl r).map ap.d).Nodup:=(d.map _).nodup_iff.2 h;have c:((fl r).map ap.d).Pairwise (·<=·):=xr.2 (a.imp λh=>by simpa using h);exact(c.and b).imp λh=>by have:=h.1;have:=h.2;omega
theorem N0(h:(Q.map aL.dev).Nodup):((fL Q).map aL.dev).Pairwise (·<·):=by
 have d:(fL Q).Perm Q:=ms _ _;have a:(fL Q).Pairwise λx y=>decide (x.dev<=y.dev)=jk:=xq (λa b c e f=>by simp at*;omega) (λa b=>by simp;omega) Q
 have b:((fL Q).map aL.dev).Nodup:=(d.map _).nodup_iff.2 h;have c:((fL Q).map aL.dev).Pairwise (·<=·):=xr.2 (a.imp λh=>by simpa using h);exact(c.and b).imp λh=>by have:=h.1;have:=h.2;omega
theorem ts(m:aL):m∈fZ Q r d↔(m∈Q/\∀x∈r,x.d≠m.dev)\/∃x∈r,x.k≠2/\m=⟨x.d,d,x.v⟩:=by
 unfold fZ;rw[jQ,qg,jy]
 constructor
 ·rintro(⟨b,a⟩|⟨x,b,a⟩)
  ·refine .inl ⟨b,λx ep e=>?_⟩
   have:fN r m=jk:=by unfold fN;exact q8.2 ⟨x,ep,by simpa using e⟩
   rw[this]at a;cases a
  obtain⟨e,f⟩:=qg.1 b;exact .inr ⟨x,e,by simpa using f,a.symm⟩
 rintro(⟨b,a⟩|⟨x,b,a,e⟩)
 ·refine .inl ⟨b,?_⟩
  have:fN r m=jr:=by
   unfold fN;rw[List.any_eq_false];intro x ep
   simpa using a x ep
  rw[this];rfl
 exact .inr ⟨x,qg.2 ⟨b,by simpa using a⟩,e.symm⟩
structure gQ(g:Grp)(c:Cmt):Prop where
 val:dA g
 chk:mN c
 fol:c.folder=g.folder
 ep:c.epoch=g.epoch+1
 par:c.parent=g.last
 form:eW c.chg
 poss:gL g c.author c.chg
 box:c.box.map (λb:Bx=>(b.lev,b.node))=eo (aX g.tree c.chg) c.author
 wel:c.wel.map Wl.dev=(dt c.author c.chg).map ap.d
 ver:mI (dP g c.author c.chg) c.r c.s (dp c)
 ren:fc (aX g.tree c.chg) c.author c.path=0
theorem yi(h:dq a d r=0):dT a d r=eo (aX a.tree r) d:=by unfold dT;rw[jp h]
theorem Fg:fH a=jk↔dA a:=by unfold fH;simp
theorem Q0:gV p=0↔mN p:=by
 constructor
 ·intro h
  exact Classical.byContradiction λa=>by rw[fp a]at h;cases h
 exact uz
theorem iR:cA a p=0↔gQ a p:=by
 unfold cA
 constructor
 ·intro h
  by_cases i:fH a=jr
  ·rw[jp i]at h;cases h
  rw[jq i]at h
  by_cases j:gV p≠0
  ·rw[jp j]at h;cases h
  rw[jq j]at h
  by_cases b:onB a p=jr
  ·rw[jp b]at h;cases h
  rw[jq b]at h
  by_cases g:dq a p.author p.chg≠0
  ·rw[jp g]at h;exact jA h g
  rw[jq g]at h
  by_cases d:kC a p=jr
  ·rw[jp d]at h;cases h
  rw[jq d]at h
  by_cases k:l9 (dP a p.author p.chg) p.r p.s (dp p)=jr
  ·rw[jp k]at h;cases h
  rw[jq k]at h;have m:fH a=jk:=ak i;have e:onB a p=jk:=ak b;have l:dq a p.author p.chg=0:=Classical.byContradiction g;have f:kC a p=jk:=ak d;have n:l9 (dP a p.author p.chg) p.r p.s (dp p)=jk:=ak k;unfold onB at e;unfold kC at f;simp only[xt,beq_iff_eq,decide_eq_true_eq]at e f;obtain⟨-,o,c⟩:=lD.1 l;exact⟨Fg.1 m,Q0.1 (Classical.byContradiction j),e.1.1,e.1.2,e.2,o,c,by rw[<-yi l];exact f.1,f.2,Aw.1 n,h⟩
 intro h;have g:dq a p.author p.chg=0:=lD.2 ⟨h.val,h.form,h.poss⟩;have b:onB a p=jk:=by unfold onB;simp[h.fol,h.ep,h.par]
 have d:kC a p=jk:=by unfold kC;rw[yi g];simp[h.box,h.wel]
 rw[jq (by rw[Fg.2 h.val];decide),jq (by rw[uz h.chk];decide),jq (by rw[b];decide),jq (by rw[g];decide),jq (by rw[d];decide),jq (by rw[Aw.2 h.ver];decide)];exact h.ren
theorem Hu(b:dA a)(c:eW r)(g:gL a d r)(h:x.length=10)(i:∀p∈x,bL p):fc (aX a.tree r) d x=0/\iq x:=by
 have e:iq x:=λj f=>by rw[fu _ f];exact gE (i _ (q9 f))
 have k:=(oZ r _ (lQ b.tree) (rm b c g)).1;refine⟨?_,e⟩;unfold fc;rw[jp (GM (tC k) (yK b c g) jk),jp ⟨h,e⟩]
theorem iw(h:gQ a p):dA (aC a p):=by
 have o:=rm h.val h.form h.poss;obtain⟨c,q⟩:=oZ p.chg _ (lQ h.val.tree) o;have k:=yK h.val h.form h.poss;obtain⟨r,s⟩:=Al k;have t:=(Hu h.val h.form h.poss h.chk.plen h.chk.path).2;have l:(aC a p).tree=eL (aX a.tree p.chg) p.author p.path 10:=by
  show gq _ _ _ =_;unfold gq;rw[jp h.ren]
 have u:=Hh (ep:=p.epoch) (wn h.val) h.form.once;have n:(fL (fZ a.mem p.chg p.epoch)).Perm (fZ a.mem p.chg p.epoch):=ms _ _;refine⟨h.val.fol,⟨by have:=h.chk.ep;show 0<=p.epoch;omega,h.chk.ep.2⟩,?_,λe=>?_,?_,λm j=>?_⟩
 ·rw[l];exact tC (Jc c r s h.chk.plen t)
 ·have:=h.chk.ep.1
  have g:p.epoch=0:=e;omega
 ·rw[l,OT k]
  refine AI (N0 u) (pN _) (λd=>?_);show d∈rk aL.dev (fL (fZ a.mem p.chg p.epoch))↔_;rw[(n.map aL.dev).mem_iff,q]
  constructor
  ·intro g
   obtain⟨m,j,rfl⟩:=jy.1 g
   rcases(ts m).1 j with⟨f,i⟩|⟨x,f,i,rfl⟩
   ·refine .inr ⟨i,?_⟩
    rw[<-h.val.dev];exact sq f
   exact .inl ⟨x,f,I,i⟩
  rintro(⟨x,f,rfl,i⟩|⟨f,i⟩)
  ·exact jy.2 ⟨_,(ts _).2 (.inr ⟨x,f,i,I⟩),I⟩
  rw[<-h.val.dev]at i;obtain⟨m,j,rfl⟩:=jy.1 i;exact jy.2 ⟨m,(ts m).2 (.inl ⟨j,f⟩),I⟩
 show 1<=m.since/\m.since<=p.epoch/\_;have v:=h.ep;have w:=h.chk.ep.1
 rcases(ts m).1 (n.mem_iff.1 j)with⟨f,-⟩|⟨x,f,i,rfl⟩
 ·obtain⟨g,b,d⟩:=h.val.ok m f
  exact⟨g,by omega,d⟩
 refine⟨by show 1<=p.epoch;omega,by show p.epoch<=p.epoch;omega,?_⟩;obtain⟨-,g⟩:=h.form.each x f
 rcases g with⟨-,-,g,-⟩|⟨g,-⟩|⟨-,-,g,-⟩
 ·exact g
 ·exact jA g i
 exact g
theorem DZ{x:H}:∀{l:A H} {k:T},(x,M)∈l.zipIdx k->k<=M/\M<k+l.length/\x∈l
 |[],k,h=>by simp at h
 |y::l,k,h=>by
  rw[sh]at h
  rcases jD.1 h with h|h
  ·injection h with a b
   subst a b;exact⟨jE _,by simp,j0 ..⟩
  obtain⟨a,b,c⟩:=DZ h;exact⟨by omega,by rw[jU];omega,j7 _ c⟩
theorem F7(f:fW t){a:ja}(g:0<=a)(j:a<512){k n:ja}(h:(k,n)∈eo t a):(1<=k/\k<=9)/\(1<=n/\n<1024)/\(bG t n).isSome=jk/\bL ((bG t n).getD 0):=by
 unfold eo fz at h;obtain⟨⟨s,i⟩,l,o⟩:=List.mem_flatMap.1 h;obtain⟨w,p,-⟩:=DZ l;rw[AA g j]at p;obtain⟨m,q,e⟩:=jy.1 o;injection e with r u
 subst r u;have c:=KM q;obtain⟨v,d⟩:=Option.isSome_iff_exists.1 c;have b:=f.2 _ (oN d);refine⟨⟨by show(1:ja)<=(i:ja);omega,by show(i:ja)<=9;omega⟩,⟨b.1,by have:=b.2.1;show m<1024;have:m<=1023:=b.2.1;omega⟩,c,?_⟩;rw[d];exact b.2.2.1
theorem Qe(t:A (ja×ja))(x:ja):(fg t x).length<=2^hgt x.toNat:=by
 unfold fg
 split
 ·exact tg _ _ _
 simp
theorem Qs(t:A (ja×ja)):∀(l:A ja) (k:T),(fz t l k).length<=(l.map λs=>2^hgt s.toNat).sum:=by
 intro l
 induction l with
 |nil=>intro k;simp[fz]
 |cons y l a=>
  intro k;have h:=a (k+1);unfold fz at h⊢;rw[sh,qB,jJ,ju,jT,List.sum_cons];have b:(fg t (y,k).1).length<=2^hgt y.toNat:=Qe t y;omega
theorem Kr:∀n:Fin 512,((nS n.val).map λs=>2^hgt s).sum=511:=by decide+kernel
theorem CI(t:A (ja×ja)){a:ja}(b:0<=a)(c:a<512):(eo t a).length<=511:=by
 unfold eo;refine jH (Qs _ _ _) ?_;have e:((gZ a).map λs=>2^hgt s.toNat)=(nS a.toNat).map λs=>2^hgt s:=by
  unfold gZ;rw[ow]
  rfl
 rw[e];have:=Kr ⟨a.toNat,by omega⟩;exact qN this
theorem Eu(a n b P:T)(c:1%P=1)(h:a^b%P=1):a^(n%b)%P=a^n%P:=by
 have e:a^n=(a^b)^(n/b)*a^(n%b):=by rw[<-Nat.pow_mul,<-Nat.pow_add,xu]
 have d:(a^b)^(n/b)%P=1:=by rw[Nat.pow_mod,h,Nat.one_pow,c]
 rw[e,Nat.mul_mod,d,Nat.one_mul,Nat.mod_mod]
theorem P2(a k e x b P:T)(c:1%P=1)(h:a^b%P=1):a^((k+e*x%b)%b)%P=(a^k%P)*((a^x%P)^e%P)%P:=by
 rw[Eu a _ b P c h,Nat.pow_add,Nat.mul_mod,Eu a (e*x) b P c h,<-Nat.pow_mod,<-Nat.pow_mul,sv x e]
theorem Oo:1%PN=1:=by decide
theorem SY(h:d.toNat=M)(a:bL d):M^QN%PN=1:=by rw[<-h];exact a.2.2
theorem RQ(x:T)(msg:LBy):mI (aY 4 x:T) (kq x msg:T) (kG x msg:T) msg:=by
 refine⟨po (a:=4) m7 x,po (a:=4) m7 _,⟨by omega,?_⟩,?_⟩
 ·have h:kG x msg<QN:=Nat.mod_lt _ G
  have b:QN=2305843009213688669:=I;omega
 simp only[Int.toNat_natCast];unfold kG;generalize rN (kq x msg) (aY 4 x) msg=e;unfold kq;generalize iS x msg=k;unfold aY;exact P2 4 k e x QN PN Oo (SY I m7)
def gO:ByteArray:=⟨#[98,111,120]⟩
def ku:ByteArray:=⟨#[119,101,108,99,111,109,101]⟩
def kO:ByteArray:=⟨#[99,111,109,109,105,116,32,98,111,100,121]⟩
def cH:LBy:=qs 32 0#8
def dy(a:LBy):A ja:=(qc 10).map λi=>((aY 4 (aT (aw a i)):T):ja)
def tI(t:A (ja×ja))(n:ja):T:=((bG t n).getD 0).toNat
def bY(g:Grp)(a:ja)(b:A ap)(c:LBy):Cmt:=⟨g.folder,g.epoch+1,g.last,a,b,dy c,[],[],cH,0,0⟩
noncomputable def eD(g:Grp)(a:ja)(b:A ap)(c seed:LBy)(x:ja×ja):Bx:=
 ⟨x.2,x.1,(aY 4 (gj (dZ seed gO [x.1,x.2])):T),gr (tI (aX g.tree b) x.2) (dZ seed gO [x.1,x.2]) (iW (bY g a b c) gO [x.1,x.2]) (aw c x.1.toNat)⟩
def dK(g:Grp)(a init:LBy):LBy:=wZ (if g.epoch=0 then cH else init) (aw a 9)
def fD(g:Grp)(a:ja)(c:A ap)(b init seed:LBy)(y:ap):Wl:=
 ⟨y.d,(aY 4 (gj (dZ seed ku [y.d])):T),gr y.p.toNat (dZ seed ku [y.d]) (iW (bY g a c b) ku [y.d]) (dK g b init)⟩
noncomputable def mk1(g:Grp)(a:ja)(b:A ap)(c init seed:LBy):Cmt:=
 ⟨g.folder,g.epoch+1,g.last,a,b,dy c,(eo (aX g.tree b) a).map (eD g a b c seed),(dt a b).map (fD g a b c init seed),cH,0,0⟩
noncomputable def mk2(g:Grp)(a:ja)(c:A ap)(b init seed:LBy):Cmt:=
 {mk1 g a c b init seed with confirm:=iZ (dK g b init) (cZ kO ((aR (mk1 g a c b init seed)).take 8))}
noncomputable def mkC(g:Grp)(a:ja)(x:T)(b:A ap)(c init seed:LBy):Cmt:=
 {mk2 g a b c init seed with r:=(kq x (dp (mk2 g a b c init seed)):T),s:=(kG x (dp (mk2 g a b c init seed)):T)}
theorem MC(c:Cmt)(r s:ja):dp {c with r:=r,s:=s}=dp c:=by obtain⟨a,b,c,d,e,f,g,h,i,j,k⟩:=c;rfl
theorem Rb(g:Grp)(a:ja)(x:T)(b:A ap)(c init seed:LBy):dp (mkC g a x b c init seed)=dp (mk2 g a b c init seed):=by unfold mkC;exact MC _ _ _
theorem LV(c:Cmt)(k:LBy)(r s:ja)(h:k.length=32):({({c with confirm:=k}:Cmt)with r:=r,s:=s}:Cmt).confirm.length=32:=h
theorem yJ(g:Grp)(a:ja)(x:T)(b:A ap)(c init seed:LBy):(mkC g a x b c init seed).chg=b/\(mkC g a x b c init seed).parent=g.last/\(mkC g a x b c init seed).box=(eo (aX g.tree b) a).map (eD g a b c seed)/\
 (mkC g a x b c init seed).wel=(dt a b).map (fD g a b c init seed)/\(mkC g a x b c init seed).confirm.length=32/\(mkC g a x b c init seed).path=dy c:=
 ⟨rfl,rfl,rfl,rfl,by unfold mkC mk2;exact LV _ _ _ _ (sZ _ _),I⟩
theorem Dy:∀p∈dy o,bL p:=λp c=>by
 obtain⟨i,-,rfl⟩:=jy.1 c;exact po (a:=4) m7 _
theorem lO(a:LBy):(dy a).length=10:=by simp[dy]
theorem Iv{y:ap}:y∈dt d r↔y∈r/\y.k≠2/\y.d≠d:=by
 unfold dt fl;rw[(ms _ _).mem_iff,qg];simp[kZ]
theorem CH(a:ja)(l:A ap):(dt a l).length<=l.length:=by
 unfold dt fl;rw[(ms _ _).length_eq];exact qP _ _
theorem nQ(p seed hd b):(gr p seed hd b).length=b.length+16:=SK _ _ _ _
theorem lH(g leaf init):(dK g leaf init).length=32:=Cd _ _
theorem Lh(h:x.Pairwise (·<·)){i:T}(b:0<i)(a:i<x.length):x.getD (i-1) 0<x.getD i 0:=by
 rw[fu _ Y,fu _ a];exact(List.pairwise_iff_getElem.1 h) (i-1) i Y a Y
theorem si{g:Grp}{a:ja}{x:T}{c:A ap}{d init seed:LBy}(p:dq g a c=0)(B:g.epoch<1099511627776)(q:dP g a c=(aY 4 x:T))(r:d.length=32):gQ g (mkC g a x c d init seed):=by
 obtain⟨h,f,j⟩:=lD.1 p;have s:=(oZ c _ (lQ h.tree) (rm h f j)).1;have t:=yK h f j;obtain⟨l,m⟩:=Al t;have o:((dt a c).map (fD g a c d init seed)).map Wl.dev=(dt a c).map ap.d:=by rw[ow];rfl
 have u:((dt a c).map ap.d).Pairwise (·<·):=Tb (f.once.sublist (sl.map _));refine⟨h,?_,I,I,I,f,j,?_,o,?_,?_⟩
 ·refine⟨h.fol,⟨by have:=h.ep.1;show 1<=g.epoch+1;omega,by show g.epoch+1<=_;omega⟩,⟨l,m⟩,f,lO d,?_,?_,Dy,?_,?_,?_⟩
  ·show((eo (aX g.tree c) a).map _).length<=1024
   rw[ju];have:=CI (aX g.tree c) l m;omega
  ·show((dt a c).map _).length<=512
   rw[ju];have:=CH a c;have:=f.len;omega
  ·intro b e
   obtain⟨⟨k,n⟩,i,rfl⟩:=jy.1 e;obtain⟨⟨v,w⟩,⟨y,z⟩,-,-⟩:=F7 s l m i;refine⟨y,z,v,w,po (a:=4) m7 _,?_,?_⟩
   ·show 16<=(gr _ _ _ _).length
    rw[nQ];omega
   show(gr _ _ _ _).length<=65552;rw[nQ,fM d r];omega
  ·intro b e
   obtain⟨y,i,rfl⟩:=jy.1 e;have k:=(f.each y (Iv.1 i).1).1;refine⟨k,po (a:=4) m7 _,?_,?_⟩
   ·show 16<=(gr _ _ _ _).length
    rw[nQ];omega
   show(gr _ _ _ _).length<=65552;rw[nQ,lH];omega
  intro i b k;have e:(mkC g a x c d init seed).wel.map Wl.dev=(dt a c).map ap.d:=o;rw[e];refine Lh u b ?_;rw[<-e,ju];exact k
 ·show((eo (aX g.tree c) a).map (eD g a c d seed)).map _ =_
  rw[ow];exact(List.map_congr_left (λy _=>rfl)).trans (List.map_id _)
 ·show mI (dP g a c) _ _ _
  rw[q,Rb];exact RQ x _
 exact(Hu h f j (lO d) Dy).1
def IR(x:ja):Prop:=-9223372036854775808<=x/\x<9223372036854775808
theorem IR.of{x:ja}(h:aO x):IR x:=by
 have:=bounds_i64 h;unfold IR;omega
structure fK(c:Cmt):Prop where
 ints:IR c.folder/\IR c.epoch/\IR c.author/\IR c.r/\IR c.s
 plen:c.parent.length=32
 clen:c.confirm.length=32
 chg:c.chg.length<=64/\∀x∈c.chg,IR x.k/\IR x.d/\IR x.p/\IR x.v/\IR x.c
 path:c.path.length<=12/\∀x∈c.path,IR x
 box:c.box.length<=1024/\∀b∈c.box,IR b.node/\IR b.lev/\IR b.u/\b.body.length<=200
 wel:c.wel.length<=512/\∀b∈c.wel,IR b.dev/\IR b.u/\b.body.length<=200
theorem eQ(h:IR d):wfV M (vI d):=by unfold vI;cases M<;>rw[wfV]<;>exact .inl ⟨I,h.1,h.2,I,I⟩
theorem IP(b:LBy):(ofB b).size=b.length:=by rw[<-kT,yS]
theorem tk(h:o.length<=1000000):wfV M (vT o):=by unfold vT;cases M<;>rw[wfV]<;>exact .inr (.inl ⟨I,I,by rw[IP];omega,rfl⟩)
theorem lP{U:A Val}(h:∀x∈U,wfV M x)(a:U.length<=1000000):wfV (M+1) (vL U):=by unfold vL;rw[wfV];exact .inr (.inr ⟨I,I,I,by omega,h⟩)
theorem eZ(h:IR d):(enc (vI d)).length<=11:=by
 unfold vI;rw[enc,jp I,jU];have:=mq _ (zn d h.1 h.2);omega
theorem tN{b:LBy}(h:b.length<=1000000):(enc (vT b)).length<=11+b.length:=by
 unfold vT;rw[enc,jq G,jp I,jU,jJ,yS,IP];have:=mq b.length Y;omega
theorem lK{l:A Val}(h:l.length<=1000000):(enc (vL l)).length<=11+(encs l).length:=by
 rw[pK,jU,jJ];have:=mq l.length Y;omega
theorem pj:∀{l:A Val},(∀x∈l,(enc x).length<=m)->(encs l).length<=l.length*m
 |[],_=>by simp[encs]
 |x::l,h=>by
  rw[encs,jJ,jU];have b:=h x (j0 ..);have c:=pj (l:=l) λy a=>h y (j7 _ a)
  rw[Nat.succ_mul];omega
theorem pJ(x:Val)(l:A Val):encs (x::l)=enc x++encs l:=by rw[encs]
theorem LL{x:ap}(h:IR x.k/\IR x.d/\IR x.p/\IR x.v/\IR x.c)(f:T):wfV (f+1) x.val/\(enc x.val).length<=66:=by
 obtain⟨a,b,c,d,e⟩:=h;refine⟨lP (λy g=>?_) ar,?_⟩
 ·simp only[jD,qi,or_false]at g
  rcases g with rfl|rfl|rfl|rfl|rfl
  ·exact eQ a
  ·exact eQ b
  ·exact eQ c
  ·exact eQ d
  exact eQ e
 refine jH (lK ar) ?_;have:=eZ a;have:=eZ b;have:=eZ c;have:=eZ d;have:=eZ e;simp only[pJ,jJ,encs,qu];omega
theorem KH{x:Bx}(h:IR x.node/\IR x.lev/\IR x.u/\x.body.length<=200)(f:T):wfV (f+1) x.val/\(enc x.val).length<=300:=by
 obtain⟨a,b,c,d⟩:=h;refine⟨lP (λy e=>?_) ar,?_⟩
 ·simp only[jD,qi,or_false]at e
  rcases e with rfl|rfl|rfl|rfl
  ·exact eQ a
  ·exact eQ b
  ·exact eQ c
  exact tk Y
 refine jH (lK ar) ?_;have:=eZ a;have:=eZ b;have:=eZ c;have:=tN (b:=x.body) Y;simp only[pJ,jJ,encs,qu];omega
theorem QW{x:Wl}(h:IR x.dev/\IR x.u/\x.body.length<=200)(f:T):wfV (f+1) x.val/\(enc x.val).length<=300:=by
 obtain⟨a,b,d⟩:=h;refine⟨lP (λy c=>?_) ar,?_⟩
 ·simp only[jD,qi,or_false]at c
  rcases c with rfl|rfl|rfl
  ·exact eQ a
  ·exact eQ b
  exact tk Y
 refine jH (lK ar) ?_;have:=eZ a;have:=eZ b;have:=tN (b:=x.body) Y;simp only[pJ,jJ,encs,qu];omega
theorem fK.encOk(h:fK p):cY (aR p):=by
 obtain⟨e,f,g,i,j⟩:=h.ints;have k:∀x∈p.chg.map ap.val,wfV 14 x/\(enc x).length<=66:=λx a=>by
  obtain⟨y,d,rfl⟩:=jy.1 a;exact LL (h.chg.2 y d) 13
 have m:∀x∈p.path.map vI,wfV 14 x/\(enc x).length<=11:=λx a=>by
  obtain⟨y,d,rfl⟩:=jy.1 a;exact⟨eQ (h.path.2 y d),eZ (h.path.2 y d)⟩
 have n:∀x∈p.box.map Bx.val,wfV 14 x/\(enc x).length<=300:=λx a=>by
  obtain⟨y,d,rfl⟩:=jy.1 a;exact KH (h.box.2 y d) 13
 have o:∀x∈p.wel.map Wl.val,wfV 14 x/\(enc x).length<=300:=λx a=>by
  obtain⟨y,d,rfl⟩:=jy.1 a;exact QW (h.wel.2 y d) 13
 have d:(p.chg.map ap.val).length<=64:=by rw[ju];exact h.chg.1
 have c:(p.path.map vI).length<=12:=by rw[ju];exact h.path.1
 have q:(p.box.map Bx.val).length<=1024:=by rw[ju];exact h.box.1
 have r:(p.wel.map Wl.val).length<=512:=by rw[ju];exact h.wel.1
 have s:=lK (l:=p.chg.map ap.val) Y;have t:=lK (l:=p.path.map vI) Y;have u:=lK (l:=p.box.map Bx.val) Y;have v:=lK (l:=p.wel.map Wl.val) Y;have w:=jH (pj λx a=>(k x a).2) (qC 66 d);have y:=jH (pj λx a=>(m x a).2) (qC 11 c);have z:=jH (pj λx a=>(n x a).2) (qC 300 q);have B:=jH (pj λx a=>(o x a).2) (qC 300 r);have C:=tN (b:=p.parent) (by rw[h.plen];decide);have D:=tN (b:=p.confirm) (by rw[h.clen];decide);have E:=eZ e;have F:=eZ f;have H:=eZ g;have K:=eZ i;have M:=eZ j;have P:=h.plen;have Q:=h.clen;refine⟨lP (λx a=>?_) (by simp[aR]),?_⟩
 ·unfold aR at a
  simp only[jD,qi,or_false]at a
  rcases a with rfl|rfl|rfl|rfl|rfl|rfl|rfl|rfl|rfl|rfl|rfl
  ·exact eQ e
  ·exact eQ f
  ·exact tk Y
  ·exact eQ g
  ·exact lP (λx a=>(k x a).1) Y
  ·exact lP (λx a=>(m x a).1) Y
  ·exact lP (λx a=>(n x a).1) Y
  ·exact lP (λx a=>(o x a).1) Y
  ·exact tk Y
  ·exact eQ i
  exact eQ j
 refine jH (lK (by simp[aR])) ?_;unfold aR;simp only[pJ,jJ,encs,qu];omega
theorem DF{c:Cmt}{nums:A ja}(d:IR c.folder)(f:IR c.epoch)(g:IR c.author)(k:c.parent.length=32)(h:∀x∈nums,IR x)(l:nums.length<=2):cY ((aR c).take 4++nums.map vI):=by
 have e:(aR c).take 4=[vI c.folder,vI c.epoch,vT c.parent,vI c.author]:=I;have m:=tN (b:=c.parent) (by rw[k];decide);have n:=eZ d;have o:=eZ f;have p:=eZ g;have i:∀x∈nums.map vI,wfV 15 x/\(enc x).length<=11:=λx a=>by
  obtain⟨y,j,rfl⟩:=jy.1 a;exact⟨eQ (h y j),eZ (h y j)⟩
 have j:(nums.map vI).length<=2:=by rw[ju];exact l
 have q:=jH (pj λx a=>(i x a).2) (qC 11 j);rw[e];refine⟨lP (λx a=>?_) (by rw[jJ];simp only[jU,qu];omega),?_⟩
 ·rw[jQ]at a
  rcases a with a|a
  ·simp only[jD,qi,or_false]at a
   rcases a with rfl|rfl|rfl|rfl
   ·exact eQ d
   ·exact eQ f
   ·exact tk Y
   exact eQ g
  exact(i x a).1
 refine jH (lK (by rw[jJ];simp only[jU,qu];omega)) ?_;rw[zg,jJ];simp only[pJ,jJ,encs,qu];omega
theorem GH{s:ByteArray}(f:s.size<=1000)(b:∀nums∈x,IR nums)(e:x.length<=2):AU s x:=by
 have c:∀nums∈x.map vI,wfV 15 nums/\(enc nums).length<=11:=λnums a=>by
  obtain⟨y,d,rfl⟩:=jy.1 a;exact⟨eQ (b y d),eZ (b y d)⟩
 have d:(x.map vI).length<=2:=by rw[ju];exact e
 have g:=jH (pj λnums a=>(c nums a).2) (qC 11 d);have h:(enc (.mk 2 0 s [])).length<=11+s.size:=by
  rw[enc,jq G,jp I,jU,jJ,kT];have:=mq s.size Y;omega
 refine⟨lP (λnums a=>?_) (by rw[jU];omega),?_,by omega⟩
 ·rcases jD.1 a with rfl|a
  ·rw[wfV];exact .inr (.inl ⟨I,I,by omega,rfl⟩)
  exact(c nums a).1
 unfold lx;refine jH (lK (by rw[jU];omega)) ?_;rw[pJ,jJ];omega
theorem m8(h:bL d):IR d:=⟨by have:=h.1;omega,by have:=h.2.1;omega⟩
theorem RH{g:Grp}{a:ja}{x:T}{f:A ap}{i init seed:LBy}(m:dq g a f=0)(u:g.epoch<1099511627776)(k:dP g a f=(aY 4 x:T))(n:i.length=32)(v:g.last.length=32):fK (mkC g a x f i init seed):=by
 have h:=si (seed:=seed) (init:=init) m u k n;obtain⟨o,w,z,B,C,P⟩:=yJ g a x f i init seed;have j:∀b∈(mkC g a x f i init seed).box,b.body.length<=200:=λb j=>by
  rw[z]at j;obtain⟨y,-,rfl⟩:=jy.1 j;unfold eD;show(gr _ _ _ _).length<=200;rw[nQ,fM i n];omega
 have D:∀b∈(mkC g a x f i init seed).wel,b.body.length<=200:=λb j=>by
  rw[B]at j;obtain⟨y,-,rfl⟩:=jy.1 j;unfold fD;show(gr _ _ _ _).length<=200;rw[nQ,lH];omega
 generalize mkC g a x f i init seed=c at*;obtain⟨Q,q,r⟩:=lD.1 m;have E:∀x∈f,IR x.k/\IR x.d/\IR x.p/\IR x.v/\IR x.c:=λy F=>by
  obtain⟨⟨p,s⟩,k⟩:=q.each y F;have l:IR y.d:=⟨by omega,by omega⟩
  rcases k with⟨a,b,c,d⟩|⟨a,b,c,d,e⟩|⟨a,b,c,d,e⟩
  ·exact⟨by rw[a];exact⟨by omega,by omega⟩,l,m8 b,m8 c,by rw[d];exact⟨by omega,by omega⟩⟩
  ·exact⟨by rw[a];exact⟨by omega,by omega⟩,l,by rw[b];exact⟨by omega,by omega⟩,by rw[c];exact⟨by omega,by omega⟩,⟨by omega,by omega⟩⟩
  exact⟨by rw[a];exact⟨by omega,by omega⟩,l,m8 b,m8 c,⟨by omega,by omega⟩⟩
 have R:=h.chk.ep;have l:=h.chk.fol;have s:=h.chk.aut;have H:=h.ver.2.1;have t:=h.ver.2.2.1;refine⟨⟨⟨by have:=l.1;omega,by have:=l.2;omega⟩,⟨by omega,by omega⟩,⟨by have:=s.1;omega,by have:=s.2;omega⟩,m8 H,⟨by have:=t.1;omega,by have:=t.2;omega⟩⟩,by rw[w];exact v,C,⟨by rw[o];exact q.len,by rw[o];exact E⟩,⟨by have:=h.chk.plen;omega,λp r=>m8 (h.chk.path p r)⟩,⟨h.chk.blen,λb d=>?_⟩,⟨h.chk.wlen,λb d=>?_⟩⟩
 ·obtain⟨K,M,S,U,e⟩:=h.chk.box b d
  exact⟨⟨by omega,by omega⟩,⟨by omega,by omega⟩,m8 e.1,j b d⟩
 obtain⟨⟨K,M⟩,e⟩:=h.chk.wel b d;exact⟨⟨by omega,by omega⟩,m8 e.1,D b d⟩
section
open Go.RowKit Go.ChangeShapes Go.WideShapes Go.Deep
theorem SG(g o j:T):(⟨g,o,je⟩:jM).add j=⟨g,o+j,je⟩:=by unfold Addr.add;split<;>simp_all
instance:Inhabited ap:=⟨Eh⟩
instance:Inhabited aL:=⟨de⟩
instance:Inhabited Bx:=⟨⟨0,0,0,[]⟩⟩
instance:Inhabited Wl:=⟨⟨0,0,[]⟩⟩
theorem FD(h:(Lit.int .u8 d).wf=jk):jj .u8 d=v8 (rn 8 d.toNat):=by
 have a:=bounds_u8 h;show _ =jj .u8 ((rn 8 d.toNat).toNat:ja);rw[BitVec.toNat_ofNat]
 congr 1
 omega
theorem rA[Inhabited α]{enc:jt×jb->H}{W:jg}{k:T}(w:0<k){t e:jt}(S:jl.underlying t=N (.slice e))(U:jl.cellsOf e=k)(F:α->A jb)(p:∀x,(F x).length=k)(y:α->Prop)
 (he:∀(fuel:T) (a:A jb) (x:nn H×A nv),DataW.trod enc jl W 0 (λ_=>jk) jk fuel e a=N x->∃E,a=F E/\y E)
 {fuel:T} {v:jb} {x:nn H×A nv} (h:DataW.trod enc jl W 0 (λ_=>jk) jk fuel t [v]=N x):
 ∃l:A α,aH (·<W.heap.size) W v k l.length (l.flatMap F)/\(∀E∈l,y E)/\l.length<=jX:=by
 rcases open_slice S h with⟨z,-⟩|⟨a,b,B,m,n,D,P0,z,-,V,hm,X,-,C⟩
 ·obtain rfl:v=.slice je 0 0:=ak z
  exact⟨[],⟨by simp,je,0,I,jE _,λ_=>rfl,λh=>jA h ar⟩,λE h=>by simp at h,oj _⟩
 obtain rfl:v=.slice (N a) b B:=ak z;have YO:m=B:=ak X;have aa:∀i,i<b->∃E:α,(∀j,j<k->W.cell? (a.add (i*k+j))=(F E)[j]?)/\y E:=λi c=>by
  obtain⟨o,d,q⟩:=C i Y;rw[U]at d;obtain⟨E,rfl,f⟩:=he _ _ _ q;obtain⟨-,-,g⟩:=World.cells?_some d;refine⟨E,λj r=>?_,f⟩;have:=g j r
  rwa [add_add]at this
 obtain⟨E,K⟩:=choose_lt aa;have f:((qc b).map E).length=b:=by simp
 refine⟨(qc b).map E,⟨flat_length F k p _,N a,B,by rw[f],by rw[f];exact V,(λe=>by cases e),λM=>?_⟩,λx C=>?_,by rw[f];omega⟩
 ·rw[f]at M
  obtain⟨g,o,ad⟩:=a;have au:∃u,(F (E 0))[0]?=N u:=⟨_,mz (by rw[p];exact w)⟩;obtain⟨u0,ax⟩:=au;have s:=(K 0 M).1 0 w;rw[ax]at s;have ay:ad=je:=by
   simp[Addr.add]at s;exact World.cell?_spot s
  subst ay;have hg:g<W.heap.size:=gg (by simpa [Addr.add]using s);refine⟨g,o,I,hg,λj u r=>?_⟩;have P:=(jV.1 r).1;rw[flat_length F k p,f]at P;have c:j/k<b:=Nat.div_lt_of_lt_mul (by rw[sv];exact P);have Q:j%k<k:=Nat.mod_lt _ w;have d:=flat_get F k p ((qc b).map E) (j/k) (j%k) (E (j/k)) (by simp[c]) Q;have R:j/k*k+j%k=j:=by rw[sv];exact xu j k
  rw[R]at d;have q:=(K (j/k) c).1 (j%k) Q;rw[R,SG]at q;rw[q,<-d];exact r
 obtain⟨i,c,rfl⟩:=jy.1 C;exact(K i (sx.1 c)).2
theorem zD{enc:jt×jb->H}(g:jl.underlying e=N (.array 32 5))(j:jl.cellsOf e=32){fuel:T}{d:A jb}{x:nn H×A nv}(h:DataW.trod enc jl w 0 (λ_=>jk) jk fuel e d=N x):
 ∃kb:LBy,d=kb.map v8/\kb.length=32:=by
 obtain⟨xs,m,-,-,k,q,l⟩:=DataW.trod_array g h;rw[j]at k;have n:jl.cellsOf 5=1:=by kernel_rfl
 have o:∀i,i<32->∃b:BitVec 8,d[i]?=N (v8 b):=λi c=>by
  have t:=l i c;rw[n,Nat.mul_one,qv Y,mz Y]at t;simp only[xw,sy]at t;obtain⟨a,f,-,p⟩:=DataW.trod_int xg t;injection f with f _
  exact⟨rn 8 a.toNat,by rw[mz Y,f,FD p]⟩
 obtain⟨E,a⟩:=choose_lt o;refine⟨(qc 32).map E,?_,by simp⟩
 apply vi
 intro i
 by_cases c:i<32
 ·rw[a i c];simp[c]
 rw[wi Y];symm;simp;omega
theorem PF{enc:jt×jb->H}{x:nn H×A nv}(h:DataW.trod enc jl w 0 (λ_=>jk) jk M 56 b=N x):
 ∃e:ap,b=e.cells/\(IR e.k/\IR e.d/\IR e.p/\IR e.v/\IR e.c):=by
 obtain⟨xs,n,-,-,p,q,a⟩:=DataW.trod_struct underlying56 h;have r:b.length=5:=p.trans af;have s:jl.cellsOf 3=1:=by kernel_rfl
 match b,r,xs,q with
 |[v0,v1,v2,v3,v4],_,[y0,y1,y2,y3,y4],_=>
  have c:=a 0 _ I;have d:=a 1 _ I;have f:=a 2 _ I;have g:=a 3 _ I;have i:=a 4 _ I;simp only[qD,qE,qF,s]at c d f g i;obtain⟨t,j,-,w0⟩:=DataW.trod_int j3 c;obtain⟨u,k,-,v⟩:=DataW.trod_int j3 d;obtain⟨W,l,-,y⟩:=DataW.trod_int j3 f;obtain⟨z,m,-,B⟩:=DataW.trod_int j3 g;obtain⟨C,o,-,D⟩:=DataW.trod_int j3 i;simp at j k l m o;exact⟨⟨t,u,W,z,C⟩,by rw[j,k,l,m,o];rfl,IR.of w0,IR.of v,IR.of y,IR.of B,IR.of D⟩
theorem NY{enc:jt×jb->H}{x:nn H×A nv}(h:DataW.trod enc jl w 0 (λ_=>jk) jk M 27 [u]=N x):
 ∃l:A ap,aH (·<w.heap.size) w u 5 l.length (l.flatMap ap.cells)/\(∀x∈l,IR x.k/\IR x.d/\IR x.p/\IR x.v/\IR x.c)/\l.length<=jX:=
 rA G underlying27 af ap.cells (λ_=>rfl) _ (λ_ _ _ h=>PF h) h
theorem Je{enc:jt×jb->H}{fuel:T}{v:jb}{x:nn H×A nv}(h:DataW.trod enc jl W 0 (λ_=>jk) jk fuel 66 [v]=N x):
 ∃l:LBy,aH (·<W.heap.size) W v 1 l.length (l.map v8)/\l.length<=jX:=by
 obtain⟨l,c,-,d⟩:=rA (α:=BitVec 8) G underlying66 af (λb=>[v8 b]) (λ_=>rfl) (λ_=>True) (λ_ _ _ h=>by
  obtain⟨a,rfl,-,e⟩:=DataW.trod_int xg h;exact⟨rn 8 a.toNat,by rw[FD e],trivial⟩) h
 have e:∀l:LBy,(l.flatMap λb=>[v8 b])=l.map v8:=λl=>by
  induction l with
  |nil=>rfl
  |cons b l a=>rw[qB,a];rfl
 rw[e]at c;exact⟨l,c,d⟩
theorem KY{enc:jt×jb->H}{x:nn H×A nv}(h:DataW.trod enc jl w 0 (λ_=>jk) jk M 28 [u]=N x):
 ∃l:A ja,aH (·<w.heap.size) w u 1 l.length (l.map (jj .i64))/\(∀x∈l,IR x)/\l.length<=jX:=by
 obtain⟨l,c,d,f⟩:=rA (α:=ja) G xh af (λb=>[jj .i64 b]) (λ_=>rfl) (λx=>IR x) (λ_ _ _ h=>by
  obtain⟨a,rfl,-,e⟩:=DataW.trod_int j3 h;exact⟨a,I,IR.of e⟩) h
 have e:∀l:A ja,(l.flatMap λb=>[jj .i64 b])=l.map (jj .i64):=λl=>by
  induction l with
  |nil=>rfl
  |cons b l a=>rw[qB,a];rfl
 rw[e]at c;exact⟨l,c,d,f⟩
theorem I6{enc:jt×jb->H}{x:nn H×A nv}(h:DataW.trod enc jl w 0 (λ_=>jk) jk M 86 b=N x):
 ∃(n:ja) (u:jb) (l:LBy),b=[.int .i64 n,u]/\IR n/\aH (·<w.heap.size) w u 1 l.length (l.map v8):=by
 obtain⟨xs,n,-,-,f,g,a⟩:=DataW.trod_struct underlying86 h;have i:b.length=2:=f.trans af;have j:jl.cellsOf 3=1:=by kernel_rfl
 have k:jl.cellsOf 66=1:=by kernel_rfl
 match b,i,xs,g with
 |[v0,v1],_,[y0,y1],_=>
  have c:=a 0 _ I;have d:=a 1 _ I;simp only[qD,qE,qF,j,k]at c d;obtain⟨m,e,-,w0⟩:=DataW.trod_int j3 c;obtain⟨l,o,-⟩:=Je (v:=v1) (ak d);simp at e;exact⟨m,v1,l,by rw[e],IR.of w0,o⟩
theorem RR{enc:jt×jb->H}{x:nn H×A nv}(h:DataW.trod enc jl w 0 (λ_=>jk) jk M 88 b=N x):
 ∃e:Bx×jb,b=e.1.cells e.2/\(IR e.1.node/\IR e.1.lev/\IR e.1.u)/\aH (·<w.heap.size) w e.2 1 e.1.body.length (e.1.body.map v8):=by
 obtain⟨xs,n,-,-,k,m,a⟩:=DataW.trod_struct underlying88 h;have o:b.length=4:=k.trans af;have p:jl.cellsOf 3=1:=by kernel_rfl
 have q:jl.cellsOf 86=2:=by kernel_rfl
 match b,o,xs,m with
 |[v0,v1,v2,v3],_,[y0,y1,y2],_=>
  have d:=a 0 _ I;have f:=a 1 _ I;have g:=a 2 _ I;simp only[qD,qE,qF,p,q]at d f g;obtain⟨r,i,-,w0⟩:=DataW.trod_int j3 d;obtain⟨s,j,-,t⟩:=DataW.trod_int j3 f;obtain⟨v,u,l,c,W,y⟩:=I6 g;simp at i j c;exact⟨(⟨r,s,v,l⟩,u),by rw[i,j,c.1,c.2];rfl,⟨IR.of w0,IR.of t,W⟩,y⟩
theorem NJ{enc:jt×jb->H}{x:nn H×A nv}(h:DataW.trod enc jl w 0 (λ_=>jk) jk M 91 b=N x):
 ∃e:Wl×jb,b=e.1.cells e.2/\(IR e.1.dev/\IR e.1.u)/\aH (·<w.heap.size) w e.2 1 e.1.body.length (e.1.body.map v8):=by
 obtain⟨xs,n,-,-,i,j,c⟩:=DataW.trod_struct underlying91 h;have k:b.length=3:=i.trans af;have m:jl.cellsOf 3=1:=by kernel_rfl
 have o:jl.cellsOf 86=2:=by kernel_rfl
 match b,k,xs,j with
 |[v0,v2,v3],_,[y0,y2],_=>
  have d:=c 0 _ I;have f:=c 1 _ I;simp only[qD,qE,qF,m,o]at d f;obtain⟨p,g,-,w0⟩:=DataW.trod_int j3 d;obtain⟨q,u,l,a,r,s⟩:=I6 f;simp at g a;exact⟨(⟨p,q,l⟩,u),by rw[g,a.1,a.2];rfl,⟨IR.of w0,r⟩,s⟩
theorem yD(f:H->jb->A jb):∀(l:A (H×jb)),dS f (l.map (·.1)) (l.map (·.2))=l.flatMap λe=>f e.1 e.2
 |[]=>rfl
 |e::l=>by simp only[jT,dS,qB,yD f l]
theorem Bi(f:H->LBy):∀(l:A (H×jb)),(∀e∈l,aH D w e.2 1 (f e.1).length ((f e.1).map v8))->eA D w ((l.map (·.1)).map f) (l.map (·.2))
 |[],_=>rfl
 |e::l,h=>⟨e.2,l.map (·.2),rfl,h e (j0 ..),Bi f l λx a=>h x (j7 _ a)⟩
theorem k6{cl:A jb}{o n:T}(h:o+n=m):cl.drop o=(cl.drop o).take n++cl.drop m:=by
 have:=(xx n (cl.drop o)).symm
 rwa [List.drop_drop,h]at this
theorem Cr{enc:jt×jb->H}{cl:A jb}{x:nn H×A nv}(X:DataW.trod enc jl w 0 (λ_=>jk) jk M 34 cl=N x):
 ∃(c:Cmt) (q:CQ),cl=aF c q/\aS (·<w.heap.size) w c q/\(IR c.folder/\IR c.epoch/\IR c.author/\IR c.r/\IR c.s)/\(c.chg.length<=jX/\∀x∈c.chg,IR x.k/\IR x.d/\IR x.p/\IR x.v/\IR x.c)/\
  (c.path.length<=jX/\∀x∈c.path,IR x)/\(c.box.length<=jX/\∀b∈c.box,IR b.node/\IR b.lev/\IR b.u)/\(c.wel.length<=jX/\∀b∈c.wel,IR b.dev/\IR b.u):=by
 obtain⟨xs,n,-,-,hl,aa,a⟩:=DataW.trod_struct qV X;have bh:cl.length=73:=hl.trans af;have u:jl.cellsOf 3=1:=by kernel_rfl
 have g:jl.cellsOf 23=32:=by kernel_rfl
 have i3:jl.cellsOf 27=1:=by kernel_rfl
 have i4:jl.cellsOf 28=1:=by kernel_rfl
 have i5:jl.cellsOf 29=1:=by kernel_rfl
 have i6:jl.cellsOf 30=1:=by kernel_rfl
 have i7:jl.cellsOf 32=2:=by kernel_rfl
 match xs,aa with
 |[y0,y1,y2,y3,y4,y5,y6,y7,y8,y9],_=>
  have v:=a 0 _ I;have W:=a 1 _ I;have z:=a 2 _ I;have B:=a 3 _ I;have i:=a 4 _ I;have j:=a 5 _ I;have l:=a 6 _ I;have p:=a 7 _ I;have C:=a 8 _ I;have D:=a 9 _ I;simp only[qD,qE,qF,u,g,i3,i4,i5,i6,i7]at v W z B i j l p C D;obtain⟨a0,e0,-,w0⟩:=DataW.trod_int j3 v;obtain⟨a1,e1,-,w1⟩:=DataW.trod_int j3 W;obtain⟨kb,e2,ad⟩:=zD qd g z;obtain⟨a3,e3,-,w3⟩:=DataW.trod_int j3 B;have d:∀o (h:o<cl.length),(cl.drop o).take 1=[cl[o]]:=λo h=>by rw[qv h];rfl
  rw[d 35 Y]at i;rw[d 36 Y]at j;rw[d 37 Y]at l;rw[d 38 Y]at p;obtain⟨lc,Wq,au,ax⟩:=NY i;obtain⟨lp,ay,a2,a4⟩:=KY j;obtain⟨lb,a5,E,U3⟩:=rA (α:=Bx×jb) (k:=4) G underlying29 af (λe=>e.1.cells e.2) (λ_=>rfl) _ (λ_ _ _ h=>RR h) l;obtain⟨f,a6,F,ba⟩:=rA (α:=Wl×jb) (k:=3) G underlying30 af (λe=>e.1.cells e.2) (λ_=>rfl) _ (λ_ _ _ h=>NJ h) p;obtain⟨kc,e8,bb⟩:=zD qd g C;obtain⟨zs,n9,-,-,bi,bc,r⟩:=DataW.trod_struct underlying32 D;have bd:(cl.drop 71).take 2=[cl[71],cl[72]]:=by rw[qv Y,qv Y];rfl
  rw[bd]at r
  match zs,bc with
  |[z0,z1],_=>
   have K:=r 0 _ I;have s1:=r 1 _ I;simp only[qD,qE,qF,u]at K s1;obtain⟨fuel,er,-,wr⟩:=DataW.trod_int j3 K;obtain⟨r1,es,-,ws⟩:=DataW.trod_int j3 s1;have bf:cl[71]=.int .i64 fuel:=ak er;have bg:cl[72]=.int .i64 r1:=ak es;have e:cl=aF ⟨a0,a1,kb,a3,lc,lp,lb.map (·.1),f.map (·.1),kc,fuel,r1⟩ ⟨cl[35],cl[36],cl[37],cl[38]⟩:=by
    have s:=k6 (cl:=cl) (o:=0) (n:=1) (m:=1) I;have t:=k6 (cl:=cl) (o:=1) (n:=1) (m:=2) I;have y:=k6 (cl:=cl) (o:=2) (n:=32) (m:=34) I;have P:=k6 (cl:=cl) (o:=34) (n:=1) (m:=35) I;have Q:=k6 (cl:=cl) (o:=35) (n:=1) (m:=36) I;have R:=k6 (cl:=cl) (o:=36) (n:=1) (m:=37) I;have S:=k6 (cl:=cl) (o:=37) (n:=1) (m:=38) I;have U:=k6 (cl:=cl) (o:=38) (n:=1) (m:=39) I;have V:=k6 (cl:=cl) (o:=39) (n:=32) (m:=71) I;have b9:cl.drop 71=[cl[71],cl[72]]:=by
     rw[qv Y,qv Y,xy Y]
    rw[e0]at s;rw[e1]at t;rw[e2]at y;rw[e3]at P;rw[d 35 Y]at Q;rw[d 36 Y]at R;rw[d 37 Y]at S;rw[d 38 Y]at U;rw[e8,b9,bf,bg]at V;rw[List.drop_zero]at s;refine s.trans ?_;rw[t,y,P,Q,R,S,U,V]
    rfl
   refine⟨_,_,e,⟨Wq,ay,⟨lb.map (·.2),?_,?_⟩,⟨f.map (·.2),?_,?_⟩,ad,bb⟩,⟨IR.of w0,IR.of w1,IR.of w3,IR.of wr,IR.of ws⟩,⟨ax,au⟩,⟨a4,a2⟩,⟨?_,?_⟩,⟨?_,?_⟩⟩
   ·show aH _ _ _ 4 (lb.map (·.1)).length (dS Bx.cells (lb.map (·.1)) _)
    rw[yD,ju];exact a5
   ·exact Bi Bx.body lb λx s=>(E x s).2
   ·show aH _ _ _ 3 (f.map (·.1)).length (dS Wl.cells (f.map (·.1)) _)
    rw[yD,ju];exact a6
   ·exact Bi Wl.body f λx s=>(F x s).2
   ·show(lb.map (·.1)).length<=_
    rw[ju];exact U3
   ·intro b s
    obtain⟨y,t,rfl⟩:=jy.1 s;exact(E y t).1
   ·show(f.map (·.1)).length<=_
    rw[ju];exact ba
   intro b s;obtain⟨y,t,rfl⟩:=jy.1 s;exact(F y t).1
end
def nx(k:ja):A Val->jv (Val×A Val)
 |[]=>je
 |x::l=>if x.k=k then N (x,l)else je


theorem put_defers(a:Act)(d:jv Tmp)(v:jb):(Act.put a d v).defers=a.defers:=by cases d<;>rfl
structure Vld(M c:T)(wr:jg)(l:A Val)(a:jb)(b:A jb):Prop where
 box:wr.heap[c]?=N (jh #[jc jd 3,jc jd 0,.string ⟨#[]⟩,a] 165 (0,0))
 own:wr.ownsRow M 165 4 a l.length (cS l b)
 kids:aM (λg=>M<=g/\g<wr.heap.size/\a.ownBlock≠N g) wr l b
 sz:M<=wr.heap.size
theorem Vld.start{a:T}(b:w.heap[a]?=N (jh #[jc jd 3,jc jd 0,.string ⟨#[]⟩,dF] 165 (0,0)))(c:M<=w.heap.size):Vld M a w [] dF []:=
 ⟨b,by simpa [cS]using qG w M 165 4,by rw[aM],c⟩
theorem Gc(h:w.ownsRow M e R u m b)(c:∀k,M<=k->k<w.heap.size->W.heap[k]?=w.heap[k]?):W.ownsRow M e R u m b:=by
 refine⟨h.1,?_⟩
 rcases h.2 with a|⟨g,d,f,i,a,xs,j⟩
 ·exact .inl a
 exact .inr ⟨g,d,f,i,a,(c g a (jP.1 xs).1).trans xs,j⟩
theorem Vld.later{U:A Val}(h:Vld M R w U u b)(j:R<M)(i:w.heap.size<=W.heap.size)(e:∀k,R<=k->k<w.heap.size->W.heap[k]?=w.heap[k]?):Vld M R W U u b:=
 ⟨(e R (jE _) (jB j h.sz)).trans h.box,Gc h.own (λk g c=>e k Y c),aM.mono (λg c=>⟨c.1,jB c.2.1 i,c.2.2⟩) U b (aM.keep (λg c=>e g Y c.2.1) U b h.kids),jH h.sz i⟩
theorem Vld.push{d:T}{a o f:jg}{l:A Val}{i m:jb}{c:A jb}(h:Vld M d a l i c)(t:d<M){x:Val}{u:jb}
 (q:aV (λg=>M<=g/\g<a.heap.size/\i.ownBlock≠N g) a x u) (j:cG M 165 4 a o i m (l.length+1) (cS l c++gS x u))
 (r:f.heap[d]?=N (jh #[jc jd 3,jc jd 0,.string ⟨#[]⟩,m] 165 (0,0))) (n:pY d o f):Vld M d f (l++[x]) m (c++[u]):=by
 have s:=h.kids.len;have p:∀g,(M<=g/\g<a.heap.size/\i.ownBlock≠N g)->f.heap[g]?=a.heap[g]?:=λg b=>
  (n.block g Y).trans (j.grown.block g b.2.1 (λe=>b.2.2 e.symm))
 have k2:∀g,(M<=g/\g<a.heap.size/\i.ownBlock≠N g)->(M<=g/\g<f.heap.size/\m.ownBlock≠N g):=λg b=>
  ⟨b.1,by rw[n.size];exact jB b.2.1 j.grown.size,j.ne b.2.1 b.2.2⟩
 refine⟨r,?_,aM.append (aM.mono k2 _ _ (aM.keep p _ _ h.kids)) (aM.one (aV.mono k2 _ _ (aV.keep p _ _ q))),?_⟩
 ·have e:cS (l++[x]) (c++[u])=cS l c++gS x u:=by
   rw[sT l [x] c [u] s];simp[cS]
  rw[e,jJ];exact Gc j.own (λk v _=>n.block k Y)
 rw[n.size];exact jH h.sz j.grown.size
@[simp] theorem Us (n):(vI n).k=1:=I
@[simp] theorem Uu (b):(vT b).k=2:=I
@[simp] theorem Uv (l):(vL l).k=3:=I
@[simp] theorem Uw (n):(vI n).n=n:=I
@[simp] theorem Up (b):(vT b).s=ofB b:=I
@[simp] theorem Ur (l):(vL l).l=l:=I
structure rq(c:Cmt):Prop where
 box:∀b∈c.box,b.body.length<=200
 wel:∀b∈c.wel,b.body.length<=200
 nchg:c.chg.length<=10
 npath:c.path.length<=12
 nbox:c.box.length<=40
 nwel:c.wel.length<=10
structure BB(c:Cmt):Prop where
 ints:IR c.folder/\IR c.epoch/\IR c.author/\IR c.r/\IR c.s
 chg:∀x∈c.chg,IR x.k/\IR x.d/\IR x.p/\IR x.v/\IR x.c
 path:∀x∈c.path,IR x
 box:∀b∈c.box,IR b.node/\IR b.lev/\IR b.u
 wel:∀b∈c.wel,IR b.dev/\IR b.u
theorem FG(h:rq p)(a:BB p)(e:p.parent.length=32)(f:p.confirm.length=32):fK p where
 ints:=a.ints
 plen:=e
 clen:=f
 chg:=⟨by have:=h.nchg;omega,a.chg⟩
 path:=⟨h.npath,a.path⟩
 box:=⟨by have:=h.nbox;omega,λb d=>⟨(a.box b d).1,(a.box b d).2.1,(a.box b d).2.2,h.box b d⟩⟩
 wel:=⟨by have:=h.nwel;omega,λb d=>⟨(a.wel b d).1,(a.wel b d).2,h.wel b d⟩⟩
def eY(l:A aL)(d:ja):jv aL:=l.find? λm=>m.dev==d
def nh(l:A ap)(d:ja):jv ap:=l.find? λx=>x.d==d
theorem zy(f:H->ja)(d:ja):∀(l:A H),(l.map f).Nodup->∀m,(l.find? λm=>f m==d)=N m↔m∈l/\f m=d
 |[],_,m=>by simp
 |x::l,h,m=>by
  rw[jT,sn]at h;rw[List.find?_cons]
  by_cases e:f x=d
  ·simp only[e,BEq.rfl,qZ.injEq]
   constructor
   ·rintro rfl;exact⟨j0 ..,e⟩
   rintro⟨b,a⟩
   rcases jD.1 b with rfl|c
   ·rfl
   exact jA (jy.2 ⟨m,c,by rw[a,e]⟩) h.1
  rw[beq_eq_false_iff_ne.2 e,zy f d l h.2 m]
  constructor
  ·rintro⟨b,a⟩;exact⟨j7 _ b,a⟩
  rintro⟨b,a⟩
  rcases jD.1 b with rfl|c
  ·exact jA a e
  exact⟨c,a⟩
theorem sY(h:(Q.map aL.dev).Nodup)(d:ja)(m:aL):eY Q d=N m↔m∈Q/\m.dev=d:=zy aL.dev d Q h m
theorem vf(h:(r.map ap.d).Nodup)(d:ja)(x:ap):nh r d=N x↔x∈r/\x.d=d:=zy ap.d d r h x
theorem MA{a b:jv H}(h:∀x,a=N x↔b=N x):a=b:=by
 cases a with
 |none=>cases b with
  |none=>rfl
  |some y=>exact jA ((h y).2 I) ar
 |some x=>exact((h x).1 I).symm
theorem yT:(eY Q d).isSome=cL Q d:=by
 unfold eY cL;rw[xz,List.find?_isSome,q8]
theorem pL(h:gQ a p)(m:aL):m∈(aC a p).mem↔(m∈a.mem/\∀x∈p.chg,x.d≠m.dev)\/∃x∈p.chg,x.k≠2/\m=⟨x.d,p.epoch,x.v⟩:=by
 have g:(fL (fZ a.mem p.chg p.epoch)).Perm (fZ a.mem p.chg p.epoch):=ms _ _;exact g.mem_iff.trans (ts m)
theorem sg(h:gQ a p):((aC a p).mem.map aL.dev).Nodup:=wn (iw h)
theorem zO{g:Grp}{c:Cmt}(h:gQ g c){d:ja}(j:nh c.chg d=je):eY (aC g c).mem d=eY g.mem d:=by
 have i:∀x∈c.chg,x.d≠d:=λx f e=>by
  have:=(vf h.form.once d x).2 ⟨f,e⟩;rw[j]at this;cases this
 refine MA λm=>?_
 rw[sY (sg h),sY (wn h.val),pL h]
 constructor
 ·rintro⟨a|⟨x,a,-,rfl⟩,b⟩
  ·exact⟨a.1,b⟩
  exact jA b (i x a)
 rintro⟨a,b⟩;exact⟨.inl ⟨a,λx f e=>i x f (e.trans b)⟩,b⟩
theorem SD{g:Grp}{c:Cmt}(h:gQ g c){d:ja}{y:ap}(b:nh c.chg d=N y)(f:y.k=2):(eY g.mem d).isSome=jk/\eY (aC g c).mem d=je:=by
 obtain⟨i,rfl⟩:=(vf h.form.once d y).1 b;refine⟨by rw[yT,(h.poss.each y i).1,f];rfl,?_⟩
 cases e:eY (aC g c).mem y.d with
 |none=>rfl
 |some m=>
  obtain⟨k,j⟩:=(sY (sg h) _ _).1 e
  rcases(pL h m).1 k with⟨-,a⟩|⟨x,a,l,rfl⟩
  ·exact jA j.symm (a y i)
  have:=(vf h.form.once _ x).2 ⟨a,j⟩;rw[b]at this;injection this with this
  exact jA (by rw[<-this];exact f) l
theorem Fj{g:Grp}{c:Cmt}(h:gQ g c){d:ja}{y:ap}(b:nh c.chg d=N y)(f:y.k≠2):eY (aC g c).mem d=N ⟨d,c.epoch,y.v⟩/\(eY g.mem d).isSome= !(y.k==1):=by
 obtain⟨a,rfl⟩:=(vf h.form.once d y).1 b;refine⟨(sY (sg h) _ _).2 ⟨(pL h _).2 (.inr ⟨y,a,f,I⟩),I⟩,?_⟩;rw[yT,(h.poss.each y a).1]
 by_cases e:y.k=1<;>simp[e]
theorem mF{B:Act}{o:jN}{x:jW}{X:js jb}{t:jt}{d:TypeDesc}(g:jl.underlying e=N d)(i:d.isRow=jk)(j:(jl.info? e).map (·.size)=N X.size)(k:o.op=.load e x)(m:B.eval x=jG (N ⟨M,0,je⟩))(n:w.heap[M]?=N (jh X t (0,0))):
 (o1 B.eval o).run jl w=.ok (.value (jn X)) w:=by
 have h:=fk (P:=jl) o B e x k M 0 m X.toList _ (vV (t:=t) (l:=X.toList) (ak n)) g i (by rw[qb];exact j)
 simpa using h
theorem F2{P:qa}{fn:Func}{p q u:Tmp}{c f:jt}(h:fn.results= #[.cell p c,.cell q f,.tmp u])(tmps:js jb)(w:jg)(g k:T)(t t2:jt)(i j:js jb)(m n:T×T)(d l:TypeDesc)
 (o:tmps.getD p qe=jG (N ⟨g,0,je⟩)) (r:tmps.getD q qe=jG (N ⟨k,0,je⟩)) (s:w.heap[g]?=N (jh i t m)) (x:w.heap[k]?=N (jh j t2 n))
 (y:P.underlying c=N d) (z:(match d with| .struct _ | .array _ _=>jk|_=>jr)=jk) (B:(P.info? c).map (·.size)=N i.size)
 (C:P.underlying f=N l) (hd2:(match l with| .struct _ | .array _ _=>jk|_=>jr)=jk) (D:(P.info? f).map (·.size)=N j.size):
 (results fn tmps).run P w=.ok (jZ #[jn i,jn j,tmps.getD u qe]) w:=by
 have e:(results fn tmps).run P w=((asAddr (tmps.getD p qe)).run P w).andThen λa E=>((loadVar c a).run P E).andThen λv F=>((asAddr (tmps.getD q qe)).run P F).andThen λb H=>((loadVar f b).run P H).andThen λK M=>.ok (jZ #[v,K,tmps.getD u qe]) M:=by
  simp only[results,h];simp[Sem.run_bind,Result.andThen]
 rw[e,o];simp only[asAddr,Sem.run_pure,Result.andThen_ok,run_loadVar_row w g t c i m d s y z B,r,run_loadVar_row w k t2 f j n l x C hd2 D]
def mU:Cmt:=⟨0,0,cH,0,[],[],[],[],cH,0,0⟩
def nN:CQ:=⟨jf je 0 0,jf je 0 0,jf je 0 0,jf je 0 0⟩
theorem eM:cH.length=32:=by simp[cH]
theorem LU(f e a:ja)(b:js jb)(d:b.size=32)(p:jv jM)(n c:T)(w:jg):
 (Instr.build 34 #[(0,jc jd f),(1,jc jd e),(2,jn b),(3,jc jd a),(4,jf p n c)]).run jl w=.ok (jn (#[jc jd f,jc jd e]++b++ #[jc jd a,jf p n c,jf je 0 0,jf je 0 0,jf je 0 0]++(cH.map v8).toArray++ #[jc jd 0,jc jd 0])) w:=by
 unfold Instr.build;go_simp;rw[vZ b _ 2 32 d ar];obtain⟨l⟩:=b;simp[zeroCells34];have g:l.length=32:=d;rw[jq Y,jq Y,qt _ _ Y,qt _ _ Y,g]
 rfl
theorem R5(c:Cmt)(a b d e x:jb)(f:c.parent.length=32):(aF c ⟨a,b,d,e⟩).toArray.setIfInBounds 36 x=(aF c ⟨a,x,d,e⟩).toArray:=by
 apply qo
 rw[qA];unfold aF;have g:(c.parent.map v8).length=32:=by rw[ju];exact f
 show qM (_ ::_ ::(c.parent.map v8++_)) 36 x=_;rw[pz,pz,qt _ _ Y,g]
 rfl
theorem Dt(c:Cmt)(a b d e x:jb)(f:c.parent.length=32):(aF c ⟨a,b,d,e⟩).toArray.setIfInBounds 37 x=(aF c ⟨a,b,x,e⟩).toArray:=by
 apply qo
 rw[qA];unfold aF;have g:(c.parent.map v8).length=32:=by rw[ju];exact f
 show qM (_ ::_ ::(c.parent.map v8++_)) 37 x=_;rw[pz,pz,qt _ _ Y,g]
 rfl
theorem Ep(c:Cmt)(a b d e x:jb)(f:c.parent.length=32):(aF c ⟨a,b,d,e⟩).toArray.setIfInBounds 38 x=(aF c ⟨a,b,d,x⟩).toArray:=by
 apply qo
 rw[qA];unfold aF;have g:(c.parent.map v8).length=32:=by rw[ju];exact f
 show qM (_ ::_ ::(c.parent.map v8++_)) 38 x=_;rw[pz,pz,qt _ _ Y,g]
 rfl
theorem Sc:(jl.info? 3).map (λi=>(i.zero,i.size,i.bytes))=N (N (jc jd 0),1,8):=by kernel_rfl
theorem Ta:(jl.info? 91).map (λi=>(i.zero,i.size,i.bytes))=N (N (jn #[jc jd 0,jc jd 0,jf je 0 0]),3,40):=by kernel_rfl
theorem SQ{w:jg}{P:jN}{B:Act}{K:Act->jg->Prop}{h:Exit->Act->jg->Prop}(s x:jW)
 (d:P.op=.call {callee:=.builtin .append,args:=#[s,x],argTypes:=#[28,28]})
 (a:T) (v:jb) (n:T) (xs:A jb) (e:B.eval s=v) (f:w.ownsRow a 3 1 v n xs) (u:jb) (m:T) (ys:A jb) (g:B.eval x=u) (i:cF w u 1 m ys) (j:∀u∈ys,u.oneCell'=jk)
 (D:n+m<=4000000) (k:a<=w.heap.size) (c:∀b w',cG a 3 1 w w' v b (n+m) (xs++ys)->K (B.put P.dst b) w'):P.wp jl B w K h:=by
 obtain⟨l,p,q,r,t⟩:=oC Sc;exact m0 s x 28 d a 3 l _ 1 8 xh p q r t I G v n xs e f u m ys g i j (by unfold jX;omega) Y k
  λb w' y z C=>c b w' (oB y z C)
theorem MV{w:jg}{P:jN}{B:Act}{K:Act->jg->Prop}{h:Exit->Act->jg->Prop}(s x:jW)
 (d:P.op=.call {callee:=.builtin .append,args:=#[s,x],argTypes:=#[29,29]})
 (a:T) (v:jb) (n:T) (xs:A jb) (e:B.eval s=v) (f:w.ownsRow a 88 4 v n xs) (u:jb) (m:T) (ys:A jb) (g:B.eval x=u) (i:cF w u 4 m ys) (j:∀u∈ys,u.oneCell'=jk)
 (D:n+m<=2900000) (k:a<=w.heap.size) (c:∀b w',cG a 88 4 w w' v b (n+m) (xs++ys)->K (B.put P.dst b) w'):P.wp jl B w K h:=by
 obtain⟨l,p,q,r,t⟩:=oC H6;exact m0 s x 29 d a 88 l _ 4 48 underlying29 p q r t I G v n xs e f u m ys g i j (by unfold jX;omega) Y k
  λb w' y z C=>c b w' (oB y z C)
theorem Ly{w:jg}{P:jN}{B:Act}{K:Act->jg->Prop}{h:Exit->Act->jg->Prop}(s x:jW)
 (d:P.op=.call {callee:=.builtin .append,args:=#[s,x],argTypes:=#[30,30]})
 (a:T) (v:jb) (n:T) (xs:A jb) (e:B.eval s=v) (f:w.ownsRow a 91 3 v n xs) (u:jb) (m:T) (ys:A jb) (g:B.eval x=u) (i:cF w u 3 m ys) (j:∀u∈ys,u.oneCell'=jk)
 (D:n+m<=2900000) (k:a<=w.heap.size) (c:∀b w',cG a 91 3 w w' v b (n+m) (xs++ys)->K (B.put P.dst b) w'):P.wp jl B w K h:=by
 obtain⟨l,p,q,r,t⟩:=oC Ta;exact m0 s x 30 d a 91 l _ 3 40 underlying30 p q r t I G v n xs e f u m ys g i j (by unfold jX;omega) Y k
  λb w' y z C=>c b w' (oB y z C)
theorem kN(h:w.ownsRow M e R u m b)(c:∀k,M<=k->k<w.heap.size->W.heap[k]?=w.heap[k]?):W.ownsRow M e R u m b:=by
 refine⟨h.1,?_⟩
 rcases h.2 with a|⟨g,d,f,i,a,xs,j⟩
 ·exact .inl a
 exact .inr ⟨g,d,f,i,a,(c g a (jP.1 xs).1).trans xs,j⟩
theorem Te(h:w.ownsRow M e R u m b)(o:0<m):∃g c xs,u=jf (N ⟨g,0,je⟩) m c/\m<=c/\M<=g/\w.heap[g]?=N (jh xs e (0,0))/\∀(j:T) v,b[j]?=N v->xs[j]?=N v:=by
 rcases h.2 with⟨rfl,p⟩|⟨g,d,f,rfl,i,k,l,q,r,n⟩
 ·omega
 refine⟨g,d,f,I,l,i,k,λj v a=>?_⟩;rw[<-n,List.getElem?_take]at a
 split at a
 ·simpa using a
 cases a
theorem zQ(c:Cmt)(b d e f:jv jM)(g h i j k l m n:T):(aF c ⟨jf b g k,jf d h l,jf e i m,jf f j n⟩).toArray.all (·.oneCell')=jk:=by
 rw[p6];intro u a;simp only[aF,wq,jD,jQ,qi,or_false]at a
 rcases a with rfl|rfl|a|rfl|rfl|rfl|rfl|rfl|a|rfl|rfl
 ·rfl
 ·rfl
 ·exact iT _ u a
 ·rfl
 ·rfl
 ·rfl
 ·rfl
 ·rfl
 ·exact iT _ u a
 ·rfl
 rfl
theorem PX(a:LBy)(i:T)(b:i<10):(dy a).take (i+1)=(dy a).take i++[((aY 4 (aT (aw a i)):T):ja)]:=by
 rw[wt (by rw[lO];exact b)];simp[dy]
theorem OV(w:jg):(Instr.build 63 #[]).run jl w=.ok (jn (cH.map v8).toArray) w:=by
 unfold Instr.build;go_simp
 rfl
theorem ME{v:jb}{b j:T}{X d:js jb}(h:bJ w v t)(f:w.heap[b]?=N (jh X e (0,0)))(g:w'.heap[b]?=N (jh d e (0,0)))(l:∀k,k<w.heap.size->k≠b->w'.heap[k]?=w.heap[k]?)
 (k:∀i,i≠j->d[i]?=X[i]?) (a:∃p n c,X[j]?=N (jf p n c)):bJ w' v t:=by
 obtain⟨p,n,c,a⟩:=a;exact h.ints (uN f g k a l)
theorem Mn(c:Cmt)(a b d f e:jb)(g:c.parent.length=32)(j:T)(h:j≠37):(aF c ⟨a,b,f,e⟩).toArray[j]?=(aF c ⟨a,b,d,e⟩).toArray[j]?:=by
 rw[<-Dt c a b d e f g,q7 (Ne.symm h)]
theorem JS(c:Cmt)(a b d e f:jb)(g:c.parent.length=32)(j:T)(h:j≠38):(aF c ⟨a,b,d,f⟩).toArray[j]?=(aF c ⟨a,b,d,e⟩).toArray[j]?:=by
 rw[<-Ep c a b d e f g,q7 (Ne.symm h)]
theorem rY(c:Cmt)(a b d e:jb)(f:c.parent.length=32)(g:c.confirm.length=32):(aF c ⟨a,b,d,e⟩).toArray[36]?=N b/\(aF c ⟨a,b,d,e⟩).toArray[37]?=N d/\(aF c ⟨a,b,d,e⟩).toArray[38]?=N e/\(aF c ⟨a,b,d,e⟩).toArray.size=73:=by
 have h:=kB c ⟨a,b,d,e⟩ f g;exact⟨by simpa using h.2.2.2.2.1,by simpa using h.2.2.2.2.2.1,by simpa using h.2.2.2.2.2.2.1,by rw[jL,dx _ _ f g]⟩
structure eF{α:Type}(M R:T)(t e:jt)(k:T)(f:α->jb->A jb)(body:α->LBy)(X:jb->js jb)(w0 wr:jg)(n:T)(a:jb)(l:A α)(b:A jb):Prop where
 row:gA M R t e k X w0 wr n a (dS f l b)
 kids:eA (λg=>M<=g/\g<wr.heap.size/\a.ownBlock≠N g) wr (l.map body) b
theorem eF.later{z:jt}{f:H->jb->A jb}{body:H->LBy}{j:jb->js jb}{F:jg}{l:A H}(h:eF M R e z m f body j w W y u l b)(X:R<M)(i:jo W W F):eF M R e z m f body j w F y u l b:=
 ⟨h.row.later X i,(h.kids.keep (λg a=>i.block g a.2.1)).mono λg a=>⟨a.1,jB a.2.1 i.size,a.2.2⟩⟩
theorem eF.push{i:T}{t:jt}{k:T}{f:α->jb->A jb}{body:α->LBy}{b j:jg}{n m:T}{o a u:jb}{l:A α}{c:A jb}{x:α}(h:eF M R t e k f body X w0 b n o l c)(r:R<M)
 (s:aH (λg=>M<=g/\g<b.heap.size/\o.ownBlock≠N g) b u 1 (body x).length ((body x).map v8)) (p:cG M e k b j o a m (dS f l c++f x u)) (v:(X o).setIfInBounds i a=X a):
 eF M R t e k f body X w0 (j.setCell ⟨R,i,je⟩ a) m a (l++[x]) (c++[u]):=by
 have w:c.length=l.length:=by have:=h.kids.len;rwa [ju]at this
 have y:dS f (l++[x]) (c++[u])=dS f l c++f x u:=by rw[Dn f l [x] c [u] w];simp[dS]
 have z:(j.setCell ⟨R,i,je⟩ a).heap.size=j.heap.size:=pI _ _ _;have q:∀g,(M<=g/\g<b.heap.size/\o.ownBlock≠N g)->(j.setCell ⟨R,i,je⟩ a).heap[g]?=b.heap[g]?:=λg d=>
  (dz _ Y).trans (p.grown.block g d.2.1 (λe=>d.2.2 e.symm))
 have k2:∀g,(M<=g/\g<b.heap.size/\o.ownBlock≠N g)->(M<=g/\g<(j.setCell ⟨R,i,je⟩ a).heap.size/\a.ownBlock≠N g):=λg d=>
  ⟨d.1,by rw[z];exact jB d.2.1 p.grown.size,p.ne d.2.1 d.2.2⟩
 refine⟨?_,?_⟩
 ·rw[y];exact h.row.push r p v
 rw[j5];exact eA.snoc (aH.mono (aH.keep s q) k2) ((h.kids.keep q).mono k2)
theorem eF.start{t:jt}{k:T}{f:α->jb->A jb}{body:α->LBy}(a:w.heap[R]?=N (jh (X (jf je 0 0)) t (0,0)))(b:M<=w.heap.size):eF M R t e k f body X w w 0 (jf je 0 0) [] []:=
 ⟨⟨a,by simpa [dS]using qG w M e k,dw.refl _ _ _,b⟩,rfl⟩
theorem eF.slice{t:jt}{k:T}{f:α->jb->A jb}{body:α->LBy}{wr:jg}{n:T}{c:jb}{l:A α}{a:A jb}(h:eF M R t e k f body X w0 wr n c l a)(i:n=l.length){D:T->Prop}(d:∀g,M<=g->g<wr.heap.size->D g):
 ∃a,aH D wr c k l.length (dS f l a)/\eA D wr (l.map body) a:=
 ⟨a,aH.of_own (by rw[<-i];exact h.row.own) (λg b=>by have:=h.row.own.lt g b;exact d g this.1 this.2),h.kids.mono λg b=>d g b.1 b.2.1⟩
theorem EB{X:js jb}(b:w.heap[M]?=N (jh X e (0,0)))(c:∀(j:T) u,(o.map v8)[j]?=N u->X[R+j]?=N u)(d:o.length=m):bj w (jf (N ⟨M,R,je⟩) m m) o:=by
 subst d;exact aH.bytes (D:=λ_=>True) ⟨by simp,N ⟨M,R,je⟩,o.length,I,jE _,(λh=>by cases h),λ_=>⟨M,R,I,trivial,λj u t=>ai b (c j u t)⟩⟩
theorem FU{b i:T}{a:js jb}{t:jt}{x y:jb}(d:W.heap[b]?=N (jh a t (0,0))):
 (W.setCells b i [x,y]).heap[b]?=N (jh ((a.setIfInBounds i x).setIfInBounds (i+1) y) t (0,0))/\∀k,k≠b->(W.setCells b i [x,y]).heap[k]?=W.heap[k]?:=by
 have e:W.setCells b i [x,y]=(W.setCell ⟨b,i,je⟩ x).setCell ⟨b,i+1,je⟩ y:=I;rw[e];exact⟨ft y (ft x d),λk c=>(dz _ c).trans (dz _ c)⟩
noncomputable def gY(g:Grp)(a x:ja)(b:A ap):ja:=
 if 1099511627776<=g.epoch then 1 else if dq g a b≠0 then dq g a b else if x<1\/2305843009213688669<=x then 50 else if((aY 4 x.toNat:T):ja)≠dP g a b then 221 else 0
def Pu(g:Grp)(a x:ja)(d:A ap)(b init seed:LBy)(c:ja)(w:jg)(e:Ending)(w':jg):Prop:=
 (c=0->∃q,e=jw (jZ #[jn (aF (mkC g a x.toNat d b init seed) q).toArray,jn ((dK g b init).map v8).toArray,jc jd 0])/\aS (λk=>w.heap.size<=k/\k<w'.heap.size) w' (mkC g a x.toNat d b init seed) q)/\
 (c≠0->e=jw (jZ #[jn (aF mU nN).toArray,jn (cH.map v8).toArray,jc jd c]))/\jo w w w'
theorem Hd{g o:T}{a:js jb}{t:jt}(b:w.heap[g]?=N (jh a t (0,0)))(c:∀(j:T) v,xs[j]?=N v->a[o+j]?=N v):w.rangeAt g o xs:=λj v d=>ai b (c j v d)
theorem RX(k:LBy)(c:k.length=32)(n i j:T)(d:i<n)(v:jb)(h:((aw k i).map v8)[j]?=N v):(ij (gH k n))[i*32+j]?=N v:=by
 have f:j<32:=by
  have:=(jV.1 h).1;rw[ju,fM k c]at this;exact this
 unfold ij gH;rw[ow,<-xA];have m:∀x∈qc n,((λk=>rk v8 k)∘aw k) x=(aw k x).map v8:=λ_ _=>rfl
 have e:∀(l:A T) (i:T) (x:T),l[i]?=N x->((l.map ((λk=>rk v8 k)∘aw k)).flatten)[i*32+j]?=((aw k x).map v8)[j]?:=by
  intro l
  induction l with
  |nil=>intro i x a;simp at a
  |cons y l g=>
   intro i x a;rw[jT,xB];have b:(((λk=>rk v8 k)∘aw k) y).length=32:=by simp[fM k c]
   rcases i with _|i
   ·have:y=x:=ak a
    subst this;rw[Nat.zero_mul,qQ,qS (by rw[b];exact f)]
    rfl
   rw[qH (by rw[b];omega),b,show(i+1)*32+j-32=i*32+j by omega];exact g i x (ak a)
 rw[xA];exact(e (qc n) i i (by simp[d])).trans h
theorem sj(f:H->A jb)(k:T):∀(l:A H),(∀x∈l,(f x).length=k)->∀(j i:T) (x:H),l[j]?=N x->i<k->(l.flatMap f)[j*k+i]?=(f x)[i]?
 |[],_,j,i,x,h,_=>by simp at h
 |y::l,a,0,i,x,h,b=>by
  have e:y=x:=ak h;subst e;rw[qB,Nat.zero_mul,qQ,qS (by rw[a y (j0 ..)];exact b)]
 |y::l,a,j+1,i,x,h,b=>by
  have c:=a y (j0 ..);rw[qB,qH (by rw[c,Nat.add_mul];omega),c];have d:=sj f k l (λx e=>a x (j7 _ e)) j i x (ak h) b;rw[show(j+1)*k+i-k=j*k+i by rw[Nat.add_mul];omega];exact d
theorem aH.rowM{v:jb}{n k:T}{f:α->A jb}{a:A α}(h:aH D w v k n (a.flatMap f))(z:n=a.length)(d:∀x∈a,(f x).length=k){i:T}{x:α}(b:a[i]?=N x):
 ∃g o c,v=jf (N ⟨g,o,je⟩) n c/\D g/\n<=c/\i<n/\w.rangeAt g (o+i*k) (f x):=by
 obtain⟨B,p,c,q,r,C,s⟩:=h;have E:=(jV.1 b).1;obtain⟨g,o,e,t,y⟩:=s Y;subst e;refine⟨g,o,c,q,t,r,by omega,λj u l=>?_⟩;have m:=(jV.1 l).1;rw[d x (j1 b)]at m;rw[qn];exact y _ u ((sj f k a d i j x b m).trans l)
abbrev CP:=Cmt×CQ
def mB(p:CP):A jb:=aF p.1 p.2
structure cC(w:jg)(v:jb)(a:A CP):Prop where
 row:aH (·<w.heap.size) w v 73 a.length (a.flatMap mB)
 all:∀p∈a,aS (·<w.heap.size) w p.1 p.2
theorem cC.below{v:jb}{c:A CP}(h:cC w v c)(a:jo w w w'):cC w' v c:=
 ⟨(h.row.keep λg b=>a.block g b).mono λg b=>jB b a.size,λp d=>(h.all p d).below a⟩
theorem cC.form{a:A CP}(h:cC w u a):∃p c,u=jf p a.length c:=h.row.form
theorem cC.len{a:A CP}(h:cC w u a):∀p∈a,(mB p).length=73:=λp b=>dx _ _ (h.all p b).plen (h.all p b).clen
theorem cC.elem{a:A CP}(h:cC w u a){i:T}{p:CP}(b:a[i]?=N p):
 ∃g o c,u=jf (N ⟨g,o,je⟩) a.length c/\g<w.heap.size/\a.length<=c/\i<a.length/\w.rangeAt g (o+i*73) (aF p.1 p.2):=h.row.rowM I h.len b
structure CK where
 ix:T
 p:CP
 id:LBy
 since:ja
 g:Grp
 vm:jb
 vt:jb
def aK(k:CK):A jb:=jc jd k.ix::(aF k.p.1 k.p.2++(k.id.map v8++(jc jd k.since::aD k.g k.vm k.vt)))
structure KIn(w:jg)(k:CK):Prop where
 com:aS (·<w.heap.size) w k.p.1 k.p.2
 leads:bU w k.g k.vm k.vt
 idl:k.id.length=32
theorem KIn.below{k:CK}(h:KIn w k)(a:jo w w w'):KIn w' k:=⟨h.com.below a,h.leads.below a,h.idl⟩
theorem KIn.len{k:CK}(h:KIn w k):(aK k).length=143:=by
 unfold aK;rw[jU,jJ,jJ,jU,ju,dx _ _ h.com.plen h.com.clen,h.idl,eE h.leads.llen]
theorem B9{k:CK}(h:KIn w k){i:T}(a:i<73):(aK k)[1+i]?=(aF k.p.1 k.p.2)[i]?:=by
 unfold aK;rw[show 1+i=i+1 by omega,qw,qS (by rw[dx _ _ h.com.plen h.com.clen];exact a)]
theorem BI{k:CK}(h:KIn w k){i:T}(a:i<32):(aK k)[74+i]?=(k.id.map v8)[i]?:=by
 unfold aK;rw[show 74+i=73+i+1 by omega,qw,qH (by rw[dx _ _ h.com.plen h.com.clen];omega),dx _ _ h.com.plen h.com.clen,
  show 73+i-73=i by omega,qS (by rw[ju,h.idl];exact a)]
theorem nM{k:CK}(h:KIn w k)(i:T):(aK k)[106+i]?=(jj .i64 k.since::aD k.g k.vm k.vt)[i]?:=by
 unfold aK;rw[show 106+i=105+i+1 by omega,qw,qH (by rw[dx _ _ h.com.plen h.com.clen];omega),dx _ _ h.com.plen h.com.clen,
  qH (by rw[ju,h.idl];omega),ju,h.idl,show 105+i-73-32=i by omega]
theorem mR{k:CK}(h:KIn w k):(aK k)[0]?=N (jc jd k.ix)/\(aK k)[35]?=N (jc jd k.p.1.author)/\(aK k)[36]?=N k.p.2.vc/\(aK k)[106]?=N (jc jd k.since)/\(aK k)[141]?=N k.vm/\(aK k)[142]?=N k.vt:=by
 obtain⟨-,-,f,g,-⟩:=kB k.p.1 k.p.2 h.com.plen h.com.clen;obtain⟨-,-,i,j⟩:=lR (vm:=k.vm) (vt:=k.vt) h.leads.llen;have a:=B9 h (show 34<73 by decide);have b:=B9 h (show 35<73 by decide);have c:=nM h 0;have d:=nM h 35;have e:=nM h 36;exact⟨I,a.trans f,b.trans g,c,d.trans i,e.trans j⟩
structure ou(w:jg)(v:jb)(a:A CK):Prop where
 row:aH (·<w.heap.size) w v 143 a.length (a.flatMap aK)
 all:∀k∈a,KIn w k
theorem ou.below{v:jb}{c:A CK}(h:ou w v c)(a:jo w w w'):ou w' v c:=
 ⟨(h.row.keep λg b=>a.block g b).mono λg b=>jB b a.size,λk d=>(h.all k d).below a⟩
theorem ou.form{a:A CK}(h:ou w u a):∃p c,u=jf p a.length c:=h.row.form
theorem ou.elem{a:A CK}(h:ou w u a){i:T}{k:CK}(b:a[i]?=N k):
 ∃g o c,u=jf (N ⟨g,o,je⟩) a.length c/\g<w.heap.size/\a.length<=c/\i<a.length/\w.rangeAt g (o+i*143) (aK k):=h.row.rowM I (λx d=>(h.all x d).len) b
abbrev Iu:={p:CP//p.1.parent.length=32/\p.1.confirm.length=32}
instance:Inhabited Iu:=⟨⟨(mU,nN),by decide,by decide⟩⟩
structure td(c:Cmt):Prop where
 ints:BB c
 nbox:c.box.length<=jX
 nwel:c.wel.length<=jX
theorem N7{enc:jt×jb->H}{t:jt}(j:jl.underlying t=N (.slice 34)){fuel:T}{v:jb}{x:nn H×A nv}(h:DataW.trod enc jl W 0 (λ_=>jk) jk fuel t [v]=N x):
 ∃b:A CP,cC W v b/\b.length<=jX/\∀p∈b,td p.1:=by
 obtain⟨l,m,f,n⟩:=rA (α:=Iu) (k:=73) G j af (λp=>mB p.1) (λp=>dx _ _ p.2.1 p.2.2) (λp=>aS (·<W.heap.size) W p.1.1 p.1.2/\td p.1.1)
  (λfuel s x h=>by
   obtain⟨c,q,e,d,o,r,a,g,i⟩:=Cr h;exact⟨⟨(c,q),d.plen,d.clen⟩,e,d,⟨o,r.2,a.2,g.2,i.2⟩,g.1,i.1⟩) h
 refine⟨l.map (·.1),⟨?_,λp a=>?_⟩,by rw[ju];exact n,λp a=>?_⟩
 ·rw[ju,xC];exact m
 ·obtain⟨y,c,rfl⟩:=jy.1 a
  exact(f y c).1
 obtain⟨y,c,rfl⟩:=jy.1 a;exact(f y c).2
def aP(l:A Cmt)(i:T):Cmt:=l.getD i mU
def bH(l:A Cmt)(n:T):A T:=(qc n).filter λi=>decide (∀j,j<i->aG (aP l j)≠aG (aP l i))
theorem mS(l:A Cmt)(n:T):bH l (n+1)=bH l n++if∀j,j<n->aG (aP l j)≠aG (aP l n)then [n]else []:=by
 unfold bH;rw[List.range_succ,xo,List.filter_cons,List.filter_nil]
 congr 1
 by_cases h:∀j,j<n->aG (aP l j)≠aG (aP l n)
 ·rw[jp h,jp (xi h)]
 rw[jq h,jq (by rw[decide_eq_false h];decide)]
theorem lY:R∈bH i M↔R<M/\∀j,j<R->aG (aP i j)≠aG (aP i R):=by
 unfold bH;rw[qg,sx,decide_eq_true_eq]
structure aN where
 ix:T
 com:Cmt
 id:LBy
 since:ja
 leads:Grp
def eV(g:Grp)(d:ja):ja:=((eY g.mem d).map aL.since).getD 0
noncomputable def dR(g:Grp)(l:A Cmt)(i:T):jv aN:=by
 classical exact if(aP l i).parent=g.last/\cA g (aP l i)=0 then N ⟨i,aP l i,aG (aP l i),eV g (aP l i).author,aC g (aP l i)⟩else je
noncomputable def ez(g:Grp)(l:A Cmt):A aN:=(bH l l.length).filterMap (dR g l)
def dC:LBy->LBy->ja
 |[],[]=>0
 |[],_ ::_=> -1
 |_ ::_,[]=>1
 |a::l,b::m=>if a=b then dC l m else if a<b then -1 else 1
def kS(a b:aN):ja:=if cE a.since b.since≠0 then cE a.since b.since else if cE a.com.author b.com.author≠0 then cE a.com.author b.com.author else dC a.id b.id
def leC(a b:aN):jS:= !decide (kS b a<0)
noncomputable def eS(g:Grp)(l:A Cmt):A aN:=(ez g l).mergeSort leC
def pf(c:Cmt)(d:ja):jS:=c.chg.any λx=>x.k==2&&x.d==d
def nK(c:Cmt):T:=c.chg.countP λx=>x.k==2
def rT(left:A aN)(c:aN):jS:=left.any λx=>x.com.author !=c.com.author&&pf x.com c.com.author
def ww(w:jv aN)(c:aN):jS:=match w with|none=>jk|some w=>decide (nK w.com<nK c.com)
def gt(s:A aN×jv aN)(c:aN):A aN×jv aN:=
 if rT s.1 c=jk then s else(s.1++[c],if ww s.2 c=jk then N c else s.2)
noncomputable def dJ(g:Grp)(l:A Cmt):jv aN:=((eS g l).foldl gt ([],je)).2
def aJ(a:ja):Grp:=⟨a,0,qs 32 0#8,[],[]⟩
noncomputable def eI(a:ja)(b:LBy)(l:A Cmt):jv aN:=
 ((bH l l.length).find? λi=>decide (aG (aP l i)=b)).bind λi=>
  if cA (aJ a) (aP l i)=0 then N ⟨i,aP l i,b,0,aC (aJ a) (aP l i)⟩else je
noncomputable def kV(l:A Cmt):T->jv aN->A aN
 |0,_=>[]
 |_ +1,je=>[]
 |n+1,N c=>c::kV l n (dJ c.leads l)
def iD(l:A Cmt)(g:Grp):T:=l.countP λc=>decide (g.epoch<c.epoch)
noncomputable def dU(a:ja)(b:LBy)(l:A Cmt):A aN:=kV l (l.length+1) (eI a b l)
theorem ON(h:M<i.length):aP i M∈i:=by
 unfold aP;rw[List.getD_eq_getElem?_getD,mz h];exact q9 h
structure gT(g:Grp)(l:A Cmt)(c:aN):Prop where
 lt:c.ix<l.length
 com:c.com=aP l c.ix
 id:c.id=aG c.com
 next:cA g c.com=0
 leads:c.leads=aC g c.com
theorem tV{c:aN}(h:dR a i M=N c):c.ix=M/\c.com=aP i M/\c.id=aG c.com/\c.com.parent=a.last/\cA a c.com=0/\c.since=eV a c.com.author/\c.leads=aC a c.com:=by
 unfold dR at h
 split at h
 ·rename_i g
  injection h with h
  subst h;exact⟨by dsimp only,by dsimp only,by dsimp only,g.1,g.2,by dsimp only,by dsimp only⟩
 cases h
theorem oE{c:aN}(h:c∈ez a i):gT a i c/\c.com.parent=a.last/\c.since=eV a c.com.author/\∀j,j<c.ix->aG (aP i j)≠c.id:=by
 unfold ez at h;obtain⟨l,e,f⟩:=List.mem_filterMap.1 h;obtain⟨g,b,d,k,m,n,o⟩:=tV f;obtain⟨p,q⟩:=lY.1 e;refine⟨⟨by rw[g];exact p,by rw[g];exact b,d,m,o⟩,k,n,λj r=>?_⟩;rw[d,b];exact q j (by rw[<-g];exact r)
theorem sL{c:aN}:c∈eS a i↔c∈ez a i:=(ms _ _).mem_iff
theorem IG:∀(b:A aN) (s:A aN×jv aN) (w:aN),(b.foldl gt s).2=N w->w∈b\/s.2=N w
 |[],s,w,h=>.inr h
 |c::b,s,w,h=>by
  rcases IG b (gt s c) w h with a|a
  ·exact .inl (j7 _ a)
  unfold gt at a
  split at a
  ·exact .inr a
  dsimp only at a
  split at a
  ·injection a with a
   rw[<-a];exact .inl (j0 ..)
  exact .inr a
theorem rK{w:aN}(h:dJ a i=N w):w∈ez a i:=by
 rcases IG _ _ _ h with g|g
 ·exact sL.1 g
 cases g
theorem rX{c:aN}(h:gT a i c):gQ a c.com:=iR.1 h.next
theorem iB(g:Grp)(c:Cmt):(aC g c).epoch=c.epoch:=by unfold aC;dsimp only
theorem AK(g:Grp)(c:Cmt):(aC g c).last=aG c:=by unfold aC;dsimp only
theorem Hk{p q:H->jS}:∀{l:A H},(∀x,p x=jk->q x=jk)->∀x∈l,q x=jk->p x=jr->l.countP p<l.countP q
 |y::l,h,x,a,b,c=>by
  rw[xD,xD]
  rcases jD.1 a with rfl|a
  ·have:=List.countP_mono_left (l:=l) (p:=p) (q:=q) (λx _=>h x)
   rw[b,c,jp I,jq G];omega
  have d:=Hk h x a b c
  by_cases e:p y=jk
  ·rw[jp e,jp (h y e)];omega
  rw[jq e];omega
theorem sV{c:aN}(h:gT a i c):iD i c.leads<iD i a:=by
 have g:=rX h;have he:c.leads.epoch=a.epoch+1:=by rw[h.leads,iB];exact g.ep
 have b:c.com∈i:=by rw[h.com];exact ON h.lt
 unfold iD;refine Hk (λx d=>?_) c.com b ?_ ?_
 ·rw[decide_eq_true_eq]at d⊢
  omega
 ·rw[decide_eq_true_eq,g.ep];omega
 rw[decide_eq_false_iff_not,he,g.ep];omega
theorem Od(l:A Cmt)(g:Grp):iD l g<=l.length:=xE
theorem uO(l:A Cmt)(n:T):kV l n je=[]:=by cases n<;>rw[kV]
theorem zY(l:A Cmt):∀(n m:T) (c:aN),iD l c.leads<n->iD l c.leads<m->kV l n (N c)=kV l m (N c)
 |0,_,_,h,_=>jA h (qO _)
 |_,0,_,_,h=>jA h (qO _)
 |n+1,m+1,c,a,b=>by
  rw[kV,kV]
  cases hw:dJ c.leads l with
  |none=>rw[uO,uO]
  |some w=>
   have d:=sV (oE (rK hw)).1;rw[zY l n m w Y Y]
noncomputable def ff(l:A Cmt)(c:aN):A aN:=kV l (iD l c.leads+1) (N c)
theorem lX(l:A Cmt)(c:aN):ff l c=c::match dJ c.leads l with|none=>[]|some w=>ff l w:=by
 unfold ff;rw[kV]
 cases hw:dJ c.leads l with
 |none=>rw[uO]
 |some w=>
  have a:=sV (oE (rK hw)).1;dsimp only;rw[zY l (iD l c.leads) (iD l w.leads+1) w a Y]
theorem ov(a:ja)(b:LBy)(l:A Cmt):dU a b l=match eI a b l with|none=>[]|some c=>ff l c:=by
 unfold dU ff
 cases hf:eI a b l with
 |none=>rw[uO]
 |some c=>
  dsimp only;have:=Od l c.leads;exact zY l _ _ c Y Y
theorem Ao{c:aN}(h:eI d o i=N c):gT (aJ d) i c/\c.id=o/\∀j,j<c.ix->aG (aP i j)≠o:=by
 unfold eI at h
 cases hf:(bH i i.length).find? λl=>decide (aG (aP i l)=o)with
 |none=>rw[hf]at h;cases h
 |some l=>
  rw[hf,Option.bind_some]at h
  split at h
  ·rename_i e
   injection h with h
   have b:aG (aP i l)=o:=by
    have h:=List.find?_some hf
    simpa using h
   obtain⟨f,g⟩:=lY.1 (List.mem_of_find?_eq_some hf);subst h;refine⟨⟨f,by dsimp only,?_,e,by dsimp only⟩,by dsimp only,λj k=>?_⟩
   ·dsimp only;exact b.symm
   rw[<-b];exact g j k
  cases h
def mV(g:Grp):A aN->T->Grp
 |_,0=>g
 |[],_=>g
 |c::a,n+1=>mV c.leads a n
def kW(D:T->Prop)(v:jb):Prop:=∀p k c,v=jf p k c->0<k->∀a,p=N a->D a.block
theorem kW.mono{v:jb}(h:kW D v)(b:∀g,D g->E g):kW E v:=λp k c e d a f=>b _ (h p k c e d a f)
theorem cF.keepD(h:cF w u M R b)(d:kW D u)(e:∀g,D g->W.heap[g]?=w.heap[g]?):cF W u M R b:=by
 obtain⟨f,p,c,rfl,i,k,l⟩:=h;refine⟨f,p,c,I,i,k,λxs=>?_⟩;obtain⟨g,o,rfl,m⟩:=l xs;exact⟨g,o,I,λj v q=>(dY (a:=⟨g,o+j,je⟩) (e g (d _ _ _ I xs _ I))).trans (m j v q)⟩
theorem bJ.keepD(h:bJ w u t)(i:kW D u)(k:∀g,D g->W.heap[g]?=w.heap[g]?):bJ W u t:=by
 obtain⟨p,c,rfl,l,m,n,q⟩:=h;refine⟨p,c,I,l,m,λb=>?_,q⟩;obtain⟨g,o,rfl,d⟩:=n b;have e:=k g (i _ _ _ I b _ I);exact⟨g,o,I,λj f=>⟨(dY (a:=⟨g,o+j*2,je⟩) e).trans (d j f).1,(dY (a:=⟨g,o+j*2+1,je⟩) e).trans (d j f).2⟩⟩
theorem cF.lt(h:cF w u M R b)(f:0<M):kW (·<w.heap.size) u:=by
 obtain⟨i,p,c,rfl,-,-,j⟩:=h;rintro r k s e d a rfl;injection e with xs l t
 subst l;obtain⟨g,o,rfl,m⟩:=j d;injection xs with xs
 subst xs;have q:0<b.length:=by rw[i];exact Nat.mul_pos d f
 exact gg (m 0 _ (mz q))
theorem bJ.lt(h:bJ w u t):kW (·<w.heap.size) u:=by
 obtain⟨p,c,rfl,-,-,f,-⟩:=h;rintro l k m e d a rfl;injection e with b i n
 subst i;obtain⟨g,o,rfl,j⟩:=f d;injection b with b
 subst b;exact gg (j 0 d).1
structure dN(D:T->Prop)(w:jg)(g:Grp)(vm vt:jb):Prop where
 grp:bU w g vm vt
 bm:kW D vm
 bt:kW D vt
theorem dN.keep{g:Grp}(h:dN D w g vm vt)(a:∀k,D k->w'.heap[k]?=w.heap[k]?):dN D w' g vm vt:=
 ⟨⟨cF.keepD h.grp.mem h.bm a,h.grp.tree.keepD h.bt a,h.grp.llen⟩,h.bm,h.bt⟩
theorem dN.mono{g:Grp}(h:dN D w g vm vt)(a:∀k,D k->E k):dN E w g vm vt:=⟨h.grp,h.bm.mono a,h.bt.mono a⟩
theorem dN.of{n:T}{g:Grp}(h:bU w g vm vt)(f:Fr n vm)(i:Fr n vt):dN (λk=>n<=k/\k<w.heap.size) w g vm vt:=
 ⟨h,λp k c e d a b=>⟨f p k c e a b,cF.lt h.mem G p k c e d a b⟩,λp k c e d a b=>⟨i p k c e a b,h.tree.lt p k c e d a b⟩⟩
theorem dN.below{n:T}{g:Grp}(h:dN (λk=>n<=k/\k<w.heap.size) w g vm vt)(b:jo w w w'):dN (λk=>n<=k/\k<w'.heap.size) w' g vm vt:=
 (h.keep λk a=>b.block k a.2).mono λk a=>⟨a.1,jB a.2 b.size⟩
def CK.cand(k:CK):aN:=⟨k.ix,k.p.1,k.id,k.since,k.g⟩
structure KD(D:T->Prop)(a:A CP)(w:jg)(k:CK):Prop where
 at_:a[k.ix]?=N k.p
 grp:dN D w k.g k.vm k.vt
 idl:k.id.length=32
theorem KD.keep{a:A CP}{k:CK}(h:KD D a w k)(b:∀k,D k->w'.heap[k]?=w.heap[k]?):KD D a w' k:=⟨h.at_,h.grp.keep b,h.idl⟩
theorem KD.mono{a:A CP}{k:CK}(h:KD D a w k)(b:∀k,D k->E k):KD E a w k:=⟨h.at_,h.grp.mono b,h.idl⟩
theorem KD.below{n:T}{a:A CP}{k:CK}(h:KD (λk=>n<=k/\k<w.heap.size) a w k)(b:jo w w w'):KD (λk=>n<=k/\k<w'.heap.size) a w' k:=⟨h.at_,h.grp.below b,h.idl⟩
theorem KD.kin{a:A CP}{k:CK}(h:KD D a w k)(b:cC w u a):KIn w k:=⟨b.all _ (j1 h.at_),h.grp.grp,h.idl⟩
theorem KD.len{a:A CP}{k:CK}(h:KD D a w k)(c:cC W u a):(aK k).length=143:=by
 have b:=c.all _ (j1 h.at_);unfold aK;rw[jU,jJ,jJ,jU,ju,dx _ _ b.plen b.clen,h.idl,eE h.grp.grp.llen]
section
variable{b f:T}{e:jt}
section
variable {P:qa} {ops:js jN} {Q:Exit->Act->jg->Prop}
theorem M7(t e:jt)(k:T)(x z:jb)(c:P.underlying t=N (.slice e))(d:∀w,(sizeOf e).run P w=.ok k w)(f:∀w,(zeroValue e).run P w=.ok z w)(j:z.cells.size=k)(b:x.cells.size=k)(l:0<k)(m:k<=1000)(w:jg):
 (Instr.buildSlice t 1 #[(0,x)]).run P w=.ok (jf (N ⟨w,0,je⟩) 1 1) (w.alloc (jh x.cells e)):=by
 have g:qL (λa y=>a.setIfInBounds (0+y.2) y.1) ((Array.range k).map (z.cells[·%z.cells.size]!)) x.cells.zipIdx 0 k=x.cells:=by
  rw[vZ x.cells _ 0 k b ar,sy,xl,xy ar,qx,xG]
 unfold Instr.buildSlice;simp[qI c,d,f,Result.andThen,show ¬(2^24<k) by omega,show k≠0 by omega,Instr.fill,b];have i:qL (fun(a:js jb) (x:jb×T)=>a.setIfInBounds x.snd x.fst) ((Array.range k).map (z.cells[·%z.cells.size]!)) x.cells.zipIdx 0 k=x.cells:=by
  have h:=g;simp only[qQ]at h;exact h
 have a:(newRow e x.cells).run P w=.ok ⟨w,0,je⟩ (w.alloc (jh x.cells e)):=by simp[newRow,go_sem]
 rw[i,a]
theorem eH{S:jg->Prop}{a:Act}{w:jg}(h:Q .normal a w):cV P ops (NoPanic Q) S f .done a w:=qj h
structure dQ(P:qa) where
 t:jt
 e:jt
 k:T
 b:T
 i:TypeInfo
 z:jb
 ht:P.underlying t=N (.slice e)
 hi:P.info? e=N i
 hz:i.zero=N z
 hs:i.size=k
 hb:i.bytes=b
 hzs:z.cells.size=k
 h0:0<k
 hk:k<=1000
 hbb:b<=8000
theorem rG{z:jb}(h:(P.info? e).map (λi=>(i.zero,i.size,i.bytes))=N (N z,f,b)):(P.info? e).isSome=jk:=by
 cases hq:P.info? e with
 |none=>rw[hq]at h;cases h
 |some i=>rfl
theorem Bl{z:jb}(h:(P.info? e).map (λi=>(i.zero,i.size,i.bytes))=N (N z,f,b)):((P.info? e).get (rG h)).zero=N z/\((P.info? e).get (rG h)).size=f/\((P.info? e).get (rG h)).bytes=b:=by
 have a:P.info? e=N ((P.info? e).get (rG h)):=(xH _).symm;generalize(P.info? e).get (rG h)=i at a⊢;rw[a]at h
 simpa using h
def dQ.of(t e:jt)(k b:T)(z:jb)(a:P.underlying t=N (.slice e))(h:(P.info? e).map (λi=>(i.zero,i.size,i.bytes))=N (N z,k,b))(c:z.cells.size=k)(d:0<k)(f:k<=1000)(g:b<=8000):dQ P:=
 ⟨t,e,k,b,(P.info? e).get (rG h),z,a,(xH _).symm,(Bl h).1,(Bl h).2.1,(Bl h).2.2,c,d,f,g⟩
theorem dQ.size(R:dQ P)(w:jg):(sizeOf R.e).run P w=.ok R.k w:=by simp[sizeOf,typeInfo,R.hi,R.hs]
theorem dQ.zero(R:dQ P)(w:jg):(zeroValue R.e).run P w=.ok R.z w:=by simp[zeroValue,typeInfo,R.hi,R.hz]
theorem dQ.wp_build(R:dQ P){o:jN}{a:Act}{w:jg}{K:Act->jg->Prop}(x:jW)(b:o.op=.buildSlice R.t 1 #[(0,x)])(v:jb)(c:a.eval x=v)(d:v.cells.size=R.k)
 (h:K (a.put o.dst (jf (N ⟨w,0,je⟩) 1 1)) (w.alloc (jh v.cells R.e))):o.wp P a w K Q:=by
 refine Bz (v:=jf (N ⟨w,0,je⟩) 1 1) (w':=w.alloc (jh v.cells R.e)) ?_ h;unfold o1;simp only[b,xI,jT,ql,c,Sem.run_bind,M7 R.t R.e R.k v R.z R.ht R.size R.zero R.hzs d R.h0 R.hk w,Result.andThen_ok,Sem.run_pure]
theorem MQ{w:jg}{a:js jb}(h:w.heap[f]?=N (jh a e (0,0)))(k:a.size=b):cF w (jf (N ⟨f,0,je⟩) 1 1) b 1 a.toList:=by
 refine⟨by rw[qb,k,Nat.one_mul],_,1,I,jE _,(λe=>by cases e),λ_=>⟨f,0,I,λj u c=>?_⟩⟩;rw[qQ];exact ai h (ak c)
theorem dQ.wp_append(R:dQ P){o:jN}{a:Act}{w:jg}{K:Act->jg->Prop}(s x:jW)(d:o.op=.call {callee:=.builtin .append,args:=#[s,x],argTypes:=#[R.t,R.t]})
 (base:T) (v:jb) (n:T) (xs:A jb) (e:a.eval s=v) (f:w.ownsRow base R.e R.k v n xs) (g:T) (b:js jb) (i:a.eval x=jf (N ⟨g,0,je⟩) 1 1) (j:w.heap[g]?=N (jh b R.e (0,0))) (k:b.size=R.k) (l:∀u∈b.toList,u.oneCell'=jk)
 (p:n<=1000000) (m:base<=w.heap.size)
 (h:∀c w',w'.ownsRow base R.e R.k c (n+1) (xs++b.toList)->w.grownBy w' v.ownBlock->(c.ownBlock=v.ownBlock\/c.ownBlock=N w.heap.size)->K (a.put o.dst c) w'):o.wp P a w K Q:=
 m0 s x R.t d base R.e R.i R.z R.k R.b R.ht R.hi R.hz R.hs R.hb R.hzs R.h0 v n xs e f _ 1 b.toList i (MQ j k) l (by unfold jX;omega) (by
  have:=R.hbb;have c:(n+1)*R.b<=1000001*8000:=Nat.mul_le_mul Y this
  omega) m h
structure zU(c d:dQ P)(base:T)(w w':jg)(u1 u2 a b:jb)(e f:T)(g h:A jb):Prop where
 own1:w'.ownsRow base c.e c.k a e g
 own2:w'.ownsRow base d.e d.k b f h
 sep:∀k,a.ownBlock=N k->b.ownBlock≠N k
 lie1:a.ownBlock=u1.ownBlock\/∀k,a.ownBlock=N k->w.heap.size<=k
 lie2:b.ownBlock=u2.ownBlock\/∀k,b.ownBlock=N k->w.heap.size<=k
 heap:∀k,k<w.heap.size->u1.ownBlock≠N k->u2.ownBlock≠N k->w'.heap[k]?=w.heap[k]?
 bel:jo 0 w w'
theorem iz{w w':jg}{n:T}{z:jb}{xs:A jb}(h:w.ownsRow f e b z n xs)(c:∀g,z.ownBlock=N g->w'.heap[g]?=w.heap[g]?):w'.ownsRow f e b z n xs:=by
 refine⟨h.1,?_⟩
 rcases h.2 with a|⟨g,d,B,sz,a,i,j⟩
 ·exact .inl a
 exact .inr ⟨g,d,B,sz,a,(c g (by rw[sz];rfl)).trans i,j⟩
theorem GR{w w':jg}(h:jo f w w'):jo 0 w w':=h.mono (oj _)
theorem GZ{w w':jg}{a:jv T}(h:w.grownBy w' a):jo 0 w w':=⟨h.os,h.tape,h.output,h.size,λk b=>jA b (qO k)⟩
theorem G9{S:jg->Prop}{f i k2:T}{o:jN}{Tf:bE->bE}{E:Act->Act}{r:bE}{a:Act}{w:jg}(p:ops[b]?=N o)(q:Region.noSelect ops=jk)(s:∀c a e w,Q (.panic c) a w->Q (.panic c) e w)
 (F:mj ops b i=jk) (H:mj ops b k2=jk) (c:T->Act->jg->jv jb->Prop) (t:c 0 a w je) (l:∀j a w d,c j a w d->S w)
 (u:∀a w d,c 0 a w d->wpOp P ops Q i (λe w'=>c 1 e w' d) a w) (x:∀a w d,c 1 a w d->wpOp P ops Q k2 (λe w'=>c 2 e w' d) a w)
 (K:∀j a w,c j a w je->wpOp P ops Q b (λe w'=>∃v,e=a.put o.dst v/\c j a w' (N v)) a w)
 (m:∀a w d,c 2 a w d->c 3 (E a) w d/\(∀R,cV P ops Q S f R (E a) w->cV P ops Q S f (Tf R) a w)/\∀v R,cV P ops Q S f R ((E a).put o.dst v) w->cV P ops Q S f (Tf R) (a.put o.dst v) w)
 (y:∀a w v,c 3 a w (N v)->cV P ops Q S f r (a.put o.dst v) w):
 cV P ops Q S f (.w i b (.w k2 b (Tf (.o b r)) (.o k2 (Tf r))) (.o i (.o k2 (Tf r)))) a w:=by
 obtain⟨M,z,U⟩:=Af p F;obtain⟨V,B,W⟩:=Af p H;have C:∀a w v,c 1 a w (N v)->cV P ops Q S f (.o k2 (Tf r)) (a.put o.dst v) w:=λa w v h=>by
  refine qW (λD w' g=>?_) (zB (v:=v) B W (λk b=>Region.noSelect_spec q k2 V k b B) s (x a w (N v) h));obtain⟨e,rfl,d⟩:=g;exact .inr ⟨l _ _ _ _ d,λ_=>(m e w' _ d).2.2 v r (y _ _ _ (m e w' _ d).1)⟩
 have X:∀a w v,c 0 a w (N v)->cV P ops Q S f (.o i (.o k2 (Tf r))) (a.put o.dst v) w:=λa w v h=>by
  refine qW (λD w' g=>?_) (zB (v:=v) z U (λk b=>Region.noSelect_spec q i M k b z) s (u a w (N v) h));obtain⟨e,rfl,d⟩:=g;exact .inr ⟨l _ _ _ _ d,λ_=>C _ _ _ d⟩
 have n:∀(j:T) (R:bE) a w,c j a w je->(∀w' v,c j a w' (N v)->cV P ops Q S f R (a.put o.dst v) w')->cV P ops Q S f (.o b R) a w:=λj R a w h hr=>by
  refine qW (λD w' g=>?_) (K j a w h);obtain⟨v,rfl,d⟩:=g;exact .inr ⟨l _ _ _ _ d,λ_=>hr w' v d⟩
 refine⟨qW (λe w' g=>.inr ⟨l _ _ _ _ g,λ_=>?_⟩) (u a w je t),n 0 _ a w t λw' v d=>X _ _ _ d⟩;refine⟨qW (λa2 w2 D=>.inr ⟨l _ _ _ _ D,λ_=>?_⟩) (x e w' je g),n 1 _ e w' g λw' v d=>C _ _ _ d⟩;obtain⟨k,h3,-⟩:=m a2 w2 je D;exact h3 _ (n 3 _ _ _ k λw' v d=>y _ _ _ d)
def sc(a:bE->bE)(r:bE):bE:=.w 3 8 (.w 4 8 (a (.o 8 (.o 9 r))) (.o 4 (a (.o 9 r)))) (.o 3 (.o 4 (a (.o 9 r))))
theorem Ag(i n:dQ P){S:jg->Prop}{f:T}{a:Act}{w:jg}{r:bE}{T0:bE->bE}{E:Act->Act}{X o4 M o9:jN}{r1 r2 rb r3 s1 s2 t1 t2:T}(hs:Region.noSelect ops=jk)(a3:∀c a b w,Q (.panic c) a w->Q (.panic c) b w)
 (a4:mj ops 8 3=jk) (a5:mj ops 8 4=jk) (h3:ops[3]?=N X) (h4:ops[4]?=N o4) (h8:ops[8]?=N M) (h9:ops[9]?=N o9)
 (g3:X.guard=je) (g4:o4.guard=je) (g8:M.guard=je) (g9:o9.guard=je) (d3:X.dst=N r1) (d4:o4.dst=N r2) (d8:M.dst=N rb) (d9:o9.dst=N r3)
 (p3:X.op=.buildSlice i.t 1 #[(0,.tmp s1)]) (p4:o4.op=.call {callee:=.builtin .append,args:=#[.tmp t1,.tmp r1],argTypes:=#[i.t,i.t]})
 (p8:M.op=.buildSlice n.t 1 #[(0,.tmp s2)]) (p9:o9.op=.call {callee:=.builtin .append,args:=#[.tmp t2,.tmp rb],argTypes:=#[n.t,n.t]})
 (l1:r1<a.tmps.size) (lb:rb<a.tmps.size) (q1:r1≠t1) (q2:r1≠s2) (q3:r2≠s2) (q4:r1≠t2) (q5:r2≠t2) (q6:rb≠t2)
 (hE:∀(b:Act) v,E (b.put (N rb) v)=(E b).put (N rb) v) (a6:∀b:Act,(E b).eval (.tmp s2)=b.eval (.tmp s2)) (ba:∀b:Act,(E b).eval (.tmp t2)=b.eval (.tmp t2)) (bb:∀b:Act,(E b).tmps.size=b.tmps.size)
 (hT:∀(b:Act) (w':jg) R,(∀s,s≠r1->s≠r2->s≠rb->b.eval (.tmp s)=a.eval (.tmp s))->cV P ops Q S f R (E b) w'->cV P ops Q S f (T0 R) b w')
 {x1 x2 u1 u2:jb} (e1:a.eval (.tmp s1)=x1) (q:a.eval (.tmp s2)=x2) (f1:a.eval (.tmp t1)=u1) (f2:a.eval (.tmp t2)=u2) (c1:x1.cells.size=i.k) (c2:x2.cells.size=n.k) (y1:∀u∈x1.cells.toList,u.oneCell'=jk) (y2:∀u∈x2.cells.toList,u.oneCell'=jk)
 {base l o:T} {H aa:A jb} (au:w.ownsRow base i.e i.k u1 l H) (ax:w.ownsRow base n.e n.k u2 o aa) (ay:∀k,u1.ownBlock=N k->u2.ownBlock≠N k) (m1:l<=1000000) (m2:o<=1000000) (Yj:base<=w.heap.size)
 (a1:∀w',(∀k,k<w.heap.size->u1.ownBlock≠N k->u2.ownBlock≠N k->w'.heap[k]?=w.heap[k]?)->w.heap.size<=w'.heap.size->S w')
 (hQ:∀z1 z2 d c w',zU i n base w w' u1 u2 d c (l+1) (o+1) (H++x1.cells.toList) (aa++x2.cells.toList)->cV P ops Q S f r (((E ((a.put (N r1) z1).put (N r2) d)).put (N rb) z2).put (N r3) c) w'):
 cV P ops Q S f (sc T0 r) a w:=by
 have z1:∀k,u1.ownBlock=N k->k<w.heap.size:=λk c=>(au.lt k c).2
 have z2:∀k,u2.ownBlock=N k->k<w.heap.size:=λk c=>(ax.lt k c).2
 have bc:∀k,w.heap.size<=k->u1.ownBlock≠N k:=λk c e=>by have:=z1 k e;omega
 unfold sc;refine G9 h8 hs a3 a4 a5 (E:=E) (λj b w' U=>jo 0 w w'/\(∀k,k<w.heap.size->u1.ownBlock≠N k->w'.heap[k]?=w.heap[k]?)/\
  (∀v,U=N v->∃g,v=jf (N ⟨g,0,je⟩) 1 1/\w.heap.size<=g/\w'.heap[g]?=N (jh x2.cells n.e (0,0)))/\
  match j with
  |0=>b=a/\w'.ownsRow base i.e i.k u1 l H
  |1=>∃g,b=a.put (N r1) (jf (N ⟨g,0,je⟩) 1 1)/\w'.ownsRow base i.e i.k u1 l H/\w.heap.size<=g/\w'.heap[g]?=N (jh x1.cells i.e (0,0))
  |j+2=>∃z d,b=(if j=0 then id else E) ((a.put (N r1) z).put (N r2) d)/\w'.ownsRow base i.e i.k d (l+1) (H++x1.cells.toList)/\(d.ownBlock=u1.ownBlock\/∀k,d.ownBlock=N k->w.heap.size<=k)/\
   ∀g,U=N (jf (N ⟨g,0,je⟩) 1 1)->∀k,d.ownBlock=N k->k≠g)
  ⟨j9 _ _,λ_ _ _=>rfl,(λv e=>by cases e),rfl,au⟩ (λ_ _ _ _ F=>a1 _ (λk c l _=>F.2.1 k c l) F.1.size) ?_ ?_ ?_ ?_ ?_
 ·rintro V p U ⟨b,t,y,rfl,m⟩
  refine rH h3 g3 (i.wp_build _ p3 x1 e1 c1 ?_);rw[d3];have u:=ao p (jh x1.cells i.e);refine⟨b.trans (GR u),λk c x=>(u.block k (jB c b.size)).trans (t k c x),λv e=>?_,_,I,cK m u,b.size,jC p _⟩;obtain⟨g,rfl,C,k2⟩:=y v e;exact⟨g,I,C,av k2 u⟩
 ·rintro V p U ⟨b,t,y,g,rfl,m,bd,Yv⟩
  refine rH h4 g4 (i.wp_append _ _ p4 base u1 l H ((fB q1).trans f1) m g x1.cells (su l1) Yv c1 y1 m1 (jH Yj b.size) ?_);intro v' w' ad B W;rw[d4];have D:v'.ownBlock=u1.ownBlock\/∀k,v'.ownBlock=N k->w.heap.size<=k:=by
   rcases W with h|h
   ·exact .inl h
   exact .inr λk e=>by rw[h]at e;cases e;exact b.size
  refine⟨b.trans (GZ B),λk c x=>(B.block k (jB c b.size) (λe=>x e.symm)).trans (t k c x),λv e=>?_,_,_,I,ad,D,λgb e k K=>?_⟩
  ·obtain⟨gb,rfl,C,k2⟩:=y v e
   exact⟨gb,I,C,(B.block gb (jP.1 k2).1 (λe=>bc gb C e.symm)).trans k2⟩
  obtain⟨a2,e',C,k2⟩:=y _ e;obtain rfl:gb=a2:=ak e';have bf:=(jP.1 k2).1
  rcases W with h|h
  ·rw[h]at K
   have:=z1 k K;omega
  rw[h]at K
  cases K
  omega
 ·intro j V p F
  obtain⟨b,t,y,F⟩:=F;have bd:V.eval (.tmp s2)=x2:=by
   match j,F with
   |0,⟨h,_⟩=>rw[h];exact q
   |1,⟨g,h,_⟩=>rw[h];exact(fB q2).trans q
   |j+2,⟨z,d,h,_⟩=>
    rw[h];have h0:((a.put (N r1) z).put (N r2) d).eval (.tmp s2)=x2:=(fB q3).trans ((fB q2).trans q)
    by_cases a2:j=0
    ·rw[jp a2];exact h0
    rw[jq a2];exact(a6 _).trans h0
  refine rH h8 g8 (n.wp_build _ p8 x2 bd c2 ?_);have u:=ao p (jh x2.cells n.e);refine⟨_,I,b.trans (GR u),λk c x=>(u.block k (jB c b.size)).trans (t k c x),λv e=>?_,?_⟩
  ·injection e with e
   exact⟨_,e.symm,b.size,jC p _⟩
  match j,F with
  |0,⟨h,m⟩=>exact⟨h,cK m u⟩
  |1,⟨g,h,m,C,k2⟩=>exact⟨g,h,cK m u,C,av k2 u⟩
  |j+2,⟨z,d,h,m,D,_⟩=>
   refine⟨z,d,h,cK m u,D,λg e k K=>?_⟩;have h1:p.heap.size=g:=ak e;have:=(m.lt k K).2;omega
 ·rintro V p U ⟨b,t,y,z,d,rfl,m,D,x⟩
  refine⟨⟨b,t,y,z,d,I,m,D,x⟩,λR h=>?_,λv R h=>?_⟩
  ·exact hT _ p R (λs l o j=>(fB (Ne.symm o)).trans (fB (Ne.symm l))) h
  rw[d8]at h⊢;exact hT _ p R (λs l o j=>(fB (Ne.symm j)).trans ((fB (Ne.symm o)).trans (fB (Ne.symm l)))) (by rw[hE];exact h)
 rintro V p v ⟨b,t,y,z,d,rfl,m,D,x⟩;obtain⟨gb,rfl,C,k2⟩:=y v I;replace x:=x gb I;obtain⟨u,s⟩:=J (E ((a.put (N r1) z).put (N r2) d));have F:u.eval (.tmp t2)=u2/\u.tmps.size=a.tmps.size:=by
  rw[s];exact⟨(ba _).trans ((fB q5).trans ((fB q4).trans f2)),(bb _).trans (by rw[pO,pO])⟩
 show cV P ops Q S f (.o 9 r) (Act.put (E ((a.put (N r1) z).put (N r2) d)) M.dst _) p;rw[<-s,d8];have R:p.ownsRow base n.e n.k u2 o aa:=iz ax λg j=>t g (z2 g j) (λe=>ay g e j)
 refine cO h9 λK' U=>?_
 rw[jp (by unfold Region.wanted;simp[g9])];refine n.wp_append _ _ p9 base u2 o aa ((fB q6).trans F.1) R gb x2.cells (su (by rw[F.2];exact lb)) k2 c2 y2 m2 (jH Yj b.size) λv' w' ad B W=>U _ _ (a1 _ (λk c l o=>(B.block k (jB c b.size) (λe=>o e.symm)).trans (t k c l)) (jH b.size B.size)) λ_=>?_
 rw[d9,s];have K:∀k,d.ownBlock=N k->u2.ownBlock≠N k:=λk e q=>by
  rcases D with h|h
  ·rw[h]at e;exact ay k e q
  have:=h k e;have:=z2 k q;omega
 refine hQ z _ d v' w' ⟨iz m λg j=>B.block g (m.lt g j).2 (λe=>K g j e.symm),ad,λk e q=>?_,D,?_,λk c l o=>(B.block k (jB c b.size) (λe=>o e.symm)).trans (t k c l),b.trans (GZ B)⟩
 ·rcases W with h|h
  ·rw[h]at q;exact K k e q
  rw[h]at q
  cases q
  have:=(m.lt _ e).2;omega
 rcases W with h|h
 ·exact .inl h
 exact .inr λk e=>by rw[h]at e;cases e;exact b.size
end
end
section
theorem yq(w:jg)(Z C:js jb)(t:jt):(w.alloc (jh Z t)).setRow w.heap.size C=w.alloc (jh C t):=by
 have h:∀k:T,((w.alloc (jh Z t)).setRow w.heap.size C).heap[k]?=(w.alloc (jh C t)).heap[k]?:=by
  intro k
  by_cases a:k=w.heap.size
  ·subst a;exact(j4 _ _ _ _ _ _ (jC w _)).trans (jC w _).symm
  rw[qk _ _ _ _ a];show(w.heap.push _)[k]?=(w.heap.push _)[k]?;rw[xJ,xJ,jq a,jq a]
 have a:((w.alloc (jh Z t)).setRow w.heap.size C).heap=(w.alloc (jh C t)).heap:=Array.ext_getElem? h;show({w with heap:=_}:jg)={w with heap:=_};exact jR (λH=>({w with heap:=H}:jg)) a
section
variable {P:qa} {ops:js jN} {Q:Exit->Act->jg->Prop}
structure VarT(P:qa) where
 t:jt
 n:T
 Z:js jb
 d:TypeDesc
 hu:P.underlying t=N d
 hd:d.isRow=jk
 hi:(P.info? t).map (·.size)=N n
 hZ:Z.size=n
 hal:∀w,(Instr.alloc t jk (jZ #[])).run P w=.ok (jG (N ⟨w,0,je⟩)) (w.alloc (jh Z t))
variable (V:VarT P) {o:jN} {rest:A jN} {a:Act} {w:jg}
theorem VarT.made(b:o.guard=je)(c:o.op=.alloc V.t)(h:j6 P ops Q rest (a.put o.dst (jG (N ⟨w,0,je⟩))) (w.alloc (jh V.Z V.t))):j6 P ops Q (o::rest) a w:=
 jO b λ_ d=>fS V.t c V.Z V.hal (d _ _ h)
theorem VarT.store(d:o.guard=je){x y:jW}(e:o.op=.store V.t x y){g:T}(f:a.eval x=jG (N ⟨g,0,je⟩))(C:js jb)(i:a.eval y=jn C)(c:C.size=V.n)(j:C.all (·.oneCell')=jk)
 {b:js jb} (k:w.heap[g]?=N (jh b V.t (0,0))) (l:b.size=V.n) (h:j6 P ops Q rest (a.put o.dst qe) (w.setRow g C)):j6 P ops Q (o::rest) a w:=
 jO d λ_ m=>j8 V.t x y e g C f i V.t b k (by rw[c];exact V.hi) (l.trans c.symm) j (m _ _ h)
theorem VarT.first(b:o.guard=je){x y:jW}(c:o.op=.store V.t x y)(d:a.eval x=jG (N ⟨w,0,je⟩))(C:js jb)(e:a.eval y=jn C)(f:C.size=V.n)(g:C.all (·.oneCell')=jk)
 (h:j6 P ops Q rest (a.put o.dst qe) (w.alloc (jh C V.t))):j6 P ops Q (o::rest) a (w.alloc (jh V.Z V.t)):=
 V.store b c d C e f g (jC w _) V.hZ (by rw[yq];exact h)
theorem VarT.load(c:Region.wanted o (yielded ops a.tmps)=jk){x:jW}(d:o.op=.load V.t x){g f:T}(e:a.eval x=jG (N ⟨g,f,je⟩))(b:A jb)(i:b.length=V.n)(j:w.rangeAt g f b)
 (h:j6 P ops Q rest (a.put o.dst (jn b.toArray)) w):j6 P ops Q (o::rest) a w:=
 eB c (fk o a V.t x d g f e b V.d j V.hu V.hd (by rw[i];exact V.hi)) h
theorem VarT.loadA(b:Region.wanted o (yielded ops a.tmps)=jk){x:jW}(c:o.op=.load V.t x){g:T}(d:a.eval x=jG (N ⟨g,0,je⟩))(C:js jb)(e:C.size=V.n){t:jt}(f:w.heap[g]?=N (jh C t (0,0)))
 (h:j6 P ops Q rest (a.put o.dst (jn C)) w):j6 P ops Q (o::rest) a w:=by
 refine V.load b c d C.toList (by rw[qb];exact e) (λj v i=>?_) (by rw[xG];exact h);rw[qQ];exact ai f (ak i)
end
end
section
open Go.RowKit Go.Maps Go.Sort Go.Shelf
structure fw{α β:Type}(p:α->β)(c:α->α->ja):Prop where
 eq:∀x y,c x y=0↔p x=p y
 anti:∀x y,c x y<0↔0<c y x
 trans:∀x y z,c x y<0->c y z<0->c x z<0
 depl:∀x y z,p x=p y->c x z=c y z
 depr:∀x y z,p x=p y->c z x=c z y
theorem fw.lex{i:Type}{p:H->C}{q:H->i}{c d:H->H->ja}(a:fw p c)(f:fw q d):fw (λx=>(p x,q x)) (λx y=>if c x y≠0 then c x y else d x y) where
 eq x y:=by
  by_cases h:c x y=0
  ·rw[jq Y,f.eq]
   have:=(a.eq x y).1 h;simp[this]
  rw[jp h];have:¬p x=p y:=λe=>h ((a.eq x y).2 e)
  simp[h,this]
 anti x y:=by
  by_cases h:c x y=0
  ·have b:c y x=0:=(a.eq y x).2 ((a.eq x y).1 h).symm
   rw[jq Y,jq Y];exact f.anti x y
  have b:¬c y x=0:=λe=>h ((a.eq x y).2 ((a.eq y x).1 e).symm)
  rw[jp h,jp b];exact a.anti x y
 trans x y z hxy hyz:=by
  by_cases h:c x y=0
  ·have e:=(a.eq x y).1 h
   rw[jq Y]at hxy
   by_cases b:c y z=0
   ·rw[jq Y]at hyz
    rw[jq (by rw[a.depl x y z e];omega)];exact f.trans x y z hxy hyz
   rw[jp b]at hyz;rw[jp (by rw[a.depl x y z e];exact b),a.depl x y z e];exact hyz
  rw[jp h]at hxy
  by_cases b:c y z=0
  ·have e:=(a.eq y z).1 b
   rw[jp (by rw[<-a.depr y z x e];exact h),<-a.depr y z x e];exact hxy
  rw[jp b]at hyz;have g:=a.trans x y z hxy hyz;rw[jp Y];exact g
 depl x y z e:=by
  have b:=jR Prod.fst e;have g:=jR Prod.snd e;simp only at b g;rw[a.depl x y z b,f.depl x y z g]
 depr x y z e:=by
  have b:=jR Prod.fst e;have g:=jR Prod.snd e;simp only at b g;rw[a.depr x y z b,f.depr x y z g]
theorem fw.int(p:α->ja):fw p (λx y=>cE (p x) (p y)) where
 eq x y:=by unfold cE;split<;>(try split)<;>omega
 anti x y:=by unfold cE;split<;>(try split)<;>(try split)<;>omega
 trans x y z:=by
  intro c d;unfold cE at*
  by_cases a:p x<p y
  ·by_cases b:p y<p z
   ·rw[jp Y];decide
   rw[jq b]at d;split at d<;>omega
  rw[jq a]at c;split at c<;>omega
 depl x y z e:=by simp only[e]
 depr x y z e:=by simp only[e]
theorem Cx:∀(a b:LBy),dC a b=0↔a=b
 |[],[]=>by simp[dC]
 |[],_ ::_=>by simp[dC]
 |_ ::_,[]=>by simp[dC]
 |a::c,b::d=>by
  unfold dC
  by_cases h:a=b
  ·rw[jp h,Cx c d,h];simp
  rw[jq h];have:¬(a::c=b::d):=λe=>h (by injection e)
  split<;>simp[this]
theorem IY{a b:BitVec 8}(h:a≠b):a<b↔¬b<a:=by
 have:a.toNat≠b.toNat:=λe=>h (wv e)
 rw[rv,rv];omega
theorem Gb:∀(a b:LBy),dC a b<0↔0<dC b a
 |[],[]=>by simp[dC]
 |[],_ ::_=>by simp[dC]
 |_ ::_,[]=>by simp[dC]
 |a::d,b::e=>by
  unfold dC
  by_cases h:a=b
  ·rw[jp h,jp h.symm];exact Gb d e
  rw[jq h,jq (Ne.symm h)]
  by_cases c:a<b
  ·rw[jp c,jq ((IY h).1 c)];decide
  rw[jq c,jp ((IY (Ne.symm h)).2 c)];decide
theorem Jp{a b:BitVec 8}{V:LBy}:dC (a::o) (b::V)<0↔a<b\/a=b/\dC o V<0:=by
 rw[dC]
 by_cases h:a=b
 ·rw[jp h]
  subst h;have:¬a<a:=by rw[rv];omega
  simp[this]
 rw[jq h]
 by_cases c:a<b
 ·rw[jp c];simp[c]
 rw[jq c];simp[h,c]
theorem Cw:∀(a b c:LBy),dC a b<0->dC b c<0->dC a c<0
 |[],[],c,h,_=>by simp[dC]at h
 |[],_ ::_,[],_,h=>by simp[dC]at h
 |[],_ ::_,_ ::_,_,_=>by simp[dC]
 |_ ::_,[],_,h,_=>by simp[dC]at h
 |_ ::_,_ ::_,[],_,h=>by simp[dC]at h
 |a::f,b::g,c::i,e,d=>by
  rw[Jp]at*
  rcases e with e|⟨rfl,e⟩
  ·rcases d with d|⟨rfl,d⟩
   ·exact .inl (by rw[rv]at*;omega)
   exact .inl e
  rcases d with d|⟨rfl,d⟩
  ·exact .inl d
  exact .inr ⟨I,Cw f g i e d⟩
theorem fw.bytes(p:α->LBy):fw p (λx y=>dC (p x) (p y)) where
 eq x y:=Cx _ _
 anti x y:=Gb _ _
 trans x y z:=Cw _ _ _
 depl x y z e:=by simp only[e]
 depr x y z e:=by simp only[e]
theorem Tx:fw (λx:aN=>(x.since,x.com.author,x.id)) kS:=
 (fw.int aN.since).lex ((fw.int λx:aN=>x.com.author).lex (fw.bytes aN.id))
theorem fw.on{a:Type}{p:H->C}{c:H->H->ja}(h:fw p c)(f:a->H):fw (λx=>p (f x)) (λx y=>c (f x) (f y)) where
 eq x y:=h.eq _ _
 anti x y:=h.anti _ _
 trans x y z:=h.trans _ _ _
 depl x y z e:=h.depl _ _ _ e
 depr x y z e:=h.depr _ _ _ e
theorem fw.swo{p:H->C}{c:H->H->ja}(h:fw p c):SWO (ltOf c) where
 irrefl x:=by
  have:=(h.eq x x).2 I;simp only[ltOf,decide_eq_false_iff_not];omega
 trans x y z h1 h2:=by
  simp only[ltOf,decide_eq_true_eq]at*;exact h.trans x y z h1 h2
 ntrans x y z h1 h2:=by
  simp only[ltOf,decide_eq_false_iff_not]at*;intro a
  by_cases b:c x y=0
  ·rw[h.depl x y z ((h.eq x y).1 b)]at a;exact h2 a
  exact h2 (h.trans y x z ((h.anti y x).2 Y) a)
theorem fw.tot{p:H->C}{c:H->H->ja}(h:fw p c){x y:H}(b:ltOf c x y=jr)(a:ltOf c y x=jr):p x=p y:=by
 simp only[ltOf,decide_eq_false_iff_not]at b a
 by_cases e:c x y=0
 ·exact(h.eq x y).1 e
 exact jA ((h.anti y x).2 Y) a
theorem FJ{f:H->C}:∀{l:A H},(l.map f).Nodup->∀x∈l,∀y∈l,f x=f y->x=y
 |[],_,x,g,_,_,_=>by cases g
 |a::l,d,x,g,y,h,e=>by
  rw[jT,sn]at d
  rcases jD.1 g with c|c
  ·rcases jD.1 h with b|b
   ·rw[c,b]
   exact jA (jy.2 ⟨y,b,by rw[<-e,c]⟩) d.1
  rcases jD.1 h with b|b
  ·exact jA (jy.2 ⟨x,c,by rw[e,b]⟩) d.1
  exact FJ d.2 x c y b e
end
section
open Go.RowKit Go.Maps Go.Sort Go.Shelf
def Grw(w w':jg):Prop:=∃q os,w'=grow (w.drewN q) os
theorem Grw.refl(w:jg):Grw w w:=⟨0,#[],(grow_empty (w.drewN 0)).symm⟩
theorem Grw.trans{a b c:jg}(h:Grw a b)(k:Grw b c):Grw a c:=by
 obtain⟨q,os,rfl⟩:=h;obtain⟨d,e,rfl⟩:=k;refine⟨q+d,os++e,?_⟩;show({a with heap:=a.heap++os++e,drawn:=a.drawn+q+d}:jg)={a with heap:=a.heap++(os++e),drawn:=a.drawn+(q+d)};rw[Array.append_assoc,qn]
theorem Grw.alloc(w:jg)(o:Obj):Grw w (w.alloc o):=⟨0,#[o],by
 show({w with heap:=w.heap.push o}:jg)={w with heap:=w.heap++ #[o]}
 congr 1⟩
theorem Grw.drew(w:jg):Grw w w.drew:=⟨1,#[],(grow_empty (w.drewN 1)).symm⟩
theorem Grw.drewN(w:jg)(n:T):Grw w (w.drewN n):=⟨n,#[],(grow_empty (w.drewN n)).symm⟩
theorem Grw.size(h:Grw w w'):w.heap.size<=w'.heap.size:=by
 obtain⟨q,os,rfl⟩:=h;simp[grow,World.drewN]
theorem Grw.heap(h:Grw w w'){k:T}(a:k<w.heap.size):w'.heap[k]?=w.heap[k]?:=by
 obtain⟨q,os,rfl⟩:=h;show(w.heap++os)[k]?=_;rw[xK a]
theorem Grw.below(h:Grw w w'):jo w w w':=by
 refine⟨?_,?_,?_,h.size,λk a=>h.heap a⟩<;>(obtain⟨q,os,rfl⟩:=h;rfl)
theorem Grw.keep(h:Grw w w'){g:T}{o:Obj}(a:w.heap[g]?=N o):w'.heap[g]?=N o:=
 (h.heap (jP.1 a).1).trans a
theorem zX[Inhabited H]{enc:H->A jb}{k m off:T}{w:jg}{a:T}{d:js H}{os:js Obj}{g:T}(c:g<w.heap.size)(b:g≠a):(sortWorldK enc k w a off m d os).heap[g]?=w.heap[g]?:=by
 unfold sortWorldK putRowK putRow mapBlock Go.Sort.ahead Go.Sort.grow;simp only;rw[xK (by simp;omega),xm,jq (Ne.symm b)]
theorem OL[Inhabited H]{enc:H->A jb}{k m off:T}{w:jg}{a:T}{d:js H}{os:js Obj}:w.heap.size<=(sortWorldK enc k w a off m d os).heap.size:=by
 unfold sortWorldK putRowK putRow mapBlock Go.Sort.ahead Go.Sort.grow;simp
end
section
open Go.RowKit Go.Maps Go.Sort Go.Shelf
theorem DR:∀(a b:LBy),Lib.compareBytes (Lib.bytesOf (a.map λx=>(x.toNat:ja))) (Lib.bytesOf (b.map λx=>(x.toNat:ja)))=dC a b
 |[],[]=>rfl
 |[],_ ::_=>rfl
 |_ ::_,[]=>rfl
 |x::a,y::b=>by
  have g:=DR a b;unfold Lib.bytesOf at g⊢;rw[jT,jT,jT,jT,Lib.compareBytes,g,dC];have i:=x.isLt;have j:=y.isLt;have c:∀z:BitVec 8,((z.toNat:ja).toNat.toUInt8).toNat=z.toNat:=λz=>by have:=z.isLt;simp
  by_cases h:x=y
  ·subst h
   rw[jq (UInt8.lt_irrefl _),jq (UInt8.lt_irrefl _),jp I]
  have k:x.toNat≠y.toNat:=λe=>h (wv e)
  rw[jq h]
  by_cases d:x<y
  ·have f:x.toNat<y.toNat:=d
   rw[jp d,jp (by rw[UInt8.lt_iff_toNat_lt,c,c];exact f)]
  have f:¬x.toNat<y.toNat:=d;rw[jq d,jq (by rw[UInt8.lt_iff_toNat_lt,c,c];exact f),jp (by rw[UInt8.lt_iff_toNat_lt,c,c];omega)]
theorem CM(h:w.rangeAt M R (o.map v8))(c:T):(Extern.Bytes.bytesOf (jf (N ⟨M,R,je⟩) o.length c)).run jl w=.ok ⟨(Lib.bytesOf (o.map λx=>(x.toNat:ja))).toArray⟩ w:=by
 have d:=Lib.run_loadBytesX (P:=jl) w (o.map λx=>(x.toNat:ja)) ⟨M,R,je⟩ .empty (λj x a=>by
  have e:(⟨M,R,je⟩:jM).add j=⟨M,R+j,je⟩:=by unfold Addr.add;split<;>simp_all
  rw[e];refine h j _ ?_;rw[o8]at a⊢
  cases hq:o[j]? with
  |none=>rw[hq]at a;cases a
  |some z=>rw[hq]at a;injection a with a;rw[<-a];rfl)
 rw[ju]at d;simp only[Extern.Bytes.bytesOf];rw[d];simp
theorem J3{V:LBy}(g:w.rangeAt M R (o.map v8))(h:w.rangeAt m y (V.map v8))(e f:T):
 (Extern.BytealgCompare.compare #[jf (N ⟨M,R,je⟩) o.length e,jf (N ⟨m,y,je⟩) V.length f]).run jl w=.ok (jc jd (dC o V)) w:=by
 show(do pure (goInt (Extern.BytealgCompare.cmp (<-Extern.Bytes.bytesOf (jf (N ⟨M,R,je⟩) o.length e)) (<-Extern.Bytes.bytesOf (jf (N ⟨m,y,je⟩) V.length f)))):Sem jb).run jl w=_;simp only[Sem.run_bind,CM g,CM h,Sem.run_pure,Result.andThen];rw[Lib.cmp_eq,<-DR]
 rfl
theorem Qf{b c d f:T}{l m:LBy}(g:w.rangeAt b c (l.map v8))(h:w.rangeAt d f (m.map v8))(i j k n:T)(o:k=l.length)(p:n=m.length):
 jz jl 168 #[jf (N ⟨b,c,je⟩) k i,jf (N ⟨d,f,je⟩) n j] w λe w'=>e=jw (jc jd (dC l m))/\w'=w:=by
 have a:=J3 g h i j;rw[<-o,<-p]at a;generalize dC l m=r at a⊢;clear g h o p
 go_enter func168,ntmps168
 go_wp2_with fail
 rw[run_callFunc_extern func223 af af af (e:=Extern.BytealgCompare.compare) af,a];simp only[Result.andThen];rw[Oper.upon_value]
 go_wp2_with fail
 go_ret;exact⟨I,I⟩
end
theorem BD(g:Grp)(a:ja)(l:A ap):(dT g a l).length<=1000000:=by
 unfold dT
 split
 ·rename_i h
  obtain⟨b,c,d⟩:=lD.1 h;obtain⟨e,f⟩:=vW b c d;have i:=Cc (aX g.tree l) (gZ a) 1;rw[AA e f]at i;show(fz (aX g.tree l) (gZ a) 1).length<=_;omega
 simp
theorem DG(a:ja)(l:A ap):(dt a l).length<=l.length:=by
 unfold dt fl;rw[(ms _ _).length_eq];exact qP _ _
theorem cU{B:Act}{o:jN}{x:jW}{X:js jb}{t:jt}{d:TypeDesc}(g:jl.underlying e=N d)(i:d.isRow=jk)(j:(jl.info? e).map (·.size)=N X.size)(k:o.op=.load e x)(m:B.eval x=jG (N ⟨M,0,je⟩))(n:w.heap[M]?=N (jh X t (0,0))):
 (o1 B.eval o).run jl w=.ok (.value (jn X)) w:=by
 have h:=fk (P:=jl) o B e x k M 0 m X.toList _ (vV (t:=t) (l:=X.toList) (ak n)) g i (by rw[qb];exact j)
 simpa using h
theorem Qb{a:Act}{o:jN}{parts:js (T×jW)}{f e:ja}{b:js jb}(c:b.size=32)(d:o.op=.build 45 parts)(g:(parts.map fun(i,x)=>(i,a.eval x))= #[(0,jc jd f),(1,jc jd e),(2,jn b)])(W:jg):
 (o1 a.eval o).run jl W=.ok (.value (jn (#[jc jd f,jc jd e]++b++ #[jf je 0 0,jf je 0 0]))) W:=by
 simp only[o1,d,g,Sem.run_bind,LF f e b c,Result.andThen_ok,Sem.run_pure]
theorem Ac{B:Act}{P:jN}(b:P.op=.build 45 #[])(W:jg):
 (o1 B.eval P).run jl W=.ok (.value (jn (aD ⟨0,0,qs 32 0#8,[],[]⟩ (jf je 0 0) (jf je 0 0)).toArray)) W:=by
 simp only[o1,b,xI,ql,Sem.run_bind,Qr,Result.andThen_ok,Sem.run_pure]
theorem Rt(f e:ja)(d:LBy)(g:d.length=32):∃X c:js jb,c=(d.map v8).toArray/\c.size=32/\X= #[jc jd f,jc jd e]++c++ #[jf je 0 0,jf je 0 0]/\
 X=(aD ⟨f,e,d,[],[]⟩ (jf je 0 0) (jf je 0 0)).toArray/\(jl.info? 45).map (·.size)=N X.size/\X.all (·.oneCell')=jk/\X.size=36:=by
 have h:(aD ⟨f,e,d,[],[]⟩ (jf je 0 0) (jf je 0 0)).toArray.size=36:=by rw[jL,eE g]
 have a: #[jc jd f,jc jd e]++(d.map v8).toArray++ #[jf je 0 0,jf je 0 0]=(aD ⟨f,e,d,[],[]⟩ (jf je 0 0) (jf je 0 0)).toArray:=by unfold aD;simp
 refine⟨_,_,I,by rw[jL,ju];exact g,I,a,?_,?_,?_⟩
 ·rw[a,h];kernel_rfl
 ·rw[a,p6]
  intro u b;simp only[aD,wq,jD,jQ,qi,or_false]at b
  rcases b with rfl|rfl|b|rfl|rfl
  ·rfl
  ·rfl
  ·exact iT _ u b
  ·rfl
  rfl
 rw[a];exact h
theorem JL(g:Grp)(c:Cmt):∀a,a=aG c->∀u v:jb,aD ⟨g.folder,c.epoch,a,[],[]⟩ u v=aD (aC g c) u v:=by
 intro a h u v;rw[h];clear h;unfold aC;generalize aG c=i;dsimp only[aD]
theorem Mh(g:Grp)(c:Cmt):(aC g c).last.length=32:=by
 have h:=dX c;unfold aC
 revert h
 generalize aG c=i;exact λh=>h
theorem Sm(g:Grp)(c:Cmt)(W:jg)(u v:jb)(a:EM.At W u (fL (fZ g.mem c.chg c.epoch)))(b:bJ W v (gq (aX g.tree c.chg) c.author c.path)):bU W (aC g c) u v:=by
 have h:=Mh g c
 revert h
 unfold aC;generalize aG c=i;exact λh=>⟨a,b,h⟩
def Cj(g:Grp)(c:Cmt)(w:jg)(e:Ending)(w':jg):Prop:=
 (cA g c=0->∃vm vt,e=jw (jZ #[jn (aD (aC g c) vm vt).toArray,jc jd 0])/\bU w' (aC g c) vm vt/\Fr w.heap.size vm/\Fr w.heap.size vt)/\
 (cA g c≠0->e=jw (jZ #[jn (aD kw (jf je 0 0) (jf je 0 0)).toArray,jc jd (cA g c)]))/\jo w w w'
theorem yV(g:Grp)(vm vt:jb)(c:Cmt)(q:CQ)(w:jg)(h:bU w g vm vt)(hC:aS (·<w.heap.size) w c q)(i:cY (aR c))(hT:bQ w)(bh:g.mem.length<=900000)(bl:g.tree.length<=600000):
 jz jl 7 #[jn (aD g vm vt).toArray,jn (aF c q).toArray] w (Cj g c w):=by
 obtain⟨er,Zf⟩:=J (cA g c);obtain⟨NG,b⟩:=J (aC g c);obtain⟨P,d⟩:=J (Cj g c w);have HP:ji (∀e w',((er=0->∃vm vt,e=jw (jZ #[jn (aD NG vm vt).toArray,jc jd 0])/\bU w' NG vm vt/\Fr w.heap.size vm/\Fr w.heap.size vt)/\(er≠0->e=jw (jZ #[jn (aD kw (jf je 0 0) (jf je 0 0)).toArray,jc jd er]))/\jo w w w')->P e w'):=O (by
  rw[d,Zf,b];exact λe w' h=>h)
 rw[<-d];clear d;have cv:ji (∀H,H=aG c->∀u v:jb,aD ⟨g.folder,c.epoch,H,[],[]⟩ u v=aD NG u v):=O (by rw[b];exact JL g c);have cw:ji (∀(W:jg) (u v:jb),EM.At W u (fL (fZ g.mem c.chg c.epoch))->bJ W v (gq (aX g.tree c.chg) c.author c.path)->bU W NG u v):=O (by rw[b];exact Sm g c);clear b;have a2:=O Zf;have ad:=rF (vm:=vm) (vt:=vt) h.llen;have au:(jl.info? 34).map (·.size)=N (aF c q).toArray.size:=by rw[jL,dx c q hC.plen hC.clen];exact mX
 have Ws:=lR (vm:=vm) (vt:=vt) h.llen;have bm:=kB c q hC.plen hC.clen;have ay:∀(w:jg) (b:T),w.heap[b]?=N (jh (aD g vm vt).toArray 45 (0,0))->w.rangeAt b 2 (g.last.map v8):=λw b hb=>dE.last ⟨hb,h.llen⟩
 have a1:∀(w:jg) (b:T),w.heap[b]?=N (jh (aF c q).toArray 34 (0,0))->w.rangeAt b 2 (c.parent.map v8):=λw b hb j v hj=>by
  have d:=(jV.1 hj).1;rw[ju,hC.plen]at d;have h1:=C8 c q hC.plen d;refine(ai hb (ak h1)).trans ?_;rw[<-hj,o8,mz (by rw[hC.plen];exact d)];simp[qy,hC.plen,d]
 have HV:ji (∀W,bU W g vm vt->jz jl 22 #[jn (aD g vm vt).toArray] W λe w'=>e=jw (.bool (fH g))/\jo W W w'):=O (λW d=>BV g vm vt W d Y Y);have HK:ji (∀W,aS (·<W.heap.size) W c q->jz jl 23 #[jn (aF c q).toArray] W λe w'=>e=jw (jc jd (gV c))/\jo W W w'):=O (λW d=>MK c q W d i);have HN:ji (∀W,bU W g vm vt->EC.At W q.vc c.chg->jz jl 24 #[jn (aD g vm vt).toArray,jc jd c.author,q.vc] W λe w'=>∃u,e=jw (jZ #[u,jc jd (dq g c.author c.chg)])/\w'.ownsRow W 88 4 u (dT g c.author c.chg).length (EB0.flat (dT g c.author c.chg))/\jo W W w'):=O (λW d f=>Gt g vm vt _ _ _ W d f Y Y i.lens.1);have bi:ji (∀W,dA g->eW c.chg->gL g c.author c.chg->bU W g vm vt->EC.At W q.vc c.chg->jz jl 31 #[jn (aD g vm vt).toArray,jc jd c.author,q.vc] W λe w'=>e=jw (jc jd (dP g c.author c.chg))/\jo W W w'):=O (λW hv hf hp d f=>Gg g vm vt _ _ _ W d (uE hv) Y f (λhn=>by
  have h0:=hp.own;rw[hn]at h0;obtain⟨x,r,h1,-⟩:=hp.first (by have:=hv.ep.1;have h2:=of_decide_eq_false h0.symm;omega);rw[h1];simp))
 have bN:ji (∀W,aS (·<W.heap.size) W c q->bQ W->jz jl 32 #[jn (aF c q).toArray] W λe w'=>∃D,e=jw (jf (N ⟨D,0,je⟩) 32 32)/\bj w' (jf (N ⟨D,0,je⟩) 32 32) (dp c)/\jo W W w'):=O (λW d hT=>Hr c q W d i hT);have bO:ji (∀W,aS (·<W.heap.size) W c q->bQ W->jz jl 8 #[jn (aF c q).toArray] W λe w'=>e=jw (jn ((aG c).map v8).toArray)/\jo W W w'):=O (λW d hT=>ti c q W d i hT);have bo:ji (∀W,eW c.chg->bU W g vm vt->EC.At W q.vc c.chg->jz jl 34 #[jn (aD g vm vt).toArray,q.vc] W λe w'=>∃u,e=jw (jn #[u])/\bJ w' u (aX g.tree c.chg)/\jo W W w'):=O (λW hf d f=>yH g vm vt _ _ W d hf Y f);obtain⟨aa,hA⟩:=J ((aD g vm vt).toArray);obtain⟨C,F⟩:=J ((aF c q).toArray);rw[<-hA]at ad HV HN bi bo ay⊢;rw[<-F]at au HK bN bO a1⊢;obtain⟨x0,k⟩:=J ((((w.alloc (jh aa 45)).alloc (jh C 34)).alloc (jh #[jc jd 0,jc jd 0,jj jm 0,jj jm 0,jj jm 0,jj jm 0,jj jm 0,jj jm 0,jj jm 0,jj jm 0,jj jm 0,jj jm 0,jj jm 0,jj jm 0,jj jm 0,jj jm 0,jj jm 0,jj jm 0,jj jm 0,jj jm 0,jj jm 0,jj jm 0,jj jm 0,jj jm 0,jj jm 0,jj jm 0,jj jm 0,jj jm 0,jj jm 0,jj jm 0,jj jm 0,jj jm 0,jj jm 0,jj jm 0,jf je 0 0,jf je 0 0] 45)));obtain⟨s,r⟩:=J w.heap.size;have d:=jC w (jh aa 45);have z:=ao w (jh aa 45);have a5:=jC (w.alloc (jh aa 45)) (jh C 34);have K:=ao (w.alloc (jh aa 45)) (jh C 34);have M:=jC ((w.alloc (jh aa 45)).alloc (jh C 34)) (jh #[jc jd 0,jc jd 0,jj jm 0,jj jm 0,jj jm 0,jj jm 0,jj jm 0,jj jm 0,jj jm 0,jj jm 0,jj jm 0,jj jm 0,jj jm 0,jj jm 0,jj jm 0,jj jm 0,jj jm 0,jj jm 0,jj jm 0,jj jm 0,jj jm 0,jj jm 0,jj jm 0,jj jm 0,jj jm 0,jj jm 0,jj jm 0,jj jm 0,jj jm 0,jj jm 0,jj jm 0,jj jm 0,jj jm 0,jj jm 0,jf je 0 0,jf je 0 0] 45);have S:=ao ((w.alloc (jh aa 45)).alloc (jh C 34)) (jh #[jc jd 0,jc jd 0,jj jm 0,jj jm 0,jj jm 0,jj jm 0,jj jm 0,jj jm 0,jj jm 0,jj jm 0,jj jm 0,jj jm 0,jj jm 0,jj jm 0,jj jm 0,jj jm 0,jj jm 0,jj jm 0,jj jm 0,jj jm 0,jj jm 0,jj jm 0,jj jm 0,jj jm 0,jj jm 0,jj jm 0,jj jm 0,jj jm 0,jj jm 0,jj jm 0,jj jm 0,jj jm 0,jj jm 0,jj jm 0,jf je 0 0,jf je 0 0] 45);replace d:=av d K;replace d:=av d S;rw[jK]at a5;replace a5:=av a5 S;rw[jK,jK]at M;have B:=((z).trans (K.mono (z).size)).trans (S.mono ((z).trans (K.mono (z).size)).size);rw[<-k]at B;rw[<-k,<-r]at d;rw[<-k,<-r]at a5;rw[<-k,<-r]at M;have V:=O d;have U4:=O a5;have U:=O M;have o:=O B;have HW:=O k;have HG:=O r;have bp:=O h;have bb:=O hC;have bn:=h.below B;have bv:=hC.below B;obtain⟨Z,m⟩:∃y:js jb,y= #[jc jd 0,jc jd 0,jj jm 0,jj jm 0,jj jm 0,jj jm 0,jj jm 0,jj jm 0,jj jm 0,jj jm 0,jj jm 0,jj jm 0,jj jm 0,jj jm 0,jj jm 0,jj jm 0,jj jm 0,jj jm 0,jj jm 0,jj jm 0,jj jm 0,jj jm 0,jj jm 0,jj jm 0,jj jm 0,jj jm 0,jj jm 0,jj jm 0,jj jm 0,jj jm 0,jj jm 0,jj jm 0,jj jm 0,jj jm 0,jf je 0 0,jf je 0 0]:=⟨_,I⟩;have bw:(aD kw (jf je 0 0) (jf je 0 0)).toArray=Z:=by rw[m];rfl
 have bA:(jl.info? 45).map (·.size)=N Z.size:=by rw[m];kernel_rfl
 have bB:Z.all (·.oneCell')=jk:=by rw[m];kernel_rfl
 replace U:ji (x0.heap[s+1+1]?=N (jh Z 45 (0,0))):=O (by rw[m];exact U);have YZ:=O ad;have bq:=O au;have Q:=O bA;have a3:=O bB;have bT:ji (Z.size=36):=O (by rw[m];rfl);have ax:=O bw;have Y7:=O bn;have X:=O bv;have cx:=O ay;have cy:=O a1;have br:=O hT;have Z2:=O i;have VR:=O h.llen;have WE:=O hC.plen;have cz:=O hC.clen;have Wu:=O bh;have WL:=O bl;have bd:ji (aa[0]?=N (jc jd g.folder)/\aa[1]?=N (jc jd g.epoch)/\aa[34]?=N vm/\aa[35]?=N vt):=O (by rw[hA];simpa using Ws);have t:ji (C[0]?=N (jc jd c.folder)/\C[1]?=N (jc jd c.epoch)/\C[34]?=N (jc jd c.author)/\C[35]?=N q.vc/\C[36]?=N q.vp/\C[37]?=N q.vb/\C[38]?=N q.vw/\C[71]?=N (jc jd c.r)/\C[72]?=N (jc jd c.s)):=O (by rw[F];simpa using bm);have YH:=O hA;have WZ:=O F;have Wj:=O (TK c);have bs:=O (yI g c.author c.chg);obtain⟨vb,a4⟩:=J (fH g);obtain⟨eq,f⟩:=J (gV c);rw[<-a4]at HV bs;rw[<-f]at HK Wj;have bk:=O a4;have b4:=O f;obtain⟨pc,nc,eu,a6⟩:∃p n c',q.vc=jf p n c':=by obtain⟨p,c',h⟩:=hC.chg.form;exact⟨p,_,c',h⟩
 obtain⟨pp,np,cp,ba⟩:∃p n c',q.vp=jf p n c':=by obtain⟨p,c',h⟩:=hC.path.form;exact⟨p,_,c',h⟩
 obtain⟨pb,nb,ev,bc⟩:∃p n c',q.vb=jf p n c':=by obtain⟨us,h,-⟩:=hC.box;obtain⟨p,c',h⟩:=h.form;exact⟨p,_,c',h⟩
 obtain⟨pw,nw,eC,bg⟩:∃p n c',q.vw=jf p n c':=by obtain⟨us,h,-⟩:=hC.wel;obtain⟨p,c',h⟩:=h.form;exact⟨p,_,c',h⟩
 obtain⟨pm,nm,c5,c6⟩:∃p n c',vm=jf p n c':=by obtain⟨p,c',h,-⟩:=h.mem.form;exact⟨p,_,c',h⟩
 obtain⟨pt,nt,e2,c7⟩:=gN h.tree;rw[a6]at t HN bi bo;rw[ba,bc,bg]at t;have bf:=O a6;have c9:=O ba;have bu:=O bc;have b5:=O bg;subst c6;subst c7;clear bn bv m bw bA bB ad au ay a1 hT i bh bl hA F Ws bm h hC a4 f a6 ba bc bg Zf;clear B k r d z a5 K M S
 go_enter func7,ntmps7
 go_upto_region 1 with fail
 rw[<-HW,<-HG];refine jY ?_;refine xj I 45 _ I s I 45 aa (0,0) _ V.out jI I YZ ?_
 go_wp2_with fail
 refine(HV x0 Y7).mono ?_;rintro e x1 ⟨rfl,d⟩;have U5:=ae V d;have S:=ae U4 d;have U1:=ae U d;have WU:=O (Y7.below d);have Yg:=O (aS.below X d);have UA:=ah o d;clear V U4 U Y7 X o;clear d
 cases vb with
 |false=>
  have m:ji (er=1):=O (by rw[a2];unfold cA;rw[jp bk.symm])
  go_upto_region 2 with fail
  refine jY ?_;refine eB (v:=jn Z) aj (cU jI I Q I I U1) (L ?_);refine jO I λ_ r=>j8 45 _ _ I (s+1+1) Z I I 45 _ U1.out Q I a3 (r _ _ ?_)
  clear r;refine L ?_;refine eh ?_;rename_i KR Zz XR;refine Zz _ _ ?_;refine wp_ret ?_;show o3 _ _ P .ret _ _;exact n0 (fQ I _ _ (s+1+1) 45 Z (0,0) _ I (j4 _ _ _ _ _ _ U1.out) jI I Q) I (HP _ _ ⟨λh=>jA (m.symm.trans h) G,λ_=>by rw[ax,m];kernel_rfl,ob UA.out (by rw[HG];omega) _⟩)
 |true=>
 go_upto_region 3 with fail
 refine jY ?_;refine xj I 34 _ I (s+1) I 34 C (0,0) _ S.out qV I bq ?_
 go_wp2_with fail
 refine(HK x1 Yg).mono ?_;rintro e x2 ⟨rfl,d⟩;have Vu:=ae U5 d;have M:=ae S d;have K:=ae U1 d;have Yh:=O (WU.below d);have V8:=O (aS.below Yg d);have UC:=ah UA d;clear U5 S U1 WU Yg UA;clear d
 rcases Wj.out with⟨f,rfl⟩|⟨f,rfl⟩
 case inr=>
  have m:ji (er=220):=O (by rw[a2];unfold cA;rw[jq (by rw[<-bk];decide),jp (by rw[<-b4];decide)])
  go_upto_region 5 with fail
  refine jY ?_;refine eB (v:=jn Z) aj (cU jI I Q I I K) (L ?_);refine eh ?_;refine jO I λ_ r=>j8 45 _ _ I (s+1+1) Z I I 45 _ K.out Q I a3 (r _ _ ?_)
  clear r;refine L ?_;refine eh ?_;rename_i KR Zz XR;refine Zz _ _ ?_;refine wp_ret ?_;show o3 _ _ P .ret _ _;exact n0 (fQ I _ _ (s+1+1) 45 Z (0,0) _ I (j4 _ _ _ _ _ _ K.out) jI I Q) I (HP _ _ ⟨λh=>jA (m.symm.trans h) G,λ_=>by rw[ax,m];kernel_rfl,ob UC.out (by rw[HG];omega) _⟩)
 have VS:=O f;clear f;have f:ji (cA g c=if onB g c=jr then 220 else if dq g c.author c.chg≠0 then dq g c.author c.chg else if kC g c=jr then 220
  else if l9 (dP g c.author c.chg) c.r c.s (dp c)=jr then 222 else fc (aX g.tree c.chg) c.author c.path):=O (by unfold cA;rw[jq (by rw[<-bk];decide),jq (by rw[<-b4];decide)])
 obtain⟨F,z⟩:=J g.folder;obtain⟨ep,i⟩:=J g.epoch;obtain⟨cf,ad⟩:=J c.folder;obtain⟨B,au⟩:=J c.epoch;rw[<-z,<-i]at bd;rw[<-ad,<-au]at t;have bv:=O z;have Yn:=O i;have b6:=O ad;have bl:=O au;have k:dA g:=by
  by_cases hx:dA g
  ·exact hx
  have h2:=bk.out;rw[ko hx]at h2;cases h2
 have bw:=O k;have e4:0<=ep:=by rw[i];exact k.ep.1
 have e5:ep<=1099511627776:=by rw[i];exact k.ep.2
 clear z i ad au k;have c0:=ai M t.1;have c1:=ai M t.2.1;have a0:=ai Vu bd.1;have ba:=ai Vu bd.2.1;have Ye:=O (cx _ _ Vu.out);have ay:=O (cy _ _ M.out);obtain⟨TL,i⟩:=J ((g.last.map v8).toArray);obtain⟨TP,k⟩:=J ((c.parent.map v8).toArray);obtain⟨b7,ad⟩:=J (decide (c.parent=g.last));have a1:=O i;have a6:=O k;have b8:=O ad;have bh:∀z,(Op.equalIn 10000 23 (jn TP) (jn TL)).run jl z=.ok b7 z:=by
  rw[i,k,ad];exact λz=>nZ c.parent g.last WE VR z
 clear i k ad
 by_cases h1:cf=F
 case neg=>
  have bg:(cf==F)=jr:=ak h1;have b9:(cf !=F)=jk:=ak h1;have m:ji (er=220):=O (by rw[a2,f,jp (by unfold onB;rw[<-b6,<-bv,bg];rfl)]);clear h1
  go_upto_region 7 with fail
  refine jY ?_;refine eB (v:=jn Z) aj (cU jI I Q I I K) (L ?_);refine jO I λ_ r=>j8 45 _ _ I (s+1+1) Z I I 45 _ K.out Q I a3 (r _ _ ?_)
  clear r;refine L ?_;refine eh ?_;rename_i KR Zz XR;refine Zz _ _ ?_;refine wp_ret ?_;show o3 _ _ P .ret _ _;exact n0 (fQ I _ _ (s+1+1) 45 Z (0,0) _ I (j4 _ _ _ _ _ _ K.out) jI I Q) I (HP _ _ ⟨λh=>jA (m.symm.trans h) G,λ_=>by rw[ax,m];kernel_rfl,ob UC.out (by rw[HG];omega) _⟩)
 have bg:(cf==F)=jk:=ak h1;have b9:(cf !=F)=jr:=ak h1;clear h1
 by_cases h2:B=ep+1
 case neg=>
  have hd2:(B==ep+1)=jr:=ak h2;have ca:(B !=ep+1)=jk:=ak h2;have m:ji (er=220):=O (by rw[a2,f,jp (by unfold onB;rw[<-bl,<-Yn,hd2];simp)]);clear h2
  go_upto_region 7 with fail
  refine jY ?_;refine eB (v:=jn Z) aj (cU jI I Q I I K) (L ?_);refine jO I λ_ r=>j8 45 _ _ I (s+1+1) Z I I 45 _ K.out Q I a3 (r _ _ ?_)
  clear r;refine L ?_;refine eh ?_;rename_i KR Zz XR;refine Zz _ _ ?_;refine wp_ret ?_;show o3 _ _ P .ret _ _;exact n0 (fQ I _ _ (s+1+1) 45 Z (0,0) _ I (j4 _ _ _ _ _ _ K.out) jI I Q) I (HP _ _ ⟨λh=>jA (m.symm.trans h) G,λ_=>by rw[ax,m];kernel_rfl,ob UC.out (by rw[HG];omega) _⟩)
 have hd2:(B==ep+1)=jk:=ak h2;have ca:(B !=ep+1)=jr:=ak h2;have e6:=O h2;clear h2;have bc:(jl.info? 23).map (·.size)=N (c.parent.map v8).length:=by rw[ju,WE];kernel_rfl
 have i:(jl.info? 23).map (·.size)=N (g.last.map v8).length:=by rw[ju,VR];kernel_rfl
 have bm:=O bc;have ad:=O i;clear bc i;have i:IntKind.i64.wrap (ep+1)=ep+1:=IntWalk.i64_in _ Y
 go_upto_region 6 with fail
 refine jY ?_;iterate 15 refine eh ?_
 refine uU aj λ_ r=>wp_load_mid 23 _ I (s+1) 2 I (c.parent.map v8) _ ay.out qd I bm (r _ _ ?_)
 rw[<-a6];refine L ?_;refine eh ?_;refine uU aj λ_ r=>wp_load_mid 23 _ I s 2 I (g.last.map v8) _ Ye.out qd I ad (r _ _ ?_)
 rw[<-a1];refine L ?_;clear i
 cases b7 with
 |false=>
  have m:ji (er=220):=O (by rw[a2,f,jp (by unfold onB;rw[<-b8];simp)])
  go_upto_region 7 with fail
  refine jY ?_;refine eB (v:=jn Z) aj (cU jI I Q I I K) (L ?_);refine jO I λ_ r=>j8 45 _ _ I (s+1+1) Z I I 45 _ K.out Q I a3 (r _ _ ?_)
  clear r;refine L ?_;refine eh ?_;rename_i KR Zz XR;refine Zz _ _ ?_;refine wp_ret ?_;show o3 _ _ P .ret _ _;exact n0 (fQ I _ _ (s+1+1) 45 Z (0,0) _ I (j4 _ _ _ _ _ _ K.out) jI I Q) I (HP _ _ ⟨λh=>jA (m.symm.trans h) G,λ_=>by rw[ax,m];kernel_rfl,ob UC.out (by rw[HG];omega) _⟩)
 |true=>
 have i:ji (cA g c=if dq g c.author c.chg≠0 then dq g c.author c.chg else if kC g c=jr then 220
  else if l9 (dP g c.author c.chg) c.r c.s (dp c)=jr then 222 else fc (aX g.tree c.chg) c.author c.path):=O (by rw[f,jq (by unfold onB;rw[<-b6,<-bv,<-bl,<-Yn,bg,hd2,<-b8];decide)])
 obtain⟨au,k⟩:=J c.author;rw[<-k]at t HN bi bs;have a4:=O k;clear k;have k:=ai M t.2.2.1;have Zd:=ai M t.2.2.2.1
 go_upto_region 8 with fail
 clear c0 c1 a0 ba Ye ay bh bg b9 hd2 ca a1 a6 bm ad f;refine jY ?_;refine xj I 45 _ I s I 45 aa (0,0) _ Vu.out jI I YZ ?_
 go_wp2_with fail
 refine(HN x2 Yh.out (by rw[<-bf];exact EK.At.of_sl (E:=EC) V8.chg)).mono ?_;rintro e x3 ⟨u,rfl,hu,d⟩;have ad:=O (EK.At.of_own (E:=EB0) hu);clear hu k Zd;have Yk:=ae Vu d;have Vb:=ae M d;have f:=ae K d;have a1:=O (Yh.below d);have WM:=O (aS.below V8 d);have UE:=ah UC d;clear Vu M K Yh V8 UC;clear d;obtain⟨pu,e7,rfl,-,-⟩:=ad.form;obtain⟨nu,k⟩:=J ((dT g au c.chg).length);rw[<-k]at ad⊢;have e8:=O k;clear k
 rcases bs.out with⟨hx,-⟩|⟨-,-,hx⟩|⟨-,hf,hp,hx⟩
 case inl=>cases hx
 case inr.inl=>
  have m:ji (er=221):=O (by rw[a2,i,<-a4,hx];rfl);rw[hx];clear hx
  go_upto_region 10 with fail
  refine jY ?_;refine eB (v:=jn Z) aj (cU jI I Q I I f) (L ?_);refine eh ?_;refine jO I λ_ r=>j8 45 _ _ I (s+1+1) Z I I 45 _ f.out Q I a3 (r _ _ ?_)
  clear r;refine L ?_;refine eh ?_;rename_i KR Zz XR;refine Zz _ _ ?_;refine wp_ret ?_;show o3 _ _ P .ret _ _;exact n0 (fQ I _ _ (s+1+1) 45 Z (0,0) _ I (j4 _ _ _ _ _ _ f.out) jI I Q) I (HP _ _ ⟨λh=>jA (m.symm.trans h) G,λ_=>by rw[ax,m];kernel_rfl,ob UE.out (by rw[HG];omega) _⟩)
 rw[hx];have bA:ji (cA g c=if kC g c=jr then 220 else if l9 (dP g c.author c.chg) c.r c.s (dp c)=jr then 222 else fc (aX g.tree c.chg) c.author c.path):=O (by rw[i,<-a4,hx];rfl);have Yo:=O (oG.1 hf);have cb:=O (tM.1 hp);clear hf hp hx i;have ZF:=O Z2.lens;obtain⟨eb,i⟩:=J (decide (c.box.map (λb:Bx=>(b.lev,b.node))=(dT g au c.chg).map (λx:ja×ja=>x)));have bh:=O i;obtain⟨ew,k⟩:=J (decide (c.wel.map Wl.dev=(dt au c.chg).map ap.d));have bn:=O k;clear i k
 go_upto_region 13 with fail
 cases eb with
 |false=>
  have m:ji (er=220):=O (by rw[a2,bA,jp (by unfold kC;rw[<-a4];have h:=bh.out;rw[List.map_id']at h;rw[<-h];rfl)]);refine o5 ?_;refine di (λk=>k.heap[s+1]?=N (jh C 34 (0,0))) (.t 0 (.t 1 (.t 2 (.t 3 (.o 4 (.t 5 (.t 6 (.t 7 (.t 8 (.t 9 (.t 10 (.t 11 (.t 12 (.t 14 (.o 13 (.o 15 (.t 16 (.t 17 .done)))))))))))))))))) af af af G (λ_ _ _ _ h=>h) Vb ?_;obtain⟨z0,UV⟩:=J x3.drew;have d:=bV x3;rw[<-UV]at d⊢;have V:=ae Yk d;have U4:=ae Vb d;have U:=ae f d;have Y7:=O (a1.below d);have X:=O (aS.below WM d);have o:=ah UE d;have ay:=O (ad.below d);clear d UV Yk Vb f a1 WM UE ad;refine aQ ?_
  (refine aW (v:=?_) I aj (λk i=>?_) ?_;rotate_left;(have b0:=ai i t.2.2.1;have b1:=ai i t.2.2.2.1;have b2:=ai i t.2.2.2.2.2.1;have b3:=ai i t.2.2.2.2.2.2.1;go_simp;with_reducible rfl);refine L ?_)
  iterate 2 refine aQ ?_
  refine aE I (λK' r=>?_);go_simp;refine(Ab c.box (dT g au c.chg) _ _ z0 (by rw[<-bu];exact X.box) ay ZF.2.2.1 (BD g au c.chg)).mono ?_;rintro e z1 ⟨rfl,d⟩;rw[<-bh];have U5:=ae V d;have S:=ae U4 d;have U1:=ae U d;have WU:=O (Y7.below d);have Yg:=O (aS.below X d);have UA:=ah o d;have Y6:=O (ay.below d);clear V U4 U Y7 X o ay;clear d;refine r _ _ S.out λ_=>?_
  clear r;refine L ?_;iterate 2 refine aQ ?_
  iterate 7 refine kp ?_
  refine aE I (λK' r=>?_);rw[jq (xL.1 aj)];refine r _ _ S.out λ_=>?_
  clear r;refine L ?_;refine aE I (λK' r=>?_);rw[jq (xL.1 aj)];refine r _ _ S.out λ_=>?_
  clear r;refine L ?_;refine kp ?_;refine aQ ?_;refine qj ?_
  go_upto_region 14 with fail
  refine jY ?_;refine eB (v:=jn Z) aj (cU jI I Q I I U1) (L ?_);refine jO I λ_ r=>j8 45 _ _ I (s+1+1) Z I I 45 _ U1.out Q I a3 (r _ _ ?_)
  clear r;refine L ?_;refine eh ?_;rename_i KR Zz XR;refine Zz _ _ ?_;refine wp_ret ?_;show o3 _ _ P .ret _ _;exact n0 (fQ I _ _ (s+1+1) 45 Z (0,0) _ I (j4 _ _ _ _ _ _ U1.out) jI I Q) I (HP _ _ ⟨λh=>jA (m.symm.trans h) G,λ_=>by rw[ax,m];kernel_rfl,ob UA.out (by rw[HG];omega) _⟩)
 |true=>
 cases ew with
 |false=>
  have m:ji (er=220):=O (by rw[a2,bA,jp (by unfold kC;rw[<-a4,<-bn];simp)]);refine o5 ?_;refine di (λk=>k.heap[s+1]?=N (jh C 34 (0,0))) (.t 0 (.t 1 (.t 2 (.t 3 (.o 4 (.t 5 (.t 6 (.t 7 (.t 8 (.t 9 (.t 10 (.t 11 (.t 12 (.t 14 (.o 13 (.o 15 (.t 16 (.t 17 .done)))))))))))))))))) af af af G (λ_ _ _ _ h=>h) Vb ?_;obtain⟨z0,UV⟩:=J x3.drew;have d:=bV x3;rw[<-UV]at d⊢;have V:=ae Yk d;have U4:=ae Vb d;have U:=ae f d;have Y7:=O (a1.below d);have X:=O (aS.below WM d);have o:=ah UE d;have ay:=O (ad.below d);clear d UV Yk Vb f a1 WM UE ad;refine aQ ?_
  (refine aW (v:=?_) I aj (λk i=>?_) ?_;rotate_left;(have b0:=ai i t.2.2.1;have b1:=ai i t.2.2.2.1;have b2:=ai i t.2.2.2.2.2.1;have b3:=ai i t.2.2.2.2.2.2.1;go_simp;with_reducible rfl);refine L ?_)
  iterate 2 refine aQ ?_
  refine aE I (λK' r=>?_);go_simp;refine(Ab c.box (dT g au c.chg) _ _ z0 (by rw[<-bu];exact X.box) ay ZF.2.2.1 (BD g au c.chg)).mono ?_;rintro e z1 ⟨rfl,d⟩;rw[<-bh];have U5:=ae V d;have S:=ae U4 d;have U1:=ae U d;have WU:=O (Y7.below d);have Yg:=O (aS.below X d);have UA:=ah o d;have Y6:=O (ay.below d);clear V U4 U Y7 X o ay;clear d;refine r _ _ S.out λ_=>?_
  clear r;refine L ?_;iterate 3 refine aQ ?_
  (refine aW (v:=?_) I aj (λk i=>?_) ?_;rotate_left;(have b0:=ai i t.2.2.1;have b1:=ai i t.2.2.2.1;have b2:=ai i t.2.2.2.2.2.1;have b3:=ai i t.2.2.2.2.2.2.1;go_simp;with_reducible rfl);refine L ?_)
  refine aQ ?_
  (refine aW (v:=?_) I aj (λk i=>?_) ?_;rotate_left;(have b0:=ai i t.2.2.1;have b1:=ai i t.2.2.2.1;have b2:=ai i t.2.2.2.2.2.1;have b3:=ai i t.2.2.2.2.2.2.1;go_simp;with_reducible rfl);refine L ?_)
  refine aQ ?_
  (refine aW (v:=?_) I aj (λk i=>?_) ?_;rotate_left;(have b0:=ai i t.2.2.1;have b1:=ai i t.2.2.2.1;have b2:=ai i t.2.2.2.2.2.1;have b3:=ai i t.2.2.2.2.2.2.1;go_simp;with_reducible rfl);refine L ?_)
  refine aQ ?_;refine aE I (λK' r=>?_);rw[jp aj];go_simp;refine(zz au c.chg _ z1 (by rw[<-bf];exact EK.At.of_sl (E:=EC) Yg.chg) Yo.once ZF.1).mono ?_;rintro e z2 ⟨u,rfl,hu,d⟩;have a6:=O hu;clear hu;obtain⟨py,db,rfl,-,-⟩:=a6.form;have Vu:=ae U5 d;have M:=ae S d;have K:=ae U1 d;have Yh:=O (WU.below d);have V8:=O (aS.below Yg d);have UC:=ah UA d;have ba:=O (Y6.below d);clear U5 S U1 WU Yg UA Y6;clear d;refine r _ _ M.out λ_=>?_
  clear r;refine L ?_;refine aE I (λK' r=>?_);rw[jp aj];go_simp;refine(Fw c.wel (dt au c.chg) _ _ z2 (by rw[<-b5];exact V8.wel) a6 ZF.2.2.2 (by have:=DG au c.chg;have:=ZF.1;omega)).mono ?_;rintro e z3 ⟨rfl,d⟩;rw[<-bn];have Yk:=ae Vu d;have Vb:=ae M d;have f:=ae K d;have a1:=O (Yh.below d);have WM:=O (aS.below V8 d);have UE:=ah UC d;have ad:=O (ba.below d);clear Vu M K Yh V8 UC ba a6;clear d;refine r _ _ Vb.out λ_=>?_
  clear r;refine L ?_;iterate 2 refine aQ ?_
  refine qj ?_
  go_upto_region 14 with fail
  refine jY ?_;refine eB (v:=jn Z) aj (cU jI I Q I I f) (L ?_);refine jO I λ_ r=>j8 45 _ _ I (s+1+1) Z I I 45 _ f.out Q I a3 (r _ _ ?_)
  clear r;refine L ?_;refine eh ?_;rename_i KR Zz XR;refine Zz _ _ ?_;refine wp_ret ?_;show o3 _ _ P .ret _ _;exact n0 (fQ I _ _ (s+1+1) 45 Z (0,0) _ I (j4 _ _ _ _ _ _ f.out) jI I Q) I (HP _ _ ⟨λh=>jA (m.symm.trans h) G,λ_=>by rw[ax,m];kernel_rfl,ob UE.out (by rw[HG];omega) _⟩)
 |true=>
 have cc:ji (cA g c=if l9 (dP g c.author c.chg) c.r c.s (dp c)=jr then 222 else fc (aX g.tree c.chg) c.author c.path):=O (by rw[bA,jq (by unfold kC;rw[<-a4,<-bn];have h:=bh.out;rw[List.map_id']at h;rw[<-h];decide)]);refine o5 ?_;refine di (λk=>k.heap[s+1]?=N (jh C 34 (0,0))) (.t 0 (.t 1 (.t 2 (.t 3 (.o 4 (.t 5 (.t 6 (.t 7 (.t 8 (.t 9 (.t 10 (.t 11 (.t 12 (.t 14 (.o 13 (.o 15 (.t 16 (.t 17 .done)))))))))))))))))) af af af G (λ_ _ _ _ h=>h) Vb ?_;obtain⟨z0,UV⟩:=J x3.drew;have d:=bV x3;rw[<-UV]at d⊢;have V:=ae Yk d;have U4:=ae Vb d;have U:=ae f d;have Y7:=O (a1.below d);have X:=O (aS.below WM d);have o:=ah UE d;have ay:=O (ad.below d);clear d UV Yk Vb f a1 WM UE ad;refine aQ ?_
 (refine aW (v:=?_) I aj (λk i=>?_) ?_;rotate_left;(have b0:=ai i t.2.2.1;have b1:=ai i t.2.2.2.1;have b2:=ai i t.2.2.2.2.2.1;have b3:=ai i t.2.2.2.2.2.2.1;go_simp;with_reducible rfl);refine L ?_)
 iterate 2 refine aQ ?_
 refine aE I (λK' r=>?_);go_simp;refine(Ab c.box (dT g au c.chg) _ _ z0 (by rw[<-bu];exact X.box) ay ZF.2.2.1 (BD g au c.chg)).mono ?_;rintro e z1 ⟨rfl,d⟩;rw[<-bh];have U5:=ae V d;have S:=ae U4 d;have U1:=ae U d;have WU:=O (Y7.below d);have Yg:=O (aS.below X d);have UA:=ah o d;have Y6:=O (ay.below d);clear V U4 U Y7 X o ay;clear d;refine r _ _ S.out λ_=>?_
 clear r;refine L ?_;iterate 3 refine aQ ?_
 (refine aW (v:=?_) I aj (λk i=>?_) ?_;rotate_left;(have b0:=ai i t.2.2.1;have b1:=ai i t.2.2.2.1;have b2:=ai i t.2.2.2.2.2.1;have b3:=ai i t.2.2.2.2.2.2.1;go_simp;with_reducible rfl);refine L ?_)
 refine aQ ?_
 (refine aW (v:=?_) I aj (λk i=>?_) ?_;rotate_left;(have b0:=ai i t.2.2.1;have b1:=ai i t.2.2.2.1;have b2:=ai i t.2.2.2.2.2.1;have b3:=ai i t.2.2.2.2.2.2.1;go_simp;with_reducible rfl);refine L ?_)
 refine aQ ?_
 (refine aW (v:=?_) I aj (λk i=>?_) ?_;rotate_left;(have b0:=ai i t.2.2.1;have b1:=ai i t.2.2.2.1;have b2:=ai i t.2.2.2.2.2.1;have b3:=ai i t.2.2.2.2.2.2.1;go_simp;with_reducible rfl);refine L ?_)
 refine aQ ?_;refine aE I (λK' r=>?_);rw[jp aj];go_simp;refine(zz au c.chg _ z1 (by rw[<-bf];exact EK.At.of_sl (E:=EC) Yg.chg) Yo.once ZF.1).mono ?_;rintro e z2 ⟨u,rfl,hu,d⟩;have a6:=O hu;clear hu;obtain⟨py,db,rfl,-,-⟩:=a6.form;have Vu:=ae U5 d;have M:=ae S d;have K:=ae U1 d;have Yh:=O (WU.below d);have V8:=O (aS.below Yg d);have UC:=ah UA d;have ba:=O (Y6.below d);clear U5 S U1 WU Yg UA Y6;clear d;refine r _ _ M.out λ_=>?_
 clear r;refine L ?_;refine aE I (λK' r=>?_);rw[jp aj];go_simp;refine(Fw c.wel (dt au c.chg) _ _ z2 (by rw[<-b5];exact V8.wel) a6 ZF.2.2.2 (by have:=DG au c.chg;have:=ZF.1;omega)).mono ?_;rintro e z3 ⟨rfl,d⟩;rw[<-bn];have Yk:=ae Vu d;have Vb:=ae M d;have f:=ae K d;have a1:=O (Yh.below d);have WM:=O (aS.below V8 d);have UE:=ah UC d;have ad:=O (ba.below d);clear Vu M K Yh V8 UC ba a6;clear d;refine r _ _ Vb.out λ_=>?_
 clear r;refine L ?_;iterate 2 refine aQ ?_
 refine qj ?_;clear a1 WM ad
 go_upto_region 15 with fail
 refine o5 ?_;refine di (λk=>k.heap[s]?=N (jh aa 45 (0,0))/\k.heap[s+1]?=N (jh C 34 (0,0))) (.t 0 (.t 1 (.t 2 (.t 3 (.t 4 (.t 6 (.t 8 (.t 9 (.o 5 (.o 7 (.o 10 (.t 11 .done)))))))))))) af af af G (λ_ _ _ _ h=>h) ⟨Yk,Vb⟩ ?_;obtain⟨y0,UV⟩:=J z3.drew;have d:=bV z3;rw[<-UV]at d⊢;have a1:=ae Yk d;have a6:=ae Vb d;have ba:=ae f d;have ZI:=ah UE d;clear d UV Yk Vb f UE;have V:=a1;clear a1;have U4:=a6;clear a6;have U:=ba;clear ba;have o:=ZI;clear ZI
 (refine aW (v:=jn aa) I aj (λk i=>cU jI I YZ I I i.1) (L ?_))
 refine aQ ?_
 (refine aW (v:=?_) I aj (λk i=>?_) ?_;rotate_left;(have b0:=ai i.2 t.2.2.1;have b1:=ai i.2 t.2.2.2.1;have b2:=ai i.2 t.2.2.2.2.2.2.2.1;have b3:=ai i.2 t.2.2.2.2.2.2.2.2;go_simp;with_reducible rfl);refine L ?_)
 refine aQ ?_
 (refine aW (v:=?_) I aj (λk i=>?_) ?_;rotate_left;(have b0:=ai i.2 t.2.2.1;have b1:=ai i.2 t.2.2.2.1;have b2:=ai i.2 t.2.2.2.2.2.2.2.1;have b3:=ai i.2 t.2.2.2.2.2.2.2.2;go_simp;with_reducible rfl);refine L ?_)
 (refine aW (v:=jn C) I aj (λk i=>cU qV I bq I I i.2) (L ?_))
 refine aQ ?_
 (refine aW (v:=?_) I aj (λk i=>?_) ?_;rotate_left;(have b0:=ai i.2 t.2.2.1;have b1:=ai i.2 t.2.2.2.1;have b2:=ai i.2 t.2.2.2.2.2.2.2.1;have b3:=ai i.2 t.2.2.2.2.2.2.2.2;go_simp;with_reducible rfl);refine L ?_)
 refine aE I (λK' r=>?_);go_simp;refine(bi y0 bw Yo cb (bp.below o) (by rw[<-bf];exact(EK.At.of_sl (E:=EC) bb.chg).below o)).mono ?_;rintro e y1 ⟨rfl,d⟩;have U5:=ae V d;have S:=ae U4 d;have U1:=ae U d;have UA:=ah o d;clear V U4 U o;clear d;refine r _ _ ⟨U5,S⟩ λ_=>?_
 clear r;refine L ?_;refine aE I (λK' r=>?_);go_simp;refine(bN y1 (bb.below UA) (br.below UA)).mono ?_;rintro e y2 ⟨D,rfl,X,d⟩;have ad:=O X;clear X;have Vu:=ae U5 d;have M:=ae S d;have K:=ae U1 d;have UC:=ah UA d;clear U5 S U1 UA;clear d;refine r _ _ ⟨Vu,M⟩ λ_=>?_
 clear r;refine L ?_;refine aE I (λK' r=>?_);go_simp;refine(Oe (dP g au c.chg) c.r c.s (dp c) _ (by rw[MJ];decide) y2 ad (br.below UC)).mono ?_;rintro e y3 ⟨vr,rfl,X,d⟩;have ay:=O X;clear X;have Yk:=ae Vu d;have Vb:=ae M d;have f:=ae K d;have UE:=ah UC d;clear Vu M K UC ad;clear d;refine r _ _ ⟨Yk,Vb⟩ λ_=>?_
 clear r;refine L ?_;refine aQ ?_;refine qj ?_;have X:vr=l9 (dP g au c.chg) c.r c.s (dp c):=by rw[xz,Aw];exact ay
 have ZQ:=O X;clear X ay
 cases vr with
 |false=>
  have m:ji (er=222):=O (by rw[a2,cc,jp (by rw[<-a4];exact ZQ.symm)])
  go_upto_region 16 with fail
  refine jY ?_;refine eB (v:=jn Z) aj (cU jI I Q I I f) (L ?_);refine jO I λ_ r=>j8 45 _ _ I (s+1+1) Z I I 45 _ f.out Q I a3 (r _ _ ?_)
  clear r;refine L ?_;refine eh ?_;rename_i KR Zz XR;refine Zz _ _ ?_;refine wp_ret ?_;show o3 _ _ P .ret _ _;exact n0 (fQ I _ _ (s+1+1) 45 Z (0,0) _ I (j4 _ _ _ _ _ _ f.out) jI I Q) I (HP _ _ ⟨λh=>jA (m.symm.trans h) G,λ_=>by rw[ax,m];kernel_rfl,ob UE.out (by rw[HG];omega) _⟩)
 |true=>
 have cd:ji (er=fc (aX g.tree c.chg) au c.path):=O (by rw[a2,cc,jq (by rw[<-a4,<-ZQ];decide),<-a4]);obtain⟨H,bc⟩:=J (aG c);have ay:H.length=32:=by rw[bc];exact dX c
 have bm:=O bc;have ad:=O ay;obtain⟨X,dd,hT,bK,hX,bM,ce,cg,bB⟩:=Rt F B H ay;have cj:Z.size=X.size:=by rw[bB];exact bT
 have Zy:=O bK;have dk:ji (∀W,aS (·<W.heap.size) W c q->bQ W->jz jl 8 #[jn C] W λe w'=>e=jw (jn dd)/\jo W W w'):=O (by rw[hT,bc];exact bO);have bC:=O bM;have dr:=O ce;have dv:=O cg;have Wz:=O hX;have ea:=O cj;have bI:=O bB;clear hT hX bM ce cg bK cj bB bc ay
 go_upto_region 17 with fail
 refine o5 ?_;refine di (λk=>k.heap[s]?=N (jh aa 45 (0,0))/\k.heap[s+1]?=N (jh C 34 (0,0))) (.t 0 (.t 1 (.t 2 (.t 3 (.t 4 (.o 5 (.t 6 (.o 7 .done)))))))) af af af G (λ_ _ _ _ h=>h) ⟨Yk,Vb⟩ ?_;obtain⟨u0,UV⟩:=J y3.drew;have d:=bV y3;rw[<-UV]at d⊢;have a1:=ae Yk d;have a6:=ae Vb d;have ba:=ae f d;have ZI:=ah UE d;clear d UV Yk Vb f UE;have V:=a1;clear a1;have U4:=a6;clear a6;have U:=ba;clear ba;have o:=ZI;clear ZI;refine aQ ?_
 (refine aW (v:=?_) I aj (λk i=>?_) ?_;rotate_left;(have b0:=ai i.1 bd.1;have b1:=ai i.2 t.2.1;go_simp;with_reducible rfl);refine L ?_)
 refine aQ ?_
 (refine aW (v:=?_) I aj (λk i=>?_) ?_;rotate_left;(have b0:=ai i.1 bd.1;have b1:=ai i.2 t.2.1;go_simp;with_reducible rfl);refine L ?_)
 (refine aW (v:=jn C) I aj (λk i=>cU qV I bq I I i.2) (L ?_))
 refine aE I (λK' r=>?_);go_simp;refine(dk u0 (bb.below o) (br.below o)).mono ?_;rintro e u1 ⟨rfl,d⟩;have U5:=ae V d;have S:=ae U4 d;have U1:=ae U d;have UA:=ah o d;clear V U4 U o;clear d;refine r _ _ ⟨U5,S⟩ λ_=>?_
 clear r;refine L ?_
 (refine aW (v:=jn X) I aj (λk i=>by rw[Wz];exact Qb (f:=F) (e:=B) Zy I af k) ?_;refine L ?_)
 refine aE I (λK' r=>?_);rw[jp aj];refine j8 45 _ _ I (s+1+1) X I I 45 _ U1.out dr ea dv (r _ _ ⟨(qk _ _ _ _ Y).trans U5,(qk _ _ _ _ Y).trans S⟩ λ_=>?_);clear r;have ZZ:ji ((u1.setRow (s+1+1) X).heap[s]?=N (jh aa 45 (0,0))):=O ((qk _ _ _ _ Y).trans U5);have Zr:ji ((u1.setRow (s+1+1) X).heap[s+1]?=N (jh C 34 (0,0))):=O ((qk _ _ _ _ Y).trans S);have ay:ji ((u1.setRow (s+1+1) X).heap[s+1+1]?=N (jh X 45 (0,0))):=O (j4 _ _ _ _ _ _ U1.out);have VZ:=O (ob UA (show w.heap.size<=s+1+1 by rw[HG];omega) X);generalize u1.setRow (s+1+1) X=u9 at ZZ Zr ay VZ⊢;clear U5 S U1 UA;refine L ?_;refine qj ?_;obtain⟨re,bc⟩:=J (fc (aX g.tree c.chg) au c.path);have bK:(aX g.tree c.chg).length<=800000:=by have:=wQ g.tree c.chg;have:=WL.out;have:=Yo.len;omega
 have bM:aO au:=by
  obtain⟨h1,h2⟩:=vW bw Yo cb;exact aO.of Y
 have ce:∀j,aO (c.path.getD j 0):=λj=>by
  rcases Nat.lt_or_ge j c.path.length with h1|h1
  ·rw[fu _ h1];exact Ah (VS.path _ (q9 h1))
  rw[show c.path.getD j 0=0 by simp[qy,h1]];exact aO.of Y
 have bB:ji (∀W v,bJ W v (aX g.tree c.chg)->c8 W (jf pp np cp) c.path->jz jl 33 #[jn #[v],jc jd au,jf pp np cp] W λe w'=>∃x,e=jw (jZ #[jn #[x],jc jd re])/\(bJ w' x (gq (aX g.tree c.chg) au c.path)/\Fr W.heap.size x)/\jo W W w'):=O (by
  rw[bc];exact λW v hv hp=>Pm _ v au c.path _ W hv bK bM hp ZF.2.1 ce)
 have cg:=O bc;have ec:ji (c8 w (jf pp np cp) c.path):=O (by rw[<-c9];exact aH.ints bb.path);clear bc bK bM ce
 go_upto_region 18 with fail
 refine o5 ?_;refine di (λk=>k.heap[s]?=N (jh aa 45 (0,0))/\k.heap[s+1]?=N (jh C 34 (0,0))) (.t 0 (.t 1 (.t 2 (.t 4 (.t 5 (.t 6 (.t 7 (.o 3 (.o 8 (.t 9 (.t 10 (.t 11 (.t 12 (.o 13 (.t 14 .done))))))))))))))) af af af G (λ_ _ _ _ h=>h) ⟨ZZ,Zr⟩ ?_;obtain⟨v0,UV⟩:=J u9.drew;have d:=bV u9;rw[<-UV]at d⊢;have a1:=ae ZZ d;have a6:=ae Zr d;have ba:=ae ay d;have ZI:=ah VZ d;clear d UV ZZ Zr ay VZ;have V:=a1;clear a1;have U4:=a6;clear a6;have U:=ba;clear ba;have o:=ZI;clear ZI
 (refine aW (v:=jn aa) I aj (λk i=>cU jI I YZ I I i.1) (L ?_))
 refine aQ ?_
 (refine aW (v:=?_) I aj (λk i=>?_) ?_;rotate_left;(have b0:=ai i.2 t.2.2.1;have b1:=ai i.2 t.2.2.2.1;have b2:=ai i.2 t.2.2.2.2.1;go_simp;with_reducible rfl);refine L ?_)
 refine aQ ?_
 (refine aW (v:=?_) I aj (λk i=>?_) ?_;rotate_left;(have b0:=ai i.2 t.2.2.1;have b1:=ai i.2 t.2.2.2.1;have b2:=ai i.2 t.2.2.2.2.1;go_simp;with_reducible rfl);refine L ?_)
 refine aQ ?_
 (refine aW (v:=?_) I aj (λk i=>?_) ?_;rotate_left;(have b0:=ai i.2 t.2.2.1;have b1:=ai i.2 t.2.2.2.1;have b2:=ai i.2 t.2.2.2.2.1;go_simp;with_reducible rfl);refine L ?_)
 refine aE I (λK' r=>?_);go_simp;refine(bo v0 Yo (bp.below o) (by rw[<-bf];exact(EK.At.of_sl (E:=EC) bb.chg).below o)).mono ?_;rintro e v1 ⟨u1,rfl,hu,d⟩;have i:=O hu;clear hu;obtain⟨p2,n2,c2,rfl⟩:=gN i;have U5:=ae V d;have S:=ae U4 d;have U1:=ae U d;have UA:=ah o d;clear V U4 U o;clear d;refine r _ _ ⟨U5,S⟩ λ_=>?_
 clear r;refine L ?_;refine aE I (λK' r=>?_);go_simp;refine(bB v1 _ i.out (et ec UA)).mono ?_;rintro e v2 ⟨x9,rfl,hx,d⟩;have o:=O hx.1;have ed:=O (hx.2.mono UA.size);clear hx;obtain⟨U,nx,V,rfl⟩:=gN o;have Vu:=ae U5 d;have M:=ae S d;have K:=ae U1 d;have UC:=ah UA d;clear U5 S U1 UA i;clear d;refine r _ _ ⟨Vu,M⟩ λ_=>?_
 clear r;refine L ?_;iterate 4 refine aQ ?_
 refine aE I (λK' r=>?_);rw[jp aj];refine wp_store_mid 43 _ _ I (s+1+1) 35 #[jf U nx V] I I (sF K.out (by rw[bI];exact jE _)) rr (by simp[r4]) (r _ _ ⟨(dz _ Y).trans Vu,(dz _ Y).trans M⟩ λ_=>?_);clear r;have W:v2.setCells (s+1+1) 35 (#[jf U nx V]:js jb).toList=v2.setCell ⟨s+1+1,35,je⟩ (jf U nx V):=I;rw[W];have ZZ:ji ((v2.setCell ⟨s+1+1,35,je⟩ (jf U nx V)).heap[s]?=N (jh aa 45 (0,0))):=O ((dz _ Y).trans Vu);have Zr:ji ((v2.setCell ⟨s+1+1,35,je⟩ (jf U nx V)).heap[s+1]?=N (jh C 34 (0,0))):=O ((dz _ Y).trans M);have ay:ji ((v2.setCell ⟨s+1+1,35,je⟩ (jf U nx V)).heap[s+1+1]?=N (jh (aD ⟨F,B,H,[],[]⟩ (jf je 0 0) (jf U nx V)).toArray 45 (0,0))):=O (by
  have h:=ft (i:=35) (jf U nx V) K;rw[bC,C9 ⟨F,B,H,[],[]⟩ _ _ _ ad.out]at h;exact h)
 have ce:ji (bJ (v2.setCell ⟨s+1+1,35,je⟩ (jf U nx V)) (jf U nx V) (gq (aX g.tree c.chg) au c.path)):=O (o.ints (uN (i:=35) (X:=X) K ay (λj hj=>by rw[bC];exact Sz ⟨F,B,H,[],[]⟩ _ _ _ ad.out j hj) (by rw[bC];exact(nr ⟨F,B,H,[],[]⟩ _ _ ad.out).2.1) (λk _ hk=>dz _ hk)));have VZ:ji (jo w w (v2.setCell ⟨s+1+1,35,je⟩ (jf U nx V))):=O (UC.setCell (p:=⟨s+1+1,35,je⟩) (by show w.heap.size<=s+1+1;rw[HG];omega) _);generalize v2.setCell ⟨s+1+1,35,je⟩ (jf U nx V)=s9 at ZZ Zr ay VZ ce⊢;clear W Vu M K UC o;refine L ?_;refine aQ ?_;refine qj ?_
 by_cases h0:re=0
 case neg=>
  have bg:(re !=0)=jk:=ak h0;have hd2:(re==0)=jr:=ak h0;have m:ji (er=re):=O (by rw[cd,cg]);have o:=O h0;clear h0
  go_upto_region 20 with fail
  refine jY ?_;refine eB (v:=jn Z) aj (by rw[<-ax];exact Ac I _) ?_;refine L ?_;refine eh ?_;refine jO I λ_ r=>j8 45 _ _ I (s+1+1) Z I I 45 _ ay.out Q.out (by rw[bT];exact(nr ⟨F,B,H,[],[]⟩ _ _ ad.out).2.2) a3 (r _ _ ?_)
  clear r;refine L ?_;refine eh ?_;rename_i KR Zz XR;refine Zz _ _ ?_;refine wp_ret ?_;show o3 _ _ P .ret _ _;exact n0 (fQ I _ _ (s+1+1) 45 Z (0,0) _ I (j4 _ _ _ _ _ _ ay.out) jI I Q) I (HP _ _ ⟨λh=>jA (m.symm.trans h) o,λ_=>by rw[ax,m];kernel_rfl,ob VZ.out (by rw[HG];omega) _⟩)
 subst h0;have eg:ji (er=0):=O (cd.trans cg.symm);have W:=ai ZZ bd.2.2.1;have m:dV s9 (s+1) c q:=⟨by rw[Zr,WZ],WE,cz⟩;have VX:=O m;clear m
 go_upto_region 22 with fail
 go_wp2_with fail
 refine(PR g.mem (jf pm nm c5) s9 (bp.below VZ).mem (aI Wu)).mono ?_;rintro e t1 ⟨u1,rfl,hu,d⟩;have M:=O hu;have o:=O d;clear hu d W
 go_wp2_with fail
 refine(JP (Qq c q (s+1) s9 VX ((EK.At.of_sl (E:=EC) bb.chg).below VZ) ZF.1) g.mem u1 t1 M o o.size (aI Wu)).mono ?_;rintro e t2 ⟨u2,rfl,hu,a1⟩;have Vw:=O hu;have a6:=O (o.trans a1);obtain⟨p3,c3,Wv⟩:=cN hu;obtain⟨n3,W⟩:=J ((g.mem.filter λm=> !fN c.chg m).length);rw[<-W]at Wv;subst Wv;have cj:=O W;clear hu a1 o M W;have bc:s+1+1<s9.heap.size:=(jP.1 ay).1;have M:=(a6.block (s+1+1) bc).trans ay;have ck:=ai M (nr ⟨F,B,H,[],[]⟩ _ _ ad.out).1;have e9:=gs (o:=34) M;have K:=O M;clear M
 go_upto_region 23 with fail
 obtain⟨mL,ba⟩:∃f:T->A aL,f=λi=>(g.mem.filter λm=> !fN c.chg m)++((c.chg.take i).filter λx=> !(x.k==2)).map λx=>(⟨x.d,B,x.v⟩:aL):=⟨_,I⟩
 have Zb:=O ba;have bM:mL 0=g.mem.filter λm=> !fN c.chg m:=by rw[ba];simp
 have cm:∀i,(mL i).length<=900100:=λi=>by
  rw[ba];have h1:=qP (λm=> !fN c.chg m) g.mem;have h2:=qP (λx:ap=> !(x.k==2)) (c.chg.take i);have h3:=List.length_take_le i c.chg;have M:=Yo.len;have h5:=Wu.out;simp only[jJ,ju];have h6:(c.chg.take i).length<=c.chg.length:=List.length_take_le' _ _;omega
 have cq:=O cm;obtain⟨M,hM⟩:=J s9.heap.size;have Yz:ji (s+1+1<M):=O (by rw[hM];exact bc);have bK:∀u v,((λv=>(aD ⟨F,B,H,[],[]⟩ v (jf U nx V)).toArray) u).setIfInBounds 34 v=(λv=>(aD ⟨F,B,H,[],[]⟩ v (jf U nx V)).toArray) v:=λu v=>Du ⟨F,B,H,[],[]⟩ u _ v ad
 have Vn:=O bK;have ZH:=O hM;have a1:=gA.first (M:=M) (R:=s+1+1) (i:=34) (X:=(λv=>(aD ⟨F,B,H,[],[]⟩ v (jf U nx V)).toArray)) (e:=103) (sz:=3) (w0:=s9) K.out (by rw[hM];exact Vw) (by rw[hM];exact a6) (by rw[hM];exact a6.size) Yz (bK _ (jf p3 n3 c3));rw[<-cj,<-bM]at a1;clear ba bM cm hM bK K Vw a6 bc;have W:n3=(mL 0).length:=by rw[Zb,cj];simp
 generalize t2.setCell ⟨s+1+1,34,je⟩ (jf p3 n3 c3)=W9 at a1⊢;have YL:=O a1;have a6:=O W;clear W a1;have hA:W9.heap[s]?=N (jh aa 45 (0,0)):=(YL.but.block s (aI Yz) Y).trans ZZ;have hC:W9.heap[s+1]?=N (jh C 34 (0,0)):=(YL.but.block (s+1) (aI Yz) Y).trans Zr;have cm:=bb.chg;rw[bf]at cm;obtain⟨ba,p1,q1,ej,ek,a5,K⟩:=cm;injection ej with e1 W e3
 subst e1;subst e3;have bc:=O W;rw[<-W]at ek K;have cs:=O K;clear ba a5 K W;have Zd:=ai hC t.2.2.2.1;have Ww:ji (nc<=64):=O (by rw[bc];exact Yo.len);clear hA hC
 go_wp2_with fail
 go_loopw [123] (λv wr=>∃(i m:T) (K:jv jM) (W:T),v=jc jd i/\i<=nc/\ji (m=(mL i).length)/\ji (gA M (s+1+1) 45 103 3 (λv=>(aD ⟨F,B,H,[],[]⟩ v (jf U nx V)).toArray) s9 wr m (jf K m W) (EM.flat (mL i)))) (λv _=>nc-(jF v).toNat)
 case atStart=>exact⟨0,n3,p3,c3,I,oj _,a6,YL⟩
 clear YL a6 Zd;obtain⟨i,m,K,W,rfl,hi,HM,HR⟩:=hrel;have fe:=Ww.out
 by_cases ct:i<nc
 ·have hd:=aA ((i:ja)<(nc:ja))
  have UY:=aA (i<nc);obtain⟨g0,o,rfl,a5,a6⟩:=cs Y;obtain⟨x,hx,ba⟩:=wV (l:=c.chg) (j:=i) (by rw[<-bc];exact ct);have bK:g0<M:=by have:=Yz.out;have:=HG.out;omega
  have bM:g0≠s+1+1:=aI HG;have Vv:=(HR.but.block g0 bK bM).trans (VZ.block g0 a5);have a1:=λk hk=>(dY (a:=⟨g0,o+(i*5+k),je⟩) Vv).trans (a6 (i*5+k) _ ((flat_get ap.cells 5 (λ_=>rfl) c.chg i k x hx hk).trans (show x.cells[k]?=N (x.cells.getD k (jc jd 0)) by have:x.cells.length=5:=I;simp[qy,mz (show k<x.cells.length by omega)])))
  have d0:wr.cell? ⟨g0,o+i*5,je⟩=N (jc jd x.k):=a1 0 G;have d1:wr.cell? ⟨g0,o+i*5+1,je⟩=N (jc jd x.d):=a1 1 G;have d2:wr.cell? ⟨g0,o+i*5+2,je⟩=N (jc jd x.p):=a1 2 G;have d3:wr.cell? ⟨g0,o+i*5+3,je⟩=N (jc jd x.v):=a1 3 G;have d4:wr.cell? ⟨g0,o+i*5+4,je⟩=N (jc jd x.c):=a1 4 G;have cn:=L0 g.mem c.chg B ba;have Wo:ji (mL (i+1)=mL i++(if x.k=2 then []else [⟨x.d,B,x.v⟩])):=O (by rw[Zb];exact cn);have cu:ji (wr.heap[s+1]?=N (jh C 34 (0,0))):=O ((HR.but.block (s+1) (aI Yz) Y).trans Zr);clear bK bM Vv a1 a6 hx ba cn a5
  go_upto_region 26 with fail
  obtain⟨bx,bK⟩:=J wr.heap.size;have a6:=jC wr (jh #[jc jd x.k,jc jd x.d,jc jd x.p,jc jd x.v,jc jd x.c] 56);have d:=ao wr (jh #[jc jd x.k,jc jd x.d,jc jd x.p,jc jd x.v,jc jd x.c] 56);have Z4:ji ((qz K m W).ownBlock≠N bx):=O (eX HR.own (.inl (qN bK.symm)));rw[<-bK]at a6⊢;obtain⟨k0,Zp⟩:=J (wr.alloc (jh #[jc jd x.k,jc jd x.d,jc jd x.p,jc jd x.v,jc jd x.c] 56));rw[<-Zp]at a6 d⊢;have ba:=O (HR.later Yz d);have bM:=ae cu d;have a5:=O a6;clear a6 d Zp bK HR cu d0 d1 d2 d3 d4
  by_cases a6:x.k=2
  ·have hd2:(x.k !=2)=jr:=ak a6
   have e0:k0.cell? ⟨bx,0,je⟩=N (jc jd x.k):=ai a5 I;have VL:=O a6;clear a6
   go_wp2_with fail
   refine⟨⟨i+1,m,K,W,by go_num,by omega,O ?_,O ?_⟩,?_⟩
   ·rw[Wo,jp VL.out,qx];exact HM
   ·rw[Wo,jp VL.out,qx];exact ba
   simp only[jF];omega
  have hd2:(x.k !=2)=jk:=ak a6;have e0:k0.cell? ⟨bx,0,je⟩=N (jc jd x.k):=ai a5 I;have VL:=O a6;clear a6;have bK:=O ba.box;have cu:ji (((λv=>(aD ⟨F,B,H,[],[]⟩ v (jf U nx V)).toArray) (jf K m W))[34]?=N (jf K m W)):=O (nr ⟨F,B,H,[],[]⟩ _ _ ad.out).1;have bI:ji (((λv=>(aD ⟨F,B,H,[],[]⟩ v (jf U nx V)).toArray) (jf K m W)).size=36):=O (nr ⟨F,B,H,[],[]⟩ _ _ ad.out).2.2
  go_upto_region 27 with fail
  clear e0;refine jY ?_;have b0:=ai bK cu;have b1:=ai (i:=1) a5 I;have b2:=ai bM t.2.1;have b3:=ai (i:=3) a5 I;iterate 9 refine eh ?_
  clear b0 b1 b2 b3;refine jO I λ_ r=>?_
  go_simp;have d:=ao k0 (jh #[jc jd x.d,jc jd B,jc jd x.v] 103);have UG:=jC k0 (jh #[jc jd x.d,jc jd B,jc jd x.v] 103);obtain⟨k1,hx⟩:=J (k0.alloc (jh #[jc jd x.d,jc jd B,jc jd x.v] 103));have Ye:=lB k0 [jc jd x.d,jc jd B,jc jd x.v] 103 (0,0) 3 1 1 I (jE _);replace Ye:cF (k0.alloc (jh #[jc jd x.d,jc jd B,jc jd x.v] 103)) (jf (N ⟨k0,0,je⟩) 1 1) 3 1 [jc jd x.d,jc jd B,jc jd x.v]:=Ye;rw[<-hx]at Ye;have bB:=O Ye;clear Ye;rw[<-hx]at d UG⊢;have a6:=O (ba.later Yz d);have em:=ae bK d;have fm:=ae a5 d;have cs:=ae bM d;clear ba bK a5 bM;have bM:=O UG;clear UG hx d;refine r _ _ ?_;clear r;refine L ?_;refine jO I λ_ r=>?_
  refine LQ _ _ I M (jf K m W) m _ I a6.own _ 1 _ I bB (by simp[r4]) (by have h1:=cq i;rw[<-HM]at h1;omega) a6.sz' λv' m2 Wy=>?_
  have UO:=Wy.own;obtain⟨pn,cn,rfl⟩:=cN UO;have a5:=lh em Wy.grown (eX a6.own (.inr Yz));refine r _ _ ?_;replace Wy:=O Wy;have ba:ji (gA M (s+1+1) 45 103 3 (λv=>(aD ⟨F,B,H,[],[]⟩ v (jf U nx V)).toArray) s9 (m2.setCell ⟨s+1+1,34,je⟩ (jf pn (m+1) cn)) (m+1) (jf pn (m+1) cn) (EM.flat (mL (i+1)))):=O (by
   have h:=a6.push (i:=34) Yz Wy (Vn _ _);rw[Wo,jq VL.out,EK.flat_append,EK.flat_one];exact h)
  clear r UO;refine L ?_;refine eh ?_;refine jO I λ_ r=>?_
  obtain⟨⟨vo,bK⟩,f3,-,-⟩:=kr (i:=34) (jf pn (m+1) cn) a5 (by rw[bI];decide);go_simp;refine r _ _ ?_;clear r bK f3 a5
  go_wp2_with fail
  refine⟨⟨i+1,m+1,pn,cn,by go_num,by omega,O ?_,ba⟩,?_⟩
  ·rw[Wo,jq VL.out,jJ,<-HM];rfl
  simp only[jF];omega
 have hd:=az ((i:ja)<(nc:ja));have UY:=az (i<nc);have a5:mL i=fZ g.mem c.chg c.epoch:=by
  rw[Zb,bl];dsimp only;unfold fZ;rw[qf (by rw[<-bc];omega)]
 have e0:=O a5;have b1:ji (Fr w.heap.size (jf K m W)):=O ((Fr.of_own HR.own).mono (by rw[ZH];exact VZ.size));have UO:=HR.own;have ZA:=HM.out;rw[a5]at UO ZA;rw[ZA]at UO;have Zk:=O UO;have b2:=O ZA;have ck:=ai HR.box (nr ⟨F,B,H,[],[]⟩ (jf K m W) (jf U nx V) ad).1;have b3:=O (Hh (ep:=c.epoch) (wn bw) Yo.once);have cn:ji ((fZ g.mem c.chg c.epoch).length<=1000000):=O (by rw[<-a5];have:=cq i;omega);clear a5 UO ZA
 go_upto_region 29 with fail
 go_wp2_with fail
 refine(JG (fZ g.mem c.chg c.epoch) b3 M (jf K m W) wr (by rw[b2];exact Zk) HR.sz' cn).mono ?_;rintro e f1 ⟨rfl,Ws,d⟩;have Vl:=O Ws;have Z5:=O d;have a6:ji (f1.heap[s+1+1]?=N (jh ((λv=>(aD ⟨F,B,H,[],[]⟩ v (jf U nx V)).toArray) (jf K m W)) 45 (0,0))):=O ((d.block (s+1+1) Yz).trans HR.box);have cu:ji (jo w w f1):=O (VZ.trans ((HR.but.below (n:=w.heap.size) (by rw[HG];omega) (ee Yz HG)).trans (d.mono (ee Yz HG))));have em:ji (∀k,k<s9.heap.size->k≠s+1+1->f1.heap[k]?=s9.heap[k]?):=O (λk hk hn=>(d.block k (by rw[ZH];exact hk)).trans (HR.but.block k (by rw[ZH];exact hk) hn));clear Ws d HR ck hd UY ct;obtain⟨d,hY⟩:=J ((λv=>(aD ⟨F,B,H,[],[]⟩ v (jf U nx V)).toArray) (jf K m W));have ba:d.size=36:=by rw[hY];exact(nr ⟨F,B,H,[],[]⟩ _ _ ad.out).2.2
 have bK:(jl.info? 45).map (·.size)=N d.size:=by rw[ba];kernel_rfl
 have bM:d.all (·.oneCell')=jk:=by
  rw[hY,p6];intro u hu;simp only[aD,wq,jD,jQ,qi,or_false]at hu
  rcases hu with rfl|rfl|hu|rfl|rfl
  ·rfl
  ·rfl
  ·exact iT _ u hu
  ·rfl
  rfl
 have a5:ji (f1.heap[s+1+1]?=N (jh d 45 (0,0))):=O (by rw[hY];exact a6);have b0:=O hY;have YA:=O bK;have ct:=O bM;clear hY ba bK bM a6
 go_upto_region 30 with fail
 refine jY ?_;refine eB (v:=jn d) aj (cU jI I YA I I a5) (L ?_);refine jO I λ_ r=>j8 45 _ _ I (s+1+1) d I I 45 _ a5.out YA I ct (r _ _ ?_)
 clear r;refine L ?_;refine eh ?_;rename_i KR Zz XR;refine Zz _ _ ?_;refine wp_ret ?_;show o3 _ _ P .ret _ _;refine n0 (fQ I _ _ (s+1+1) 45 d (0,0) _ I (j4 _ _ _ _ _ _ a5.out) jI I YA) I (HP _ _ ⟨λ_=>⟨jf K m W,jf U nx V,?_,cw _ _ _ ?_ ?_,b1,ed⟩,λh=>jA eg h,ob cu.out (by rw[HG];omega) _⟩)
 ·rw[b0]
  have h1:(λv=>(aD ⟨F,B,H,[],[]⟩ v (jf U nx V)).toArray) (jf K m W)=(aD NG (jf K m W) (jf U nx V)).toArray:=by
   show(aD ⟨F,B,H,[],[]⟩ _ _).toArray=_;rw[bv,bl];exact jR List.toArray (cv H bm _ _)
  exact jR (λz=>Ending.returned (jZ #[jn z,jc jd 0])) h1
 ·rw[rx a5]
  exact Vl
 have h2:(f1.setRow (s+1+1) d).heap[s+1+1]?=N (jh ((λv=>(aD ⟨F,B,H,[],[]⟩ v (jf U nx V)).toArray) (jf K m W)) 45 (0,0)):=(j4 f1 (s+1+1) d _ _ _ a5.out).trans (jR (λz=>N (Obj.cells z 45 (0,0))) b0);have h3:bJ (f1.setRow (s+1+1) d) (jf U nx V) (gq (aX g.tree c.chg) au c.path):=ce.ints (uN (i:=34) (X:=(λv=>(aD ⟨F,B,H,[],[]⟩ v (jf U nx V)).toArray) (jf je 0 0)) ay h2 (λj hj=>Nv ⟨F,B,H,[],[]⟩ _ _ _ ad.out j hj) (nr ⟨F,B,H,[],[]⟩ _ _ ad.out).1 (λk hk hn=>(qk _ _ _ _ hn).trans (em k hk hn)));rw[a4]at h3;exact h3
section
open Go.RowKit Go.Maps Go.Sort Go.Shelf
theorem Sj(c B:js jb)(a b:ja)(f:c[106]?=N (jc jd a))(g:B[106]?=N (jc jd b))(w:jg):
 jz jl 165 #[jn c,jn B] w λe w'=>e=jw (jc jd (cE a b))/\w'=(w.alloc (jh c 80)).alloc (jh B 80):=by
 have d:=O (tQ a b)
 go_enter func165,ntmps165
 go_wp2_with fail
 refine(d _).mono ?_;rintro e h ⟨rfl,rfl⟩
 go_wp2_with fail
 go_ret;exact⟨I,I⟩
theorem Jz(c B:js jb)(a b:ja)(f:c[35]?=N (jc jd a))(g:B[35]?=N (jc jd b))(w:jg):
 jz jl 166 #[jn c,jn B] w λe w'=>e=jw (jc jd (cE a b))/\w'=(w.alloc (jh c 80)).alloc (jh B 80):=by
 have d:=O (tQ a b)
 go_enter func166,ntmps166
 go_wp2_with fail
 refine(d _).mono ?_;rintro e h ⟨rfl,rfl⟩
 go_wp2_with fail
 go_ret;exact⟨I,I⟩
theorem Lj(c B:js jb)(a b:LBy)(k:a.length=32)(lb:b.length=32)(h:∀(j:T) v,(a.map v8)[j]?=N v->c[74+j]?=N v)(i:∀(j:T) v,(b.map v8)[j]?=N v->B[74+j]?=N v)(w:jg):
 jz jl 167 #[jn c,jn B] w λe w'=>e=jw (jc jd (dC a b))/\∃q,w'=((w.alloc (jh c 80)).alloc (jh B 80)).drewN q:=by
 obtain⟨d,f⟩:=J ((w.alloc (jh c 80)).alloc (jh B 80));have n:=O h;have o:=O i;have g:=O f;rw[<-f];clear h i f;have p:ji (∀W,W=d.drew->W.rangeAt w.heap.size 74 (a.map v8)):=O (by
  rintro W rfl j v f;rw[g];exact(World.cell?_alloc2_first c _ _ _).trans (n j v f))
 have r:ji (∀W,W=d.drew->W.rangeAt (w.heap.size+1) 74 (b.map v8)):=O (by
  rintro W rfl j v f;rw[g];exact(World.cell?_alloc2_new _ B _ _).trans (o j v f))
 go_enter func167,ntmps167
 go_upto_region 1 with fail
 rw[<-g];refine o5 ?_;refine di (λ_=>True) (.t 0 (.t 1 (.t 2 (.t 3 (.o 4 (.t 5 .done)))))) af af af G (λ_ _ _ _ h=>h) trivial ?_;obtain⟨i,f⟩:=J d.drew;rw[<-f];have h:=O f;clear f;iterate 4 refine aQ ?_
 refine aE I (λj f=>?_);go_simp;refine(Qf (l:=a) (m:=b) (p i h) (r i h) 32 32 32 32 k.symm lb.symm).mono ?_;rintro e j ⟨rfl,rfl⟩;refine f _ _ trivial λ_=>?_
 clear f;refine L ?_;refine aQ ?_;refine qj ?_
 go_wp2_with fail
 go_ret;exact⟨I,1,h⟩
def pF(r:T->ja):ja:=if r 0≠0 then r 0 else if r 1≠0 then r 1 else r 2
theorem O4{r:T->ja}(b:M<3)(h:∀j,j<M->r j=0)(a:r M≠0):pF r=r M:=by
 unfold pF
 rcases(by omega:M=0\/M=1\/M=2)with rfl|rfl|rfl
 ·rw[jp a]
 ·rw[jq (by rw[h 0 G];decide),jp a]
 rw[jq (by rw[h 0 G];decide),jq (by rw[h 1 G];decide)]
theorem TC{r:T->ja}(h:∀j,j<3->r j=0):pF r=0:=by
 unfold pF;rw[jq (by rw[h 0 G];decide),jq (by rw[h 1 G];decide),h 2 G]
theorem Grw.cell(h:Grw w w'){a:jM}{v:jb}(b:w.cell? a=N v):w'.cell? a=N v:=(dY (h.heap (gg b))).trans b
theorem KI(a B:js jb)(j:a.size=143)(m:B.size=143)(F:T->T)(r:T->ja)(n:∀k,k<3->∀args w,(r7 (F k) args).run jl w=.ok (.enter (F k) args) w)
 (o:∀k,k<3->∀W,jz jl (F k) #[jn a,jn B] W λe w'=>e=jw (jc jd (r k))/\Grw W w') (w:jg) (p l:T)
 (q:w.cell? ⟨p,0,je⟩=N (jf (N ⟨l,0,je⟩) 3 3)) (s:∀k,k<3->w.cell? ⟨l,k,je⟩=N (.func (.func (F k)) #[] #[])):
 jz jl 222 #[jn a,jn B,jG (N ⟨p,0,je⟩)] w λe w'=>e=jw (jc jd (pF r))/\Grw w w':=by
 have i:(jl.info? 80).map (·.size)=N 143:=by kernel_rfl
 have E:ji ((jl.info? 80).map (·.size)=N a.size):=O (by rw[j];exact i);have H:ji ((jl.info? 80).map (·.size)=N B.size):=O (by rw[m];exact i);obtain⟨c,b⟩:=J ((w.alloc (jh a 80)).alloc (jh B 80));obtain⟨g,d⟩:=J w.heap.size;have f:Grw w c:=by rw[b];exact(Grw.alloc _ _).trans (Grw.alloc _ _)
 have t:c.heap[g]?=N (jh a 80 (0,0)):=by rw[b,d];exact av (jC w _) (ao _ _)
 have u:c.heap[g+1]?=N (jh B 80 (0,0)):=by
  have h:=jC (w.alloc (jh a 80)) (jh B 80);rw[jK]at h;rw[b,d];exact h
 have z:=f.cell q;have K:ji (∀k,k<3->c.cell? ⟨l,k,je⟩=N (.func (.func (F k)) #[] #[])):=O λk v=>f.cell (s k v)
 have x:=O f;have M:=O t;have P:=O u;have y:=O (And.intro b d);have Q:=O n;have R:=O o;clear j m i b d f t u n o q s
 go_enter func222,ntmps222
 go_upto_region 1 with fail
 rw[<-y.1,<-y.2]
 go_wp2_with fail
 clear z
 go_loopw [11] (λi wr=>∃k:T,i=jc jd k/\k<=3/\ji (∀j,j<k->r j=0)/\ji (Grw c wr)) (λi _=>3-(jF i).toNat)
 case atStart=>exact⟨0,I,by omega,O (λj q=>jA q (qO j)),O (Grw.refl _)⟩
 obtain⟨k,rfl,v,m,d⟩:=hrel
 by_cases i:k<3
 case neg=>
  have S:=az ((k:ja)<3);have U:=az (k<3);obtain rfl:k=3:=Y;have b:=O (TC m)
  go_wp2_with fail
  go_ret;exact⟨by rw[b];rfl,x.trans d⟩
 have S:=aA ((k:ja)<3);have U:=aA (k<3);have s:=d.cell (K k i);have t:=Q k i;have b:=O (R k i);have u:ji (wr.heap[g]?=N (jh a 80 (0,0))):=O (d.keep M);have z:ji (wr.heap[g+1]?=N (jh B 80 (0,0))):=O (d.keep P);have C:ji (r k≠0->pF r=r k):=O (O4 i m);obtain⟨n,o⟩:=J (r k);obtain⟨f,D⟩:=J (F k);rw[<-D]at s t b;rw[<-o]at b C;have V:=O o;clear D o
 go_wp2_with (first|(refine eB aj (cU qX I E I I u) (L ?_))|(refine eB aj (cU qX I H I I z) (L ?_)))
 refine(b wr).mono ?_;rintro e W ⟨rfl,o⟩;have D:=O (d.trans o);clear o s t b u z
 by_cases b:n=0
 case neg=>
  have o:(n !=0)=jk:=ak b;have s:=O (C b);clear b
  go_wp2_with fail
  go_ret;exact⟨by rw[s];rfl,x.trans D⟩
 have o:(n !=0)=jr:=ak b;have s:ji (∀j,j<k+1->r j=0):=O λj q=>by
  rcases(by omega:j<k\/j=k)with h|rfl
  ·exact m j h
  rw[<-V];exact b
 clear b
 go_wp2_with fail
 exact⟨⟨k+1,by go_num,by omega,s,D⟩,by simp only[jF];omega⟩
end
section
open Go.RowKit Go.Maps Go.Sort Go.Shelf
def Dg:T->T
 |0=>165
 |1=>166
 |_=>167
structure lA(w:jg)(b a:T):Prop where
 var:w.cell? ⟨b,0,je⟩=N (jf (N ⟨a,0,je⟩) 3 3)
 fns:∀k,k<3->w.cell? ⟨a,k,je⟩=N (.func (.func (Dg k)) #[] #[])
theorem lA.below{a b:T}(h:lA w a b)(c:jo w w w'):lA w' a b:=⟨aB h.var c,λk d=>aB (h.fns k d) c⟩
theorem lA.lt(h:lA w M R):M<w.heap.size/\R<w.heap.size:=⟨gg h.var,gg (h.fns 0 G)⟩
theorem Sy(p:jv jM)(n c:T)(w:jg):jz jl 164 #[jf p n c] w λe w'=>e=jw (.func (.func 222) #[] #[jG (N ⟨w,0,je⟩)])/\w'=w.alloc (jh #[jf p n c] 319):=by
 go_enter func164,ntmps164
 go_wp2_with fail
 go_ret;exact⟨I,I⟩
theorem Ng(w:jg):jz jl 111 #[] w λe w'=>∃d h,e=jw (.func (.func 222) #[] #[jG (N ⟨d,0,je⟩)])/\lA w' d h/\w.heap.size<=d/\w.heap.size<=h/\jo w w w':=by
 go_enter func111,ntmps111
 go_wp2_with fail
 refine(Sy _ _ _ _).mono ?_;rintro e m ⟨rfl,rfl⟩;obtain⟨a,f⟩:∃a:Obj,a=(jh #[.func (.func 165) #[] #[],.func (.func 166) #[] #[],.func (.func 167) #[] #[]] 188):=⟨_,I⟩;have b:=av (jC w a) (ao _ (jh #[jf (N ⟨w,0,je⟩) 3 3] 319));have c:=jC (w.alloc a) (jh #[jf (N ⟨w,0,je⟩) 3 3] 319);have g:=(ao w a).trans ((ao (w.alloc a) (jh #[jf (N ⟨w,0,je⟩) 3 3] 319)).mono ar);rw[<-f];generalize i:(w.alloc a).alloc (jh #[jf (N ⟨w,0,je⟩) 3 3] 319)=W at b c g⊢;rw[f]at b;rw[jK]at c;have j:ji (lA W (w.heap.size+1) w.heap.size):=O ⟨ai c I,λk n=>ai b (by rcases(by omega:k=0\/k=1\/k=2)with rfl|rfl|rfl<;>rfl)⟩;have l:=O g;clear b c g i f
 go_wp2_with fail
 go_ret;exact⟨_,_,I,j,by omega,jE _,l⟩
def DT(x y:aN):T->ja
 |0=>cE x.since y.since
 |1=>cE x.com.author y.com.author
 |_=>dC x.id y.id
theorem Kw(x y:aN):pF (DT x y)=kS x y:=I
theorem OU{x y:CK}{c:A CP}(d:KD D c w x)(f:KD D c w y)(m:cC w u c){g n:T}(o:lA W g n):
 jz jl 222 (#[jn (aK x).toArray,jn (aK y).toArray]++ #[jG (N ⟨g,0,je⟩)]) W λe w'=>e=jw (jc jd (kS x.cand y.cand))/\∃q os,w'=grow (W.drewN q) os:=by
 have i:=d.kin m;have l:=f.kin m;obtain⟨-,p,-,r,-,-⟩:=mR i;obtain⟨-,s,-,t,-,-⟩:=mR l;rw[<-Kw];refine KI (aK x).toArray (aK y).toArray (by rw[jL,i.len]) (by rw[jL,l.len]) Dg (DT x.cand y.cand) (λk a=>?_) (λk a w0=>?_) W g n o.var o.fns
 ·rcases(by omega:k=0\/k=1\/k=2)with rfl|rfl|rfl
  ·exact r8 func165 af I
  ·exact r8 func166 af I
  exact r8 func167 af I
 rcases(by omega:k=0\/k=1\/k=2)with rfl|rfl|rfl
 ·refine(Sj _ _ x.since y.since (ak r) (ak t) w0).mono ?_
  rintro e w' ⟨rfl,rfl⟩;exact⟨I,(Grw.alloc _ _).trans (Grw.alloc _ _)⟩
 ·refine(Jz _ _ x.p.1.author y.p.1.author (ak p) (ak s) w0).mono ?_
  rintro e w' ⟨rfl,rfl⟩;exact⟨I,(Grw.alloc _ _).trans (Grw.alloc _ _)⟩
 refine(Lj _ _ x.id y.id d.idl f.idl (λj v a=>?_) (λj v a=>?_) w0).mono ?_
 ·have b:=(jV.1 a).1
  rw[ju,d.idl]at b;have h:=BI i b
  simpa using h.trans a
 ·have b:=(jV.1 a).1
  rw[ju,f.idl]at b;have h:=BI l b
  simpa using h.trans a
 rintro e w' ⟨rfl,q,rfl⟩;exact⟨I,((Grw.alloc _ _).trans (Grw.alloc _ _)).trans (Grw.drewN _ _)⟩
end
section
open Go.RowKit Go.Maps Go.Sort Go.Shelf
theorem lU{q:CQ}(h:aS D w p q):∀v∈aF p q,v.oneCell'=jk:=by
 obtain⟨f,g,a⟩:=h.chg.form;obtain⟨i,j,b⟩:=h.path.form;obtain⟨s,k,-⟩:=h.box;obtain⟨l,m,d⟩:=k.form;obtain⟨t,n,-⟩:=h.wel;obtain⟨o,c,e⟩:=n.form;obtain⟨u,x,y,z⟩:=q;dsimp only at a b d e;subst a b d e;have h:=zQ p f i l o p.chg.length p.path.length p.box.length p.wel.length g j m c;rw[p6]at h;exact λv r=>h v (ak r)
theorem KD.ones{b:A CP}{k:CK}(h:KD D b w k)(d:cC W u b):∀v∈aK k,v.oneCell'=jk:=by
 intro v a;unfold aK at a;rw[jD,jQ,jQ,jD]at a
 rcases a with rfl|a|a|rfl|a
 ·rfl
 ·exact lU (d.all _ (j1 h.at_)) v a
 ·exact im _ v a
 ·rfl
 obtain⟨p,c,e,-,-⟩:=h.grp.grp.mem.form;obtain⟨g,n',i,f⟩:=gN h.grp.grp.tree;rw[e,f]at a;unfold aD at a;rw[jD,jD,jQ]at a
 rcases a with rfl|rfl|a|a
 ·rfl
 ·rfl
 ·exact im _ v a
 simp only[jD,xM,or_false]at a
 rcases a with rfl|rfl<;>rfl
abbrev CW:={k:CK//(aK k).length=143/\∀u∈aK k,u.oneCell'=jk}
def EKK:EK CW:=⟨λk=>aK k.1,143,80,by decide,λk=>k.2.1,λk v a=>k.2.2 v a⟩
theorem Gd(l:A CW):EKK.flat l=(l.map (·.1)).flatMap aK:=by rw[xC];rfl
def KD.cw{D:T->Prop}{a:A CP}{w w0:jg}{v:jb}{k:CK}(h:KD D a w k)(b:cC w0 v a):CW:=⟨k,h.len b,h.ones b⟩
def mu(l:A CW):A CW:=l.mergeSort λx y=>leC x.1.cand y.1.cand
theorem Tt(l:A CW):(mu l).map (λk=>k.1.cand)=(l.map λk=>k.1.cand).mergeSort leC:=
 xN λ_ _ _ _=>rfl
theorem Nt{l:A CW}{x:CW}:x∈mu l↔x∈l:=(ms _ _).mem_iff
theorem TR(l:A CW):(mu l).length=l.length:=(ms _ _).length_eq
theorem Pk(l:A CW)(F:(l.map λk=>k.1.id).Nodup)(p g n c:T)(w W:jg)(h:du EKK p w W g n c l)(P:n<=1000000){w0:jg}{D:T->Prop}{q:A CP}{v:jb}(d:∀x∈l,KD D q w0 x.1)(H:cC w0 v q)
 {i t:T} (j:lA W i t) (K:i≠g) (M:t≠g):
 jz jl 110 #[jf (N ⟨g,0,je⟩) n c,.func (.func 222) #[] #[jG (N ⟨i,0,je⟩)]] W λe w'=>
  e=jw (jZ #[])/\EKK.At w' (jf (N ⟨g,0,je⟩) n c) (mu l)/\jo p W w'/\W.heap.size<=w'.heap.size/\∀k,k<W.heap.size->k≠g->w'.heap[k]?=W.heap[k]?:=by
 rcases Nat.eq_zero_or_pos n with u|u
 ·subst u
  obtain rfl:l=[]:=xO h.len.symm;refine(Tryzx.sortFunc_noneK _ c _ W).mono ?_;rintro e w' ⟨rfl,rfl⟩;have e:mu []=[]:=by unfold mu;simp
  rw[e];exact⟨I,h.at,j9 _ _,jE _,λ_ _ _=>rfl⟩
 have o:l≠[]:=λe=>by have:=h.len;rw[e]at this;simp at this;omega
 haveI:Inhabited {x//x∈l}:=⟨⟨l.head o,List.head_mem o⟩⟩
 have B:=Tx.on (λx:{x//x∈l}=>x.1.1.cand);have C:=AnyQ.slices_SortFunc_total (α:={x//x∈l}) Tryzx.laysK 143 isAgg80 sizeOf80 (λx=>EKK.cells x.1) (λx=>EKK.len x.1) (λx v a=>EKK.one x.1 v a) (λx y=>kS x.1.1.cand y.1.1.cand) B.swo 222 #[jG (N ⟨i,0,je⟩)] g 0 c l.attach.toArray W
  (r8 func222 af rfl)
  (λm os a _ x y=>OU (d x.1 x.2) (d y.1 y.2) H ⟨(dY (zX j.lt.1 K)).trans j.var,λk d=>(dY (zX j.lt.2 M)).trans (j.fns k d)⟩)
  h.holds h.lt.2 (by rw[jL,wx,<-h.len];omega)
  (λx y a b=>Subtype.ext (FJ F x.1 x.2 y.1 y.2 (by
   have e:=B.tot a b;exact jR (λz=>z.2.2) e)))
 rw[jL,wx,<-h.len]at C;refine C.mono ?_;rintro e w' ⟨rfl,m,os,rfl⟩;have z:((l.attach.mergeSort λx y=> !ltOf (λx y:{x//x∈l}=>kS x.1.1.cand y.1.1.cand) y x).map Subtype.val)=mu l:=by
  refine(xN (r:=λx y:{x//x∈l}=> !ltOf (λx y:{x//x∈l}=>kS x.1.1.cand y.1.1.cand) y x) (s:=λx y:CW=>leC x.1.cand y.1.cand) (f:=Subtype.val) (λa _ b _=>rfl)).trans ?_;rw[xP]
  rfl
 have a:=holdsK_sortWorldK (λx:{x//x∈l}=>EKK.cells x.1) 143 W g 0 m l.attach.toArray (l.attach.mergeSort λx y=> !ltOf (λx y:{x//x∈l}=>kS x.1.1.cand y.1.1.cand) y x).toArray os h.lt.2 h.holds (by simp[(ms _ _).length_eq]);refine⟨I,?_,AR h.lt.1 (cT h.lt),OL,λk d o=>zX d o⟩;rw[<-z];exact Bo (E:=EKK) a (by rw[ju,(ms _ _).length_eq,wx];exact h.len) h.cap
end
section
open Go Go.RowKit Go.Maps
def dgV(d:LBy):jb:=jn (d.map v8).toArray
theorem FF{a b:LBy}(h:dgV a=dgV b):a=b:=by
 unfold dgV at h;injection h with h
 have c:=jR Array.toList h;rw[r6,r6]at c;refine(List.map_inj_right (λx y e=>?_)).1 c;injection e with _ e
 exact wv Y
def ei(w:jg)(b:T)(S:A (LBy)):Prop:=
 ∃a c,w.heap[b]?=N (.map a c)/\a.toList.map MapEntry.key=S.map dgV/\(∀x∈a.toList,x.val=.bool jk)/\∀d∈S,d.length=32
theorem ei.made(w:jg):ei (w.alloc (.map #[] 0)) w.heap.size []:=⟨#[],0,jC _ _,I,ar,ar⟩
theorem ei.keep{w w':jg}{b:T}{S:A (LBy)}(h:ei w b S)(a:w'.heap[b]?=w.heap[b]?):ei w' b S:=by
 obtain⟨c,d,e,f⟩:=h;exact⟨c,d,a.trans e,f⟩
theorem ei.lt{w:jg}{b:T}{S:A (LBy)}(h:ei w b S):b<w.heap.size:=by
 obtain⟨c,d,a,-⟩:=h;exact(jP.1 a).1
theorem ei.below{w w':jg}{b:T}{S:A (LBy)}(h:ei w b S)(a:jo w w w'):ei w' b S:=h.keep (a.block b h.lt)
section
variable {P:qa} {k e t:jt} {w:jg} {b:T} {S:A (LBy)}
structure ri(P:qa)(k:jt):Prop where
 law:WideMaps.KeyLaw P k
 key:∀d:LBy,d.length=32->∃l,keyOf P k (dgV d)=N l
theorem ei.keys(K:ri P k){a:js MapEntry}(c:a.toList.map MapEntry.key=S.map dgV)(f:∀d∈S,d.length=32):∀x∈a.toList,∃l,keyOf P k x.key=N l:=λx d=>by
 have h:x.key∈a.toList.map MapEntry.key:=jy.2 ⟨x,d,I⟩;rw[c]at h;obtain⟨b,g,e⟩:=jy.1 h;rw[<-e];exact K.key b (f b g)
theorem ei.look(h:ei w b S)(K:ri P k)(m:P.underlying t=N (.map k e))(q:(zeroValue e).run P w=.ok (.bool jr) w){d:LBy}(r:d.length=32):
 (Instr.lookup t (.map (N b)) (jn (d.map v8).toArray) jr).run P w=.ok (.bool (decide (d∈S))) w:=by
 show(Instr.lookup t (.map (N b)) (dgV d) jr).run P w=_;obtain⟨n,B,o,a,s,u⟩:=h;obtain⟨l,c⟩:=K.key d r
 rcases K.law.find w c n.toList (ei.keys K a u)with⟨f,g⟩|⟨j,i,f,g,v⟩
 ·have p:d∉S:=λy=>by
   have h:dgV d∈n.toList.map MapEntry.key:=by rw[a];exact jy.2 ⟨d,y,I⟩
   obtain⟨x,z,e⟩:=jy.1 h;exact g x z e
  rw[decide_eq_false p];simp[Instr.lookup,qI m,MapKept.run_getObj_map o,K.law.check w _ c,f,q,Result.andThen]
 have p:=j1 g;have x:d∈S:=by
  have h:i.key∈S.map dgV:=by rw[<-a];exact jy.2 ⟨i,p,I⟩
  obtain⟨z,y,e⟩:=jy.1 h;rw[v]at e;rw[<-FF e];exact y
 rw[xi x];simp[Instr.lookup,qI m,MapKept.run_getObj_map o,K.law.check w _ c,f,s i p,Result.andThen]
theorem ei.put(h:ei w b S)(K:ri P k)(z:P.underlying t=N (.map k e)){d:LBy}(B:d.length=32):
 ∃n,(Instr.mapUpdate t (.map (N b)) (jn (d.map v8).toArray) (.bool jk)).run P w=.ok () n/\ei n b (if d∈S then S else S++[d])/\dw b w.heap.size w n:=by
 show∃n,(Instr.mapUpdate t (.map (N b)) (dgV d) (.bool jk)).run P w=.ok () n/\_;obtain⟨c,s,f,p,C,u⟩:=h;obtain⟨l,q⟩:=K.key d B;have D:∀o,dw b w.heap.size w (ChangeMaps.setBlock w b o):=λo=>⟨I,I,I,by simp[ChangeMaps.setBlock],λg _ H=>ChangeMaps.heap_setBlock_other f o H⟩
 rcases K.law.find w q c.toList (ei.keys K p u)with⟨v,m⟩|⟨j,r,v,m,y⟩
 ·have F:d∉S:=λM=>by
   have h:dgV d∈c.toList.map MapEntry.key:=by rw[p];exact jy.2 ⟨d,M,I⟩
   obtain⟨x,a,e⟩:=jy.1 h;exact m x a e
  refine⟨ChangeMaps.setBlock w b (.map (c.push ⟨dgV d,.bool jk,s⟩) (s+1)),?_,?_,D _⟩
  ·simp[Instr.mapUpdate,qI z,MapKept.run_getObj_map f,K.law.check w jr q,v,MapKept.run_setObj_map _ f,Result.andThen,ChangeMaps.setBlock]
  rw[jq F];refine⟨_,_,ChangeMaps.heap_setBlock_same f _,?_,?_,?_⟩
  ·rw[xQ,j5,j5,p];rfl
  ·intro x a
   rw[xQ,jQ,qh]at a
   rcases a with a|rfl
   ·exact C x a
   rfl
  intro E i;rw[jQ,qh]at i
  rcases i with i|rfl
  ·exact u E i
  exact B
 have M:=j1 m;have Q:c[j]?=N r:=ak m;have R:d∈S:=by
  have h:r.key∈S.map dgV:=by rw[<-p];exact jy.2 ⟨r,M,I⟩
  obtain⟨E,i,e⟩:=jy.1 h;rw[y]at e;rw[<-FF e];exact i
 have E:(c.modify j (λi=>{i with key:=dgV d,val:=.bool jk})).toList=c.toList.set j {r with key:=dgV d,val:=.bool jk}:=by rw[Array.toList_modify,ChangeMaps.modify_eq_set _ _ _ _ m]
 refine⟨ChangeMaps.setBlock w b (.map (c.modify j (λi=>{i with key:=dgV d,val:=.bool jk})) s),?_,?_,D _⟩
 ·simp[Instr.mapUpdate,qI z,MapKept.run_getObj_map f,K.law.check w jr q,v,Q,y,K.law.stays w q,MapKept.run_setObj_map _ f,Result.andThen,ChangeMaps.setBlock]
 rw[jp R];refine⟨_,_,ChangeMaps.heap_setBlock_same f _,?_,?_,u⟩
 ·rw[E,List.map_set,<-p]
  refine vi λi=>?_
  by_cases F:i=j
  ·subst F
   have U:=(jV.1 m).1;rw[xk (ak U),o8,m,qY,y]
  rw[List.getElem?_set_ne (Ne.symm F)]
 intro x a;rw[E]at a
 rcases List.mem_or_eq_of_mem_set a with a|rfl
 ·exact C x a
 rfl
end
end
section
open Go Go.RowKit Go.Maps
theorem Og{P:qa}{t:jt}{n:T}{k:IntKind}(f:P.underlying t=N (.array n e))(he:P.underlying e=N (.int k))(h:P.cellsOf t=n)(j:P.cellsOf e=1)(m:T)(b:A ja)(d:b.length=n)(o:∀c∈b,(Lit.int k c).wf=jk):
 P.keyLits (m+2) t (b.map (jj k))=N (b.map (Lit.int k)):=by
 have p:∀i∈qc n,P.keyLits (m+1) e (((b.map (jj k)).drop (i*1)).take 1)=N [Lit.int k (b.getD i 0)]:=λi c=>by
  have a:i<b.length:=by rw[d];exact sx.1 c
  have l:((b.map (jj k)).drop (i*1)).take 1=[jj k b[i]]:=by
   rw[Nat.mul_one,<-List.map_drop,<-List.map_take,qv a,xw,sy,jT,ql]
  have q:b.getD i 0=b[i]:=by simp[qy,a]
  rw[l,q];unfold Program.keyLits;rw[he];simp[o _ (q9 a)]
 unfold Program.keyLits;rw[f];simp only[ju,d,h,j,if_true];rw[Ba (g:=λi=>[Lit.int k (b.getD i 0)]) _ p];simp only[qY,qZ.injEq];have q:∀(l:A T),(l.map λi=>[Lit.int k (b.getD i 0)]).flatten=l.map λi=>Lit.int k (b.getD i 0):=λl=>by
  induction l with
  |nil=>rfl
  |cons a l r=>rw[jT,xB,r];rfl
 rw[q]
 apply vi
 intro i;rw[o8,o8]
 by_cases c:i<n
 ·rw[List.getElem?_range c,mz Y]
  have:i<b.length:=Y;simp[qy,this]
 rw[wi (by simp;omega),wi Y]
 rfl
theorem vy:ri jl 23 where
 law:=deep_law (m:=2) G af af af
 key:=λd a=>by
  have f:=Og (P:=jl) (t:=23) (e:=5) (n:=32) (k:=.u8) qd xg af af (jl.types.size-1) (d.map λb=>(b.toNat:ja)) (by rw[ju];exact a) (by
   intro c g;obtain⟨y,-,rfl⟩:=jy.1 g;have:=y.isLt;exact WalkArith.wf_u8 Y)
  have c:jl.types.size-1+2=jl.types.size+1:=by kernel_rfl
  have e:(d.map λb=>(b.toNat:ja)).map (jj .u8)=d.map v8:=by rw[ow];rfl
  rw[c,e]at f;have g:(jl.keyType 23&&(dgV d).formed jl 23)=jk:=by
   rw[xt];refine⟨by kernel_rfl,?_⟩;unfold Value.formed dgV;rw[qd];simp[a]
   kernel_rfl
  refine⟨.string (keyBytes ((d.map λb=>(b.toNat:ja)).map (Lit.int .u8))),?_⟩;unfold keyOf;rw[qd];dsimp only;rw[jp g];show((jl.keyLits (jl.types.size+1) 23 (d.map v8).toArray.toList).map λb=>Lit.string (keyBytes b))=_;rw[r6,f]
  rfl
end
section
variable{f:jb}
noncomputable def VC:VarT jl:=⟨34,73,(aF mU nN).toArray,_,qV,I,mX,by rw[jL];exact dx _ _ G G,λ_=>by kernel_rfl⟩
noncomputable def VD:VarT jl:=⟨23,32,(qs 32 (jj .u8 0)).toArray,_,qd,I,vC,by simp,λ_=>by kernel_rfl⟩
noncomputable def VP:VarT jl:=⟨76,3,#[jf je 0 0,jf je 0 0,jf je 0 0],_,underlying76,I,by kernel_rfl,rfl,λ_=>by kernel_rfl⟩
noncomputable def RI:dQ jl:=.of 28 3 1 8 (jc jd 0) xh af I G G G
noncomputable def RD:dQ jl:=.of 74 23 32 32 (jn (qs 32 (jj .u8 0)).toArray) underlying74 af (by simp[qT]) G G G
theorem dl(W:jg)(C:js jb)(t:jt):∃x b,x=W.alloc (jh C t)/\b=W.heap.size/\ji (x.heap[b]?=N (jh C t (0,0)))/\jo W W x:=⟨_,_,I,I,jC W _,ao W _⟩
def gm(l:A Cmt)(n:T):A (LBy):=(bH l n).map λi=>aG (aP l i)
theorem AO{l:A Cmt}{d:LBy}:∀{n:T},d∈gm l n↔∃i,i<n/\aG (aP l i)=d
 |0=>by
  unfold gm bH;simp
 |n+1=>by
  have a:=AO (l:=l) (d:=d) (n:=n);unfold gm at a⊢;rw[mS,j5,jQ,a]
  constructor
  ·rintro(⟨i,b,e⟩|h)
   ·exact⟨i,by omega,e⟩
   split at h
   ·rw[jT,ql,qh]at h
    exact⟨n,by omega,h.symm⟩
   cases h
  rintro⟨i,b,e⟩
  by_cases c:i<n
  ·exact .inl ⟨i,c,e⟩
  obtain rfl:i=n:=Y
  by_cases h:∀j,j<i->aG (aP l j)≠aG (aP l i)
  ·right
   rw[jp h];simp[e]
  left
  have⟨j,hj⟩:=Classical.not_forall.1 h;have⟨h1,h2⟩:=Classical.not_imp.1 hj;exact⟨j,h1,(Classical.not_not.1 h2).trans e⟩
theorem Cv{l:A Cmt}{n:T}(h:aG (aP l n)∉gm l n):bH l (n+1)=bH l n++[n]:=by
 rw[mS,jp λj a e=>h (AO.2 ⟨j,a,e⟩)]
theorem Hq{l:A Cmt}{n:T}(h:aG (aP l n)∈gm l n):bH l (n+1)=bH l n:=by
 rw[mS,jq,qx];intro a;obtain⟨j,b,e⟩:=AO.1 h;exact a j b e
theorem BN(l:A Cmt)(n:T):(if aG (aP l n)∈gm l n then gm l n else gm l n++[aG (aP l n)])=gm l (n+1):=by
 by_cases h:aG (aP l n)∈gm l n
 ·rw[jp h];unfold gm;rw[Hq h]
 rw[jq h];unfold gm;rw[Cv h,j5];rfl
theorem sd(l:A Cmt)(n:T):(bH l n).length<=n:=by
 unfold bH;exact jH (qP _ _) ar
def iX(l:A Cmt)(P:A T):A jb:=P.flatMap λi=>(aG (aP l i)).map v8
def iV(P:A T):A jb:=P.map λi=>jc jd (i:T)
structure io(D:T->Prop)(w:jg)(b c d:jb)(a:A CP):Prop where
 list:cC w b a
 ids:aH D w c 32 (bH (a.map (·.1)) a.length).length (iX (a.map (·.1)) (bH (a.map (·.1)) a.length))
 at_:aH D w d 1 (bH (a.map (·.1)) a.length).length (iV (bH (a.map (·.1)) a.length))
structure PSt(M b m:T)(f:jb)(l:A Cmt)(i j:T)(k:T)(a c:jv jM)(d e:T)(W:jg):Prop where
 box:W.heap[b]?=N (jh #[f,jf a k d,jf c k e] 76 (0,0))
 ids:W.ownsRow M RD.e RD.k (jf a k d) k (iX l (bH l i))
 at_:W.ownsRow M RI.e RI.k (jf c k e) k (iV (bH l i))
 map:ei W m (gm l j)
 len:k=(bH l i).length
 lb:M<=b
 lm:M<=m
theorem PSt.below{M b m:T}{c:jb}{l:A Cmt}{i j k:T}{d e:jv jM}{f g:T}{W n:jg}(h:PSt M b m c l i j k d e f g W)(a:jo W W n):PSt M b m c l i j k d e f g n:=
 ⟨av h.box a,cK h.ids a,cK h.at_ a,h.map.below a,h.len,h.lb,h.lm⟩
theorem Bd{W:jg}{M:T}{e:jt}{sz n:T}{xs:A jb}(h:W.ownsRow M e sz f n xs){g:T}(a:f.ownBlock=N g):∃b,W.heap[g]?=N (jh b e (0,0)):=by
 rcases h.2 with⟨c,-⟩|⟨g',v,b,c,i,d,-⟩
 ·rw[c]at a;cases a
 rw[c]at a;cases a;exact⟨b,d⟩
theorem cQ{W:jg}{M:T}{e t:jt}{sz n:T}{xs:A jb}(h:W.ownsRow M e sz f n xs){b:T}{c:js jb}{d:T×T}(v:W.heap[b]?=N (jh c t d))(g:e≠t):f.ownBlock≠N b:=λi=>by
 obtain⟨j,a⟩:=Bd h i;rw[v]at a;injection a with a
 injection a with _ a
 exact g a.symm
theorem AQ{W:jg}{M a:T}{e t:jt}{sz n b n':T}{u:jb}{xs ys:A jb}(h:W.ownsRow M e sz f n xs)(c:W.ownsRow a t b u n' ys)(d:e≠t):∀k,f.ownBlock=N k->u.ownBlock≠N k:=λk v g=>by
 obtain⟨j,i⟩:=Bd c g;exact cQ h i d v
theorem uH{W:jg}{M:T}{e:jt}{sz n:T}{xs:A jb}(h:W.ownsRow M e sz f n xs){b:T}{S:A (LBy)}(c:ei W b S):f.ownBlock≠N b:=λd=>by
 obtain⟨g,a⟩:=Bd h d;obtain⟨i,j,v,-⟩:=c;rw[v]at a
 cases a
theorem PSt.put{M b m:T}{l:A Cmt}{i j k:T}{n o:jv jM}{p q:T}{W c:jg}(h:PSt M b m f l i j k n o p q W){r:T}(s:ei c m (gm l r))(d:dw m W.heap.size W c):PSt M b m f l i r k n o p q c:=by
 have t:b≠m:=λe=>by
  obtain⟨u,v,g,-⟩:=h.map;have a:=h.box;rw[e,g]at a
  cases a
 exact⟨(d.block b (jP.1 h.box).1 t).trans h.box,iz h.ids (λg a=>d.block g (h.ids.lt g a).2 λe=>uH h.ids h.map (e▸a)),
  iz h.at_ (λg a=>d.block g (h.at_.lt g a).2 λe=>uH h.at_ h.map (e▸a)),s,h.len,h.lb,h.lm⟩
theorem PSt.old{M b m:T}{l:A Cmt}{i k:T}{d h:jv jM}{a g:T}{W:jg}(c:PSt M b m f l i i k d h a g W)(j:aG (aP l i)∈gm l i):PSt M b m f l (i+1) i k d h a g W:=by
 have e:=Hq j;exact⟨c.box,by rw[e];exact c.ids,by rw[e];exact c.at_,c.map,by rw[e];exact c.len,c.lb,c.lm⟩
section
variable {P:qa} {ops:js jN} {Q:Exit->Act->jg->Prop} {k e t:jt} {w:jg} {b:T} {S:A (LBy)} {o:jN} {rest:A jN} {a:Act}
theorem Hz(h:ei w b S)(K:ri P k)(f:P.underlying t=N (.map k e))(g:(zeroValue e).run P w=.ok (.bool jr) w){d:LBy}(i:d.length=32){c:js jb}(j:c=(d.map v8).toArray)
 (l:o.guard=je) (m x:jW) (n:o.op=Op.lookup t m x jr) (p:a.eval m=.map (N b)) (q:a.eval x=jn c) (r:j6 P ops Q rest (a.put o.dst (.bool (decide (d∈S)))) w):j6 P ops Q (o::rest) a w:=by
 subst j;refine jO l λv s=>?_
 have u:=h.look K f g i;unfold Oper.wp;simp[o1,n,p,q,u,Result.andThen];exact s _ _ r
theorem C1(h:ei w b S)(K:ri P k)(f:P.underlying t=N (.map k e)){d:LBy}(g:d.length=32){c:js jb}(i:c=(d.map v8).toArray)
 (j:o.guard=je) (m x v:jW) (l:o.op=Op.mapUpdate t m x v) (n:a.eval m=.map (N b)) (p:a.eval x=jn c) (q:a.eval v=.bool jk)
 (r:∀w',ei w' b (if d∈S then S else S++[d])->dw b w.heap.size w w'->j6 P ops Q rest (a.put o.dst qe) w'):j6 P ops Q (o::rest) a w:=by
 subst i;refine jO j λB s=>?_
 obtain⟨w',u,y,z⟩:=h.put K f g;unfold Oper.wp;simp[o1,l,n,p,q,u,Result.andThen];exact s _ _ (r w' y z)
end
theorem pZ(s:A CP)(X:jb)(w:jg)(a:cC w X s)(c:∀p∈s,cY (aR p.1))(h:bQ w)(hn:s.length<=1000):
 jz jl 20 #[X] w λe w'=>∃v2 v3,e=jw (jn #[X,v2,v3])/\io (λg=>w.heap.size<=g/\g<w'.heap.size) w' X v2 v3 s/\jo w w w':=by
 obtain⟨t,f,rfl⟩:=a.form;obtain⟨l,hl⟩:∃l:A Cmt,l=s.map (·.1):=⟨_,I⟩;obtain⟨n,b⟩:=J s.length;have HL:=O a;have HE:=O c;have HT:=O h;have a1:=O hl;have ZJ:=O b;obtain⟨M,d⟩:=J w.heap.size;have x:=O d;rw[<-b]at hn⊢;have k:=ao w (jh #[jf je 0 0,jf je 0 0,jf je 0 0] 76);clear a c h hl b;have m:=@run_makeMap jl;have i:ji (∀W,W=((w.alloc (jh #[jf t n f,jf je 0 0,jf je 0 0] 76)).alloc (.map #[] 0))->PSt M M (M+1) (jf t n f) l 0 0 0 je je 0 0 W/\jo w w W):=O (by
  rintro W rfl;have a:=jC w (jh #[jf t n f,jf je 0 0,jf je 0 0] 76);have b:=ao w (jh #[jf t n f,jf je 0 0,jf je 0 0] 76);have c:=ao (w.alloc (jh #[jf t n f,jf je 0 0,jf je 0 0] 76)) (.map #[] 0);have j:=ei.made (w.alloc (jh #[jf t n f,jf je 0 0,jf je 0 0] 76));rw[jK]at j;rw[x];refine⟨⟨av a c,qG _ _ _ _,qG _ _ _ _,j,I,jE _,Nat.le_succ _⟩,b.trans (c.mono b.size)⟩)
 go_enter func20,ntmps20
 go_wp2_with fail
 obtain⟨b,c⟩:=i _ I;rw[<-x];clear d;generalize((w.alloc (jh #[jf t n f,jf je 0 0,jf je 0 0] 76)).alloc (.map #[] 0))=W0 at b c⊢;have Wn:=O b;have UB:=O c;clear b c i m k
 go_loopw [12] (λv wr=>∃(i k:T) (y B:jv jM) (z D:T),v=jc jd i/\i<=n/\ji (PSt M M (M+1) (jf t n f) l i i k y B z D wr)/\ji (jo w w wr)) (λv _=>n-(jF v).toNat)
 case atStart=>exact⟨0,0,je,je,0,0,I,oj _,Wn,UB⟩
 obtain⟨i,k,y,B,z,D,rfl,hi,b,d⟩:=hrel
 by_cases bb:i<n
 case neg=>
  have hd:=az ((i:ja)<(n:ja));have UY:=az (i<n);obtain rfl:i=n:=Y;have c:=O b.box;have j:k=(bH (s.map (·.1)) s.length).length:=by rw[b.len,a1,ZJ]
  have o:ji (io (λg=>w.heap.size<=g/\g<wr.heap.size) wr (jf t i f) (jf y k z) (jf B k D) s):=O (by
   have a:=aH.of_own b.ids (λg U=>b.ids.lt g U);have m:=aH.of_own b.at_ (λg U=>b.at_.lt g U);rw[a1,ZJ,x,j]at a m;refine⟨?_,?_,?_⟩
   ·rw[ZJ];exact HL.below d
   ·rw[j];exact a
   rw[j];exact m)
  clear j
  go_wp2_with (first|(refine VP.loadA aj I I _ I c (L ?_))|(refine VP.store I I I #[jf t i f,jf y k z,jf B k D] I I (by simp[r4]) c I ?_;rw[setRow_self _ _ _ _ _ c.out];refine L ?_))
  refine bodyPost_ret (results_cell_row I _ _ M 76 _ (0,0) _ I c underlying76 I af) I ?_;exact⟨_,_,I,o,d⟩
 have hd:=aA ((i:ja)<(n:ja));have UY:=aA (i<n);obtain⟨⟨c,q⟩,a⟩:∃p,s[i]?=N p:=⟨_,mz (by rw[<-ZJ];exact bb)⟩;obtain⟨g,o,bf,e1,U,-,-,F⟩:=HL.elem a;injection e1 with e1 _ e3
 subst e1;subst e3;have r:=j1 a;have HQ:=O (HL.all _ r);have bc:=O (HE _ r);have aa:ji (aP l i=c):=O (by unfold aP;rw[a1];simp[qy,a]);have P:ji (wr.rangeAt g (o+i*73) (aF c q)):=O λj u hj=>aB (F j u hj) d
 have VJ:ji ((aF c q).length=VC.n):=O (dx c q HQ.plen HQ.clen);obtain⟨C,m⟩:=J ((aF c q).toArray);have WZ:=O m;have VU:ji (C.size=VC.n):=O (by rw[m,jL];exact VJ);have UW:ji (C.all (·.oneCell')=jk):=O (by
  rw[m,p6];exact λu K=>lU HQ u (ak K))
 clear m r a F U
 go_upto_region 6 with(first|(refine VC.load aj I I (aF c q) VJ P ?_;rw[<-WZ];refine L ?_)|(refine VC.made I I (L ?_))|(refine VC.first I I I C I VU UW (L ?_)))
 obtain⟨x1,bg,F,H,Q,a⟩:=dl wr C VC.t;rw[<-F,<-H];replace b:=O (b.below a);replace d:=ah d a;obtain⟨r,h⟩:=J (((aG c).map v8).toArray);have m:=ti c q x1 ((HQ.below d)) bc (HT.below d);rw[<-h,<-WZ]at m;replace m:=O m;have ad:=O h;have W:ji (r.size=VD.n):=O (by rw[h,jL,ju,dX];rfl);have VO:ji (r.all (·.oneCell')=jk):=O (by rw[h];exact fi _);clear F H a h P
 go_upto_region 7 with(first|(refine VC.loadA aj I I C VU Q (L ?_)))
 refine m.mono ?_;rintro e x2 ⟨rfl,a⟩;replace b:=O (b.below a);replace d:=ah d a;clear a Q m
 go_upto_region 7 with(first|(refine VD.made I I (L ?_))|(refine VD.first I I I r I W VO (L ?_)))
 obtain⟨x3,Q,F,H,m,a⟩:=dl x2 r VD.t;rw[<-F,<-H];have Z8:ji (∀g,(qz y k z).ownBlock=N g->g<Q):=O λg U=>by rw[H];exact(b.ids.lt g U).2
 replace b:=O (b.below a);replace d:=ah d a;clear F H a;obtain⟨bd,h⟩:=J (decide (aG c∈gm l i));have ax:=O h;clear h;have Yf:=O (dX c)
 cases bd with
 |true=>
  have H:=O (b.old (by rw[aa];exact of_decide_eq_true ax.symm));clear b
  go_upto_region 10 with(first|(refine VD.loadA aj I I r W m (L ?_))|(refine Hz H.map vy r9 (zeroValue4 _) Yf ad I _ _ I I I ?_;rw[<-ax];refine L ?_)|
   (refine C1 H.map vy r9 Yf ad I _ _ _ I I I I ?_;intro x9 au V;refine L ?_))
  have ZH:ji (PSt M M (M+1) (jf (N ⟨g,o,je⟩) n f) l (i+1) (i+1) k y B z D x9):=O (H.put (by have h:=BN l i;rw[aa]at h;rw[<-h];exact au) V);have VZ:ji (jo w w x9):=O (d.trans (V.below (by rw[x];omega) d.size));clear au V
  go_wp2_with fail
  exact⟨⟨i+1,k,y,B,z,D,by go_num,by omega,ZH,VZ⟩,by simp only[jF];omega⟩
 |false=>
  go_upto_region 8 with(first|(refine VD.loadA aj I I r W m (L ?_))|(refine Hz b.map vy r9 (zeroValue4 _) Yf ad I _ _ I I I ?_;rw[<-ax];refine L ?_))
  have a2:ji (bH l (i+1)=bH l i++[i]):=O (Cv (by rw[aa];exact of_decide_eq_false ax.symm));have H:k<=1000:=by rw[b.len];have:=sd l i;omega
  have a5:=O H;clear H;refine o5 ?_;refine fb (λH=>H.heap[M]?=N (jh #[jf (N ⟨g,o,je⟩) n f,jf y k z,jf B k D] 76 (0,0))/\H.heap[Q]?=N (jh r VD.t (0,0))) 11
   (.t 0 (.t 1 (.t 2 (.t 5 (.t 6 (.t 7 (sc (.t 10) (.o 11 (.o 12 (.o 13 .done)))))))))) af af af af G (λ_ _ _ _ h=>h) ⟨b.box,m⟩ ?_
  obtain⟨x4,F⟩:=J x3.drew;have a:=bV x3;rw[<-F]at a⊢;replace b:=O (b.below a);replace d:=ah d a;replace m:=ae m a;clear F a;refine bX ?_
  (refine cD (v:=?_) I aj (λH a=>?_) ?_;rotate_left;(have F:=ai (i:=1) a.1 I;clear a;go_simp;with_reducible rfl);refine L ?_)
  (refine cD (v:=jn r) I aj (λH a=>cU qd I (by rw[W];exact vC) I I a.2) ?_;refine L ?_)
  refine bX ?_
  (refine cD (v:=?_) I aj (λH a=>?_) ?_;rotate_left;(have F:=ai (i:=2) a.1 I;clear a;go_simp;with_reducible rfl);refine L ?_)
  refine bX ?_;refine Ag RD RI (T0:=.t 10) (E:=λa=>a.put (N 33) (jG (N ⟨M,1,je⟩))) (r1:=26) (r2:=27) (rb:=31) (r3:=32) (s1:=25) (s2:=30) (t1:=24) (t2:=29) af (λ_ _ _ _ h=>h) af af
   rfl rfl rfl rfl rfl rfl rfl rfl rfl rfl rfl rfl rfl rfl rfl rfl (show 26<39 by decide) (show 31<39 by decide) G G G G G G
   (λa v=>Act.put_comm a _ _ G) (λa=>fB G) (λa=>fB G) (λa=>pO) (λa w' R h F=>cD rfl rfl (λH _=>?_) F)
   (x1:=jn r) (x2:=jc jd (i:T)) (u1:=jf y k z) (u2:=jf B k D) rfl rfl rfl rfl W rfl (λu K=>(p6.1 VO) u (by simpa [qT]using K)) (by simp[qT,r4]) b.ids b.at_ (AQ b.ids b.at_ G) (aI a5) (aI a5) (by rw[x];exact d.size) (λw' H K=>?_) ?_
  ·have K:a.eval (.tmp 2)=jG (N ⟨M,0,je⟩):=h 2 G G G
   clear h F;generalize a.eval=F at K⊢;go_simp
  ·have hl:=(jP.1 b.box).1
   exact⟨(H M hl (cQ b.ids b.box G) (cQ b.at_ b.box G)).trans b.box,
    (H Q (jP.1 m).1 (λe=>by have:=Z8 Q e;omega) (cQ b.at_ m G)).trans m⟩
  rintro z1 z2 X v2 R a;obtain⟨F,H,rfl⟩:=cN a.own1;obtain⟨K,P,rfl⟩:=cN a.own2;have S:R.heap[M]?=N (jh #[jf (N ⟨g,o,je⟩) n f,jf y k z,jf B k D] 76 (0,0)):=(a.heap M (jP.1 b.box).1 (cQ b.ids b.box G) (cQ b.at_ b.box G)).trans b.box;have a6:=ft (i:=1) (jf F (k+1) H) S;have ba:=ft (i:=2) (jf K (k+1) P) a6;have a3:ji (PSt M M (M+1) (jf (N ⟨g,o,je⟩) n f) l (i+1) i (k+1) F K H P ((R.setCell ⟨M,1,je⟩ (jf F (k+1) H)).setCell ⟨M,2,je⟩ (jf K (k+1) P))):=O (by
   have a4:∀g',g'≠M->((R.setCell ⟨M,1,je⟩ (jf F (k+1) H)).setCell ⟨M,2,je⟩ (jf K (k+1) P)).heap[g']?=R.heap[g']?:=λg' h=>(dz _ h).trans (dz _ h)
   refine⟨ba,?_,?_,?_,?_,b.lb,b.lm⟩
   ·have h:=iz a.own1 λg' WR=>a4 g' λe=>cQ a.own1 S G (e▸WR)
    have e:iX l (bH l (i+1))=iX l (bH l i)++(qU r).cells.toList:=by
     unfold iX;rw[a2,xa];simp[qT,ad.out,aa.out]
    rw[e];exact h
   ·have h:=iz a.own2 λg' WR=>a4 g' λe=>cQ a.own2 S G (e▸WR)
    have e:iV (bH l (i+1))=iV (bH l i)++(jj .i64 (i:T)).cells.toList:=by
     unfold iV;rw[a2,j5]
     rfl
    rw[e];exact h
   ·have ay:M+1≠M:=Y
    exact b.map.keep ((a4 _ ay).trans (a.heap _ b.map.lt (uH b.ids b.map) (uH b.at_ b.map)))
   rw[a2,jJ,<-b.len];rfl)
  have UR:ji (jo w w ((R.setCell ⟨M,1,je⟩ (jf F (k+1) H)).setCell ⟨M,2,je⟩ (jf K (k+1) P))):=O (by
   have h5:jo w x4 R:=⟨a.bel.os,a.bel.tape,a.bel.output,a.bel.size,λk' a4=>a.heap k' (jB a4 d.size) (λe=>by have:=(b.ids.lt k' e).1;rw[x]at this;omega) (λe=>by have:=(b.at_.lt k' e).1;rw[x]at this;omega)⟩;exact((d.trans h5).setCell (p:=⟨M,1,je⟩) (qN x.symm) _).setCell (p:=⟨M,2,je⟩) (qN x.symm) _)
  have a4:ji (((R.setCell ⟨M,1,je⟩ (jf F (k+1) H)).setCell ⟨M,2,je⟩ (jf K (k+1) P)).heap[Q]?=N (jh r VD.t (0,0))):=O (by
   have ay:Q≠M:=λe=>by have h:=m.out;rw[e,b.box]at h;injection h with h;injection h with _ h;exact jA h G
   exact((dz _ ay).trans (dz _ ay)).trans ((a.heap Q (jP.1 m).1 (λe=>by have:=Z8 Q e;omega) (cQ b.at_ m G)).trans m))
  have m1:=ai (i:=1) S I;have m2:=ai (i:=2) S I;have f1:=gs (o:=1) S;have f2:=gs (o:=2) S;clear a6 ba S a b d m;refine L ?_;refine nL I G af (λb a=>?_);go_simp;refine a _ _ ?_;clear a;refine L ?_;refine nL I G af (λb a=>?_);go_simp;refine a _ _ ?_;clear a;refine L ?_;refine nL I G af (λb a=>?_);go_simp;refine a _ _ ?_;clear a m1 m2 f1 f2;refine L ?_;refine eH ?_;generalize((R.setCell ⟨M,1,je⟩ (jf F (k+1) H)).setCell ⟨M,2,je⟩ (jf K (k+1) P))=a at a3 UR a4⊢
  go_upto_region 10 with(first|(refine VD.loadA aj I I r W a4 (L ?_))|
   (refine C1 a3.map vy r9 Yf ad I _ _ _ I I I I ?_;intro x9 au V;refine L ?_))
  have ZH:ji (PSt M M (M+1) (jf (N ⟨g,o,je⟩) n f) l (i+1) (i+1) (k+1) F K H P x9):=O (a3.put (by have h:=BN l i;rw[aa]at h;rw[<-h];exact au) V);have VZ:ji (jo w w x9):=O (UR.trans (V.below (by rw[x];omega) UR.size));clear au V
  go_wp2_with fail
  exact⟨⟨i+1,k+1,F,K,H,P,by go_num,by omega,ZH,VZ⟩,by simp only[jF];omega⟩
end
theorem LH{a:jM}(h:w.cell? a=N u):∀W,jo w w W->W.cell? a=N u:=λ_ b=>aB h b
theorem JH(w:jg):∀W o,jo w w W->jo w w (W.alloc o):=λ_ o h=>h.trans ((ao _ o).mono h.size)
theorem Un(h:M<w.heap.size):∀W,jo w w W->M<W.heap.size:=λ_ a=>jB h a.size
theorem Pr(h:bU w a vm vt):∃(d:js jb) (g:jg) (b:T) (p:jv jM) (c:T),d=(aD a vm vt).toArray/\g=w.alloc (jh d 45)/\b=w.heap.size/\
 vm=jf p a.mem.length c/\jo w w g/\b<g.heap.size/\g.cell? ⟨b,34,je⟩=N (jf p a.mem.length c)/\EM.At g (jf p a.mem.length c) a.mem:=by
 have e:=dE.new w (vm:=vm) (vt:=vt) h.llen;obtain⟨p,c,rfl,-,-⟩:=h.mem.form;exact⟨_,_,_,p,c,I,I,I,I,ao _ _,by simp,e.at.2.2.1,h.mem.below (ao _ _)⟩
theorem SC{p:H->jS}{l:A H}{x:H}(h:l.find? p=je)(a:p x=jr):(l++[x]).find? p=je:=by
 rw[xd,h];simp[a]
theorem O5{p:α->jS}{l m:A α}{x:α}{k:T}(h:(l.take k).find? p=je)(a:l.take (k+1)=l.take k++[x])(b:p x=jk):l.find? p=N x:=by
 rw[<-xx (k+1) l,xd,a,xd,h];simp[b]
theorem SZ(a:Grp)(vm vt:jb)(d:ja)(w:jg)(h:bU w a vm vt)(K:a.mem.length<=900000):
 jz jl 109 #[jn (aD a vm vt).toArray,jc jd d] w λe w'=>e=jw (jc jd (eV a d))/\jo w w w':=by
 obtain⟨V,q,b,p,c,g,i,k,rfl,o,t,r,u⟩:=Pr h;rw[<-g];have x:=O u.cells;obtain⟨n,f⟩:=J a.mem.length;rw[<-f]at r K x;have z:=O f;have s:=O o;have B:=O (And.intro i k);have k2:=LH r;have C:=JH q;have W:=Un t;have D:=O (j9 q.heap.size q);clear g i f r k t o u h
 go_enter func109,ntmps109
 go_upto_region 1 with fail
 rw[<-B.1,<-B.2];have f:=D.out
 go_wp2_with fail
 clear f
 go_loopw [10] (λi wr=>∃k:T,i=jc jd k/\k<=n/\ji (eY (a.mem.take k) d=je)/\jo q q wr) (λi _=>n-(jF i).toNat)
 case atStart=>exact⟨0,I,oj _,O I,D⟩
 obtain⟨k,rfl,X,u,f⟩:=hrel
 by_cases M:k<n
 case neg=>
  have P:=az ((k:ja)<(n:ja));have Q:=az (k<n);obtain rfl:k=n:=Y;have v:ji (eV a d=0):=O (by
   have h:=u.out;rw[z,xR]at h;unfold eV;rw[h];rfl)
  go_wp2_with fail
  go_ret;exact⟨by rw[v];rfl,s.trans (f.mono s.size)⟩
 have P:=aA ((k:ja)<(n:ja));have Q:=aA (k<n);obtain⟨g,o,rfl,i⟩:=x.2.2 Y;obtain⟨y,t,E⟩:=dL (l:=a.mem) (j:=k) (by rw[<-z];exact M);have R:wr.cell? ⟨g,o+k*3,je⟩=N (jc jd y.dev):=aB (i k y t 0 _ I) f;have S:wr.cell? ⟨g,o+k*3+1,je⟩=N (jc jd y.since):=aB (i k y t 1 _ I) f;have r:wr.cell? ⟨g,o+k*3+2,je⟩=N (jc jd y.ver):=aB (i k y t 2 _ I) f;obtain⟨md,F,U⟩:=y;dsimp only at R S r;have H:=O E;clear i E t
 by_cases i:md=d
 case neg=>
  have he:(md==d)=jr:=ak i;have t:decide (md=d)=jr:=ak i;have E:ji (eY (a.mem.take (k+1)) d=je):=O (by rw[H];exact SC u (ak i));clear i
  go_wp2_with fail
  exact⟨⟨k+1,by go_num,by omega,E,C _ _ f⟩,by simp only[jF];omega⟩
 have v:ji (eV a d=F):=O (by
  unfold eV;rw[show eY a.mem d=N ⟨md,F,U⟩from O5 (m:=[]) u H (ak i)];rfl)
 have he:(md==d)=jk:=ak i;have t:decide (md=d)=jk:=ak i;clear i
 go_wp2_with fail
 go_ret;exact⟨by rw[v];rfl,s.trans ((C _ _ f).mono s.size)⟩
noncomputable def VG:VarT jl:=⟨45,36,(aD kw (jf je 0 0) (jf je 0 0)).toArray,_,jI,I,by kernel_rfl,rfl,λ_=>by kernel_rfl⟩
def ck0:CK:=⟨0,(mU,nN),cH,0,kw,jf je 0 0,jf je 0 0⟩
noncomputable def VK:VarT jl:=⟨80,143,(aK ck0).toArray,_,qX,I,by kernel_rfl,rfl,λ_=>by kernel_rfl⟩
noncomputable def RK:dQ jl:=.of 122 80 143 344 (jn (aK ck0).toArray) underlying122 af I G G G
theorem mJ{a:T->jv (T×T)}{i off size:T}(k:a i=N (off,size)){A0 B D:A jb}(d:A0.length=off)(f:B.length=size){v:jb}(g:v.cells.size=size)(j:A (T×jb)):
 Instr.fill a (A0++(B++D)).toArray ((i,v)::j)=Instr.fill a (A0++(v.cells.toList++D)).toArray j:=by
 rw[Instr.fill,k];dsimp only;rw[jq (by simp[d,f,g])];have h:=vZ v.cells (A0++(B++D)).toArray off size g (by simp[d,f]);have e:v.cells.zipIdx.size=size:=by simp[g]
 refine jR (λc=>Instr.fill a c j) ?_;refine Eq.trans (b:=qL (λc x=>c.setIfInBounds (off+x.2) x.1) (A0++(B++D)).toArray v.cells.zipIdx 0 size) ?_ (h.trans ?_)
 ·rw[<-e]
 rw[r6,List.take_left' d,<-qK A0 B D,List.drop_left' (by rw[jJ,d,f]),qK]
theorem uG{P:qa}{t:jt}{a:js Field}{zero:jb}{places:js (T×T)}(b:∀w,(zeroValue t).run P w=.ok zero w)(c:P.underlying t=N (.struct a))(d:∀w,(a.mapM (λf=>Functor.map (Prod.mk f.offset) (sizeOf f.type)):Sem (js (T×T))).run P w=.ok places w)
 {parts:js (T×jb)} {X:js jb} (e:Instr.fill (places[·]?) zero.cells parts.toList=N X) (w:jg):(Instr.build t parts).run P w=.ok (jn X) w:=by
 unfold Instr.build;simp[b,qI c,d,e,Result.andThen]
theorem zA{a:Act}{o:jN}{parts:js (T×jW)}{i s:ja}{C I0 G0:js jb}(c:C.size=73)(d:I0.size=32)(f:G0.size=36)(g:o.op=.build 80 parts)
 (h:(parts.map fun(i,x)=>(i,a.eval x))= #[(0,jc jd i),(1,jn C),(2,jn I0),(3,jc jd s),(4,jn G0)]) (W:jg):
 (o1 a.eval o).run jl W=.ok (.value (jn (#[jc jd i]++C++I0++ #[jc jd s]++G0))) W:=by
 have j:(aK ck0).toArray=([]++([jj .i64 0]++(aF mU nN++(cH.map v8++([jj .i64 0]++(aD kw (jf je 0 0) (jf je 0 0)++[])))))).toArray:=by kernel_rfl
 have k:=uG (P:=jl) (t:=80) (zero:=jn (aK ck0).toArray) (places:=#[(0,1),(1,73),(74,32),(106,1),(107,36)]) (λw=>by kernel_rfl) qX (λw=>by kernel_rfl)
  (parts:=#[(0,jc jd i),(1,jn C),(2,jn I0),(3,jc jd s),(4,jn G0)]) (X:=(#[jc jd i]++C++I0++ #[jc jd s]++G0)) (by
   show Instr.fill _ (aK ck0).toArray [(0,jj .i64 i),(1,qU C),(2,qU I0),(3,jj .i64 s),(4,qU G0)]=_;have m:∀l:A jb,[jj .i64 i]++(C.toList++l)=([jj .i64 i]++C.toList)++l:=λl=>by simp
   have n:∀l:A jb,([jj .i64 i]++C.toList)++(I0.toList++l)=([jj .i64 i]++C.toList++I0.toList)++l:=λl=>by simp
   have p:∀l:A jb,([jj .i64 i]++C.toList++I0.toList)++([jj .i64 s]++l)=([jj .i64 i]++C.toList++I0.toList++[jj .i64 s])++l:=λl=>by simp
   have b:C.toList.length=73:=by rw[qb];exact c
   have e:I0.toList.length=32:=by rw[qb];exact d
   rw[j,mJ (A0:=[]) (off:=0) (size:=1) I I I I];show Instr.fill _ ([jj .i64 i]++_).toArray _ =_;rw[mJ (A0:=[jj .i64 i]) (off:=1) (size:=73) I I (dx _ _ G G) (v:=jn C) c];show Instr.fill _ ([jj .i64 i]++(C.toList++_)).toArray _ =_;rw[m,mJ (A0:=[jj .i64 i]++C.toList) (off:=74) (size:=32) I (by simp[b]) I (v:=jn I0) d];show Instr.fill _ (([jj .i64 i]++C.toList)++(I0.toList++_)).toArray _ =_;rw[n,mJ (A0:=[jj .i64 i]++C.toList++I0.toList) (off:=106) (size:=1) I (by simp[b,e]) I (v:=jc jd s) I];show Instr.fill _ (([jj .i64 i]++C.toList++I0.toList)++([jj .i64 s]++_)).toArray _ =_;rw[p,mJ (A0:=[jj .i64 i]++C.toList++I0.toList++[jj .i64 s]) (off:=107) (size:=36) I (by simp[b,e]) I (v:=jn G0) f];rw[Instr.fill,qx]
   congr 1
   apply qo
   simp[qT]) W
 simp only[o1,g,h,Sem.run_bind,k,Result.andThen_ok,Sem.run_pure]
structure KSt(M:T)(c:A CP)(a:jb)(m:T)(Ks:A CK)(W:jg):Prop where
 own:W.ownsRow M RK.e RK.k a m (Ks.flatMap aK)
 len:m=Ks.length
 all:∀k∈Ks,KD (λb=>M<=b/\b<W.heap.size/\a.ownBlock≠N b) c W k
theorem KSt.below{d:A CP}{e:jb}{Ks:A CK}{f:jg}(h:KSt M d e m Ks W)(c:jo W W f):KSt M d e m Ks f:=
 ⟨cK h.own c,h.len,λk g=>((h.all k g).keep λb a=>c.block b a.2.1).mono λb a=>⟨a.1,jB a.2.1 c.size,a.2.2⟩⟩
theorem KSt.push{s:T}{j:A CP}{c f:jb}{Ks:A CK}{l:jg}{k:CK}(h:KSt M j c m Ks W)(o:KD (λb=>s<=b/\b<W.heap.size) j W k)(p:M<=s)(q:∀b,c.ownBlock=N b->b<s)
 (r:l.ownsRow M RK.e RK.k f (m+1) (Ks.flatMap aK++aK k)) (g:W.grownBy l c.ownBlock) (t:f.ownBlock=c.ownBlock\/f.ownBlock=N W.heap.size):KSt M j f (m+1) (Ks++[k]) l:=by
 have n:∀b,b<W.heap.size->c.ownBlock≠N b->f.ownBlock≠N b:=λb a i e=>by
  rcases t with d|d
  ·exact i (d▸e)
  rw[d]at e;cases e;omega
 refine⟨by rw[xa];simpa using r,by rw[jJ,<-h.len];rfl,λx d=>?_⟩
 rcases jQ.1 d with d|d
 ·exact((h.all x d).keep λb a=>g.block b a.2.1 λe=>a.2.2 e.symm).mono λb a=>⟨a.1,jB a.2.1 g.size,n b a.2.1 a.2.2⟩
 rw[qh]at d;subst d;have i:∀b,s<=b->c.ownBlock≠N b:=λb a e=>by have:=q b e;omega
 exact(o.keep λb a=>g.block b a.2 λe=>i b a.1 e.symm).mono λb a=>⟨jH p a.1,jB a.2 g.size,n b a.2 (i b a.1)⟩
theorem D2(h:¬((aP i M).parent=a.last/\cA a (aP i M)=0)):dR a i M=je:=by
 unfold dR;rw[jq h]
theorem MF(g:(aP i M).parent=a.last)(b:cA a (aP i M)=0):dR a i M=N ⟨M,aP i M,aG (aP i M),eV a (aP i M).author,aC a (aP i M)⟩:=by
 unfold dR;rw[jp ⟨g,b⟩]
theorem Oc(f:H->jv C){l:A H}{j:T}{x:H}(h:l[j]?=N x):(l.take (j+1)).filterMap f=(l.take j).filterMap f++(f x).toList:=by
 have a:=(jV.1 h).1;rw[wt a,List.filterMap_append,(jV.1 h).2]
 cases hx:f x<;>simp[hx]
theorem Kq(l:A Cmt)(n:T):(bH l n).Pairwise λi j=>aG (aP l i)≠aG (aP l j):=by
 have h:(bH l n).Pairwise (·<·):=(List.pairwise_lt_range).filter _;refine List.Pairwise.imp_of_mem (λ{i j} c a b=>?_) h;exact(lY.1 a).2 i b
theorem KU(g:Grp)(l:A Cmt):((ez g l).map aN.id).Nodup:=by
 unfold ez;rw[List.map_filterMap,List.nodup_iff_pairwise_ne];refine(Kq l l.length).filterMap _ λi j e b a c d=>?_
 rw[Option.map_eq_some_iff]at a d;obtain⟨x,f,rfl⟩:=a;obtain⟨y,h,rfl⟩:=d;obtain⟨-,x2,k,-⟩:=tV f;obtain⟨-,y2,m,-⟩:=tV h;rw[k,m,x2,y2];exact e
structure KsD(D:T->Prop)(a:A CP)(w:jg)(v:jb)(Ks:A CK):Prop where
 row:aH D w v 143 Ks.length (Ks.flatMap aK)
 all:∀k∈Ks,KD D a w k
theorem aH.at1(h:aH D w u M R b)(a:0<R):∃g o c,u=jf (N ⟨g,o,je⟩) R c/\D g/\R<=c/\∀(j:T) v,b[j]?=N v->w.cell? ⟨g,o+j,je⟩=N v:=by
 obtain⟨-,p,c,xs,d,-,e⟩:=h;obtain⟨g,o,rfl,f,i⟩:=e a;exact⟨g,o,c,xs,f,d,i⟩
theorem BC{P:A T}(c:P[M]?=N R){t:T}{u:jb}(a:((aG (aP i R)).map v8)[t]?=N u):(iX i P)[M*32+t]?=N u:=by
 have b:=(jV.1 a).1;rw[ju,dX]at b;exact(sj (λR=>(aG (aP i R)).map v8) 32 P (λx _=>by rw[ju,dX]) M t R c b).trans a
theorem R6{q:CQ}(a:(p.parent.map v8)[M]?=N u):(aF p q)[2+M]?=N u:=by
 unfold aF;rw[show 2+M=M+1+1 by omega,qw,qw,qS (jV.1 a).1];exact a
theorem mi(h:bU w a u f):∀vm∈aD a u f,vm.oneCell'=jk:=by
 intro vm g;obtain⟨p,c,b,-,-⟩:=h.mem.form;obtain⟨e,n',vt,d⟩:=gN h.tree;rw[b,d]at g;unfold aD at g;rw[jD,jD,jQ]at g
 rcases g with rfl|rfl|g|g
 ·rfl
 ·rfl
 ·exact im _ vm g
 simp only[jD,xM,or_false]at g
 rcases g with rfl|rfl<;>rfl
structure SP(g:Grp)(c:Cmt)(w w':jg)(X:js jb)(a:ja):Prop where
 sz:X.size=36
 one:X.all (·.oneCell')=jk
 eq:a=cA g c
 new:a=0->∃vm vt,X=(aD (aC g c) vm vt).toArray/\dN (λk=>w.heap.size<=k/\k<w'.heap.size) w' (aC g c) vm vt
 bel:jo w w w'
theorem AY(g:Grp)(vm vt:jb)(c:Cmt)(q:CQ)(w:jg)(h:bU w g vm vt)(i:aS (·<w.heap.size) w c q)(j:cY (aR c))(k:bQ w)(l:g.mem.length<=900000)(m:g.tree.length<=600000):
 jz jl 7 #[jn (aD g vm vt).toArray,jn (aF c q).toArray] w λe w'=>∃X d,e=jw (jZ #[jn X,jc jd d])/\SP g c w w' X d:=by
 refine(yV g vm vt c q w h i j k l m).mono ?_;rintro e w' ⟨n,o,f⟩
 by_cases a:cA g c=0
 ·obtain⟨p,r,rfl,b,s,t⟩:=n a
  refine⟨_,0,I,by rw[jL,eE b.llen],?_,a.symm,λ_=>⟨p,r,I,dN.of b s t⟩,f⟩;rw[p6];exact λu v=>mi b u (ak v)
 obtain rfl:=o a;exact⟨_,_,I,I,by kernel_rfl,rfl,λh=>jA h a,f⟩
theorem KD.of{a:A CP}{i:T}{s:ja}{p:CP}{d:LBy}{g:Grp}{b c:jb}(e:a[i]?=N p)(f:dN D w g b c)(h:d.length=32):KD D a w ⟨i,p,d,s,g,b,c⟩:=⟨e,f,h⟩
theorem CK.cand_of{q:CQ}:(⟨M,(p,q),o,d,a,u,f⟩:CK).cand=⟨M,p,o,d,a⟩:=I
theorem Ar(i:T)(s:ja)(c:Cmt)(q:CQ)(d:LBy)(g:Grp)(a b:jb):
 (#[jj .i64 (i:T)]++(aF c q).toArray++(d.map v8).toArray++ #[jj .i64 s]++(aD g a b).toArray).toList=aK ⟨i,(c,q),d,s,g,a,b⟩:=by
 simp only[Array.toList_append,qK,aK]
 rfl
theorem KsD.mono{a:A CP}{v:jb}{Ks:A CK}(h:KsD D a w v Ks)(c:∀b,D b->E b):KsD E a w v Ks:=⟨h.row.mono c,λk b=>(h.all k b).mono c⟩
theorem QX{n:A CP}{q:jv jM}{Ks:A CK}(t:cC w u n)(a:KSt M n (jf q R m) R Ks w)(D:R<=1000000)(E:M<=w.heap.size)(F:(Ks.map λk=>k.id).Nodup)
 {o v:T} (H:lA w o v) (K:(qz q R m).ownBlock≠N o) (P:(qz q R m).ownBlock≠N v):
 jz jl 110 #[jf q R m,.func (.func 222) #[] #[jG (N ⟨o,0,je⟩)]] w λe w'=>
  e=jw (jZ #[])/\∃d,KsD (λb=>M<=b/\b<w'.heap.size) n w' (jf q R m) d/\d.map CK.cand=(Ks.map CK.cand).mergeSort leC/\jo M w w':=by
 rcases a.own.2 with⟨i,W⟩|⟨g,aa,UH,i,h2,h3,h4⟩
 ·injection i with i y r
  subst i;subst y;subst r;obtain rfl:Ks=[]:=xO a.len.symm;refine(Tryzx.sortFunc_noneK _ _ _ w).mono ?_;rintro e w' ⟨rfl,rfl⟩;exact⟨I,[],⟨aH.of_own a.own (λg d=>a.own.lt g d),λk s=>by cases s⟩,by simp,j9 _ _⟩
 injection i with i y r
 subst i;subst r;obtain⟨d,j⟩:∃d:A CW,d.map (·.1)=Ks:=⟨Ks.attach.map λk=>(a.all k.1 k.2).cw t,by rw[ow];exact xP Ks⟩;have z:d.length=R:=by rw[a.len,<-j,ju]
 have Q:du EKK M w w g R m d:=⟨by rw[Gd,j];exact a.own,z.symm,j9 _ _,E⟩;have B:∀x∈d,x.1∈Ks:=λx l=>by rw[<-j];exact sq l
 refine(Pk d (by have h:=F;rw[<-j,ow]at h;exact h) M g R m w w Q D (λx l=>a.all x.1 (B x l)) t H (λe=>K (e▸I)) (λe=>P (e▸I))).mono ?_;rintro e w' ⟨rfl,c,S,C,U⟩;have hs:(mu d).length=R:=(TR d).trans z;refine⟨I,(mu d).map (·.1),⟨?_,?_⟩,?_,S⟩
 ·have h:=c
  unfold EK.At at h;rw[Gd]at h;obtain⟨V,p,X,f,h6,h7,h8⟩:=h;rw[ju];refine⟨V,p,X,f,h6,h7,λW=>?_⟩;obtain⟨g',o',rfl,h9⟩:=h8 W;injection f with f _ _
  injection f with f
  injection f with f e6
  subst f;exact⟨_,_,I,⟨(a.own.lt _ I).1,jB (a.own.lt _ I).2 C⟩,h9⟩
 ·intro k s
  obtain⟨x,l,rfl⟩:=jy.1 s;refine((a.all _ (B x (Nt.1 l))).keep λb f=>U b f.2.1 λe=>f.2.2 (e▸I)).mono λb f=>⟨f.1,jB f.2.1 C⟩
 have h:=Tt d;rw[ow];refine Eq.trans h ?_;rw[<-j,ow]
 rfl
theorem ER(B:A CP)(v1 v2 v3:jb)(g:Grp)(vm vt:jb)(w:jg)(f:io (·<w.heap.size) w v1 v2 v3 B)(a:bU w g vm vt)(C:∀p∈B,cY (aR p.1))(hT:bQ w)(hn:B.length<=1000)(K:g.mem.length<=900000)(E:g.tree.length<=600000):
 jz jl 49 #[jn #[v1,v2,v3],jn (aD g vm vt).toArray] w λe w'=>∃v Ks,e=jw v/\KsD (λb=>w.heap.size<=b/\b<w'.heap.size) B w' v Ks/\Ks.map CK.cand=eS g (B.map (·.1))/\jo w w w':=by
 obtain⟨l,t⟩:∃l:A Cmt,l=B.map (·.1):=⟨_,I⟩;obtain⟨W,q⟩:=J (bH l B.length);have bn:W.length<=1000:=by rw[q];have:=sd l B.length;omega
 have h2:=f.ids;have r:=f.at_;rw[<-t,<-q]at h2 r;obtain⟨p1,k1,rfl⟩:=f.list.form;obtain⟨p2,k2,rfl⟩:=h2.form;obtain⟨p3,k3,rfl⟩:=r.form;obtain⟨pm,d,Q,-,-⟩:=a.mem.form;obtain⟨pt,nt,ct,S⟩:=gN a.tree;have HL:=O f.list;have HI:=O h2;have HA:=O r;have HE:=O C;have HT:=O hT;have HG:=O a;have Wu:=O K;have WL:=O E;have a5:=O t;have WE:=O q;obtain⟨n,x⟩:=J B.length;obtain⟨D,y⟩:=J W.length;have ZJ:=O x;have a6:=O y;rw[<-x]at hn⊢;rw[<-y]at bn HI HA⊢;obtain⟨ad,m⟩:=J ((aD g vm vt).toArray);have YH:=O m;have ba:ji (ad.size=VG.n):=O (by rw[m,jL,eE a.llen];rfl);have bo:ji (∀(j:T) u,(g.last.map v8)[j]?=N u->ad[2+j]?=N u):=O λj u hj=>by
  have h:=(dE.last (vm:=vm) (vt:=vt) (dE.new w a.llen)) j u hj;rw[World.cell?_alloc_new]at h;rw[m];exact h
 have VR:=O a.llen;rw[<-m];obtain⟨M,o⟩:=J w.heap.size;have HM:=O o;obtain⟨R,c⟩:=J ((w.alloc (jh #[jf p1 n k1,jf p2 D k2,jf p3 D k3] 76)).alloc (jh ad 45));have z:R.heap[M]?=N (jh #[jf p1 n k1,jf p2 D k2,jf p3 D k3] 76 (0,0)):=by rw[c,o];exact av (jC w _) (ao _ _)
 have F:R.heap[M+1]?=N (jh ad 45 (0,0)):=by
  have h:=jC (w.alloc (jh #[jf p1 n k1,jf p2 D k2,jf p3 D k3] 76)) (jh ad 45);rw[jK]at h;rw[c,o];exact h
 have H:jo w w R:=by rw[c];exact(ao _ _).trans ((ao _ _).mono ar)
 have a1:ji (R.heap.size=M+2):=O (by rw[c,o,jK,jK]);have Zg:=O z;have bb:=O F;have UB:=O H;have P:=O c;have U:=ai (i:=2) z I;have Va:=O (j9 R.heap.size R);have YG:ji (KSt (M+2) B (jf je 0 0) 0 [] R):=O ⟨qG _ _ _ _,I,λk hk=>by cases hk⟩;clear c z F H o m x y t q h2 r f a C hT K E Q S
 go_enter func49,ntmps49
 go_upto_region 1 with fail
 rw[<-P,<-HM];clear P
 go_wp2_with fail
 clear U
 go_loopw [4,13] (λa v wr=>∃(j m:T) (q:jv jM) (c:T) (Ks:A CK),v=jc jd j/\a=jf q m c/\j<=D/\ji (KSt (M+2) B (jf q m c) m Ks wr)/\ji (Ks.map CK.cand=(W.take j).filterMap (dR g l))/\ji (jo R R wr)) (λ_ v _=>D-(jF v).toNat)
 case atStart=>exact⟨0,0,je,0,[],I,I,oj _,YG,O I,Va⟩
 obtain⟨j,m,q,c,Ks,rfl,rfl,hj,f,F,o⟩:=hrel
 by_cases bp:j<D
 case neg=>
  have hd:=az ((j:ja)<(D:ja));have UY:=az (j<D);obtain rfl:j=D:=Y;have t:ji (Ks.map CK.cand=ez g (B.map (·.1))):=O (by
   have h:=F.out;rw[a6,xR,WE,a5]at h;unfold ez;rw[ju];exact h)
  have Q:ji ((Ks.map λk=>k.id).Nodup):=O (by
   have h:=KU g (B.map (·.1));rw[<-t,ow]at h;exact h)
  have a3:ji (m<=1000):=O (by have h:=jR qJ F;have h2:=xe (dR g l) (W.take j);rw[ju,<-f.len]at h;rw[xf]at h2;omega);have U:ji (M+2<=wr.heap.size):=O (by rw[<-a1];exact o.size);have E:jo w w wr:=UB.trans (o.mono UB.size);have r:=O E;clear E
  go_wp2_with fail
  refine(Ng wr).mono ?_;rintro e y ⟨V,X,rfl,x,z,H,a⟩;have aa:=O (f.below a);replace r:=ah r a;have C:=O (QX (HL.below r) aa (aI a3) (jH U a.size) Q x (λe=>by have:=(f.own.lt V e).2;omega) (λe=>by have:=(f.own.lt X e).2;omega));clear x z H a
  go_wp2_with fail
  refine C.mono ?_;rintro e z ⟨rfl,ax,x,H,P⟩;have HD:=O x;have au:=O H;have UC:ji (jo w w z):=O (r.trans (P.mono (by rw[HM];omega)));clear x H P C
  go_wp2_with fail
  go_ret;refine⟨_,ax,I,HD.mono λb S=>⟨by rw[<-HM];omega,S.2⟩,?_,UC⟩;rw[au,t]
  rfl
 have hd:=aA ((j:ja)<(D:ja));have UY:=aA (j<D);obtain⟨i,y⟩:∃i,W[j]?=N i:=⟨_,mz (by rw[<-a6];exact bp)⟩;have bq:i<n:=by
  have h:=j1 y;rw[WE,<-ZJ]at h;exact(lY.1 h).1
 obtain⟨ga,oa,ka,e3,ay,-,X⟩:=HA.at1 Y;injection e3 with e1 _ e2
 subst e1;subst e2;obtain⟨U,oi,ki,e4,aa,-,Q⟩:=HI.at1 Y;injection e4 with e1 _ e2
 subst e1;subst e2;obtain⟨⟨d,qm⟩,H⟩:∃p,B[i]?=N p:=⟨_,mz (by rw[<-ZJ];exact bq)⟩;obtain⟨gl,ol,kl,e5,K,-,-,ax⟩:=HL.elem H;injection e5 with e1 _ e2
 subst e1;subst e2;have V:=j1 H;have E:jo w w wr:=UB.trans (o.mono UB.size);have r:=O E;have ca:wr.cell? ⟨ga,oa+j,je⟩=N (jc jd (i:T)):=aB (X j _ (by unfold iV;rw[o8,y];rfl)) E;have br:ji (w.rangeAt U (oi+j*32) ((aG (aP l i)).map v8)):=O λt u x=>by
  rw[qn];exact Q _ u (BC y x)
 have bO:ji (wr.rangeAt U (oi+j*32) ((aG (aP l i)).map v8)):=O λt u x=>by
  rw[qn];exact aB (Q _ u (BC y x)) E
 have Vm:ji (wr.rangeAt gl (ol+i*73) (aF d qm)):=O λj u hj=>aB (ax j u hj) E
 have HQ:=O (HL.all _ V);have bs:=O (HE _ V);have bu:=O H;have au:ji (aP l i=d):=O (by unfold aP;rw[a5];simp[qy,H]);have VJ:ji ((aF d qm).length=VC.n):=O (dx d qm HQ.plen HQ.clen);have bv:=O y;have bc:ji (U<w.heap.size):=O aa;have c0:=aB (ai (i:=0) Zg I) o;obtain⟨C,P⟩:=J ((aF d qm).toArray);have WZ:=O P;have VU:ji (C.size=VC.n):=O (by rw[P,jL];exact VJ);have UW:ji (C.all (·.oneCell')=jk):=O (by
  rw[P,p6];exact λu hu=>lU HQ u (ak hu))
 clear P V H ax X Q ay aa K y E
 go_upto_region 5 with(first|(refine VC.load aj I I (aF d qm) VJ Vm ?_;rw[<-WZ];refine L ?_)|(refine VC.made I I (L ?_))|(refine VC.first I I I C I VU UW (L ?_)))
 obtain⟨x1,bd,E,S,y,a⟩:=dl wr C VC.t;rw[<-E,<-S];replace f:=O (f.below a);replace o:=ah o a;replace r:=ah r a;have bw:ji (M+2<=x1.heap.size):=O (by rw[<-a1];exact o.size);have Vr:ji (∀b,(qz q m c).ownBlock=N b->b<x1.heap.size):=O λb S=>(f.own.lt b S).2
 have V:ji (x1.rangeAt bd 2 (d.parent.map v8)):=O λt u x=>ai y.out (by rw[WZ];simpa using R6 x)
 have a2:ji (x1.heap[M+1]?=N (jh ad VG.t (0,0))):=O (av bb o);have a4:ji (x1.rangeAt (M+1) 2 (g.last.map v8)):=O λt u x=>ai a2 (bo t u x)
 have bf:ji ((d.parent.map v8).length=VD.n):=O (by rw[ju,HQ.plen];rfl);have bg:ji ((g.last.map v8).length=VD.n):=O (by rw[ju,VR];rfl);obtain⟨TL,H⟩:=J ((g.last.map v8).toArray);obtain⟨TP,K⟩:=J ((d.parent.map v8).toArray);obtain⟨bh,P⟩:=J (decide (d.parent=g.last));have bi:=O H;have bk:=O K;have bl:=O P;have Q:∀z,(Op.equalIn 10000 23 (jn TP) (jn TL)).run jl z=.ok bh z:=by
  rw[H,K,P];exact λz=>nZ d.parent g.last HQ.plen VR z
 have Za:=O (Oc (dR g l) bv);clear E S a H K P ca c0 Vm
 rcases bh with _|_
 ·have ax:ji (Ks.map CK.cand=(W.take (j+1)).filterMap (dR g l)):=O (by
   rw[Za,D2 (λh=>by have e:=bl.out;rw[<-au,xi h.1]at e;cases e)];rw[xS,qx];exact F)
  go_wp2_with (first|(refine VD.load aj I I (d.parent.map v8) bf V ?_;rw[<-bk];refine L ?_)|(refine VD.load aj I I (g.last.map v8) bg a4 ?_;rw[<-bi];refine L ?_))
  exact⟨⟨j+1,m,q,c,Ks,by go_num,rfl,by omega,f,ax,o⟩,by simp only[jF];omega⟩
 go_upto_region 6 with(first|(refine VD.load aj I I (d.parent.map v8) bf V ?_;rw[<-bk];refine L ?_)|(refine VD.load aj I I (g.last.map v8) bg a4 ?_;rw[<-bi];refine L ?_))
 have bA:ji (d.parent=g.last):=O (of_decide_eq_true bl.symm);clear Q
 go_upto_region 7 with(first|(refine VG.loadA aj I I ad ba a2 (L ?_))|(refine VC.loadA aj I I C VU y (L ?_)))
 have H:=AY g vm vt d qm x1 (HG.below r) (HQ.below r) bs (HT.below r) Wu WL;rw[<-YH,<-WZ]at H;refine H.mono ?_;clear H;rintro e x2 ⟨X,er,rfl,H⟩;have a:=H.bel;have HN:=O H;have Y8:=ae y a;replace f:=O (f.below a);replace o:=ah o a;replace r:=ah r a;have bT:ji (x1.heap.size<=x2.heap.size):=O a.size;clear H a
 go_upto_region 7 with(first|(refine VG.made I I (L ?_))|(refine VG.first I I I X I HN.sz HN.one (L ?_)))
 obtain⟨x3,bx,E,S,H,a⟩:=dl x2 X VG.t;rw[<-E,<-S];have UX:ji (bx=x2.heap.size):=O S;have K:=ae Y8 a;replace f:=O (f.below a);replace o:=ah o a;replace r:=ah r a;have ay:=O a;clear E S a
 by_cases Zf:er=0
 case neg=>
  have bB:(er==0)=jr:=by simp[Zf]
  have bC:decide (er=0)=jr:=by simp[Zf]
  have ax:ji (Ks.map CK.cand=(W.take (j+1)).filterMap (dR g l)):=O (by
   rw[Za,D2 (λh=>Zf (by rw[HN.eq,<-au];exact h.2))];rw[xS,qx];exact F)
  go_wp2_with fail
  exact⟨⟨j+1,m,q,c,Ks,by go_num,rfl,by omega,f,ax,o⟩,by simp only[jF];omega⟩
 have bB:(er==0)=jk:=by simp[Zf]
 have bC:decide (er=0)=jk:=by simp[Zf]
 obtain⟨um,ut,P,Q⟩:=HN.new Zf;have ax:ji ((W.take (j+1)).filterMap (dR g l)=Ks.map CK.cand++[⟨i,d,aG d,eV g d.author,aC g d⟩]):=O (by
  rw[Za,MF (by rw[au];exact bA) (by rw[au,<-HN.eq];exact Zf),au,<-F]
  rfl)
 have WA:=O P;have VE:ji (dN (λk=>x1.heap.size<=k/\k<x2.heap.size) x2 (aC g d) um ut):=O Q;clear P Q
 go_upto_region 8 with fail
 have bm:ji (((aG d).map v8).length=VD.n):=O (by rw[ju,dX];rfl);have bI:ji (C[34]?=N (jc jd d.author)):=O (by
  have h:(aF d qm)[2+32]?=N (jc jd d.author):=by
   unfold aF;rw[show 2+32=32+1+1 by rfl,qw,qw,qH (by rw[ju,HQ.plen];exact jE _),ju,HQ.plen]
   rfl
  rw[WZ];simpa using h)
 have aa:ji (x3.rangeAt U (oi+j*32) ((aG d).map v8)):=O (by
  have h:=br.out;rw[au]at h;exact λt u x=>aB (h t u x) r)
 have bK:ji (∀b,b<M->(qz q m c).ownBlock≠N b):=O λb S e=>by have:=(f.own.lt b e).1;omega
 have a3:ji (m<=1000):=O (by have h:=jR qJ F;have h2:=xe (dR g l) (W.take j);rw[ju,<-f.len]at h;rw[xf]at h2;omega);have P:=O (av Zg o);have Q:=O (av bb o);clear Y8 V a2 a4 F y;refine o5 ?_;refine fb (λF=>F.heap[bd]?=N (jh C VC.t (0,0))/\F.heap[M]?=N (jh #[jf (N ⟨gl,ol,je⟩) n k1,jf (N ⟨U,oi,je⟩) D k2,jf (N ⟨ga,oa,je⟩) D k3] 76 (0,0))/\F.heap[M+1]?=N (jh ad VG.t (0,0))/\F.heap[bx]?=N (jh X VG.t (0,0))/\F.rangeAt U (oi+j*32) ((aG d).map v8)) 17
  (.t 0 (.t 1 (.t 2 (.t 3 (.t 4 (.t 5 (.t 6 (.t 7 (.t 8 (.t 9 (.t 10 (.t 12 (.o 11 (.t 13 (.o 14 (.o 15 (.t 16 .done))))))))))))))))) af af af af G (λ_ _ _ _ h=>h) ⟨K,P,Q,H,aa⟩ ?_
 obtain⟨x4,E⟩:=J x3.drew;have a:=bV x3;rw[<-E]at a⊢;replace f:=O (f.below a);replace o:=ah o a;replace r:=ah r a;replace K:=ae K a;replace P:=ae P a;replace Q:=ae Q a;replace H:=ae H a;replace ay:=ah ay a;replace aa:ji (x4.rangeAt U (oi+j*32) ((aG d).map v8)):=O (λt u x=>aB (aa t u x) a);clear E a;iterate 2 refine bX ?_
 (refine cD (v:=jn C) I aj (λF y=>cU VC.hu VC.hd (by rw[VU];exact VC.hi) I I y.1) ?_;refine L ?_)
 refine bX ?_
 (refine cD (v:=?_) I aj (λF y=>?_) ?_;rotate_left;(have V:=ai (i:=1) y.2.1 I;clear y;go_simp;with_reducible rfl);refine L ?_)
 iterate 2 refine bX ?_
 (refine cD (v:=jn ((aG d).map v8).toArray) I aj (λF y=>fk _ _ VD.t _ I _ _ I _ VD.d y.2.2.2.2 VD.hu VD.hd (by rw[bm];exact VD.hi)) ?_;refine L ?_)
 (refine cD (v:=jn ad) I aj (λF y=>cU VG.hu VG.hd (by rw[ba];exact VG.hi) I I y.2.2.1) ?_;refine L ?_)
 refine bX ?_
 (refine cD (v:=?_) I aj (λF y=>?_) ?_;rotate_left;(have V:=ai (i:=34) y.1 bI;clear y;go_simp;with_reducible rfl);refine L ?_)
 (refine cD (v:=jn X) I aj (λF y=>cU VG.hu VG.hd (by rw[HN.sz];exact VG.hi) I I y.2.2.2.1) ?_;refine L ?_)
 refine cO I (λK' hK=>?_);go_simp;have V:=SZ g vm vt d.author x4 (HG.below r) Wu;rw[<-YH]at V;refine V.mono ?_;clear V;rintro e x5 ⟨rfl,a⟩;replace f:=O (f.below a);replace o:=ah o a;replace r:=ah r a;replace K:=ae K a;replace P:=ae P a;replace Q:=ae Q a;replace H:=ae H a;replace ay:=ah ay a;replace aa:ji (x5.rangeAt U (oi+j*32) ((aG d).map v8)):=O (λt u x=>aB (aa t u x) a);refine hK _ _ ⟨K,P,Q,H,aa⟩ λ_=>?_
 clear hK a;refine L ?_;obtain⟨V,hT⟩:=J ((#[jj .i64 (i:T)]++C++((aG d).map v8).toArray++ #[jj .i64 (eV g d.author)]++X))
 (refine cD (v:=jn V) I aj (λF y=>by rw[hT];exact zA (i:=(i:T)) (s:=eV g d.author) (C:=C) (I0:=((aG d).map v8).toArray) (G0:=X) VU.out (by rw[jL];exact bm) HN.sz I af F) ?_;refine L ?_)
 obtain⟨k,hk⟩:∃k:CK,k=⟨i,(d,qm),aG d,eV g d.author,aC g d,um,ut⟩:=⟨_,I⟩;have WL:ji (V.toList=aK k):=O (by rw[hT,hk,WZ,WA];exact Ar _ _ _ _ _ _ _ _);have y:ji (KD (λb=>x1.heap.size<=b/\b<x5.heap.size) B x5 k):=O (by
  rw[hk];exact KD.of bu (VE.below ay) (dX d))
 have Zy:ji (V.size=143):=O (by rw[<-qb,WL];exact y.len HL);have VO:ji (∀u∈V.toList,u.oneCell'=jk):=O (by rw[WL];exact y.ones HL);have a4:ji (k.cand=⟨i,d,aG d,eV g d.author,aC g d⟩):=O (by rw[hk];exact CK.cand_of);clear hT hk;refine cO I (λK' hK=>?_);rw[jp aj];refine RK.wp_build (.tmp 49) I (jn V) I Zy ?_;have a:=ao x5 (jh V RK.e);have F:=jC x5 (jh V RK.e);obtain⟨x6,E⟩:=J (x5.alloc (jh V RK.e));obtain⟨bt,a2⟩:=J x5.heap.size;have bM:x6.heap.size=bt+1:=by rw[E,jK,a2]
 have e0:(qU V).cells=V:=I;rw[e0,<-E,<-a2];rw[<-E]at a F;rw[<-a2]at F;have bN:=O F;replace f:=O (f.below a);replace o:=ah o a;replace r:=ah r a;replace K:=ae K a;replace P:=ae P a;replace Q:=ae Q a;replace H:=ae H a;replace aa:ji (x6.rangeAt U (oi+j*32) ((aG d).map v8)):=O (λt u x=>aB (aa t u x) a);replace y:=O (y.below a);refine hK _ _ ⟨K,P,Q,H,aa⟩ λ_=>?_
 clear hK a E F a2 bM e0;refine L ?_;refine cO I (λK' hK=>?_);rw[jp aj];refine RK.wp_append (.tmp 36) (.tmp 50) I (M+2) (jf q m c) m (Ks.flatMap aK) I f.own bt V I bN Zy VO (aI a3) (by rw[<-a1];exact o.size) ?_;intro v' F E a hv;obtain⟨q',c',rfl⟩:=cN E;have a2:ji (KSt (M+2) B (jf q' (m+1) c') (m+1) (Ks++[k]) F):=O (by
  rw[WL]at E;exact f.push y bw Vr E a hv)
 have Z3:ji (jo R R F):=O (o.trans ⟨a.os,a.tape,a.output,a.size,λk' bM=>a.block k' (jB bM o.size) λe=>by have:=(f.own.lt k' e.symm).1;rw[<-a1]at this;omega⟩);refine hK _ _ ⟨?_,?_,?_,?_,?_⟩ λ_=>?_
 ·exact(a.block _ (jP.1 K).1 λe=>cQ f.own K G e.symm).trans K
 ·exact(a.block _ (jP.1 P).1 λe=>cQ f.own P G e.symm).trans P
 ·exact(a.block _ (jP.1 Q).1 λe=>cQ f.own Q G e.symm).trans Q
 ·exact(a.block _ (jP.1 H).1 λe=>cQ f.own H G e.symm).trans H
 ·intro t u x
  have e1:=a.block U (jB bc r.size) λe=>bK U (by rw[HM];exact bc) e.symm
  have h:=aa t u x;unfold World.cell? at h⊢;dsimp only at h⊢;rw[e1];exact h
 clear hK E a hv;refine L ?_;refine bX ?_;refine eH ?_;have a:ji ((Ks++[k]).map CK.cand=(W.take (j+1)).filterMap (dR g l)):=O (by
  rw[j5,ax,jT,ql,a4])
 go_wp2_with fail
 exact⟨⟨j+1,m+1,q',c',Ks++[k],by go_num,rfl,by omega,a2,a,Z3⟩,by simp only[jF];omega⟩
structure Ec(Ks:A CK)(F:T)(caps:js jb)(w:jg)(p:CK->jS):Prop where
 enter:∀args w,(r7 F args).run jl w=.ok (.enter F args) w
 call:∀x∈Ks,∀w',jo w w w'->jz jl F (#[jn (aK x).toArray]++caps) w' λe a=>e=jw (.bool (p x))/\jo w' w' a
theorem Sq{Ks:A CK}{X:js jb}{p:CK->jS}(a:Ec Ks M X w p)(v:jb)(h:cF w v 143 Ks.length (Ks.flatMap aK))(d:∀k∈Ks,(aK k).length=143)(K:Ks.length<=1000000):
 jz jl 169 #[v,.func (.func M) #[] X] w λe w'=>∃r,e=jw (jc jd r)/\m9 p Ks r/\jo w w w':=by
 obtain⟨-,q,c,rfl,F,-,g⟩:=h;have EG:=a.enter;have P:=O a;have z:=O g;have f:=O d;obtain⟨n,b⟩:=J Ks.length;have B:=O b;rw[<-b]at K F z⊢;clear b a g d
 go_enter func169,ntmps169
 go_wp2_with fail
 go_loopw [8] (λi wr=>∃k:T,i=jc jd k/\k<=n/\ji (∀y∈Ks.take k,p y=jr)/\ji (jo w w wr)) (λi _=>n-(jF i).toNat)
 case atStart=>exact⟨0,I,oj _,O ar,O (j9 _ _)⟩
 obtain⟨k,rfl,hk,i,b⟩:=hrel
 by_cases Q:k<n
 ·have R:=aA ((k:ja)<(n:ja))
  have S:=aA (k<n);obtain⟨e,he,x⟩:=dL (l:=Ks) (j:=k) (by rw[<-B];exact Q);have a:=j1 he;obtain⟨g,o,rfl,C⟩:=z Y;have d:=O (P.call e a wr b);obtain⟨r,m⟩:=J (p e);rw[<-m]at d;have D:=O m;have U:=O x;have V:=O he;have W:ji ((aK e).length=VK.n):=O (f e a);have E:ji (wr.rangeAt g (o+k*143) (aK e)):=O λt u H=>by
   rw[qn];exact aB (C _ u ((sj aK 143 Ks f k t e he (by rw[<-f e a];exact(jV.1 H).1)).trans H)) b
  obtain⟨caps,s⟩:=J ((aK e).toArray);rw[<-s]at d;have HX:=O s;clear C he x m a s
  go_wp2_with (first|(refine VK.load aj I I (aK e) W E ?_;rw[<-HX];refine L ?_))
  refine(d).mono ?_;rintro x s ⟨rfl,a⟩;have m:=ah b a;clear a d E
  rcases r with _|_
  ·go_wp2_with fail
   exact⟨⟨k+1,by go_num,by omega,O (by
    rw[U];intro y a
    rcases jQ.1 a with a|a
    ·exact i y a
    rw[qh]at a;rw[a];exact D.symm),m⟩,by simp only[jF];omega⟩
  go_wp2_with fail
  go_ret;exact⟨_,I,.inr ⟨k,_,I,V,D.symm,i⟩,m⟩
 have R:=az ((k:ja)<(n:ja));have S:=az (k<n);obtain rfl:k=n:=Y
 go_wp2_with fail
 go_ret;exact⟨_,I,.inl ⟨I,by have h:=i.out;rw[qf (by rw[<-B];exact jE _)]at h;exact h⟩,b⟩
theorem Oh{Ks:A CK}{F:T}{caps:js jb}{p:CK->jS}(d:Ec Ks F caps w p)(v:jb)(h:cF w v 143 Ks.length (Ks.flatMap aK))(a:∀k∈Ks,(aK k).length=143)(b:Ks.length<=1000000):
 jz jl 112 #[v,.func (.func F) #[] caps] w λe w'=>e=jw (.bool (Ks.any p))/\jo w w w':=by
 have c:=O (Sq d v h a b);clear h a b
 go_enter func112,ntmps112
 go_wp2_with fail
 refine(c).mono ?_;rintro x h ⟨r,rfl,a,b⟩;have f:=O a.any;have g:=O b;clear a b c
 go_wp2_with fail
 go_ret;exact⟨iu f,g⟩
theorem Kj(d:ja)(b:T)(x:ap)(w:jg)(h:Boxed w b 3 (jc jd d)):
 jz jl 170 #[jn x.cells.toArray,jG (N ⟨b,0,je⟩)] w λe w'=>e=jw (.bool (x.k==2&&x.d==d))/\jo w w w':=by
 obtain⟨a,f,i,j,k⟩:=x;obtain⟨r,c⟩:=J ((a==2&&f==d));show jz _ _ _ _ λe w'=>e=jw (.bool (a==2&&f==d))/\_
 rw[<-c];have l:=O c;unfold ap.cells;have g:=ao w (jh #[jc jd a,jc jd f,jc jd i,jc jd j,jc jd k] 56);have o:(w.alloc (jh #[jc jd a,jc jd f,jc jd i,jc jd j,jc jd k] 56)).cell? ⟨b,0,je⟩=N (jc jd d):=aB h.cell g;have m:=O g;clear c g h
 by_cases c:a=2
 ·have g:(a==2)=jk:=ak c
  have h:decide (a=2)=jk:=ak c;have n:ji (r=(f==d)):=O (by rw[l];simp[c]);clear c
  go_enter func170,ntmps170
  go_wp2_with fail
  go_ret;exact⟨iu n.symm,m⟩
 have g:(a==2)=jr:=ak c;have h:decide (a=2)=jr:=ak c;obtain rfl:r=jr:=by rw[l,g];rfl
 clear c
 go_enter func170,ntmps170
 go_wp2_with fail
 go_ret;exact⟨I,m⟩
theorem LY(d:ja)(b a:T)(c:b<a):fU EC 170 #[jG (N ⟨b,0,je⟩)] a (λW=>Boxed W b 3 (jc jd d)) (λx=>x.k==2&&x.d==d) where
 enter _ _:=I
 keep w w' hn h hB:=(hB.block b c).trans h
 call x w hn h:=Kj d b x w h
theorem On(k:CK)(d:ja)(w:jg)(h:KIn w k)(g:k.p.1.chg.length<=1000000):
 jz jl 114 #[jn (aK k).toArray,jc jd d] w λe w'=>e=jw (.bool (pf k.p.1 d))/\jo w w w':=by
 have b:=ao w (jh (aK k).toArray 80);have c:=b.trans ((ao (w.alloc (jh (aK k).toArray 80)) (jh #[jc jd d] 3)).mono b.size);have j:((w.alloc (jh (aK k).toArray 80)).alloc (jh #[jc jd d] 3)).heap[w.heap.size]?=N (jh (aK k).toArray 80 (0,0)):=av (jC w _) (ao _ _);have l:Boxed ((w.alloc (jh (aK k).toArray 80)).alloc (jh #[jc jd d] 3)) (w.heap.size+1) 3 (jc jd d):=by
  have h:=jC (w.alloc (jh (aK k).toArray 80)) (jh #[jc jd d] 3);rw[jK]at h;exact h
 have f:=ai (i:=36) (v:=k.p.2.vc) j (by simpa using(mR h).2.2.1);have a:=O (Bq (LY d (w.heap.size+1) (w.heap.size+2) Y) k.p.1.chg k.p.2.vc _ (EK.At.of_sl (h.com.below c).chg) l (by rw[jK,jK];exact jE _) g);have m:=O c;obtain⟨r,s,o⟩:=h.com.chg.form;rw[o]at f a;obtain⟨n,p⟩:=J k.p.1.chg.length;rw[<-p]at f a;obtain⟨X,q⟩:=J ((aK k).toArray);rw[<-q]at f a m⊢;clear b c j l h q o p g
 go_enter func114,ntmps114
 go_wp2_with fail
 refine a.mono ?_;rintro e x1 ⟨rfl,b⟩;have c:=ah m b;clear b a
 go_wp2_with fail
 go_ret;exact⟨I,c⟩
theorem Hb(k:CK)(w:jg)(h:KIn w k)(D:k.p.1.chg.length<=1000000):
 jz jl 115 #[jn (aK k).toArray] w λe w'=>e=jw (jc jd (nK k.p.1:T))/\jo w w w':=by
 have b:=ao w (jh (aK k).toArray 80);have d:=ai (i:=36) (v:=k.p.2.vc) (jC w (jh (aK k).toArray 80)) (by simpa using(mR h).2.2.1);have a:=EK.At.of_sl (E:=EC) (h.com.below b).chg;obtain⟨l,g⟩:=J k.p.1.chg;have m:nK k.p.1=l.countP λx=>x.k==2:=by rw[g];rfl
 rw[<-g]at a D;obtain⟨q,c,f,M,-⟩:=a.form;rw[f]at d a;rw[m];have s:=O a;have t:=O b;obtain⟨n,j⟩:=J l.length;have F:=O j;rw[<-j]at d s D M;obtain⟨X,o⟩:=J ((aK k).toArray);rw[<-o]at d s t⊢;clear b h o g m a f j
 go_enter func115,ntmps115
 go_wp2_with fail
 obtain⟨H,a⟩:=J (w.alloc (jh X 80));rw[<-a]at d s t⊢;clear d a
 go_loopw [2,9] (λm i wr=>∃j:T,i=jc jd j/\m=jc jd ((l.take j).countP λx=>x.k==2:T)/\j<=n/\ji (jo w w wr)/\ji (jo H H wr)) (λ_ i _=>n-(jF i).toNat)
 case atStart=>exact⟨0,I,I,oj _,t,O (j9 _ _)⟩
 obtain⟨j,rfl,rfl,U,h,a⟩:=hrel
 by_cases P:j<n
 case neg=>
  have Q:=az ((j:ja)<(n:ja));have R:=az (j<n);obtain rfl:j=n:=Y;have e:l.take j=l:=qf (by rw[<-F];exact jE _);rw[e];clear e
  go_wp2_with fail
  go_ret;exact⟨I,h⟩
 have Q:=aA ((j:ja)<(n:ja));have R:=aA (j<n);obtain⟨e,he,C⟩:=dL (l:=l) (j:=j) (by rw[<-F];exact P);obtain⟨g,o,rfl,r⟩:=(s.cells).2.2 Y;have u:ji ((l.take (j+1)).countP (λx=>x.k==2)=(l.take j).countP (λx=>x.k==2)+if e.k==2 then 1 else 0):=O (by rw[C,List.countP_append,List.countP_singleton]);have S:(l.take j).countP (λx=>x.k==2)<=n:=by
  have:=xE (p:=λx:ap=>x.k==2) (l:=l.take j);rw[xf]at this;omega
 obtain⟨b,f,y,z,B⟩:=e;have V:wr.cell? ⟨g,o+j*5,je⟩=N (jc jd b):=aB (r j _ he 0 _ I) a;have d:wr.cell? ⟨g,o+j*5+1,je⟩=N (jc jd f):=aB (r j _ he 1 _ I) a;have W:wr.cell? ⟨g,o+j*5+2,je⟩=N (jc jd y):=aB (r j _ he 2 _ I) a;have c3:wr.cell? ⟨g,o+j*5+3,je⟩=N (jc jd z):=aB (r j _ he 3 _ I) a;have c4:wr.cell? ⟨g,o+j*5+4,je⟩=N (jc jd B):=aB (r j _ he 4 _ I) a;obtain⟨m,K⟩:=J ((l.take j).countP (λx=>x.k==2));rw[<-K]at S u⊢;replace h:=O (h.trans ((ao wr (jh #[jc jd b,jc jd f,jc jd y,jc jd z,jc jd B] 56)).mono h.size));replace a:=O (a.trans ((ao wr (jh #[jc jd b,jc jd f,jc jd y,jc jd z,jc jd B] 56)).mono a.size));clear he C r K
 by_cases r:b=2
 ·have C:(b==2)=jk:=by simp[r]
  have K:decide (b=2)=jk:=by simp[r]
  clear r
  go_wp2_with fail
  exact⟨⟨j+1,by go_num,by rw[u];simp[C],by omega,h,a⟩,by simp only[jF];omega⟩
 have C:(b==2)=jr:=by simp[r]
 have K:decide (b=2)=jr:=by simp[r]
 clear r
 go_wp2_with fail
 exact⟨⟨j+1,by go_num,by rw[u];simp[C],by omega,h,a⟩,by simp only[jF];omega⟩
def oF(k x:CK):jS:=x.p.1.author !=k.p.1.author&&pf x.p.1 k.p.1.author
theorem Kz(x k:CK)(b:T)(w:jg)(h:KIn w x)(q:KIn w k)(t:w.heap[b]?=N (jh (aK k).toArray VK.t (0,0)))(u:x.p.1.chg.length<=1000000):
 jz jl 113 #[jn (aK x).toArray,jG (N ⟨b,0,je⟩)] w λe w'=>e=jw (.bool (oF k x))/\jo w w w':=by
 have a:=ao w (jh (aK x).toArray 80);have j:=jC w (jh (aK x).toArray 80);have y:=ai (i:=35) (v:=jc jd x.p.1.author) j (by simpa using(mR h).2.1);have z:=ai (i:=35) (v:=jc jd k.p.1.author) (av t a) (by simpa using(mR q).2.1);have l:=O j;have m:ji ((aK x).toArray.size=VK.n):=O (by rw[jL];exact h.len);have f:=O (On x k.p.1.author _ (h.below a) u);have n:=O a;obtain⟨s,o⟩:=J (oF k x);rw[<-o];obtain⟨r,p⟩:=J (pf x.p.1 k.p.1.author);have g:ji (s=(x.p.1.author !=k.p.1.author&&r)):=O (by rw[o,p];rfl);rw[<-p]at f;obtain⟨X,B⟩:=J ((aK x).toArray);rw[<-B]at y z l m f n⊢;obtain⟨c,C⟩:=J x.p.1.author;obtain⟨d,D⟩:=J k.p.1.author;rw[<-C]at y g;rw[<-D]at z g f;clear a j h q t u p o B C D
 by_cases a:c=d
 ·have j:(c==d)=jk:=by simp[a]
  have o:decide (c=d)=jk:=by simp[a]
  have h:(c !=d)=jr:=by simp[a]
  have p:decide (c≠d)=jr:=by simp[a]
  obtain rfl:s=jr:=by rw[g,h];rfl
  clear a
  go_enter func113,ntmps113
  go_wp2_with (first|(refine VK.loadA aj I I X m l (L ?_)))
  go_ret;exact⟨I,n⟩
 have j:(c==d)=jr:=by simp[a]
 have o:decide (c=d)=jr:=by simp[a]
 have h:(c !=d)=jk:=by simp[a]
 have p:decide (c≠d)=jk:=by simp[a]
 obtain rfl:s=r:=by rw[g,h];rfl
 clear a
 go_enter func113,ntmps113
 go_wp2_with (first|(refine VK.loadA aj I I X m l (L ?_)))
 refine f.mono ?_;rintro e x1 ⟨rfl,a⟩;have q:=ah n a;clear a f
 go_wp2_with fail
 go_ret;exact⟨I,q⟩
theorem io.below{c d e:jb}{f:A CP}(h:io (·<w.heap.size) w c d e f)(b:jo w w w'):io (·<w'.heap.size) w' c d e f:=
 ⟨h.list.below b,(h.ids.keep λg a=>b.block g a).mono λg a=>jB a b.size,(h.at_.keep λg a=>b.block g a).mono λg a=>jB a b.size⟩
theorem io.mono{a c d:jb}{e:A CP}(h:io D w a c d e)(f:∀b,D b->E b):io E w a c d e:=⟨h.list,h.ids.mono f,h.at_.mono f⟩
theorem KsD.keep{a:A CP}{v:jb}{Ks:A CK}(h:KsD D a w v Ks)(c:∀b,D b->w'.heap[b]?=w.heap[b]?):KsD D a w' v Ks:=⟨h.row.keep c,λk b=>(h.all k b).keep c⟩
noncomputable def dj:jv CK->js jb
 |none=>VK.Z
 |some k=>(aK k).toArray
structure WSt(M a:T)(d:A CP)(v:jb)(Ks:A CK)(e:jb)(m j:T)(c:A CK)(wk:jv CK)(w0 W:jg):Prop where
 ks:KsD (λb=>M+3<=b/\b<a) d W v Ks
 own:W.ownsRow a RK.e RK.k e m (c.flatMap aK)
 len:m=c.length
 le:m<=j
 sub:∀k∈c,k∈Ks
 wsub:∀k,wk=N k->k∈Ks
 var:W.heap[M+2]?=N (jh (dj wk) VK.t (0,0))
 bel:jo (M+2) w0 W
 st:((Ks.map CK.cand).take j).foldl gt ([],je)=(c.map CK.cand,wk.map CK.cand)
 sz:a<=W.heap.size
 big:M+3<=a
theorem KIn.ones{k:CK}(h:KIn w k):∀u∈aK k,u.oneCell'=jk:=by
 intro u a;unfold aK at a;rw[jD,jQ,jQ,jD]at a
 rcases a with rfl|a|a|rfl|a
 ·rfl
 ·exact lU h.com u a
 ·exact im _ u a
 ·rfl
 exact mi h.leads u a
theorem sO{wk:jv CK}(h:∀k,wk=N k->KIn w k):(dj wk).size=VK.n/\(dj wk).all (·.oneCell')=jk:=by
 rcases wk with _|k
 ·exact⟨VK.hZ,by kernel_rfl⟩
 have a:=h k I;refine⟨by unfold dj;rw[jL];exact a.len,?_⟩;unfold dj;rw[p6];exact λu b=>a.ones u (ak b)
theorem WSt.below{c:T}{d:A CP}{v:jb}{Ks:A CK}{e:jb}{f:A CK}{wk:jv CK}{g:jg}(h:WSt M c d v Ks e m j f wk w0 W)(a:jo W W g):WSt M c d v Ks e m j f wk w0 g:=
 ⟨h.ks.keep λb i=>a.block b (jB i.2 h.sz),cK h.own a,h.len,h.le,h.sub,h.wsub,av h.var a,h.bel.trans (a.mono (by have:=h.sz;have:=h.big;omega)),h.st,jH h.sz a.size,h.big⟩
theorem WSt.step{c:T}{d:A CP}{v:jb}{Ks:A CK}{a:A CK}{wk:jv CK}(h:WSt M c d v Ks f m j a wk w0 W){k:CK}(b:Ks[j]?=N k):
 ((Ks.map CK.cand).take (j+1)).foldl gt ([],je)=gt (a.map CK.cand,wk.map CK.cand) k.cand:=by
 have g:=(jV.1 b).1;have e:(Ks.map CK.cand).take (j+1)=(Ks.map CK.cand).take j++[k.cand]:=by
  rw[wt (by rw[ju];exact g)];simp[(jV.1 b).2]
 rw[e,List.foldl_append,h.st]
 rfl
theorem Db(a:A CK)(k:CK):rT (a.map CK.cand) k.cand=a.any (oF k):=by
 unfold rT;rw[List.any_map]
 rfl
theorem WSt.struck{c:A CP}{Ks:A CK}{a:A CK}{wk:jv CK}(h:WSt M R c u Ks f m y a wk w W){k:CK}(e:Ks[y]?=N k)(d:a.any (oF k)=jk):WSt M R c u Ks f m (y+1) a wk w W:=
 ⟨h.ks,h.own,h.len,Nat.le_succ_of_le h.le,h.sub,h.wsub,h.var,h.bel,by rw[h.step e];unfold gt;rw[jp (by rw[Db];exact d)],h.sz,h.big⟩
def sP(wk:jv CK)(k:CK):jS:=match wk with|none=>jk|some x=>decide (nK x.p.1<nK k.p.1)
theorem N3(wk:jv CK)(k:CK):ww (wk.map CK.cand) k.cand=sP wk k:=by cases wk<;>rfl
structure nY(M a:T)(d:A CP)(v:jb)(Ks:A CK)(e:jb)(m j:T)(c:A CK)(wk:jv CK)(k:CK)(w0 W:jg):Prop where
 ks:KsD (λb=>M+3<=b/\b<a) d W v Ks
 own:W.ownsRow a RK.e RK.k e m (c.flatMap aK)
 len:m=c.length
 le:m<=j
 sub:∀k∈c,k∈Ks
 wsub:∀k,wk=N k->k∈Ks
 mem:k∈Ks
 var:W.heap[M+2]?=N (jh (dj wk) VK.t (0,0))
 bel:jo (M+2) w0 W
 st:((Ks.map CK.cand).take j).foldl gt ([],je)=(c.map CK.cand,if sP wk k=jk then N k.cand else wk.map CK.cand)
 sz:a<=W.heap.size
 big:M+3<=a
theorem WSt.push{f:T}{o:A CP}{v:jb}{Ks:A CK}{l p:jb}{g:A CK}{wk:jv CK}{i:jg}(h:WSt M f o v Ks l m j g wk w0 W){k:CK}(q:Ks[j]?=N k)(s:g.any (oF k)=jr)
 (t:i.ownsRow f RK.e RK.k p (m+1) (g.flatMap aK++aK k)) (a:W.grownBy i l.ownBlock):nY M f o v Ks p (m+1) (j+1) (g++[k]) wk k w0 i:=by
 have u:∀b,b<f->l.ownBlock≠N b:=λb c e=>by have:=(h.own.lt b e).1;omega
 have n:∀b,b<f->i.heap[b]?=W.heap[b]?:=λb c=>a.block b (jB c h.sz) λe=>u b c e.symm
 have r:=j1 q;refine⟨h.ks.keep λb c=>n b c.2,by rw[xa];simpa using t,by rw[jJ,<-h.len];rfl,Nat.succ_le_succ h.le,λx d=>?_,h.wsub,r,(n _ (cT h.big)).trans h.var,
  h.bel.trans ⟨a.os,a.tape,a.output,a.size,λb c=>n b (cT h.big)⟩,?_,jH h.sz a.size,h.big⟩
 ·rcases jQ.1 d with d|d
  ·exact h.sub x d
  rw[qh]at d;rw[d];exact r
 rw[h.step q,gt,jq (by rw[Db,s];decide)];dsimp only;rw[N3,j5]
 rfl
theorem nY.below{c:T}{d:A CP}{v:jb}{Ks:A CK}{e:jb}{f:A CK}{wk:jv CK}{k:CK}{g:jg}(h:nY M c d v Ks e m j f wk k w0 W)(a:jo W W g):nY M c d v Ks e m j f wk k w0 g:=
 ⟨h.ks.keep λb i=>a.block b (jB i.2 h.sz),cK h.own a,h.len,h.le,h.sub,h.wsub,h.mem,av h.var a,h.bel.trans (a.mono (by have:=h.sz;have:=h.big;omega)),h.st,jH h.sz a.size,h.big⟩
theorem nY.stay{b:A CP}{Ks:A CK}{d:A CK}{wk:jv CK}{k:CK}(h:nY M R b u Ks f m y d wk k w W)(e:sP wk k=jr):WSt M R b u Ks f m y d wk w W:=
 ⟨h.ks,h.own,h.len,h.le,h.sub,h.wsub,h.var,h.bel,by rw[h.st,e];rfl,h.sz,h.big⟩
theorem nY.set{d:T}{e:A CP}{v:jb}{Ks:A CK}{g:A CK}{wk:jv CK}{k:CK}(h:nY M d e v Ks f m j g wk k w0 W)(a:sP wk k=jk):WSt M d e v Ks f m j g (N k) w0 (W.setRow (M+2) (aK k).toArray):=
 ⟨h.ks.keep λb a=>qk _ _ _ _ Y,iz h.own λb a=>qk _ _ _ _ (by have:=(h.own.lt b a).1;have:=h.big;omega),h.len,h.le,h.sub,λx c=>by injection c with c;rw[<-c];exact h.mem,
  j4 _ _ _ _ _ _ h.var,iP h.bel (jE _) _,by rw[h.st,a];rfl,by rw[setRow_size];exact h.sz,h.big⟩
theorem C6{c:jS}{p q:Prop}(h:c=jr)(k:q):if c=jk then p else q:=by rw[h];exact k
theorem uk(o:A CP)(v1 v2 v3:jb)(g:Grp)(vm vt:jb)(w:jg)(d:io (·<w.heap.size) w v1 v2 v3 o)(n:bU w g vm vt)(q:∀p∈o,cY (aR p.1))(r:bQ w)(a:o.length<=1000)(t:g.mem.length<=900000)(u:g.tree.length<=600000)(v:∀p∈o,p.1.chg.length<=1000000):
 jz jl 50 #[jn #[v1,v2,v3],jn (aD g vm vt).toArray] w λe w'=>∃wk,e=jw (jZ #[jn (dj wk),.bool wk.isSome])/\(∀k,wk=N k->KD (λb=>w.heap.size<=b/\b<w'.heap.size) o w' k)/\wk.map CK.cand=dJ g (o.map (·.1))/\jo w w w':=by
 obtain⟨p1,k1,e1⟩:=d.list.form;obtain⟨p2,k2,s⟩:=d.ids.form;obtain⟨p3,k3,e3⟩:=d.at_.form;obtain⟨P,j⟩:=J ((aD g vm vt).toArray);obtain⟨C,l⟩:=J (#[v1,v2,v3]);have bf:ji (C.size=VP.n):=O (by rw[l];rfl);have bg:ji (P.size=VG.n):=O (by rw[j,jL,eE n.llen];rfl);obtain⟨M,f⟩:=J w.heap.size;have HM:=O f;obtain⟨Q,c⟩:=J (((w.alloc (jh C 76)).alloc (jh P 45)).alloc (jh VK.Z VK.t));have ad:=ao w (jh C 76);have V:=ad.trans ((ao (w.alloc (jh C 76)) (jh P 45)).mono ad.size);have m:=ao ((w.alloc (jh C 76)).alloc (jh P 45)) (jh VK.Z VK.t);have x:ji (Q.heap[M]?=N (jh C VP.t (0,0))):=O (by rw[c,f];exact av (av (jC w _) (ao _ _)) m);have z:ji (Q.heap[M+1]?=N (jh P VG.t (0,0))):=O (by
  have h:=jC (w.alloc (jh C 76)) (jh P 45);rw[jK]at h;rw[c,f];exact av h m)
 have B:ji (Q.heap[M+2]?=N (jh VK.Z VK.t (0,0))):=O (by
  have h:=jC ((w.alloc (jh C 76)).alloc (jh P 45)) (jh VK.Z VK.t);rw[jK,jK]at h;rw[c,f];exact h)
 have W:ji (jo w w Q):=O (by rw[c];exact V.trans (m.mono V.size));have bh:ji (Q.heap.size=M+3):=O (by rw[c,f,jK,jK,jK]);have i:=ER o v1 v2 v3 g vm vt Q (d.below W) (n.below W) q (r.below W) a t u;rw[<-j,<-l]at i;replace i:=O i;have HL:=O d.list;have VS:=O v;have Ww:=O a;rw[<-j,<-l];have y:=O c;clear ad V m c f j l d n q r a t u v e1 s e3
 go_enter func50,ntmps50
 go_upto_region 2 with(first|(refine VK.made I I (L ?_)))
 rw[<-y];simp only[jK];rw[show w.heap.size+1+1=w.heap.size+2 from I,<-HM];clear y
 go_wp2_with (first|(refine VP.loadA aj I I C bf x (L ?_))|(refine VG.loadA aj I I P bg z (L ?_)))
 refine i.mono ?_;rintro e x1 ⟨v,Ks,rfl,c,d,R⟩;obtain⟨pv,kv,rfl⟩:=c.row.form;obtain⟨au,j⟩:=J x1.heap.size;have f:ji (WSt M au o (jf pv Ks.length kv) Ks (jf je 0 0) 0 0 [] je Q x1):=O (by
  have hz:=bh.out;have hs:=R.size;rw[j];exact⟨c.mono λb S=>⟨by have:=S.1;omega,S.2⟩,qG _ _ _ _,I,jE _,(λk y=>by cases y),(λk y=>by cases y),av B R,R.mono Y,I,jE _,by omega⟩)
 obtain⟨n,a⟩:=J Ks.length;rw[<-a]at f⊢;have ZJ:=O a;have bi:=O d;have bo:n<=1000:=by
  have h:=jR qJ d;have l:(eS g (o.map (·.1))).length<=(bH (o.map (·.1)) (o.map (·.1)).length).length:=by
   unfold eS;rw[List.length_mergeSort];exact xe _ _
  have m:=sd (o.map (·.1)) (o.map (·.1)).length;rw[ju]at h l m;have:=Ww.out;omega
 clear j a c d R i B z x
 go_wp2_with fail
 go_loopw [6,14,5] (λa i ok wr=>∃(j m:T) (q:jv jM) (c:T) (D:A CK) (wk:jv CK),i=jc jd j/\a=jf q m c/\ok=.bool wk.isSome/\j<=n/\ji (WSt M au o (jf pv n kv) Ks (jf q m c) m j D wk Q wr)) (λ_ i _ _=>n-(jF i).toNat)
 case atStart=>exact⟨0,0,je,0,[],je,I,I,I,oj _,f⟩
 obtain⟨j,m,q,c,D,wk,rfl,rfl,rfl,hj,a⟩:=hrel;clear f
 by_cases bk:j<n
 case neg=>
  have hd:=az ((j:ja)<(n:ja));have UY:=az (j<n);obtain rfl:j=n:=Y;have r:ji (∀x∈Ks,KIn wr x):=O λx d=>(a.ks.all x d).kin (HL.below (W.trans (a.bel.mono (by rw[<-HM];omega))))
  have f:=O (sO (wk:=wk) λk y=>r k (a.wsub k y));have i:=O a.var
  go_wp2_with (first|(refine VK.loadA aj I I (dj wk) f.1 i (L ?_))|(refine VK.store I I I (dj wk) I f.1 f.2 i f.1 ?_;rw[setRow_self _ _ _ _ _ i.out];refine L ?_))
  refine n0 (fQ I _ _ (M+2) VK.t (dj wk) (0,0) _ I i qX I (by rw[f.1];exact VK.hi)) I ?_;refine⟨wk,I,λk y=>(a.ks.all k (a.wsub k y)).mono λb S=>⟨by rw[<-HM];omega,jB S.2 a.sz⟩,?_,W.trans (a.bel.mono (by rw[<-HM];omega))⟩;have h:=a.st;rw[qf (by rw[ju,<-ZJ];exact jE _),bi]at h;unfold dJ;rw[h]
 have hd:=aA ((j:ja)<(n:ja));have UY:=aA (j<n);obtain⟨k,y⟩:∃k,Ks[j]?=N k:=⟨_,mz (by rw[<-ZJ];exact bk)⟩;have f:=j1 y;have l:ji (jo w w wr):=O (W.trans (a.bel.mono (by rw[<-HM];omega)));have r:ji (∀x∈Ks,KIn wr x):=O λx d=>(a.ks.all x d).kin (HL.below l)
 obtain⟨gk,ok,ck,e1,B,-,z⟩:=a.ks.row.at1 (by rw[<-ZJ];omega);injection e1 with e1 s e3
 subst e1;subst e3;clear s;have a4:ji ((aK k).length=VK.n):=O (r k f).len;have s:ji (wr.rangeAt gk (ok+j*143) (aK k)):=O λt u ht=>by
  rw[qn];exact z _ u ((sj aK 143 Ks (λx d=>(r x d).len) j t k y (by rw[<-(r k f).len];exact(jV.1 ht).1)).trans ht)
 have Yx:ji (∀u∈aK k,u.oneCell'=jk):=O ((a.ks.all k f).ones (HL.below l));obtain⟨X,i⟩:=J ((aK k).toArray);have HX:=O i;have E:ji (X.size=VK.n):=O (by rw[i,jL];exact a4);have Vf:ji (X.all (·.oneCell')=jk):=O (by rw[i,p6];exact λu H=>Yx u (ak H));have a5:=O y;have ay:=O f;clear z B i y f
 go_upto_region 5 with(first|(refine VK.load aj I I (aK k) a4 s ?_;rw[<-HX];refine L ?_)|(refine VK.made I I (L ?_))|(refine VK.first I I I X I E Vf (L ?_)))
 obtain⟨x2,bc,d,S,z,f⟩:=dl wr X VK.t;rw[<-d,<-S];have bl:ji (∀b,(qz q m c).ownBlock=N b->b<bc):=O λb h=>by rw[S];exact(a.own.lt b h).2
 replace a:=O (a.below f);replace r:ji (∀x∈Ks,KIn x2 x):=O λx d=>(r x d).below f
 have i:=O (Oh (Ks:=D) (F:=113) (caps:=#[jG (N ⟨bc,0,je⟩)]) (p:=oF k) (w:=x2) ⟨λ_ _=>rfl,λx d w' R=>Kz x k bc w' ((r x (a.sub x d)).below R) ((r k ay).below R) (av (by rw[<-HX];exact z) R) (VS _ (j1 (a.ks.all x (a.sub x d)).at_))⟩
  (jf q m c) (by rw[<-a.len];exact cF.of_own a.own) (λx d=>(r x (a.sub x d)).len) (by have:=a.le;have:=a.len;omega))
 clear d S f s l
 go_wp2_with fail
 refine i.mono ?_;rintro e x3 ⟨rfl,f⟩;replace a:=O (a.below f);replace r:ji (∀x∈Ks,KIn x3 x):=O λx d=>(r x d).below f
 replace z:=ae z f;obtain⟨s,hs⟩:=J (D.any (oF k));rw[<-hs];have a6:=O hs;clear hs f i
 cases s with
 |true=>
  have H:=O (a.struck a5 a6.symm)
  go_wp2_with fail
  exact⟨⟨j+1,m,q,c,D,wk,by go_num,rfl,rfl,by omega,H⟩,by simp only[jF];omega⟩
 |false=>
  have ba:ji (X.toList=aK k):=O (by rw[HX]);have bm:ji (∀u∈X.toList,u.oneCell'=jk):=O (by rw[ba];exact Yx);have bb:ji (m<=1000000/\au<=x3.heap.size+1):=O ⟨by have:=a.le;omega,by have:=a.sz;omega⟩
  go_upto_region 8 with(first|(refine VK.loadA aj I I X E z (L ?_))|(refine jO I λ_ i=>RK.wp_build (.tmp 23) I (jn X) I E (i _ _ ?_);clear i;refine L ?_)|
   (refine jO I λ_ i=>RK.wp_append (.tmp 22) (.tmp 24) I au (jf q m c) m (D.flatMap aK) I (cK a.own (ao x3 (jh X RK.e))) x3.heap.size X I (jC _ _) E bm bb.1 (by rw[jK];exact bb.2) ?_;intro v' x4 l B hv;obtain⟨q',c',rfl⟩:=cN l;refine i _ _ ?_;clear i;refine L ?_;have U:=O l;have K:=O B;clear l B hv))
  have l:=O ((a.below (ao x3 (jh X RK.e))).push a5 a6.symm (by rw[<-ba];exact U) K);have B:ji (x4.heap[bc]?=N (jh X VK.t (0,0))):=O ((K.block bc (by rw[jK];have:=(jP.1 z).1;omega) λe=>by have:=bl bc e.symm;omega).trans (av z (ao _ _)));have f:=bV x4;obtain⟨x5,d⟩:=J x4.drew;rw[<-d]at f;replace l:=O (l.below f);replace B:=ae B f;have a1:=O d;have bn:ji (cC x5 v1 o):=O (HL.below (W.trans (l.bel.mono (by rw[<-HM];omega))));have aa:ji (∀x∈Ks,KIn x5 x):=O λx d=>(l.ks.all x d).kin bn
  clear U K r z d f
  rcases wk with _|K
  ·refine o5 ?_
   refine fb (λ_=>True) 9 (.t 0 (.t 1 (.t 2 (.t 3 (.t 5 (.o 4 (.o 6 (.t 7 (.t 8 .done))))))))) af af af af G (λ_ _ _ _ h=>h) trivial ?_;rw[<-a1];iterate 3 refine bX ?_
   iterate 2 (refine Hl I aj (L ?_))
   refine cO I (λK' i=>C6 aj (i _ _ trivial λ_=>?_));clear i;refine L ?_;refine cO I (λK' i=>C6 aj (i _ _ trivial λ_=>?_));clear i;refine L ?_
   (refine Hl I aj (L ?_))
   refine bX ?_;refine eH ?_;have H:=O (l.set I);rw[<-HX]at H
   go_wp2_with (first|(refine VK.loadA aj I I X E B (L ?_))|(refine VK.store I I I X I E Vf l.var VK.hZ (L ?_)))
   exact⟨⟨j+1,m+1,q',c',D++[k],N k,by go_num,rfl,rfl,by omega,H⟩,by simp only[jF];omega⟩
  obtain⟨UT,hY⟩:=J ((aK K).toArray);have ax:=l.wsub K I;have U:ji (x5.heap[M+2]?=N (jh UT VK.t (0,0))):=O (by rw[hY];exact l.var);have YA:ji (UT.size=VK.n):=O (by rw[hY,jL];exact(aa K ax).len);obtain⟨na,a2⟩:=J (nK k.p.1);obtain⟨nb,a3⟩:=J (nK K.p.1);have bd:ji (sP (N K) k=decide (nb<na)):=O (by rw[a2,a3];rfl);have U1:ji (∀z,(∀x∈Ks,KIn z x)->jz jl 115 #[jn X] z λe w'=>e=jw (jc jd (na:T))/\jo z z w'):=O λz hz=>by
   rw[a2,HX];exact Hb k z (hz k ay) (VS _ (j1 (l.ks.all k ay).at_))
  have UZ:ji (∀z,(∀x∈Ks,KIn z x)->jz jl 115 #[jn UT] z λe w'=>e=jw (jc jd (nb:T))/\jo z z w'):=O λz hz=>by
   rw[a3,hY];exact Hb K z (hz K ax) (VS _ (j1 (l.ks.all K ax).at_))
  clear a2 a3 ax hY;refine o5 ?_;refine fb (λW'=>W'.heap[bc]?=N (jh X VK.t (0,0))/\W'.heap[M+2]?=N (jh UT VK.t (0,0))) 9 (.t 0 (.t 1 (.t 2 (.t 3 (.t 5 (.o 4 (.o 6 (.t 7 (.t 8 .done))))))))) af af af af G (λ_ _ _ _ h=>h) (by rw[<-a1];exact⟨B,U⟩) ?_;rw[<-a1];iterate 3 refine bX ?_
  (refine cD (v:=jn X) I aj (λW' hS=>cU VK.hu VK.hd (by rw[E];exact VK.hi) I I hS.1) ?_;refine L ?_)
  (refine cD (v:=jn UT) I aj (λW' hS=>cU VK.hu VK.hd (by rw[YA];exact VK.hi) I I hS.2) ?_;refine L ?_)
  refine cO I (λK' i=>?_);go_simp;refine(U1 x5 aa).mono ?_;rintro e x6 ⟨rfl,f⟩;replace l:=O (l.below f);replace B:=ae B f;replace U:=ae U f;replace aa:ji (∀x∈Ks,KIn x6 x):=O λx d=>(aa x d).below f
  refine i _ _ ⟨B,U⟩ λ_=>?_
  clear i f;refine L ?_;refine cO I (λK' i=>?_);go_simp;refine(UZ x6 aa).mono ?_;rintro e x7 ⟨rfl,f⟩;replace l:=O (l.below f);replace B:=ae B f;replace U:=ae U f;refine i _ _ ⟨B,U⟩ λ_=>?_
  clear i f aa U1 UZ;refine L ?_
  by_cases f:nb<na
  ·have ad:=aA ((nb:ja)<(na:ja))
   have V:=aA (nb<na);have H:=O (l.set (by rw[bd];exact V));rw[<-HX]at H;iterate 2 refine bX ?_
   refine eH ?_
   go_wp2_with (first|(refine VK.loadA aj I I X E B (L ?_))|(refine VK.store I I I X I E Vf U YA (L ?_)))
   exact⟨⟨j+1,m+1,q',c',D++[k],N k,by go_num,rfl,rfl,by omega,H⟩,by simp only[jF];omega⟩
  have ad:=az ((nb:ja)<(na:ja));have V:=az (nb<na);have H:=O (l.stay (by rw[bd];exact V));iterate 2 refine bX ?_
  refine eH ?_
  go_wp2_with fail
  exact⟨⟨j+1,m+1,q',c',D++[k],N K,by go_num,rfl,rfl,by omega,H⟩,by simp only[jF];omega⟩
end Go.Proofs.YtjbiancnijgmgaaGreatDoor
