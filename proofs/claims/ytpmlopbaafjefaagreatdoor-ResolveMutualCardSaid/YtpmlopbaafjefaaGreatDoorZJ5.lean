/- Contracts of functions that the law reaches, part 5 of 10; no condition. -/
import Derived.Deep.SlicePairs
import Derived.WalkLawsBesides
import Derived.Lib.BytesEntry
import Derived.Test.YtpmlopbaafjefaaGreatDoorZJ4
namespace Go.Proofs.YtpmlopbaafjefaaGreatDoor
set_option maxHeartbeats 64000000
set_option maxRecDepth 100000
set_option linter.unusedVariables false
set_option linter.unusedSimpArgs false
set_option linter.unusedSectionVars false
open Go.RowKit
open Go.Proofs.Tryz
open _root_ renaming rfl->I,Nat->T,List->A,Int->ja,if_pos->jp,if_neg->jq,Array->js,Option->jw,absurd->jB,congrArg->jT,Bool->jU,decide_eq_true->xl
open _root_.Option renaming some->N,none->je,map_some->q8,some->q9,some_get->xM,toList->xX
open Go renaming Value->jb,World->jg,TypeId->jt,Calls->jy,Addr->jN,Oper->jO,wpList_plain->jP,wp_region_lit->jW,Operand->jY,maxLen->jZ,setRow_heap->j4,DataW->j6,MemPlace->j7,wpList->j8,wp_store_row->ms,bodyPost_ret_by->ob,below_setRow->oj,execOp->o8,bodyPost->pz,wp_region_noPanic->p6,Program->qe,undef->qg,setRow_other->qv,run_underlying->qL,wpOp_mono->qZ,wpList_load_row->r9,callFunc->sa
open Go.Value renaming int->jc
open Go.IntKind renaming i64->jd
open Go.Value renaming slice->jf,agg->jm,pointer->jI,tuple->j0
open Go.Obj renaming cells->jh
open Go.RowKit renaming Hid->ji,Below->jo
open Go.Value renaming int->jj,slice->qD,cells->qH,agg->qI,oneCell'->r7
open _root_.Bool renaming true->jk,false->jr,and_eq_true->xA,eq_iff_iff->xG,eq_false_iff->xQ
open Go.Proofs.Tryz renaming prog->jl
open Go.IntKind renaming u8->jn
open _root_.List renaming length_map->ju,mem_map->jz,mem_cons->jE,length_append->jH,size_toArray->jM,length_cons->jQ,mem_append->jS,getElem?_eq_some_iff->jV,map_cons->jX,mem_cons_self->j1,mem_of_getElem?->j3,map_append->j5,getElem?_eq_getElem->j9,mem_cons_of_mem->mb,mergeSort_perm->nv,range->n0,map_map->ow,drop_eq_getElem_cons->o1,getElem?_map->qa,set_cons_succ->qb,take_of_length_le->qh,mem_filter->qj,mem_singleton->qk,mem_nil_iff->ql,getElem_toArray->qn,getElem_cons_zero->qo,getElem_cons_succ->qs,getD->qt,map_nil->qw,replicate->qy,set_append_right->qz,length_nil->qA,getElem?_cons_succ->qB,append_nil->qC,flatMap_cons->qF,getElem?_append_right->qK,any_eq_true->qM,length->qN,append_assoc->qO,set->qQ,length_filter_le->qU,take_append_drop->qV,getElem?_append_left->qX,getElem_mem->rn,map->rv,mem_range->r5,toList_toArray->r8,zipIdx_cons->sv,filter_sublist->sx,nodup_cons->sy,mem_map_of_mem->sA,take_zero->vi,ext_getElem?->wi,getElem?_eq_none->wq,drop_drop->wt,drop_eq_nil_of_le->wv,mem_toArray->wx,take_succ_eq_append_getElem->xa,length_attach->xe,flatMap_append->xf,find?_append->xg,length_filterMap_le->xh,length_take->xi,find?_eq_none->xm,mem_of_find?_eq_some->xn,find?_some->xo,any_eq_false->xq,getElem?_set_self->xr,nil_append->xt,filter_append->xx,pairwise_mergeSort->xy,pairwise_map->xz,take_succ_cons->xD,drop_zero->xE,flatMap_def->xH,flatten_cons->xI,countP_cons->xJ,countP_le_length->xK,map_toArray->xN,not_mem_nil->xR,map_mergeSort->xS,eq_nil_of_length_eq_zero->xT,attach_map_subtype_val->xU,take_length->xW
open Go.Ending renaming returned->jv
open Go.Proofs renaming intOf->jA,enters_of->sh
open _root_.Nat renaming lt_of_lt_of_le->jC,le_refl->jG,le_trans->jJ,zero_le->mz,add_assoc->qi,mul_le_mul_right->qG,le_of_eq->qS,not_lt_zero->qT,zero_add->qW,zero_mul->sq,mul_comm->sB,div_add_mod->xB
open Go.World renaming alloc_heap_new->jD,size_alloc->jK,ownsRow_nil->qJ,frozen?->xw,cell?_spot->xC
open Go.Proofs.Tryz renaming underlying29->jF,underlying3->jL,underlying23->qd,underlying37->qY,underlying110->q7,underlying172->sn,underlying5->xj,underlying31->xk
open _root_.Array renaming getElem?_eq_some_iff->jR,all_eq_true_iff_forall_mem->qc,length_toList->qf,ext'->qx,toList_setIfInBounds->qE,foldl->qP,getElem?_setIfInBounds_ne->rk,getElem?_modify->xu,toArray_toList->xL,getElem?_push->xO,getElem?_append_left->xP,toList_push->xV
open Go.RowKit.Below renaming refl->nn
open Go.NoPanic renaming normal->qu
open _root_.BitVec renaming ofNat->r4,lt_def->r6,eq_of_toNat_eq->xd
variable{t:A (ja×ja)}{j:A Cmt}{S:A Val}{Q:A aJ}{u:A ar}{x:A ja}{i xs:A jb}{p:Cmt}{b:Grp}{r:LBy}{M R m y:T}{C H α:Type}{D E:T->Prop}{o:jO}{U d:ja}{a f vm vt:jb}{X:jb->js jb}{W w w' w0:jg}{e:jt}
theorem Do(b:LBy):b.length<=(enc (vT b)).length:=by
 rw[vT,enc,jq L,jp I];simp only[jQ,jH,yS];omega
theorem rD{x:Val}(h:x∈S):(enc x).length<=(enc (vL S)).length:=by
 rw[pH];have:=ET h;simp only[jQ,jH];omega
theorem cT.bodies(h:cT (aP p)):(∀b∈p.box,b.body.length<=800000)/\(∀b∈p.wel,b.body.length<=800000):=by
 have g:=h.len;refine⟨λb a=>?_,λb a=>?_⟩
 ·have d:(enc (vL (p.box.map Bx.val))).length<=(enc (vL (aP p))).length:=rD (by unfold aP;simp)
  have e:(enc b.val).length<=(enc (vL (p.box.map Bx.val))).length:=rD (jz.2 ⟨b,a,I⟩);have f:(enc (vT b.body)).length<=(enc b.val).length:=rD ao;have:=Do b.body;omega
 have d:(enc (vL (p.wel.map Wl.val))).length<=(enc (vL (aP p))).length:=rD (by unfold aP;simp);have e:(enc b.val).length<=(enc (vL (p.wel.map Wl.val))).length:=rD (jz.2 ⟨b,a,I⟩);have f:(enc (vT b.body)).length<=(enc b.val).length:=rD ao;have:=Do b.body;omega
theorem Tw(c:Cmt):(mJ c/\gW c=0)\/(¬mJ c/\gW c=220):=by
 by_cases h:mJ c
 ·exact .inl ⟨h,uy h⟩
 exact .inr ⟨h,fi h⟩
theorem MH(c:Cmt)(q:CQ)(w:jg)(f:aT (·<w.heap.size) w c q)(a:cT (aP c)):
 jy jl 27 #[jm (aF c q).toArray] w λe w'=>e=jv (jc jd (gW c))/\jo w w w':=
 OQ c q w f a.lens.1 a.lens.2.1 a.lens.2.2.1 a.lens.2.2.2 (λb d=>by have:=a.bodies.1 b d;omega) (λb d=>by have:=a.bodies.2 b d;omega)
theorem Ma{l:A aJ}(e:mu l)(h:cD l d=jk):∃m,l[lY l d]?=N m/\l.find? (λm=>m.dev==d)=N m:=by
 obtain⟨m,b⟩:∃m,l.find? (λm=>m.dev==d)=N m:=by
  cases hf:l.find? (λm=>m.dev==d)with
  |some m=>exact⟨m,I⟩
  |none=>
   exfalso
   unfold cD at h;obtain⟨x,a,c⟩:=qM.1 h;exact jB c (by have:=xm.1 hf x a;simpa using this)
 refine⟨m,?_,b⟩;have g:=xn b;have f:m.dev=d:=by have:=xo b;simpa using this
 obtain⟨i,a,he⟩:=List.getElem_of_mem g;have j:lY l d=i:=by
  refine AF d l i Y (λt k=>?_) (λt n c=>?_)
  ·have:=e t i k a
   rw[fp _ a,he,f]at this;exact this
  have:=yP e n c;rw[fp _ a,he,f]at this;exact this
 rw[j,j9 a,he]
theorem Gm(g:Grp)(vm vt U:jb)(a:ja)(l:A ar)(w:jg)(h:bH w g vm vt)(s:mu g.mem)(V:g.mem.length<=1000000)(x:EC.At w U l)(i:cD g.mem a=jr->l≠[]):
 jy jl 35 #[jm (aD g vm vt).toArray,jc jd a,U] w λe w'=>e=jv (jc jd (dP g a l))/\jo w w w':=by
 have y:=rF (vm:=vm) (vt:=vt) h.llen;have t:=λW hW=>yQ g vm vt a W hW s V h.llen
 have z:=dy.new w (vm:=vm) (vt:=vt) h.llen;have j:=z.blk;have f:=ap w (jh (aD g vm vt).toArray 29);have k:=z.at.2.2.1;obtain⟨B,C,rfl,WV,-⟩:=h.mem.form;obtain⟨pl,cl,rfl,Vq,-⟩:=x.form;have m:=h.mem.below f;have o:=x.below f;obtain⟨D,E⟩:=J ((aD g (jf B g.mem.length C) vt).toArray);rw[<-E]at y t j f k m o⊢;obtain⟨x0,c⟩:=J (w.alloc (jh D 29));obtain⟨b,F⟩:=J w.heap.size;rw[<-c]at j f k m o;rw[<-F]at j k;obtain⟨n,H⟩:=J l.length;obtain⟨u,v⟩:=J g.mem.length;rw[<-H]at o Vq⊢;rw[<-v]at k m WV V t;have HX:=O c;have YJ:=O F;have K:=O j;have X:=O f;have M:=O m;have aa:=O o;have U9:=O y;have P:=O t;have ZT:=O i;have ay:=O s;have HN:=O H;have ad:=O v;have Vt:=O (λh=>Ma (d:=a) s h);obtain⟨Q,p⟩:=J (cD g.mem a);obtain⟨q,R⟩:=J (lY g.mem a);rw[<-p,<-R]at P;rw[<-p]at ZT;rw[<-R,<-p]at Vt;have au:=O p;have ax:ji (D[34]?=N (jf B u C)):=O (by rw[E,v];simpa using(lQ (vm:=jf B g.mem.length C) (vt:=vt) h.llen).2.2.1);obtain⟨r,S⟩:=J (dP g a l);rw[<-S];have HR:=O S;clear y t z j f m o E c F H v p R h s x i k S
 go_enter func35,ntmps35
 go_upto_region 1 with fail
 rw[<-HX,<-YJ];refine jW ?_;refine r9 I 29 _ I b I 29 D (0,0) _ K.out jF I U9 ?_
 go_wp2_with fail
 refine(P x0 M).mono ?_;rintro e x1 ⟨rfl,f⟩;have v:=ae K f;have y:=O (M.below f);have z:=O (aa.below f);have s:=aj X f;clear f P K M aa X
 cases Q with
 |true=>
  obtain⟨m,k,t⟩:=Vt I;have E:q<u:=by rw[ad];exact(jV.1 k).1
  obtain⟨p,o,rfl,f⟩:=(y.cells).2.2 Y;have F:=ah v ax;have x:x1.cell? ⟨p,o+q*3+2,je⟩=N (jc jd m.ver):=f q m k 2 _ I;have j:r=m.ver:=by rw[HR];unfold dP;rw[t]
  have H:=az ((q:ja)<(u:ja));have hd2:=az (q<u);rw[<-j]at x;clear f k t j
  go_wp2_with fail
  go_ret;exact⟨I,s⟩
 |false=>
  have i:=ZT I;obtain⟨x,k,c⟩:∃x k,l=x::k:=by
   rcases l with _|⟨x,r⟩
   ·exact jB I i
   exact⟨x,r,I⟩
  have E:0<n:=by rw[HN,c];simp
  obtain⟨p,o,rfl,f⟩:=(z.cells).2.2 E;have F:x1.cell? ⟨p,o+3,je⟩=N (jc jd x.v):=by
   have h:=f 0 x (by rw[c];rfl) 3 _ I;rw[sq,Nat.add_zero]at h;exact h
  have t:g.mem.find? (λm=>m.dev==a)=je:=by
   rw[xm];intro m Q;have h:=au.out;unfold cD at h;have:=xq.1 h.symm m Q
   simpa using this
  have j:r=x.v:=by rw[HR];unfold dP;rw[t,c]
  rw[<-j]at F;clear f c t i j
  go_wp2_with fail
  go_ret;exact⟨I,s⟩
theorem Lp(a c b d:ja)(f:ja)(g:jw jN)(i j:T)(w:jg):jy jl 29 #[jm #[jc jd a,jc jd c,jc jd f,jf g i j],jm #[jc jd b,jc jd d,jc jd 0,jf je 0 0]] w λe w'=>e=jv (.bool ((a==b)&&(c==d)))/\jo w w w':=by
 have h:=(ap w (jh #[jc jd a,jc jd c,jc jd f,jf g i j] 85)).trans ((ap (w.alloc (jh #[jc jd a,jc jd c,jc jd f,jf g i j] 85)) (jh #[jc jd b,jc jd d,jc jd 0,jf je 0 0] 85)).mono (ap w _).size);have l:=O h;clear h
 by_cases h:a=b
 ·have k:(a==b)=jk:=ak h
  rw[k,Bool.true_and];clear h
  go_enter func29,ntmps29
  go_wp2_with fail
  go_ret;exact⟨I,l⟩
 have k:(a==b)=jr:=ak h;rw[k,Bool.false_and];clear h
 go_enter func29,ntmps29
 go_wp2_with fail
 go_ret;exact⟨I,l⟩
theorem z8(l:A Bx)(r:A (ja×ja))(v aa:jb)(w:jg)(h:∃Q,aH D w v 4 l.length (dR Bx.cells l Q)/\ez D w (l.map Bx.body) Q)(a:EB0.At w aa r)(hl:l.length<=1000000)(hr:r.length<=1000000):
 jy jl 31 #[v,aa,.func (.func 29) #[] #[]] w λe w'=>e=jv (.bool (decide (l.map (λb:Bx=>(b.lev,b.node))=r.map (λx:ja×ja=>x))))/\jo w w w':=by
 obtain⟨V,f⟩:=J (decide (l.map (λb:Bx=>(b.lev,b.node))=r.map (λx:ja×ja=>x)));rw[<-f];have X:=O f;obtain⟨p,c,g⟩:∃p c,v=jf p l.length c:=by obtain⟨Q,h,-⟩:=h;exact h.form
 obtain⟨q,d,rfl,hd,-⟩:=a.form;obtain⟨n,i⟩:=J l.length;obtain⟨m,k⟩:=J r.length;have HU:=O h;have HV:=O a;have ZF:=O g;rw[g];have HN:=O i;have HM:=O k;rw[<-i]at hl⊢;rw[<-k]at hr hd HV⊢;have EG:∀args w,(sa 29 args).run jl w=.ok (.enter 29 args) w:=λ_ _=>rfl
 clear h a i k f g
 by_cases F:n=m
 ·have a5:((n:ja)!=(m:ja))=jr:=by simp[F]
  have Uz:((n:ja)==(m:ja))=jk:=by simp[F]
  have ad:=O F;clear F
  go_enter func31,ntmps31
  go_wp2_with fail
  go_loopw [17] (λi wr=>∃k:T,i=jc jd k/\k<=n/\ji ((l.take k).map (λb:Bx=>(b.lev,b.node))=(r.take k).map (λx:ja×ja=>x))/\ji (jo w w wr)) (λi _=>n-(jA i).toNat)
  case atStart=>exact⟨0,I,mz _,O ao,O (nn _ _)⟩
  obtain⟨k,rfl,hk,HG,a⟩:=hrel
  by_cases a6:k<n
  ·have ba:=az ((k:ja)<(n:ja))
   have bb:=az (k<n);have bc:k<m:=aI ad;have hd2:=az ((k:ja)<(m:ja));have bl:=az (k<m);obtain⟨x,R,au⟩:=dK (l:=l) (j:=k) (by rw[<-HN];exact a6);obtain⟨y,E,ax⟩:=dK (l:=r) (j:=k) (by rw[<-HM];exact bc);obtain⟨Q,ay,a1⟩:=HU.out;obtain⟨bm,a2,a3⟩:=a1.at (i:=k) (b:=x.body) (by rw[qa,R];rfl);obtain⟨g,o,c',hq,H⟩:=oJ ay (λ_ _=>rfl) R a2;rw[ZF]at hq;injection hq with e1 e2 e3
   subst e1;subst e3;obtain⟨t,u,rfl⟩:=a3.form;obtain⟨B,a4⟩:=J x.body.length;rw[<-a4]at H;obtain⟨S,U,rfl,K⟩:=(HV.cells).2.2 Y;have bd:=O au;have bf:=O ax;have Wk:=O R;have bg:=O E;obtain⟨f,s,C,xb⟩:=x;obtain⟨M,P⟩:=y;have z:=ap wr (jh #[jc jd f,jc jd s,jc jd C,jf t B u] 85);have Wr:=ap (wr.alloc (jh #[jc jd f,jc jd s,jc jd C,jf t B u] 85)) (jh #[jc jd P,jc jd M,jc jd 0,jf je 0 0] 85);have a0:wr.cell? ⟨g,o+k*4,je⟩=N (jc jd f):=aC (H 0 _ I) a;have bh:wr.cell? ⟨g,o+k*4+1,je⟩=N (jc jd s):=aC (H 1 _ I) a;have bi:wr.cell? ⟨g,o+k*4+2,je⟩=N (jc jd C):=aC (H 2 _ I) a;have bk:wr.cell? ⟨g,o+k*4+3,je⟩=N (jf t B u):=aC (H 3 _ I) a;have b0:(wr.alloc (jh #[jc jd f,jc jd s,jc jd C,jf t B u] 85)).cell? ⟨S,U+k*4,je⟩=N (jc jd P):=aC (aC (K k _ E 0 _ I) a) z;have b1:(wr.alloc (jh #[jc jd f,jc jd s,jc jd C,jf t B u] 85)).cell? ⟨S,U+k*4+1,je⟩=N (jc jd M):=aC (aC (K k _ E 1 _ I) a) z;have b2:(wr.alloc (jh #[jc jd f,jc jd s,jc jd C,jf t B u] 85)).cell? ⟨S,U+k*4+2,je⟩=N (jc jd 0):=aC (aC (K k _ E 2 _ I) a) z;have b3:(wr.alloc (jh #[jc jd f,jc jd s,jc jd C,jf t B u] 85)).cell? ⟨S,U+k*4+3,je⟩=N (jf je 0 0):=aC (aC (K k _ E 3 _ I) a) z;have HC:=O (λW=>Lp f s P M C t B u W);have W:=O (z.trans (Wr.mono z.size));clear H ay a1 a2 a3 K R E au ax z Wr e2 a4
   go_wp2_with fail
   refine(HC _).mono ?_;rintro e w1 ⟨rfl,z⟩;have K:=O (a.trans ((W.trans (z.mono W.size)).mono a.size));clear z HC W a0 bh bi bk b0 b1 b2 b3
   by_cases E:((f==P)&&(s==M))=jk
   ·rw[E]
    have z:ji ((l.take (k+1)).map (λb:Bx=>(b.lev,b.node))=(r.take (k+1)).map (λx:ja×ja=>x)):=O (by
     rw[bd,bf,j5,j5,HG]
     congr 1
     simp only[jX,qw];simp at E;simp[E])
    clear E
    go_wp2_with fail
    exact⟨⟨k+1,by go_num,by omega,z,K⟩,by simp only[jA];omega⟩
   have R:((f==P)&&(s==M))=jr:=ak E;rw[R];obtain rfl:V=jr:=by
    rw[X,decide_eq_false_iff_not];intro e;have H:=jT (λz=>z[k]?) e;simp only[qa,Wk.out,bg.out,q8,q9.injEq]at H
    apply E
    try simp at H
    simp[H]
   clear E R
   go_wp2_with fail
   go_ret;exact⟨I,K⟩
  have ba:=aw ((k:ja)<(n:ja));have bb:=aw (k<n);obtain rfl:k=n:=Y;obtain rfl:V=jk:=by
   rw[X,decide_eq_true_iff];have h:=HG.out;rw[qh (l:=l) (by rw[<-HN];exact jG _),qh (l:=r) (by rw[<-HM,<-ad];exact jG _)]at h;exact h
  go_wp2_with fail
  go_ret;exact⟨I,a⟩
 have a5:((n:ja)!=(m:ja))=jk:=by simp;omega
 have Uz:((n:ja)==(m:ja))=jr:=by simp;omega
 obtain rfl:V=jr:=by
  rw[X,decide_eq_false_iff_not];intro e;have:=jT qN e;rw[ju,ju,<-HN,<-HM]at this;exact F this
 clear F
 go_enter func31,ntmps31
 go_wp2_with fail
 go_ret;exact⟨I,nn _ _⟩
theorem RA(a b h c:ja)(i j k:ja)(d:jw jN)(f g:T)(w:jg):jy jl 30 #[jm #[jc jd a,jc jd b,jf d f g],jm #[jc jd h,jc jd c,jc jd i,jc jd j,jc jd k]] w λe w'=>e=jv (.bool (a==c))/\jo w w w':=by
 have l:=(ap w (jh #[jc jd a,jc jd b,jf d f g] 88)).trans ((ap (w.alloc (jh #[jc jd a,jc jd b,jf d f g] 88)) (jh #[jc jd h,jc jd c,jc jd i,jc jd j,jc jd k] 55)).mono (ap w _).size);have m:=O l;clear l
 go_enter func30,ntmps30
 go_wp2_with fail
 go_ret;exact⟨I,m⟩
theorem FD(l:A Wl)(r:A ar)(v aa:jb)(w:jg)(h:∃Q,aH D w v 3 l.length (dR Wl.cells l Q)/\ez D w (l.map Wl.body) Q)(a:EC.At w aa r)(hl:l.length<=1000000)(hr:r.length<=1000000):
 jy jl 32 #[v,aa,.func (.func 30) #[] #[]] w λe w'=>e=jv (.bool (decide (l.map (Wl.dev)=r.map (ar.d))))/\jo w w w':=by
 obtain⟨S,f⟩:=J (decide (l.map (Wl.dev)=r.map (ar.d)));rw[<-f];have U:=O f;obtain⟨p,c,g⟩:∃p c,v=jf p l.length c:=by obtain⟨Q,h,-⟩:=h;exact h.form
 obtain⟨q,d,rfl,hd,-⟩:=a.form;obtain⟨n,i⟩:=J l.length;obtain⟨m,k⟩:=J r.length;have HU:=O h;have HV:=O a;have ZF:=O g;rw[g];have V:=O i;have X:=O k;rw[<-i]at hl⊢;rw[<-k]at hr hd HV⊢;have EG:∀args w,(sa 30 args).run jl w=.ok (.enter 30 args) w:=λ_ _=>rfl
 clear h a i k f g
 by_cases E:n=m
 ·have a5:((n:ja)!=(m:ja))=jr:=by simp[E]
  have Uz:((n:ja)==(m:ja))=jk:=by simp[E]
  have ad:=O E;clear E
  go_enter func32,ntmps32
  go_wp2_with fail
  go_loopw [17] (λi wr=>∃k:T,i=jc jd k/\k<=n/\ji ((l.take k).map (Wl.dev)=(r.take k).map (ar.d))/\ji (jo w w wr)) (λi _=>n-(jA i).toNat)
  case atStart=>exact⟨0,I,mz _,O ao,O (nn _ _)⟩
  obtain⟨k,rfl,hk,HG,a⟩:=hrel
  by_cases a6:k<n
  ·have ba:=az ((k:ja)<(n:ja))
   have bb:=az (k<n);have bc:k<m:=aI ad;have hd2:=az ((k:ja)<(m:ja));have bk:=az (k<m);obtain⟨x,R,au⟩:=dK (l:=l) (j:=k) (by rw[<-V];exact a6);obtain⟨y,C,ax⟩:=dK (l:=r) (j:=k) (by rw[<-X];exact bc);obtain⟨Q,ay,a1⟩:=HU.out;obtain⟨bl,a2,a3⟩:=a1.at (i:=k) (b:=x.body) (by rw[qa,R];rfl);obtain⟨g,o,c',hq,H⟩:=oJ ay (λ_ _=>rfl) R a2;rw[ZF]at hq;injection hq with e1 e2 e3
   subst e1;subst e3;obtain⟨s,t,rfl⟩:=a3.form;obtain⟨u,a4⟩:=J x.body.length;rw[<-a4]at H;obtain⟨K,M,rfl,F⟩:=(HV.cells).2.2 Y;have bd:=O au;have bf:=O ax;have Wk:=O R;have bg:=O C;obtain⟨f,B,xb⟩:=x;obtain⟨yk,P,yp,yv,yc⟩:=y;have z:=ap wr (jh #[jc jd f,jc jd B,jf s u t] 88);have Wr:=ap (wr.alloc (jh #[jc jd f,jc jd B,jf s u t] 88)) (jh #[jc jd yk,jc jd P,jc jd yp,jc jd yv,jc jd yc] 55);have a0:wr.cell? ⟨g,o+k*3,je⟩=N (jc jd f):=aC (H 0 _ I) a;have bh:wr.cell? ⟨g,o+k*3+1,je⟩=N (jc jd B):=aC (H 1 _ I) a;have bi:wr.cell? ⟨g,o+k*3+2,je⟩=N (jf s u t):=aC (H 2 _ I) a;have b0:(wr.alloc (jh #[jc jd f,jc jd B,jf s u t] 88)).cell? ⟨K,M+k*5,je⟩=N (jc jd yk):=aC (aC (F k _ C 0 _ I) a) z;have b1:(wr.alloc (jh #[jc jd f,jc jd B,jf s u t] 88)).cell? ⟨K,M+k*5+1,je⟩=N (jc jd P):=aC (aC (F k _ C 1 _ I) a) z;have b2:(wr.alloc (jh #[jc jd f,jc jd B,jf s u t] 88)).cell? ⟨K,M+k*5+2,je⟩=N (jc jd yp):=aC (aC (F k _ C 2 _ I) a) z;have b3:(wr.alloc (jh #[jc jd f,jc jd B,jf s u t] 88)).cell? ⟨K,M+k*5+3,je⟩=N (jc jd yv):=aC (aC (F k _ C 3 _ I) a) z;have b4:(wr.alloc (jh #[jc jd f,jc jd B,jf s u t] 88)).cell? ⟨K,M+k*5+4,je⟩=N (jc jd yc):=aC (aC (F k _ C 4 _ I) a) z;have HC:=O (λW=>RA f B yk P yp yv yc s u t W);have W:=O (z.trans (Wr.mono z.size));clear H ay a1 a2 a3 F R C au ax z Wr e2 a4
   go_wp2_with fail
   refine(HC _).mono ?_;rintro e w1 ⟨rfl,z⟩;have H:=O (a.trans ((W.trans (z.mono W.size)).mono a.size));clear z HC W a0 bh bi b0 b1 b2 b3 b4
   by_cases C:(f==P)=jk
   ·rw[C]
    have z:ji ((l.take (k+1)).map (Wl.dev)=(r.take (k+1)).map (ar.d)):=O (by
     rw[bd,bf,j5,j5,HG]
     congr 1
     simp only[jX,qw];simp at C;simp[C])
    clear C
    go_wp2_with fail
    exact⟨⟨k+1,by go_num,by omega,z,H⟩,by simp only[jA];omega⟩
   have R:(f==P)=jr:=ak C;rw[R];obtain rfl:S=jr:=by
    rw[U,decide_eq_false_iff_not];intro e;have F:=jT (λz=>z[k]?) e;simp only[qa,Wk.out,bg.out,q8,q9.injEq]at F
    apply C
    try simp at F
    simp[F]
   clear C R
   go_wp2_with fail
   go_ret;exact⟨I,H⟩
  have ba:=aw ((k:ja)<(n:ja));have bb:=aw (k<n);obtain rfl:k=n:=Y;obtain rfl:S=jk:=by
   rw[U,decide_eq_true_iff];have h:=HG.out;rw[qh (l:=l) (by rw[<-V];exact jG _),qh (l:=r) (by rw[<-X,<-ad];exact jG _)]at h;exact h
  go_wp2_with fail
  go_ret;exact⟨I,a⟩
 have a5:((n:ja)!=(m:ja))=jk:=by simp;omega
 have Uz:((n:ja)==(m:ja))=jr:=by simp;omega
 obtain rfl:S=jr:=by
  rw[U,decide_eq_false_iff_not];intro e;have:=jT qN e;rw[ju,ju,<-V,<-X]at this;exact E this
 clear E
 go_enter func32,ntmps32
 go_wp2_with fail
 go_ret;exact⟨I,nn _ _⟩
def fL(l:A ar)(m:aJ):jU:=l.any λx=>x.d==m.dev
theorem Ow(d:ja)(b:T)(f g:ja)(x:ar)(w:jg)(c:w.heap[b]?=N (jh #[jc jd d,jc jd f,jc jd g] 100 (0,0))):
 jy jl 41 #[jm x.cells.toArray,jI (N ⟨b,0,je⟩)] w λe w'=>e=jv (.bool (x.d==d))/\jo w w w':=by
 obtain⟨h,j,k,l,m⟩:=x;unfold ar.cells;have a:=ap w (jh #[jc jd h,jc jd j,jc jd k,jc jd l,jc jd m] 55);have o:=ah (i:=0) (av c a) I;have n:=O a;clear a c
 go_enter func41,ntmps41
 go_wp2_with fail
 go_ret;exact⟨I,n⟩
theorem OI(d:ja)(a b:T)(c e:ja)(f:a<b):fS EC 41 #[jI (N ⟨a,0,je⟩)] b (λW=>W.heap[a]?=N (jh #[jc jd d,jc jd c,jc jd e] 100 (0,0))) (λx=>x.d==d) where
 enter _ _:=I
 keep w w' hn h hB:=(hB.block a f).trans h
 call x w hn h:=Ow d a c e x w h
theorem Nf(c:Cmt)(q:CQ)(b:T)(m:aJ)(w:jg)(r:dQ w b c q)(h:EC.At w q.vc c.chg)(s:c.chg.length<=1000000):
 jy jl 39 #[jm m.cells.toArray,jI (N ⟨b,0,je⟩)] w λe w'=>e=jv (.bool (fL c.chg m))/\jo w w w':=by
 obtain⟨md,a,d⟩:=m;unfold aJ.cells;have f:=ap w (jh #[jc jd md,jc jd a,jc jd d] 100);have g:=jD w (jh #[jc jd md,jc jd a,jc jd d] 100);obtain⟨t,i⟩:=J (w.alloc (jh #[jc jd md,jc jd a,jc jd d] 100));obtain⟨y,j⟩:=J w.heap.size;rw[<-i]at f g;rw[<-j]at g;have k:=h.below f;have l:=(r.below f).at.2.2.2.1;obtain⟨p,D,u,-,-⟩:=h.form;rw[u]at l k;have o:=O (Bs (OI md y t.heap.size a d (jR.1 g).1) c.chg _ t k g (jG _) s);have v:=O f;have z:=O i;have B:=O j;have C:ji ((c.chg.any λx=>x.d==md)=fL c.chg ⟨md,a,d⟩):=O I;obtain⟨n,x⟩:=J c.chg.length;rw[<-x]at l o;clear r h s f g i j k u x
 go_enter func39,ntmps39
 go_upto_region 1 with fail
 rw[<-z,<-B]
 go_wp2_with fail
 refine(o).mono ?_;rintro e x1 ⟨rfl,f⟩;have g:=aj v f;clear f o v l
 go_wp2_with fail
 go_ret;exact⟨iC C,g⟩
theorem Qi(c:Cmt)(q:CQ)(b:T)(a:jg)(d:dQ a b c q)(e:EC.At a q.vc c.chg)(f:c.chg.length<=1000000):
 fS EM 39 #[jI (N ⟨b,0,je⟩)] a.heap.size (λW=>jo a a W) (fL c.chg) where
 enter _ _:=I
 keep w w' hn h hB:=h.trans hB
 call x w hn h:=Nf c q b x w (d.below h) (e.below h) f
theorem Et:∀(xs:A jb) (k i:T) (a:js jb),k+i+xs.length<=a.size->((xs.zipIdx i).foldl (λa x=>a.setIfInBounds (k+x.2) x.1) a).toList=a.toList.take (k+i)++xs++a.toList.drop (k+i+xs.length)
 |[],k,i,a,h=>by simp
 |x::xs,k,i,a,h=>by
  rw[jQ]at h;have b:k+i<a.toList.length:=by rw[qf];omega
  rw[sv,List.foldl_cons,Et xs k (i+1) _ (by rw[Array.size_setIfInBounds];omega),qE,<-qi,List.take_add_one,List.take_set_of_le (jG _),xr b,List.drop_set_of_lt Y,jQ];simp only[Option.toList_some,qO,List.singleton_append,List.cons_append,xt];rw[show k+i+1+xs.length=k+i+(xs.length+1) by omega]
theorem vY(X Z:js jb)(k n:T)(h:X.size=n)(d:k+n<=Z.size):qP (λa x=>a.setIfInBounds (k+x.2) x.1) Z X.zipIdx 0 n=(Z.toList.take k++X.toList++Z.toList.drop (k+n)).toArray:=by
 have b:X.zipIdx.size=n:=by simp[h]
 have c:qP (λa (x:jb×T)=>a.setIfInBounds (k+x.2) x.1) Z X.zipIdx 0 n=X.zipIdx.toList.foldl (λa x=>a.setIfInBounds (k+x.2) x.1) Z:=by
  rw[Array.foldl_toList,b]
 rw[c,Array.toList_zipIdx]
 apply qx
 rw[Et _ _ _ _ (by rw[qf];omega)];simp[h]
theorem LD(f e:ja)(a:js jb)(b:a.size=32)(w:jg):
 (Instr.build 29 #[(0,jc jd f),(1,jc jd e),(2,jm a)]).run jl w=.ok (jm (#[jc jd f,jc jd e]++a++ #[jf je 0 0,jf je 0 0])) w:=by
 unfold Instr.build;go_simp;rw[vY a _ 2 32 b ao];obtain⟨l⟩:=a;simp
theorem Qj(w:jg):(Instr.build 29 #[]).run jl w=.ok (jm (aD ⟨0,0,qy 32 0#8,[],[]⟩ (jf je 0 0) (jf je 0 0)).toArray) w:=by
 unfold Instr.build;go_simp
 rfl
theorem bJ.ints{v:jb}(h:bJ w v t)(key:∀(g o:T) (x:ja),w.cell? ⟨g,o,je⟩=N (jc jd x)->w'.cell? ⟨g,o,je⟩=N (jc jd x)):bJ w' v t:=by
 obtain⟨p,c,d,f,i,k,l⟩:=h;refine⟨p,c,d,f,i,λm=>?_,l⟩;obtain⟨g,o,e,a⟩:=k m;exact⟨g,o,e,λj b=>⟨key _ _ _ (a j b).1,key _ _ _ (a j b).2⟩⟩
theorem uM{b i:T}{X l:js jb}{t:jt}(m:w.heap[b]?=N (jh X t (0,0)))(q:w'.heap[b]?=N (jh l t (0,0)))(r:∀j,j≠i->l[j]?=X[j]?){p:jw jN}{n c:T}(j:X[i]?=N (jf p n c))
 (s:∀k,k<w.heap.size->k≠b->w'.heap[k]?=w.heap[k]?):∀(g o:T) (x:ja),w.cell? ⟨g,o,je⟩=N (jc jd x)->w'.cell? ⟨g,o,je⟩=N (jc jd x):=λg o x d=>by
 by_cases e:g=b
 ·subst e
  unfold World.cell? at d⊢;rw[m]at d;rw[q];simp only at d⊢;have f:X[o]?=N (jc jd x):=ak d;have k:o≠i:=λe=>by rw[e,j]at f;injection f with h;cases h
  have:=(r o k).trans f
  simpa using this
 rw[<-d];exact dV (a:=⟨g,o,je⟩) (s g (gg d) e)
theorem nf(g:Grp)(a b:jb)(h:g.last.length=32):(aD g a b).toArray[34]?=N a/\(aD g a b).toArray[35]?=N b/\(aD g a b).toArray.size=36:=by
 have c:=lQ (vm:=a) (vt:=b) h;exact⟨by simpa using c.2.2.1,by simpa using c.2.2.2,by rw[jM,eX h]⟩
theorem Dz(g:Grp)(a b x:jb)(h:g.last.length=32):(aD g a b).toArray.setIfInBounds 34 x=(aD g x b).toArray:=by
 apply qx
 rw[qE];unfold aD;have c:(g.last.map v8).length=32:=by rw[ju];exact h
 show qQ (_ ::_ ::(g.last.map v8++[a,b])) 34 x=_;rw[qb,qb,qz _ _ Y,c]
 rfl
theorem Db(g:Grp)(a b x:jb)(h:g.last.length=32):(aD g a b).toArray.setIfInBounds 35 x=(aD g a x).toArray:=by
 apply qx
 rw[qE];unfold aD;have c:(g.last.map v8).length=32:=by rw[ju];exact h
 show qQ (_ ::_ ::(g.last.map v8++[a,b])) 35 x=_;rw[qb,qb,qz _ _ Y,c]
 rfl
theorem Nq(g:Grp)(a c b:jb)(h:g.last.length=32)(j:T)(d:j≠34):(aD g c b).toArray[j]?=(aD g a b).toArray[j]?:=by
 rw[<-Dz g a b c h,rk (Ne.symm d)]
theorem Sn(g:Grp)(a b c:jb)(h:g.last.length=32)(j:T)(d:j≠35):(aD g a c).toArray[j]?=(aD g a b).toArray[j]?:=by
 rw[<-Db g a b c h,rk (Ne.symm d)]
theorem fl{b i:T}{a:js jb}{t:jt}(v:jb)(h:w.heap[b]?=N (jh a t (0,0))):(w.setCell ⟨b,i,je⟩ v).heap[b]?=N (jh (a.setIfInBounds i v) t (0,0)):=by
 show(w.heap.modify b _)[b]?=_;rw[xu];simp[h]
theorem dB{b i k:T}(v:jb)(h:k≠b):(w.setCell ⟨b,i,je⟩ v).heap[k]?=w.heap[k]?:=Below.heap_setCell _ _ _ _ h
theorem sD{b o n:T}{a:js jb}{t:jt}(h:w.heap[b]?=N (jh a t (0,0)))(c:o+n<=a.size):w.there b o n:=by
 intro j d;refine⟨?_,by simp[xw,h]⟩;rw[ah h (Array.getElem?_eq_getElem (show o+j<a.size by omega))]
 rfl
theorem gt{b o:T}{a:js jb}{t:jt}(h:w.heap[b]?=N (jh a t (0,0))):w.frozen? ⟨b,o,je⟩=jr:=by simp[xw,h]
def fZ(l:A aJ)(a:A ar)(ep:ja):A aJ:=(l.filter λm=> !fL a m)++(a.filter λx=> !(x.k==2)).map λx=>⟨x.d,ep,x.v⟩
theorem wm(h:dC b):(b.mem.map aJ.dev).Nodup:=by
 rw[h.dev];exact(pK b.tree).imp λh=>Int.ne_of_lt h
theorem Hm{l:A aJ}{c:A ar}{ep:ja}(f:(l.map aJ.dev).Nodup)(g:(c.map ar.d).Nodup):((fZ l c ep).map aJ.dev).Nodup:=by
 unfold fZ;rw[j5,List.nodup_append];refine⟨f.sublist (sx.map _),?_,?_⟩
 ·rw[ow]
  exact g.sublist (sx.map _)
 intro a h b i e;obtain⟨m,j,rfl⟩:=jz.1 h;obtain⟨y,k,rfl⟩:=jz.1 i;obtain⟨x,n,rfl⟩:=jz.1 k;have d:=(qj.1 j).2;have o:fL c m=jk:=by
  unfold fL;exact qM.2 ⟨x,(qj.1 n).1,by simpa using e.symm⟩
 rw[o]at d
 cases d
theorem TE(l:A aJ)(a b:A ar)(x:ar)(ep:ja):(l.filter λm=> !fL a m)++((b++[x]).filter λx=> !(x.k==2)).map (λx=>(⟨x.d,ep,x.v⟩:aJ))=
 ((l.filter λm=> !fL a m)++(b.filter λx=> !(x.k==2)).map (λx=>(⟨x.d,ep,x.v⟩:aJ)))++(if x.k=2 then []else [⟨x.d,ep,x.v⟩]):=by
 rw[xx,j5,qO]
 congr 1
 by_cases h:x.k=2
 ·simp[h]
 simp[h]
noncomputable def lX(p r s:ja)(msg:LBy):jU:=by classical exact decide (mE p r s msg)
theorem As{s:ja}:lX d U s r=jk↔mE d U s r:=by unfold lX;simp
def onB(g:Grp)(c:Cmt):jU:=(c.folder==g.folder)&&(c.epoch==g.epoch+1)&&decide (c.parent=g.last)
noncomputable def kD(g:Grp)(c:Cmt):jU:=decide (c.box.map (λb:Bx=>(b.lev,b.node))=dT g c.author c.chg)&&decide (c.wel.map Wl.dev=(du c.author c.chg).map ar.d)
noncomputable def cC(g:Grp)(c:Cmt):ja:=
 if fE g=jr then 1 else if gW c≠0 then 220 else if onB g c=jr then 220 else if dt g c.author c.chg≠0 then dt g c.author c.chg else if kD g c=jr then 220
 else if lX (dP g c.author c.chg) c.r c.s (dq c)=jr then 222 else eZ (aX g.tree c.chg) c.author c.path
noncomputable def aB(g:Grp)(c:Cmt):Grp:=⟨g.folder,c.epoch,aG c,fJ (fZ g.mem c.chg c.epoch),gr (aX g.tree c.chg) c.author c.path⟩
def kB:Grp:=⟨0,0,qy 32 0#8,[],[]⟩
structure gB(M R:T)(t e:jt)(sz:T)(X:jb->js jb)(w0 wr:jg)(n:T)(a:jb)(xs:A jb):Prop where
 box:wr.heap[R]?=N (jh (X a) t (0,0))
 own:wr.ownsRow M e sz a n xs
 but:dx R M w0 wr
 sz':M<=wr.heap.size
theorem gB.later{z:jt}{o:jb->js jb}{F:jg}(h:gB M R e z m o w W y a i)(d:R<M)(c:jo W W F):gB M R e z m o w F y a i:=
 ⟨(c.block R (jC d h.sz')).trans h.box,cP h.own c,h.but.trans (dx.of_below (c.mono h.sz')) (jG _),jJ h.sz' c.size⟩
theorem nr{sz n:T}{v:jb}(h:w.ownsRow M e sz v n xs)(b:∀k,M<=k->w'.heap[k]?=w.heap[k]?):w'.ownsRow M e sz v n xs:=by
 refine⟨h.1,?_⟩
 rcases h.2 with a|⟨g,c,d,f,a,i,j⟩
 ·exact .inl a
 exact .inr ⟨g,c,d,f,a,(b g a).trans i,j⟩
theorem pF(w:jg)(a:jN)(v:jb):(w.setCell a v).heap.size=w.heap.size:=by simp[World.setCell]
theorem gB.push{i:T}{t:jt}{sz:T}{f d:jg}{n:T}{c b:jb}{ys:A jb}(h:gB M R t e sz X w0 f n c xs)(j:R<M)(a:cG M e sz f d c b m ys)(l:(X c).setIfInBounds i b=X b):
 gB M R t e sz X w0 (d.setCell ⟨R,i,je⟩ b) m b ys:=by
 have o:d.heap[R]?=N (jh (X c) t (0,0)):=lg h.box a.grown (eV h.own (.inr j));refine⟨?_,nr a.own (λk g=>dB _ Y),?_,?_⟩
 ·rw[<-l];exact fl b o
 ·refine h.but.trans ⟨a.grown.os,a.grown.tape,a.grown.output,by rw[pF];exact a.grown.size,λk g p=>(dB _ p).trans (a.grown.block k (jC g h.sz') (λe=>?_))⟩ (jG _)
  have:=(h.own.lt k e.symm).1;omega
 rw[pF];exact jJ h.sz' a.grown.size
theorem gB.first{i:T}{t:jt}{sz:T}{a:jg}{n:T}{b v:jb}(c:a.heap[R]?=N (jh (X b) t (0,0)))(d:a.ownsRow M e sz v n xs)(f:jo M w0 a)(g:M<=a.heap.size)(m:R<M)(h:(X b).setIfInBounds i v=X v):
 gB M R t e sz X w0 (a.setCell ⟨R,i,je⟩ v) n v xs:=by
 refine⟨?_,nr d (λk j=>dB _ Y),?_,by rw[pF];exact g⟩
 ·rw[<-h];exact fl v c
 exact(dx.of_below f).trans ⟨I,I,I,qS (pF _ _ _).symm,λk j l=>dB _ l⟩ (jG _)
theorem LP{w:jg}{P:jO}{B:Act}{K:Act->jg->Prop}{h:Exit->Act->jg->Prop}(s x:jY)
 (e:P.op=.call {callee:=.builtin .append,args:=#[s,x],argTypes:=#[24,24]})
 (a:T) (v:jb) (n:T) (xs:A jb) (f:B.eval s=v) (g:w.ownsRow a 100 3 v n xs) (b:jb) (m:T) (ys:A jb) (i:B.eval x=b) (j:cH w b 3 m ys) (k:∀b∈ys,b.oneCell'=jk)
 (D:n+m<=4000000) (l:a<=w.heap.size) (d:∀c w',cG a 100 3 w w' v c (n+m) (xs++ys)->K (B.put P.dst c) w'):P.wp jl B w K h:=by
 obtain⟨p,q,r,t,u⟩:=oC Cv;exact nY s x 24 e a 100 p _ 3 24 underlying24 q r t u I L v n xs f g b m ys i j k (by unfold jZ;omega) Y l
  λc w' y z C=>d c w' (oB y z C)
theorem LZ(l:A aJ)(a:A ar)(ep:ja){x:ar}{i:T}(h:a.take (i+1)=a.take i++[x]):((l.filter λm=> !fL a m)++((a.take (i+1)).filter λx=> !(x.k==2)).map λx=>(⟨x.d,ep,x.v⟩:aJ))=
 ((l.filter λm=> !fL a m)++((a.take i).filter λx=> !(x.k==2)).map λx=>(⟨x.d,ep,x.v⟩:aJ))++(if x.k=2 then []else [⟨x.d,ep,x.v⟩]):=by rw[h];exact TE l a (a.take i) x ep
theorem Kr(h:cU d=0):bL d:=by
 rcases Classical.em (bL d)with a|a
 ·exact a
 rw[k8 a]at h;exact jB h L
theorem Bd(z:ja×ja):∀l,z∈en z l
 |[]=>by simp[en]
 |x::r=>by
  unfold en
  split
  ·exact j1 ..
  exact mb _ (Bd z r)
theorem vP{z e:ja×ja}:∀{l},e∈l->e∈en z l
 |[],h=>by cases h
 |x::r,h=>by
  unfold en
  split
  ·exact mb _ h
  rcases jE.1 h with rfl|h
  ·exact j1 ..
  exact mb _ (vP h)
theorem zp(a:0<=d)(b:d<512)(e:512<=U)(h:Und (512+d) U):U=512+d:=by
 obtain⟨k,c,rfl⟩:=J8 a b h
 rcases k with _|k
 ·simp
 have f:=(rX a b c).2 0 (Nat.succ_pos k);have g:(512+d)/2^(k+1)<=(512+d)/2:=by
  rw[Int.pow_succ,Int.mul_comm,<-Int.ediv_ediv_of_nonneg L];exact Int.ediv_le_self _ Y
 omega
theorem Oo{e:ja×ja}(he:e∈t)(a:¬Und (512+d) e.1):e∈dI t d:=by
 unfold dI;exact qj.2 ⟨he,by rw[Ex a];rfl⟩
theorem Pl(c:0<=d)(g:d<512){e:ja×ja}(i:oy t e.1)(j:¬Und (512+d) e.1):oy (dI t d) e.1:=by
 obtain⟨f,k,a,b⟩:=i;refine⟨f,Oo k (λh=>j ?_),a,b⟩;rw[<-zp c g a h];exact b
theorem Av(h:fV t)(a:0<=d)(b:d<512):fV (dI t d):=by
 refine⟨sF h.1 d,λe he=>?_⟩;obtain⟨c,f⟩:=Ii he;obtain⟨g,i,j,k⟩:=h.2 e c;exact⟨g,i,j,Pl a b k f⟩
theorem Fh{s:A (ja×ja)}(h:oy t d)(b:∀e∈t,e∈s):oy s d:=by
 obtain⟨f,c,h⟩:=h;exact⟨f,b f c,h⟩
theorem NQ(h:fV t)(a:0<=d)(b:d<512)(c:bL U):fV (en (512+d,U) (dI t d)):=by
 refine⟨vM (sF h.1 d) (sH (rS Y)),λe he=>?_⟩
 rcases rc he with rfl|he
 ·refine⟨?_,?_,c,(512+d,U),Bd _ _,?_,rS ?_⟩<;>show _ <=_ <;>omega
 obtain⟨g,i,j,k⟩:=(Av h a b).2 e he;exact⟨g,i,j,Fh k (λf l=>vP l)⟩
theorem Hk{e:ja×ja}(he:e∈dI t d):∀k,e∈eL t d x k
 |0=>he
 |k+1=>vP (Hk he k)
theorem FY{l:A ja}{j:T}:∀{k},j<k->((512+d)/2^j,l.getD j 0)∈eL t d l k
 |0,h=>jB h (qT _)
 |k+1,h=>by
  unfold eL
  rcases Nat.lt_or_eq_of_le (Nat.le_of_lt_succ h)with a|rfl
  ·exact vP (FY a)
  exact Bd _ _
theorem Jh{l:A ja}(h:fV t)(a:0<=d)(b:d<512)(q:l.length=10)(c:iA l):fV (eL t d l 10):=by
 refine⟨By h.1 a b (jG 10),λe he=>?_⟩;have g:(512+d,l.getD 0 0)∈eL t d l 10:=by
  have:=FY (t:=t) (d:=d) (l:=l) (j:=0) (k:=10) L
  simpa using this
 rcases AD he with he|⟨j,r,rfl⟩
 ·obtain⟨i,m,n,o⟩:=(Av h a b).2 e he
  exact⟨i,m,n,Fh o (λf p=>Hk p 10)⟩
 have f:=EN (k:=j) a b;exact⟨(rX a b Y).1,f.2,Kr (c j Y),_,g,by show 512<=512+d;omega,Ba a b Y⟩
theorem mem_iff(t:A (ja×ja))(d:ja):d∈cA t↔0<=d/\d<512/\(bG t (512+d)).isSome=jk:=by
 rw[oH,Ce]
theorem yw{f:ja->jw ja}:∀{h n:T},d∈di f h n->(f d).isSome=jk
 |0,n,a=>by
  unfold di at a
  split at a
  ·rw[qk.1 a];assumption
  cases a
 |h+1,n,a=>by
  unfold di at a
  split at a
  ·rw[qk.1 a];assumption
  rcases jS.1 a with a|a
  ·exact yw a
  exact yw a
theorem KP(h:U∈fb t d):(bG t U).isSome=jk:=by
 unfold fb at h
 split at h
 ·exact yw h
 cases h
theorem GW(c:df t=0)(h:d∈cA t)(b:jU):dF t d b=0:=by
 obtain⟨e,f,a⟩:=(mem_iff _ _).1 h;unfold dF;rw[jp c,jq];rintro(h|h|⟨-,h⟩)
 ·omega
 ·omega
 rw[h]at a;cases a
theorem LF(g:0<=d)(h:d<512)(x:ja):x∈cA (dI t d)↔x≠d/\x∈cA t:=by
 rw[mem_iff,mem_iff,BE]
 constructor
 ·rintro⟨a,b,c⟩
  split at c
  ·cases c
  rename_i f;refine⟨λe=>f ?_,a,b,c⟩;rw[e];exact ui (rS Y)
 rintro⟨e,a,b,c⟩;refine⟨a,b,?_⟩;rw[jq]
 ·exact c
 intro f;have:=zp g h Y ((z6 _ _).1 f);omega
theorem IJ(h:dC b)(d:ja):cD b.mem d=jk↔d∈cA b.tree:=by
 rw[<-h.dev];unfold cD;rw[qM]
 constructor
 ·rintro⟨m,a,e⟩
  exact jz.2 ⟨m,a,by simpa using e⟩
 intro h;obtain⟨m,a,e⟩:=jz.1 h;exact⟨m,a,by simpa using e⟩
theorem Aj(h:d∈cA t):0<=d/\d<512:=by
 have:=(oH t d).1 h;exact⟨this.1,this.2.1⟩
structure GF(t:A (ja×ja))(l:A ar):Prop where
 each:∀x∈l,oS x
 once:(l.map ar.d).Nodup
 mem:∀x∈l,(x.d∈cA t↔x.k≠1)
theorem Fl(a:0<=d)(b:d<512)(x:ja):x∈cA (dI t d)↔x≠d/\x∈cA t:=LF a b x
theorem Kn(b:0<=d)(c:d<512)(x:ja):x∈cA (en (512+d,U) (dI t d))↔x=d\/x∈cA t:=by
 rw[mem_iff];have e:=uX (z:=(512+d,U)) (sH (t:=t) (rS Y)) (512+x);rw[e]
 by_cases h:x=d
 ·subst h
  simp[b,c]
 rw[jq (by show ¬512+x=512+d;omega)];have f:=Fl (t:=t) b c x;rw[mem_iff]at f;rw[f]
 constructor
 ·exact λh=>.inr h.2
 rintro(a|a)
 ·exact jB a h
 exact⟨h,a⟩
theorem OT{x:ar}(h:fV t)(j:oS x)(k:x.d∈cA t↔x.k≠1):fV (ik t x)/\∀d,d∈cA (ik t x)↔(d=x.d/\x.k≠2)\/(d≠x.d/\d∈cA t):=by
 have f:=tx h;obtain⟨⟨b,c⟩,l⟩:=j
 by_cases a:x.k=2
 ·have g:x.d∈cA t:=k.2 Y
  have e:ik t x=dI t x.d:=by unfold ik kK;rw[jp a,jp (GW f g jk)]
  rw[e];refine⟨Av h b c,λd=>?_⟩;rw[Fl b c]
  constructor
  ·exact λh=>.inr h
  rintro(⟨-,h⟩|h)
  ·exact jB a h
  exact h
 have g:bL x.p:=by
  rcases l with⟨-,h,-⟩|⟨h,-⟩|⟨-,h,-⟩
  ·exact h
  ·exact jB h a
  exact h
 have m:dF t x.d jr=0:=by
  unfold dF;rw[jp f,jq (by rintro(h|h|⟨h,-⟩);omega;omega;cases h)]
 have n:gK t x.d x.p=0:=by unfold gK;rw[jp m,jp (gF g)]
 have e:ik t x=en (512+x.d,x.p) (dI t x.d):=by unfold ik kU;rw[jq a,jp n]
 rw[e];refine⟨NQ h b c g,λd=>?_⟩;rw[Kn b c]
 by_cases i:d=x.d
 ·simp[i,a]
 simp[i]
theorem Pp(t:A (ja×ja))(x:ar)(l:A ar):aX t (x::l)=aX (ik t x) l:=I
theorem oX:∀(l:A ar) (t:A (ja×ja)),fV t->GF t l->fV (aX t l)/\∀d,d∈cA (aX t l)↔(∃x∈l,x.d=d/\x.k≠2)\/((∀x∈l,x.d≠d)/\d∈cA t)
 |[],t,h,b=>⟨h,λd=>by simp[aX]⟩
 |x::l,t,h,b=>by
  obtain⟨m,g⟩:=OT h (b.each x (j1 ..)) (b.mem x (j1 ..));have i:=sy.1 (show(x.d::l.map ar.d).Nodup from b.once);have j:∀y∈l,y.d≠x.d:=λy a e=>i.1 (by rw[<-e];exact sA a)
  obtain⟨n,o⟩:=oX l _ m ⟨λy a=>b.each y (mb _ a),i.2,λy a=>by
   rw[g,<-b.mem y (mb _ a)];have:=j y a;simp[this]⟩
  refine⟨n,λd=>?_⟩;rw[Pp,o,g]
  constructor
  ·rintro(⟨y,a,e,k⟩|⟨c,⟨e,k⟩|⟨p,f⟩⟩)
   ·exact .inl ⟨y,mb _ a,e,k⟩
   ·exact .inl ⟨x,j1 ..,e.symm,k⟩
   refine .inr ⟨λy a=>?_,f⟩
   rcases jE.1 a with rfl|a
   ·exact λe=>p e.symm
   exact c y a
  rintro(⟨y,a,e,k⟩|⟨c,f⟩)
  ·rcases jE.1 a with rfl|a
   ·refine .inr ⟨λz p=>?_,.inl ⟨e.symm,k⟩⟩
    rw[<-e];exact j z p
   exact .inl ⟨y,a,e,k⟩
  exact .inr ⟨λy a=>c y (mb _ a),.inr ⟨λe=>c x (j1 ..) e.symm,f⟩⟩
theorem rm(c:dC b)(g:eU u)(a:gN b d u):GF b.tree u:=by
 refine⟨g.each,g.once,λx e=>?_⟩;rw[<-IJ c,(a.each x e).1];simp
theorem yJ(g:dC b)(f:eU u)(c:gN b d u):d∈cA (aX b.tree u):=by
 rw[(oX u _ (lP g.tree) (rm g f c)).2]
 rcases Int.lt_or_le 0 b.epoch with h|h
 ·have a:cD b.mem d=jk:=by rw[c.own];simpa using h
  exact .inr ⟨λx e=>(c.each x e).2 a,(IJ g d).1 a⟩
 have a:b.epoch=0:=by have:=g.ep.1;omega
 obtain⟨x,r,rfl,e⟩:=c.first a;have i:x.k=1:=by
  have:=(c.each x (j1 ..)).1;rw[(g.zero a).1]at this
  simpa [cD]using this
 exact .inl ⟨x,j1 ..,e,by omega⟩
theorem IH{l:A ja}(a:0<=d)(b:d<512){k:T}:∀m,k<m->m<=10->bG (eL t d l m) ((512+d)/2^k)=N (l.getD k 0)
 |0,h,_=>jB h Y
 |m+1,h,c=>by
  rw[un a b Y]
  by_cases e:k=m
  ·rw[jp (by rw[e]),e]
  rw[jq,IH a b m Y Y];have:=(rX a b (k:=m) Y).2 k Y;omega
theorem Hf(a:0<=d)(b:d<512){y:ja}(c:¬Und (512+d) y):∀m,m<=10->bG (eL t d x m) y=bG t y
 |0,_=>by
  unfold eL;rw[BE,jq (λh=>c ((z6 _ _).1 h))]
 |m+1,f=>by
  rw[un a b Y,jq,Hf a b c m Y];exact λe=>c (by rw[e];exact Ba a b Y)
theorem OL{l:A ja}(c:d∈cA t):cA (eL t d l 10)=cA t:=by
 obtain⟨a,b⟩:=Aj c;refine AI (pK _) (pK _) (λx=>?_);rw[mem_iff,mem_iff]
 by_cases f:Und (512+d) (512+x)
 ·by_cases h:0<=x
  ·have e:512+x=512+d:=zp a b Y f
   have i:x=d:=Y;subst i;have g:=IH (t:=t) (l:=l) a b (k:=0) 10 Y Y;simp only[Int.pow_zero,Int.ediv_one]at g;rw[g];have j:=(mem_iff t x).1 c;simp[j]
  simp[h]
 rw[Hf a b f 10 Y]
theorem SY(h:(u.map ar.d).Nodup):((fh u).map ar.d).Pairwise (·<·):=by
 have d:(fh u).Perm u:=nv _ _;have a:(fh u).Pairwise λx y=>decide (x.d<=y.d)=jk:=xy (λa b c e f=>by simp at*;omega) (λa b=>by simp;omega) u
 have b:((fh u).map ar.d).Nodup:=(d.map _).nodup_iff.2 h;have c:((fh u).map ar.d).Pairwise (·<=·):=xz.2 (a.imp λh=>by simpa using h);exact(c.and b).imp λh=>by have:=h.1;have:=h.2;omega
theorem NV(h:(Q.map aJ.dev).Nodup):((fJ Q).map aJ.dev).Pairwise (·<·):=by
 have d:(fJ Q).Perm Q:=nv _ _;have a:(fJ Q).Pairwise λx y=>decide (x.dev<=y.dev)=jk:=xy (λa b c e f=>by simp at*;omega) (λa b=>by simp;omega) Q
 have b:((fJ Q).map aJ.dev).Nodup:=(d.map _).nodup_iff.2 h;have c:((fJ Q).map aJ.dev).Pairwise (·<=·):=xz.2 (a.imp λh=>by simpa using h);exact(c.and b).imp λh=>by have:=h.1;have:=h.2;omega
theorem tl(m:aJ):m∈fZ Q u d↔(m∈Q/\∀x∈u,x.d≠m.dev)\/∃x∈u,x.k≠2/\m=⟨x.d,d,x.v⟩:=by
 unfold fZ;rw[jS,qj,jz]
 constructor
 ·rintro(⟨b,a⟩|⟨x,b,a⟩)
  ·refine .inl ⟨b,λx ep e=>?_⟩
   have:fL u m=jk:=by unfold fL;exact qM.2 ⟨x,ep,by simpa using e⟩
   rw[this]at a;cases a
  obtain⟨e,f⟩:=qj.1 b;exact .inr ⟨x,e,by simpa using f,a.symm⟩
 rintro(⟨b,a⟩|⟨x,b,a,e⟩)
 ·refine .inl ⟨b,?_⟩
  have:fL u m=jr:=by
   unfold fL;rw[xq];intro x ep
   simpa using a x ep
  rw[this];rfl
 exact .inr ⟨x,qj.2 ⟨b,by simpa using a⟩,e.symm⟩
structure gz(g:Grp)(c:Cmt):Prop where
 val:dC g
 chk:mJ c
 fol:c.folder=g.folder
 ep:c.epoch=g.epoch+1
 par:c.parent=g.last
 form:eU c.chg
 poss:gN g c.author c.chg
 box:c.box.map (λb:Bx=>(b.lev,b.node))=eo (aX g.tree c.chg) c.author
 wel:c.wel.map Wl.dev=(du c.author c.chg).map ar.d
 ver:mE (dP g c.author c.chg) c.r c.s (dq c)
 ren:eZ (aX g.tree c.chg) c.author c.path=0
theorem yh(h:dt b d u=0):dT b d u=eo (aX b.tree u) d:=by unfold dT;rw[jp h]
theorem Fp:fE b=jk↔dC b:=by unfold fE;simp
theorem QU:gW p=0↔mJ p:=by
 constructor
 ·intro h
  exact Classical.byContradiction λa=>by rw[fi a]at h;cases h
 exact uy
theorem fW:cC b p=0↔gz b p:=by
 unfold cC
 constructor
 ·intro h
  by_cases i:fE b=jr
  ·rw[jp i]at h;cases h
  rw[jq i]at h
  by_cases j:gW p≠0
  ·rw[jp j]at h;cases h
  rw[jq j]at h
  by_cases g:onB b p=jr
  ·rw[jp g]at h;cases h
  rw[jq g]at h
  by_cases a:dt b p.author p.chg≠0
  ·rw[jp a]at h;exact jB h a
  rw[jq a]at h
  by_cases d:kD b p=jr
  ·rw[jp d]at h;cases h
  rw[jq d]at h
  by_cases k:lX (dP b p.author p.chg) p.r p.s (dq p)=jr
  ·rw[jp k]at h;cases h
  rw[jq k]at h;have m:fE b=jk:=ak i;have e:onB b p=jk:=ak g;have l:dt b p.author p.chg=0:=Classical.byContradiction a;have f:kD b p=jk:=ak d;have n:lX (dP b p.author p.chg) p.r p.s (dq p)=jk:=ak k;unfold onB at e;unfold kD at f;simp only[xA,beq_iff_eq,decide_eq_true_eq]at e f;obtain⟨-,o,c⟩:=lC.1 l;exact⟨Fp.1 m,QU.1 (Classical.byContradiction j),e.1.1,e.1.2,e.2,o,c,by rw[<-yh l];exact f.1,f.2,As.1 n,h⟩
 intro h;have a:dt b p.author p.chg=0:=lC.2 ⟨h.val,h.form,h.poss⟩;have g:onB b p=jk:=by unfold onB;simp[h.fol,h.ep,h.par]
 have d:kD b p=jk:=by unfold kD;rw[yh a];simp[h.box,h.wel]
 rw[jq (by rw[Fp.2 h.val];decide),jq (by rw[uy h.chk];decide),jq (by rw[g];decide),jq (by rw[a];decide),jq (by rw[d];decide),jq (by rw[As.2 h.ver];decide)];exact h.ren
theorem Hz(g:dC b)(c:eU u)(a:gN b d u)(h:x.length=10)(i:∀p∈x,bL p):eZ (aX b.tree u) d x=0/\iA x:=by
 have e:iA x:=λj f=>by rw[fp _ f];exact gF (i _ (rn f))
 have k:=(oX u _ (lP g.tree) (rm g c a)).1;refine⟨?_,e⟩;unfold eZ;rw[jp (GW (tx k) (yJ g c a) jk),jp ⟨h,e⟩]
theorem gY(h:gz b p):dC (aB b p):=by
 have o:=rm h.val h.form h.poss;obtain⟨c,q⟩:=oX p.chg _ (lP h.val.tree) o;have k:=yJ h.val h.form h.poss;obtain⟨r,s⟩:=Aj k;have t:=(Hz h.val h.form h.poss h.chk.plen h.chk.path).2;have l:(aB b p).tree=eL (aX b.tree p.chg) p.author p.path 10:=by
  show gr _ _ _ =_;unfold gr;rw[jp h.ren]
 have u:=Hm (ep:=p.epoch) (wm h.val) h.form.once;have n:(fJ (fZ b.mem p.chg p.epoch)).Perm (fZ b.mem p.chg p.epoch):=nv _ _;refine⟨h.val.fol,⟨by have:=h.chk.ep;show 0<=p.epoch;omega,h.chk.ep.2⟩,?_,λe=>?_,?_,λm j=>?_⟩
 ·rw[l];exact tx (Jh c r s h.chk.plen t)
 ·have:=h.chk.ep.1
  have a:p.epoch=0:=e;omega
 ·rw[l,OL k]
  refine AI (NV u) (pK _) (λd=>?_);show d∈rv aJ.dev (fJ (fZ b.mem p.chg p.epoch))↔_;rw[(n.map aJ.dev).mem_iff,q]
  constructor
  ·intro a
   obtain⟨m,j,rfl⟩:=jz.1 a
   rcases(tl m).1 j with⟨f,i⟩|⟨x,f,i,rfl⟩
   ·refine .inr ⟨i,?_⟩
    rw[<-h.val.dev];exact sA f
   exact .inl ⟨x,f,I,i⟩
  rintro(⟨x,f,rfl,i⟩|⟨f,i⟩)
  ·exact jz.2 ⟨_,(tl _).2 (.inr ⟨x,f,i,I⟩),I⟩
  rw[<-h.val.dev]at i;obtain⟨m,j,rfl⟩:=jz.1 i;exact jz.2 ⟨m,(tl m).2 (.inl ⟨j,f⟩),I⟩
 show 1<=m.since/\m.since<=p.epoch/\_;have v:=h.ep;have w:=h.chk.ep.1
 rcases(tl m).1 (n.mem_iff.1 j)with⟨f,-⟩|⟨x,f,i,rfl⟩
 ·obtain⟨a,g,d⟩:=h.val.ok m f
  exact⟨a,by omega,d⟩
 refine⟨by show 1<=p.epoch;omega,by show p.epoch<=p.epoch;omega,?_⟩;obtain⟨-,a⟩:=h.form.each x f
 rcases a with⟨-,-,a,-⟩|⟨a,-⟩|⟨-,-,a,-⟩
 ·exact a
 ·exact jB a i
 exact a
theorem D7{x:H}:∀{l:A H} {k:T},(x,M)∈l.zipIdx k->k<=M/\M<k+l.length/\x∈l
 |[],k,h=>by simp at h
 |y::l,k,h=>by
  rw[sv]at h
  rcases jE.1 h with h|h
  ·injection h with a b
   subst a b;exact⟨jG _,by simp,j1 ..⟩
  obtain⟨a,b,c⟩:=D7 h;exact⟨by omega,by rw[jQ];omega,mb _ c⟩
theorem Gd(f:fV t){a:ja}(g:0<=a)(j:a<512){k n:ja}(h:(k,n)∈eo t a):(1<=k/\k<=9)/\(1<=n/\n<1024)/\(bG t n).isSome=jk/\bL ((bG t n).getD 0):=by
 unfold eo fw at h;obtain⟨⟨s,i⟩,l,o⟩:=List.mem_flatMap.1 h;obtain⟨w,p,-⟩:=D7 l;rw[Aw g j]at p;obtain⟨m,q,e⟩:=jz.1 o;injection e with r u
 subst r u;have c:=KP q;obtain⟨v,d⟩:=Option.isSome_iff_exists.1 c;have b:=f.2 _ (oL d);refine⟨⟨by show(1:ja)<=(i:ja);omega,by show(i:ja)<=9;omega⟩,⟨b.1,by have:=b.2.1;show m<1024;have:m<=1023:=b.2.1;omega⟩,c,?_⟩;rw[d];exact b.2.2.1
theorem P6(t:A (ja×ja))(x:ja):(fb t x).length<=2^hgt x.toNat:=by
 unfold fb
 split
 ·exact tc _ _ _
 simp
theorem Ql(t:A (ja×ja)):∀(l:A ja) (k:T),(fw t l k).length<=(l.map λs=>2^hgt s.toNat).sum:=by
 intro l
 induction l with
 |nil=>intro k;simp[fw]
 |cons y l a=>
  intro k;have h:=a (k+1);unfold fw at h⊢;rw[sv,qF,jH,ju,jX,List.sum_cons];have b:(fb t (y,k).1).length<=2^hgt y.toNat:=P6 t y;omega
theorem Kw:∀n:Fin 512,((nQ n.val).map λs=>2^hgt s).sum=511:=by decide+kernel
theorem CJ(t:A (ja×ja)){a:ja}(b:0<=a)(c:a<512):(eo t a).length<=511:=by
 unfold eo;refine jJ (Ql _ _ _) ?_;have e:((ig a).map λs=>2^hgt s.toNat)=(nQ a.toNat).map λs=>2^hgt s:=by
  unfold ig;rw[ow]
  rfl
 rw[e];have:=Kw ⟨a.toNat,by omega⟩;exact qS this
theorem Ez(a n b P:T)(c:1%P=1)(h:a^b%P=1):a^(n%b)%P=a^n%P:=by
 have e:a^n=(a^b)^(n/b)*a^(n%b):=by rw[<-Nat.pow_mul,<-Nat.pow_add,xB]
 have d:(a^b)^(n/b)%P=1:=by rw[Nat.pow_mod,h,Nat.one_pow,c]
 rw[e,Nat.mul_mod,d,Nat.one_mul,Nat.mod_mod]
theorem PS(a k e x b P:T)(c:1%P=1)(h:a^b%P=1):a^((k+e*x%b)%b)%P=(a^k%P)*((a^x%P)^e%P)%P:=by
 rw[Ez a _ b P c h,Nat.pow_add,Nat.mul_mod,Ez a (e*x) b P c h,<-Nat.pow_mod,<-Nat.pow_mul,sB x e]
theorem Og:1%PN=1:=by decide
theorem SJ(h:d.toNat=M)(a:bL d):M^QN%PN=1:=by rw[<-h];exact a.2.2
theorem Ry(x:T)(msg:LBy):mE (aY 4 x:T) (kt x msg:T) (kH x msg:T) msg:=by
 refine⟨pi (a:=4) mY x,pi (a:=4) mY _,⟨by omega,?_⟩,?_⟩
 ·have h:kH x msg<QN:=Nat.mod_lt _ L
  have b:QN=2305843009213688669:=I;omega
 simp only[Int.toNat_natCast];unfold kH;generalize rL (kt x msg) (aY 4 x) msg=e;unfold kt;generalize iU x msg=k;unfold aY;exact PS 4 k e x QN PN Og (SJ I mY)
def gP:ByteArray:=⟨#[98,111,120]⟩
def kA:ByteArray:=⟨#[119,101,108,99,111,109,101]⟩
def kP:ByteArray:=⟨#[99,111,109,109,105,116,32,98,111,100,121]⟩
def cI:LBy:=qy 32 0#8
def dA(a:LBy):A ja:=(n0 10).map λi=>((aY 4 (aU (aA a i)):T):ja)
def tG(t:A (ja×ja))(n:ja):T:=((bG t n).getD 0).toNat
def bY(g:Grp)(a:ja)(b:A ar)(c:LBy):Cmt:=⟨g.folder,g.epoch+1,g.last,a,b,dA c,[],[],cI,0,0⟩
noncomputable def eE(g:Grp)(a:ja)(b:A ar)(c seed:LBy)(x:ja×ja):Bx:=
 ⟨x.2,x.1,(aY 4 (gj (dX seed gP [x.1,x.2])):T),gs (tG (aX g.tree b) x.2) (dX seed gP [x.1,x.2]) (iY (bY g a b c) gP [x.1,x.2]) (aA c x.1.toNat)⟩
def dL(g:Grp)(a init:LBy):LBy:=wY (if g.epoch=0 then cI else init) (aA a 9)
def fz(g:Grp)(a:ja)(c:A ar)(b init seed:LBy)(y:ar):Wl:=
 ⟨y.d,(aY 4 (gj (dX seed kA [y.d])):T),gs y.p.toNat (dX seed kA [y.d]) (iY (bY g a c b) kA [y.d]) (dL g b init)⟩
noncomputable def mk1(g:Grp)(a:ja)(b:A ar)(c init seed:LBy):Cmt:=
 ⟨g.folder,g.epoch+1,g.last,a,b,dA c,(eo (aX g.tree b) a).map (eE g a b c seed),(du a b).map (fz g a b c init seed),cI,0,0⟩
noncomputable def mk2(g:Grp)(a:ja)(c:A ar)(b init seed:LBy):Cmt:=
 {mk1 g a c b init seed with confirm:=ko (dL g b init) (c8 kP ((aP (mk1 g a c b init seed)).take 8))}
noncomputable def mkC(g:Grp)(a:ja)(x:T)(b:A ar)(c init seed:LBy):Cmt:=
 {mk2 g a b c init seed with r:=(kt x (dq (mk2 g a b c init seed)):T),s:=(kH x (dq (mk2 g a b c init seed)):T)}
theorem Mz(c:Cmt)(r s:ja):dq {c with r:=r,s:=s}=dq c:=by obtain⟨a,b,c,d,e,f,g,h,i,j,k⟩:=c;rfl
theorem Q4(g:Grp)(a:ja)(x:T)(b:A ar)(c init seed:LBy):dq (mkC g a x b c init seed)=dq (mk2 g a b c init seed):=by unfold mkC;exact Mz _ _ _
theorem LU(c:Cmt)(k:LBy)(r s:ja)(h:k.length=32):({({c with confirm:=k}:Cmt)with r:=r,s:=s}:Cmt).confirm.length=32:=h
theorem yI(g:Grp)(a:ja)(x:T)(b:A ar)(c init seed:LBy):(mkC g a x b c init seed).chg=b/\(mkC g a x b c init seed).parent=g.last/\(mkC g a x b c init seed).box=(eo (aX g.tree b) a).map (eE g a b c seed)/\
 (mkC g a x b c init seed).wel=(du a b).map (fz g a b c init seed)/\(mkC g a x b c init seed).confirm.length=32/\(mkC g a x b c init seed).path=dA c:=
 ⟨rfl,rfl,rfl,rfl,by unfold mkC mk2;exact LU _ _ _ _ (sW _ _),I⟩
theorem DI:∀p∈dA r,bL p:=λp c=>by
 obtain⟨i,-,rfl⟩:=jz.1 c;exact pi (a:=4) mY _
theorem lN(a:LBy):(dA a).length=10:=by simp[dA]
theorem ID{y:ar}:y∈du d u↔y∈u/\y.k≠2/\y.d≠d:=by
 unfold du fh;rw[(nv _ _).mem_iff,qj];simp[kZ]
theorem CI(a:ja)(l:A ar):(du a l).length<=l.length:=by
 unfold du fh;rw[(nv _ _).length_eq];exact qU _ _
theorem nO(p seed hd b):(gs p seed hd b).length=b.length+16:=Sz _ _ _ _
theorem lG(g leaf init):(dL g leaf init).length=32:=Cg _ _
theorem Lh(h:x.Pairwise (·<·)){i:T}(b:0<i)(a:i<x.length):x.getD (i-1) 0<x.getD i 0:=by
 rw[fp _ Y,fp _ a];exact(List.pairwise_iff_getElem.1 h) (i-1) i Y a Y
theorem se{g:Grp}{a:ja}{x:T}{c:A ar}{d init seed:LBy}(p:dt g a c=0)(B:g.epoch<1099511627776)(q:dP g a c=(aY 4 x:T))(r:d.length=32):gz g (mkC g a x c d init seed):=by
 obtain⟨h,f,j⟩:=lC.1 p;have s:=(oX c _ (lP h.tree) (rm h f j)).1;have t:=yJ h f j;obtain⟨l,m⟩:=Aj t;have o:((du a c).map (fz g a c d init seed)).map Wl.dev=(du a c).map ar.d:=by rw[ow];rfl
 have u:((du a c).map ar.d).Pairwise (·<·):=SY (f.once.sublist (sx.map _));refine⟨h,?_,I,I,I,f,j,?_,o,?_,?_⟩
 ·refine⟨h.fol,⟨by have:=h.ep.1;show 1<=g.epoch+1;omega,by show g.epoch+1<=_;omega⟩,⟨l,m⟩,f,lN d,?_,?_,DI,?_,?_,?_⟩
  ·show((eo (aX g.tree c) a).map _).length<=1024
   rw[ju];have:=CJ (aX g.tree c) l m;omega
  ·show((du a c).map _).length<=512
   rw[ju];have:=CI a c;have:=f.len;omega
  ·intro b e
   obtain⟨⟨k,n⟩,i,rfl⟩:=jz.1 e;obtain⟨⟨v,w⟩,⟨y,z⟩,-,-⟩:=Gd s l m i;refine⟨y,z,v,w,pi (a:=4) mY _,?_,?_⟩
   ·show 16<=(gs _ _ _ _).length
    rw[nO];omega
   show(gs _ _ _ _).length<=65552;rw[nO,fK d r];omega
  ·intro b e
   obtain⟨y,i,rfl⟩:=jz.1 e;have k:=(f.each y (ID.1 i).1).1;refine⟨k,pi (a:=4) mY _,?_,?_⟩
   ·show 16<=(gs _ _ _ _).length
    rw[nO];omega
   show(gs _ _ _ _).length<=65552;rw[nO,lG];omega
  intro i b k;have e:(mkC g a x c d init seed).wel.map Wl.dev=(du a c).map ar.d:=o;rw[e];refine Lh u b ?_;rw[<-e,ju];exact k
 ·show((eo (aX g.tree c) a).map (eE g a c d seed)).map _ =_
  rw[ow];exact(List.map_congr_left (λy _=>rfl)).trans (List.map_id _)
 ·show mE (dP g a c) _ _ _
  rw[q,Q4];exact Ry x _
 exact(Hz h f j (lN d) DI).1
def IR(x:ja):Prop:=-9223372036854775808<=x/\x<9223372036854775808
theorem IR.of{x:ja}(h:aO x):IR x:=by
 have:=bounds_i64 h;unfold IR;omega
structure fI(c:Cmt):Prop where
 ints:IR c.folder/\IR c.epoch/\IR c.author/\IR c.r/\IR c.s
 plen:c.parent.length=32
 clen:c.confirm.length=32
 chg:c.chg.length<=64/\∀x∈c.chg,IR x.k/\IR x.d/\IR x.p/\IR x.v/\IR x.c
 path:c.path.length<=12/\∀x∈c.path,IR x
 box:c.box.length<=1024/\∀b∈c.box,IR b.node/\IR b.lev/\IR b.u/\b.body.length<=200
 wel:c.wel.length<=512/\∀b∈c.wel,IR b.dev/\IR b.u/\b.body.length<=200
theorem eQ(h:IR d):wfV M (vI d):=by unfold vI;cases M<;>rw[wfV]<;>exact .inl ⟨I,h.1,h.2,I,I⟩
theorem IY(b:LBy):(ofB b).size=b.length:=by rw[<-kT,yS]
theorem tf(h:r.length<=1000000):wfV M (vT r):=by unfold vT;cases M<;>rw[wfV]<;>exact .inr (.inl ⟨I,I,by rw[IY];omega,rfl⟩)
theorem lO(h:∀x∈S,wfV M x)(a:S.length<=1000000):wfV (M+1) (vL S):=by unfold vL;rw[wfV];exact .inr (.inr ⟨I,I,I,by omega,h⟩)
theorem eW(h:IR d):(enc (vI d)).length<=11:=by
 unfold vI;rw[enc,jp I,jQ];have:=mi _ (zl d h.1 h.2);omega
theorem tL{b:LBy}(h:b.length<=1000000):(enc (vT b)).length<=11+b.length:=by
 unfold vT;rw[enc,jq L,jp I,jQ,jH,yS,IY];have:=mi b.length Y;omega
theorem lJ{l:A Val}(h:l.length<=1000000):(enc (vL l)).length<=11+(encs l).length:=by
 rw[pH,jQ,jH];have:=mi l.length Y;omega
theorem o7:∀{l:A Val},(∀x∈l,(enc x).length<=m)->(encs l).length<=l.length*m
 |[],_=>by simp[encs]
 |x::l,h=>by
  rw[encs,jH,jQ];have b:=h x (j1 ..);have c:=o7 (l:=l) λy a=>h y (mb _ a)
  rw[Nat.succ_mul];omega
theorem pG(x:Val)(l:A Val):encs (x::l)=enc x++encs l:=by rw[encs]
theorem LK{x:ar}(h:IR x.k/\IR x.d/\IR x.p/\IR x.v/\IR x.c)(f:T):wfV (f+1) x.val/\(enc x.val).length<=66:=by
 obtain⟨a,b,c,d,e⟩:=h;refine⟨lO (λy g=>?_) ao,?_⟩
 ·simp only[jE,ql,or_false]at g
  rcases g with rfl|rfl|rfl|rfl|rfl
  ·exact eQ a
  ·exact eQ b
  ·exact eQ c
  ·exact eQ d
  exact eQ e
 refine jJ (lJ ao) ?_;have:=eW a;have:=eW b;have:=eW c;have:=eW d;have:=eW e;simp only[pG,jH,encs,qA];omega
theorem KL{x:Bx}(h:IR x.node/\IR x.lev/\IR x.u/\x.body.length<=200)(f:T):wfV (f+1) x.val/\(enc x.val).length<=300:=by
 obtain⟨a,b,c,d⟩:=h;refine⟨lO (λy e=>?_) ao,?_⟩
 ·simp only[jE,ql,or_false]at e
  rcases e with rfl|rfl|rfl|rfl
  ·exact eQ a
  ·exact eQ b
  ·exact eQ c
  exact tf Y
 refine jJ (lJ ao) ?_;have:=eW a;have:=eW b;have:=eW c;have:=tL (b:=x.body) Y;simp only[pG,jH,encs,qA];omega
theorem QP{x:Wl}(h:IR x.dev/\IR x.u/\x.body.length<=200)(f:T):wfV (f+1) x.val/\(enc x.val).length<=300:=by
 obtain⟨a,b,d⟩:=h;refine⟨lO (λy c=>?_) ao,?_⟩
 ·simp only[jE,ql,or_false]at c
  rcases c with rfl|rfl|rfl
  ·exact eQ a
  ·exact eQ b
  exact tf Y
 refine jJ (lJ ao) ?_;have:=eW a;have:=eW b;have:=tL (b:=x.body) Y;simp only[pG,jH,encs,qA];omega
theorem fI.encOk(h:fI p):cT (aP p):=by
 obtain⟨e,f,g,i,j⟩:=h.ints;have k:∀x∈p.chg.map ar.val,wfV 14 x/\(enc x).length<=66:=λx a=>by
  obtain⟨y,d,rfl⟩:=jz.1 a;exact LK (h.chg.2 y d) 13
 have m:∀x∈p.path.map vI,wfV 14 x/\(enc x).length<=11:=λx a=>by
  obtain⟨y,d,rfl⟩:=jz.1 a;exact⟨eQ (h.path.2 y d),eW (h.path.2 y d)⟩
 have n:∀x∈p.box.map Bx.val,wfV 14 x/\(enc x).length<=300:=λx a=>by
  obtain⟨y,d,rfl⟩:=jz.1 a;exact KL (h.box.2 y d) 13
 have o:∀x∈p.wel.map Wl.val,wfV 14 x/\(enc x).length<=300:=λx a=>by
  obtain⟨y,d,rfl⟩:=jz.1 a;exact QP (h.wel.2 y d) 13
 have d:(p.chg.map ar.val).length<=64:=by rw[ju];exact h.chg.1
 have c:(p.path.map vI).length<=12:=by rw[ju];exact h.path.1
 have q:(p.box.map Bx.val).length<=1024:=by rw[ju];exact h.box.1
 have r:(p.wel.map Wl.val).length<=512:=by rw[ju];exact h.wel.1
 have s:=lJ (l:=p.chg.map ar.val) Y;have t:=lJ (l:=p.path.map vI) Y;have u:=lJ (l:=p.box.map Bx.val) Y;have v:=lJ (l:=p.wel.map Wl.val) Y;have w:=jJ (o7 λx a=>(k x a).2) (qG 66 d);have y:=jJ (o7 λx a=>(m x a).2) (qG 11 c);have z:=jJ (o7 λx a=>(n x a).2) (qG 300 q);have B:=jJ (o7 λx a=>(o x a).2) (qG 300 r);have C:=tL (b:=p.parent) (by rw[h.plen];decide);have D:=tL (b:=p.confirm) (by rw[h.clen];decide);have E:=eW e;have F:=eW f;have H:=eW g;have K:=eW i;have M:=eW j;have P:=h.plen;have Q:=h.clen;refine⟨lO (λx a=>?_) (by simp[aP]),?_⟩
 ·unfold aP at a
  simp only[jE,ql,or_false]at a
  rcases a with rfl|rfl|rfl|rfl|rfl|rfl|rfl|rfl|rfl|rfl|rfl
  ·exact eQ e
  ·exact eQ f
  ·exact tf Y
  ·exact eQ g
  ·exact lO (λx a=>(k x a).1) Y
  ·exact lO (λx a=>(m x a).1) Y
  ·exact lO (λx a=>(n x a).1) Y
  ·exact lO (λx a=>(o x a).1) Y
  ·exact tf Y
  ·exact eQ i
  exact eQ j
 refine jJ (lJ (by simp[aP])) ?_;unfold aP;simp only[pG,jH,encs,qA];omega
theorem DR{c:Cmt}{nums:A ja}(d:IR c.folder)(f:IR c.epoch)(g:IR c.author)(k:c.parent.length=32)(h:∀x∈nums,IR x)(l:nums.length<=2):cT ((aP c).take 4++nums.map vI):=by
 have e:(aP c).take 4=[vI c.folder,vI c.epoch,vT c.parent,vI c.author]:=I;have m:=tL (b:=c.parent) (by rw[k];decide);have n:=eW d;have o:=eW f;have p:=eW g;have i:∀x∈nums.map vI,wfV 15 x/\(enc x).length<=11:=λx a=>by
  obtain⟨y,j,rfl⟩:=jz.1 a;exact⟨eQ (h y j),eW (h y j)⟩
 have j:(nums.map vI).length<=2:=by rw[ju];exact l
 have q:=jJ (o7 λx a=>(i x a).2) (qG 11 j);rw[e];refine⟨lO (λx a=>?_) (by rw[jH];simp only[jQ,qA];omega),?_⟩
 ·rw[jS]at a
  rcases a with a|a
  ·simp only[jE,ql,or_false]at a
   rcases a with rfl|rfl|rfl|rfl
   ·exact eQ d
   ·exact eQ f
   ·exact tf Y
   exact eQ g
  exact(i x a).1
 refine jJ (lJ (by rw[jH];simp only[jQ,qA];omega)) ?_;rw[zf,jH];simp only[pG,jH,encs,qA];omega
theorem GT{s:ByteArray}(f:s.size<=1000)(b:∀nums∈x,IR nums)(e:x.length<=2):AW s x:=by
 have c:∀nums∈x.map vI,wfV 15 nums/\(enc nums).length<=11:=λnums a=>by
  obtain⟨y,d,rfl⟩:=jz.1 a;exact⟨eQ (b y d),eW (b y d)⟩
 have d:(x.map vI).length<=2:=by rw[ju];exact e
 have g:=jJ (o7 λnums a=>(c nums a).2) (qG 11 d);have h:(enc (.mk 2 0 s [])).length<=11+s.size:=by
  rw[enc,jq L,jp I,jQ,jH,kT];have:=mi s.size Y;omega
 refine⟨lO (λnums a=>?_) (by rw[jQ];omega),?_,by omega⟩
 ·rcases jE.1 a with rfl|a
  ·rw[wfV];exact .inr (.inl ⟨I,I,by omega,rfl⟩)
  exact(c nums a).1
 unfold lu;refine jJ (lJ (by rw[jQ];omega)) ?_;rw[pG,jH];omega
theorem mZ(h:bL d):IR d:=⟨by have:=h.1;omega,by have:=h.2.1;omega⟩
theorem Rt{g:Grp}{a:ja}{x:T}{f:A ar}{i init seed:LBy}(m:dt g a f=0)(u:g.epoch<1099511627776)(k:dP g a f=(aY 4 x:T))(n:i.length=32)(v:g.last.length=32):fI (mkC g a x f i init seed):=by
 have h:=se (seed:=seed) (init:=init) m u k n;obtain⟨o,w,z,B,C,P⟩:=yI g a x f i init seed;have j:∀b∈(mkC g a x f i init seed).box,b.body.length<=200:=λb j=>by
  rw[z]at j;obtain⟨y,-,rfl⟩:=jz.1 j;unfold eE;show(gs _ _ _ _).length<=200;rw[nO,fK i n];omega
 have D:∀b∈(mkC g a x f i init seed).wel,b.body.length<=200:=λb j=>by
  rw[B]at j;obtain⟨y,-,rfl⟩:=jz.1 j;unfold fz;show(gs _ _ _ _).length<=200;rw[nO,lG];omega
 generalize mkC g a x f i init seed=c at*;obtain⟨Q,q,r⟩:=lC.1 m;have E:∀x∈f,IR x.k/\IR x.d/\IR x.p/\IR x.v/\IR x.c:=λy F=>by
  obtain⟨⟨p,s⟩,k⟩:=q.each y F;have l:IR y.d:=⟨by omega,by omega⟩
  rcases k with⟨a,b,c,d⟩|⟨a,b,c,d,e⟩|⟨a,b,c,d,e⟩
  ·exact⟨by rw[a];exact⟨by omega,by omega⟩,l,mZ b,mZ c,by rw[d];exact⟨by omega,by omega⟩⟩
  ·exact⟨by rw[a];exact⟨by omega,by omega⟩,l,by rw[b];exact⟨by omega,by omega⟩,by rw[c];exact⟨by omega,by omega⟩,⟨by omega,by omega⟩⟩
  exact⟨by rw[a];exact⟨by omega,by omega⟩,l,mZ b,mZ c,⟨by omega,by omega⟩⟩
 have R:=h.chk.ep;have l:=h.chk.fol;have s:=h.chk.aut;have H:=h.ver.2.1;have t:=h.ver.2.2.1;refine⟨⟨⟨by have:=l.1;omega,by have:=l.2;omega⟩,⟨by omega,by omega⟩,⟨by have:=s.1;omega,by have:=s.2;omega⟩,mZ H,⟨by have:=t.1;omega,by have:=t.2;omega⟩⟩,by rw[w];exact v,C,⟨by rw[o];exact q.len,by rw[o];exact E⟩,⟨by have:=h.chk.plen;omega,λp r=>mZ (h.chk.path p r)⟩,⟨h.chk.blen,λb d=>?_⟩,⟨h.chk.wlen,λb d=>?_⟩⟩
 ·obtain⟨K,M,S,U,e⟩:=h.chk.box b d
  exact⟨⟨by omega,by omega⟩,⟨by omega,by omega⟩,mZ e.1,j b d⟩
 obtain⟨⟨K,M⟩,e⟩:=h.chk.wel b d;exact⟨⟨by omega,by omega⟩,mZ e.1,D b d⟩
section
open Go.RowKit Go.ChangeShapes Go.WideShapes Go.Deep
theorem Im(g o j:T):(⟨g,o,je⟩:jN).add j=⟨g,o+j,je⟩:=by unfold Addr.add;split<;>simp_all
instance:Inhabited ar:=⟨En⟩
instance:Inhabited aJ:=⟨de⟩
instance:Inhabited Bx:=⟨⟨0,0,0,[]⟩⟩
instance:Inhabited Wl:=⟨⟨0,0,[]⟩⟩
theorem FJ(h:(Lit.int .u8 d).wf=jk):jj .u8 d=v8 (r4 8 d.toNat):=by
 have a:=bounds_u8 h;show _ =jj .u8 ((r4 8 d.toNat).toNat:ja);rw[BitVec.toNat_ofNat]
 congr 1
 omega
theorem rA[Inhabited α]{enc:jt×jb->H}{W:jg}{k:T}(u:0<k){t e:jt}(S:jl.underlying t=N (.slice e))(U:jl.cellsOf e=k)(F:α->A jb)(p:∀x,(F x).length=k)(w:α->Prop)
 (he:∀(fuel:T) (a:A jb) (x:j6 H×A j7),DataW.trod enc jl W 0 (λ_=>jk) jk fuel e a=N x->∃E,a=F E/\w E)
 {fuel:T} {v:jb} {x:j6 H×A j7} (h:DataW.trod enc jl W 0 (λ_=>jk) jk fuel t [v]=N x):
 ∃l:A α,aH (·<W.heap.size) W v k l.length (l.flatMap F)/\(∀E∈l,w E)/\l.length<=jZ:=by
 rcases open_slice S h with⟨y,-⟩|⟨a,b,z,m,n,D,P0,y,-,V,hm,X,-,B⟩
 ·obtain rfl:v=.slice je 0 0:=ak y
  exact⟨[],⟨by simp,je,0,I,jG _,λ_=>rfl,λh=>jB h ao⟩,λE h=>by simp at h,mz _⟩
 obtain rfl:v=.slice (N a) b z:=ak y;have Ys:m=z:=ak X;have aa:∀i,i<b->∃E:α,(∀j,j<k->W.cell? (a.add (i*k+j))=(F E)[j]?)/\w E:=λi c=>by
  obtain⟨o,d,q⟩:=B i Y;rw[U]at d;obtain⟨E,rfl,f⟩:=he _ _ _ q;obtain⟨-,-,g⟩:=World.cells?_some d;refine⟨E,λj r=>?_,f⟩;have:=g j r
  rwa [add_add]at this
 obtain⟨E,C⟩:=choose_lt aa;have f:((n0 b).map E).length=b:=by simp
 refine⟨(n0 b).map E,⟨flat_length F k p _,N a,z,by rw[f],by rw[f];exact V,(λe=>by cases e),λK=>?_⟩,λx B=>?_,by rw[f];omega⟩
 ·rw[f]at K
  obtain⟨g,o,ad⟩:=a;have au:∃M,(F (E 0))[0]?=N M:=⟨_,j9 (by rw[p];exact u)⟩;obtain⟨u0,ax⟩:=au;have s:=(C 0 K).1 0 u;rw[ax]at s;have ay:ad=je:=by
   simp[Addr.add]at s;exact xC s
  subst ay;have hg:g<W.heap.size:=gg (by simpa [Addr.add]using s);refine⟨g,o,I,hg,λj M r=>?_⟩;have P:=(jV.1 r).1;rw[flat_length F k p,f]at P;have c:j/k<b:=Nat.div_lt_of_lt_mul (by rw[sB];exact P);have Q:j%k<k:=Nat.mod_lt _ u;have d:=flat_get F k p ((n0 b).map E) (j/k) (j%k) (E (j/k)) (by simp[c]) Q;have R:j/k*k+j%k=j:=by rw[sB];exact xB j k
  rw[R]at d;have q:=(C (j/k) c).1 (j%k) Q;rw[R,Im]at q;rw[q,<-d];exact r
 obtain⟨i,c,rfl⟩:=jz.1 B;exact(C i (r5.1 c)).2
theorem zB{enc:jt×jb->H}(j:jl.underlying e=N (.array 32 5))(k:jl.cellsOf e=32){fuel:T}{d:A jb}{x:j6 H×A j7}(h:DataW.trod enc jl w 0 (λ_=>jk) jk fuel e d=N x):
 ∃g:LBy,d=g.map v8/\g.length=32:=by
 obtain⟨xs,m,-,-,l,r,n⟩:=DataW.trod_array j h;rw[k]at l;have o:jl.cellsOf 5=1:=by kernel_rfl
 have p:∀i,i<32->∃b:BitVec 8,d[i]?=N (v8 b):=λi c=>by
  have t:=n i c;rw[o,Nat.mul_one,o1 Y,j9 Y]at t;simp only[xD,vi]at t;obtain⟨a,f,-,q⟩:=DataW.trod_int xj t;injection f with f _
  exact⟨r4 8 a.toNat,by rw[j9 Y,f,FJ q]⟩
 obtain⟨E,a⟩:=choose_lt p;refine⟨(n0 32).map E,?_,by simp⟩
 apply wi
 intro i
 by_cases c:i<32
 ·rw[a i c];simp[c]
 rw[wq Y];symm;simp;omega
theorem Pu{enc:jt×jb->H}{x:j6 H×A j7}(h:DataW.trod enc jl w 0 (λ_=>jk) jk M 55 i=N x):
 ∃e:ar,i=e.cells/\(IR e.k/\IR e.d/\IR e.p/\IR e.v/\IR e.c):=by
 obtain⟨xs,n,-,-,p,q,a⟩:=DataW.trod_struct underlying55 h;have r:i.length=5:=p.trans af;have s:jl.cellsOf 3=1:=by kernel_rfl
 match i,r,xs,q with
 |[v0,v1,v2,v3,v4],_,[y0,y1,y2,y3,y4],_=>
  have c:=a 0 _ I;have d:=a 1 _ I;have f:=a 2 _ I;have g:=a 3 _ I;have b:=a 4 _ I;simp only[qn,qo,qs,s]at c d f g b;obtain⟨t,j,-,w0⟩:=DataW.trod_int jL c;obtain⟨u,k,-,v⟩:=DataW.trod_int jL d;obtain⟨W,l,-,y⟩:=DataW.trod_int jL f;obtain⟨z,m,-,B⟩:=DataW.trod_int jL g;obtain⟨C,o,-,D⟩:=DataW.trod_int jL b;simp at j k l m o;exact⟨⟨t,u,W,z,C⟩,by rw[j,k,l,m,o];rfl,IR.of w0,IR.of v,IR.of y,IR.of B,IR.of D⟩
theorem NT{enc:jt×jb->H}{x:j6 H×A j7}(h:DataW.trod enc jl w 0 (λ_=>jk) jk M 30 [a]=N x):
 ∃l:A ar,aH (·<w.heap.size) w a 5 l.length (l.flatMap ar.cells)/\(∀x∈l,IR x.k/\IR x.d/\IR x.p/\IR x.v/\IR x.c)/\l.length<=jZ:=
 rA L underlying30 af ar.cells (λ_=>rfl) _ (λ_ _ _ h=>Pu h) h
theorem TT{enc:jt×jb->H}{x:j6 H×A j7}(h:DataW.trod enc jl w 0 (λ_=>jk) jk M 100 i=N x):
 ∃e:aJ,i=e.cells/\(IR e.dev/\IR e.since/\IR e.ver):=by
 obtain⟨xs,n,-,-,k,l,b⟩:=DataW.trod_struct underlying100 h;have m:i.length=3:=k.trans af;have o:jl.cellsOf 3=1:=by kernel_rfl
 match i,m,xs,l with
 |[v0,v1,v2],_,[y0,y1,y2],_=>
  have c:=b 0 _ I;have d:=b 1 _ I;have f:=b 2 _ I;simp only[qn,qo,qs,o]at c d f;obtain⟨p,g,-,w0⟩:=DataW.trod_int jL c;obtain⟨q,a,-,r⟩:=DataW.trod_int jL d;obtain⟨s,j,-,t⟩:=DataW.trod_int jL f;simp at g a j;exact⟨⟨p,q,s⟩,by rw[g,a,j];rfl,IR.of w0,IR.of r,IR.of t⟩
theorem Jj{enc:jt×jb->H}{fuel:T}{v:jb}{x:j6 H×A j7}(h:DataW.trod enc jl W 0 (λ_=>jk) jk fuel 68 [v]=N x):
 ∃l:LBy,aH (·<W.heap.size) W v 1 l.length (l.map v8)/\l.length<=jZ:=by
 obtain⟨l,c,-,d⟩:=rA (α:=BitVec 8) L underlying68 af (λb=>[v8 b]) (λ_=>rfl) (λ_=>True) (λ_ _ _ h=>by
  obtain⟨a,rfl,-,e⟩:=DataW.trod_int xj h;exact⟨r4 8 a.toNat,by rw[FJ e],trivial⟩) h
 have e:∀l:LBy,(l.flatMap λb=>[v8 b])=l.map v8:=λl=>by
  induction l with
  |nil=>rfl
  |cons b l a=>rw[qF,a];rfl
 rw[e]at c;exact⟨l,c,d⟩
theorem KZ{enc:jt×jb->H}{x:j6 H×A j7}(h:DataW.trod enc jl w 0 (λ_=>jk) jk M 31 [a]=N x):
 ∃l:A ja,aH (·<w.heap.size) w a 1 l.length (l.map (jj .i64))/\(∀x∈l,IR x)/\l.length<=jZ:=by
 obtain⟨l,c,d,f⟩:=rA (α:=ja) L xk af (λb=>[jj .i64 b]) (λ_=>rfl) (λx=>IR x) (λ_ _ _ h=>by
  obtain⟨v,rfl,-,e⟩:=DataW.trod_int jL h;exact⟨v,I,IR.of e⟩) h
 have e:∀l:A ja,(l.flatMap λb=>[jj .i64 b])=l.map (jj .i64):=λl=>by
  induction l with
  |nil=>rfl
  |cons b l v=>rw[qF,v];rfl
 rw[e]at c;exact⟨l,c,d,f⟩
theorem Jc{enc:jt×jb->H}{x:j6 H×A j7}(h:DataW.trod enc jl w 0 (λ_=>jk) jk M 83 i=N x):
 ∃(n:ja) (b:jb) (l:LBy),i=[.int .i64 n,b]/\IR n/\aH (·<w.heap.size) w b 1 l.length (l.map v8):=by
 obtain⟨xs,n,-,-,g,a,c⟩:=DataW.trod_struct underlying83 h;have j:i.length=2:=g.trans af;have k:jl.cellsOf 3=1:=by kernel_rfl
 have m:jl.cellsOf 68=1:=by kernel_rfl
 match i,j,xs,a with
 |[v0,v1],_,[y0,y1],_=>
  have d:=c 0 _ I;have e:=c 1 _ I;simp only[qn,qo,qs,k,m]at d e;obtain⟨o,f,-,w0⟩:=DataW.trod_int jL d;obtain⟨l,p,-⟩:=Jj (v:=v1) (ak e);simp at f;exact⟨o,v1,l,by rw[f],IR.of w0,p⟩
theorem Rz{enc:jt×jb->H}{x:j6 H×A j7}(h:DataW.trod enc jl w 0 (λ_=>jk) jk M 85 i=N x):
 ∃e:Bx×jb,i=e.1.cells e.2/\(IR e.1.node/\IR e.1.lev/\IR e.1.u)/\aH (·<w.heap.size) w e.2 1 e.1.body.length (e.1.body.map v8):=by
 obtain⟨xs,n,-,-,k,m,b⟩:=DataW.trod_struct underlying85 h;have o:i.length=4:=k.trans af;have p:jl.cellsOf 3=1:=by kernel_rfl
 have q:jl.cellsOf 83=2:=by kernel_rfl
 match i,o,xs,m with
 |[v0,v1,v2,v3],_,[y0,y1,y2],_=>
  have d:=b 0 _ I;have f:=b 1 _ I;have g:=b 2 _ I;simp only[qn,qo,qs,p,q]at d f g;obtain⟨r,a,-,w0⟩:=DataW.trod_int jL d;obtain⟨s,j,-,t⟩:=DataW.trod_int jL f;obtain⟨u,v,l,c,W,y⟩:=Jc g;simp at a j c;exact⟨(⟨r,s,u,l⟩,v),by rw[a,j,c.1,c.2];rfl,⟨IR.of w0,IR.of t,W⟩,y⟩
theorem ND{enc:jt×jb->H}{x:j6 H×A j7}(h:DataW.trod enc jl w 0 (λ_=>jk) jk M 88 i=N x):
 ∃e:Wl×jb,i=e.1.cells e.2/\(IR e.1.dev/\IR e.1.u)/\aH (·<w.heap.size) w e.2 1 e.1.body.length (e.1.body.map v8):=by
 obtain⟨xs,n,-,-,a,j,c⟩:=DataW.trod_struct underlying88 h;have k:i.length=3:=a.trans af;have m:jl.cellsOf 3=1:=by kernel_rfl
 have o:jl.cellsOf 83=2:=by kernel_rfl
 match i,k,xs,j with
 |[v0,v2,v3],_,[y0,y2],_=>
  have d:=c 0 _ I;have f:=c 1 _ I;simp only[qn,qo,qs,m,o]at d f;obtain⟨p,g,-,w0⟩:=DataW.trod_int jL d;obtain⟨q,r,l,b,s,t⟩:=Jc f;simp at g b;exact⟨(⟨p,q,l⟩,r),by rw[g,b.1,b.2];rfl,⟨IR.of w0,s⟩,t⟩
theorem yA(f:H->jb->A jb):∀(l:A (H×jb)),dR f (l.map (·.1)) (l.map (·.2))=l.flatMap λe=>f e.1 e.2
 |[]=>rfl
 |e::l=>by simp only[jX,dR,qF,yA f l]
theorem Bl(f:H->LBy):∀(l:A (H×jb)),(∀e∈l,aH D w e.2 1 (f e.1).length ((f e.1).map v8))->ez D w ((l.map (·.1)).map f) (l.map (·.2))
 |[],_=>rfl
 |e::l,h=>⟨e.2,l.map (·.2),rfl,h e (j1 ..),Bl f l λx a=>h x (mb _ a)⟩
theorem JU{enc:jt×jb->H}{x:j6 H×A j7}(D:DataW.trod enc jl w 0 (λ_=>jk) jk M 27 [a]=N x):
 ∃t,bJ w a t/\t.length<=jZ:=by
 obtain⟨E,n,l,-,p⟩:=trod_struct1 underlying27 D;have q:DataW.trod enc jl w 0 (λ_=>jk) jk n 25 [a]=N E:=by
  have e:jl.cellsOf 25=1:=by kernel_rfl
  simpa [qH,e]using p
 rcases open_slice_pairs underlying25 underlying194 af rfl rfl af af q with⟨r,l⟩|⟨f,d,s,m,n',b,c,R,S,U,V,r,-,F,X,K,-,u⟩
 ·obtain rfl:a=.slice je 0 0:=ak r
  exact⟨[],nJ w,mz _⟩
 obtain rfl:a=.slice (N f) d s:=ak r;have Ys:m=s:=ak K;have z:∀i,i<d->b i=.int .i64 (jA (b i))/\c i=.int .i64 (jA (c i))/\aO (jA (b i))/\aO (jA (c i)):=λi B=>by
  obtain⟨-,-,e,t1⟩:=u i Y;obtain⟨x,g,-,h⟩:=DataW.trod_int jL e;obtain⟨y,j,-,k⟩:=DataW.trod_int jL t1;have v:b i=.int .i64 x:=ak g;have W:c i=.int .i64 y:=ak j;rw[v,W];exact⟨I,I,h,k⟩
 have e:((n0 d).map λi=>(jA (b i),jA (c i))).length=d:=by simp
 have fuel:∀j,j<d->((n0 d).map λi=>(jA (b i),jA (c i))).getD j (0,0)=(jA (b j),jA (c j)):=λj k=>by
  simp[qt,k]
 refine⟨(n0 d).map λi=>(jA (b i),jA (c i)),⟨N f,s,by rw[e],by rw[e];exact F,λh=>(by cases h),λp=>?_,λx l=>?_⟩,by rw[e];omega⟩
 ·rw[e]at p
  obtain⟨g,o,P⟩:=f;have Q:P=je:=by
   have h:=(u 0 Y).1
   simpa [Addr.add]using xC h
  subst Q;refine⟨g,o,I,λj k=>?_⟩;rw[e]at k;obtain⟨C,y,-,-⟩:=u j Y;obtain⟨v,W,-,-⟩:=z j k;rw[Im]at C y;rw[fuel j k,C,<-v];rw[<-qi]at y;exact⟨I,by rw[y,<-W]⟩
 obtain⟨i,B,rfl⟩:=jz.1 l;obtain⟨-,-,q,g⟩:=z i (r5.1 B);exact⟨q,g⟩
theorem Rb{enc:jt×jb->H}{d:j6 H}{p:A j7}(h:DataW.Trod enc jl w 0 (λ_=>jk) jk 29 a d p)(x:Value.okWide jl w .any M 29 a):
 ∃(g:Grp) (vm vt:jb),a=.agg (aD g vm vt).toArray/\bH w g vm vt/\(IR g.folder/\IR g.epoch)/\g.mem.length<=jZ/\g.tree.length<=jZ/\∀m∈g.mem,IR m.dev/\IR m.since/\IR m.ver:=by
 obtain⟨y,rfl,au⟩:=okWide_struct jF x;obtain⟨cl⟩:=y;obtain⟨fuel,f⟩:=h;have z:(qI ⟨cl⟩).cells.toList=cl:=I;rw[z]at f;obtain⟨xs,n,-,-,B,C,v⟩:=DataW.trod_struct jF f;have ax:cl.length=36:=B.trans af;have D:jl.cellsOf 3=1:=by kernel_rfl
 have i:jl.cellsOf 23=32:=by kernel_rfl
 have F:jl.cellsOf 24=1:=by kernel_rfl
 have K:jl.cellsOf 27=1:=by kernel_rfl
 match xs,C with
 |[y0,y1,y2,y3,y4],_=>
  have j:=v 0 _ I;have l:=v 1 _ I;have o:=v 2 _ I;have b:=v 3 _ I;have c:=v 4 _ I;simp only[qn,qo,qs,D,i,F,K]at j l o b c;obtain⟨q,r,-,w0⟩:=DataW.trod_int jL j;obtain⟨s,base,-,P⟩:=DataW.trod_int jL l;obtain⟨u,Q,R⟩:=zB qd i o;have S:(cl.drop 34).take 1=[cl[34]]:=by rw[o1 Y];rfl
  have U:(cl.drop 35).take 1=[cl[35]]:=by rw[o1 Y];rfl
  rw[S]at b;rw[U]at c;obtain⟨V,X,Ys,aa⟩:=rA (α:=aJ) (k:=3) L underlying24 af aJ.cells (λ_=>rfl) _ (λ_ _ _ h=>TT h) b;obtain⟨t,U8,ad⟩:=JU c;have e:cl=.int .i64 q::.int .i64 s::(u.map v8++[cl[34],cl[35]]):=by
   have W:cl=cl.take 1++((cl.drop 1).take 1++((cl.drop 2).take 32++cl.drop 34)):=by
    have b1:cl.drop 2=(cl.drop 2).take 32++cl.drop 34:=by
     have:=(qV 32 (cl.drop 2)).symm
     rwa [wt]at this
    have b2:cl.drop 1=(cl.drop 1).take 1++cl.drop 2:=by
     have:=(qV 1 (cl.drop 1)).symm
     rwa [wt]at this
    rw[<-b1,<-b2,qV]
   have s1:cl.drop 34=[cl[34],cl[35]]:=by
    rw[o1 Y,o1 Y,wv Y]
   simp only[xE]at r;rw[r,base,Q,s1]at W
   simpa using W
  refine⟨⟨q,s,u,V,t⟩,cl[34],cl[35],by unfold aD;rw[<-e],⟨EK.At.of_sl (E:=EM) X,U8,R⟩,⟨IR.of w0,IR.of P⟩,aa,ad,Ys⟩
theorem mH{cl:A jb}{o n:T}(h:o+n=m):cl.drop o=(cl.drop o).take n++cl.drop m:=by
 have:=(qV n (cl.drop o)).symm
 rwa [wt,h]at this
theorem Kp{enc:jt×jb->H}{cl:A jb}{x:j6 H×A j7}(X:DataW.trod enc jl w 0 (λ_=>jk) jk M 37 cl=N x):
 ∃(c:Cmt) (q:CQ),cl=aF c q/\aT (·<w.heap.size) w c q/\(IR c.folder/\IR c.epoch/\IR c.author/\IR c.r/\IR c.s)/\(c.chg.length<=jZ/\∀x∈c.chg,IR x.k/\IR x.d/\IR x.p/\IR x.v/\IR x.c)/\
  (c.path.length<=jZ/\∀x∈c.path,IR x)/\(c.box.length<=jZ/\∀b∈c.box,IR b.node/\IR b.lev/\IR b.u)/\(c.wel.length<=jZ/\∀b∈c.wel,IR b.dev/\IR b.u):=by
 obtain⟨xs,n,-,-,hl,aa,a⟩:=DataW.trod_struct qY X;have bh:cl.length=73:=hl.trans af;have u:jl.cellsOf 3=1:=by kernel_rfl
 have g:jl.cellsOf 23=32:=by kernel_rfl
 have i3:jl.cellsOf 30=1:=by kernel_rfl
 have i4:jl.cellsOf 31=1:=by kernel_rfl
 have i5:jl.cellsOf 32=1:=by kernel_rfl
 have i6:jl.cellsOf 33=1:=by kernel_rfl
 have i7:jl.cellsOf 35=2:=by kernel_rfl
 match xs,aa with
 |[y0,y1,y2,y3,y4,y5,y6,y7,y8,y9],_=>
  have v:=a 0 _ I;have W:=a 1 _ I;have z:=a 2 _ I;have B:=a 3 _ I;have i:=a 4 _ I;have j:=a 5 _ I;have l:=a 6 _ I;have p:=a 7 _ I;have C:=a 8 _ I;have D:=a 9 _ I;simp only[qn,qo,qs,u,g,i3,i4,i5,i6,i7]at v W z B i j l p C D;obtain⟨a0,e0,-,w0⟩:=DataW.trod_int jL v;obtain⟨a1,e1,-,w1⟩:=DataW.trod_int jL W;obtain⟨kb,e2,ad⟩:=zB qd g z;obtain⟨a3,e3,-,w3⟩:=DataW.trod_int jL B;have d:∀o (h:o<cl.length),(cl.drop o).take 1=[cl[o]]:=λo h=>by rw[o1 h];rfl
  rw[d 35 Y]at i;rw[d 36 Y]at j;rw[d 37 Y]at l;rw[d 38 Y]at p;obtain⟨lc,We,au,ax⟩:=NT i;obtain⟨lp,ay,a2,a4⟩:=KZ j;obtain⟨lb,a5,E,UT⟩:=rA (α:=Bx×jb) (k:=4) L underlying32 af (λe=>e.1.cells e.2) (λ_=>rfl) _ (λ_ _ _ h=>Rz h) l;obtain⟨f,a6,F,ba⟩:=rA (α:=Wl×jb) (k:=3) L underlying33 af (λe=>e.1.cells e.2) (λ_=>rfl) _ (λ_ _ _ h=>ND h) p;obtain⟨kc,e8,bb⟩:=zB qd g C;obtain⟨zs,n9,-,-,bi,bc,r⟩:=DataW.trod_struct underlying35 D;have bd:(cl.drop 71).take 2=[cl[71],cl[72]]:=by rw[o1 Y,o1 Y];rfl
  rw[bd]at r
  match zs,bc with
  |[z0,z1],_=>
   have K:=r 0 _ I;have s1:=r 1 _ I;simp only[qn,qo,qs,u]at K s1;obtain⟨fuel,er,-,wr⟩:=DataW.trod_int jL K;obtain⟨r1,es,-,ws⟩:=DataW.trod_int jL s1;have bf:cl[71]=.int .i64 fuel:=ak er;have bg:cl[72]=.int .i64 r1:=ak es;have e:cl=aF ⟨a0,a1,kb,a3,lc,lp,lb.map (·.1),f.map (·.1),kc,fuel,r1⟩ ⟨cl[35],cl[36],cl[37],cl[38]⟩:=by
    have s:=mH (cl:=cl) (o:=0) (n:=1) (m:=1) I;have t:=mH (cl:=cl) (o:=1) (n:=1) (m:=2) I;have y:=mH (cl:=cl) (o:=2) (n:=32) (m:=34) I;have P:=mH (cl:=cl) (o:=34) (n:=1) (m:=35) I;have Q:=mH (cl:=cl) (o:=35) (n:=1) (m:=36) I;have R:=mH (cl:=cl) (o:=36) (n:=1) (m:=37) I;have S:=mH (cl:=cl) (o:=37) (n:=1) (m:=38) I;have U:=mH (cl:=cl) (o:=38) (n:=1) (m:=39) I;have V:=mH (cl:=cl) (o:=39) (n:=32) (m:=71) I;have b9:cl.drop 71=[cl[71],cl[72]]:=by
     rw[o1 Y,o1 Y,wv Y]
    rw[e0]at s;rw[e1]at t;rw[e2]at y;rw[e3]at P;rw[d 35 Y]at Q;rw[d 36 Y]at R;rw[d 37 Y]at S;rw[d 38 Y]at U;rw[e8,b9,bf,bg]at V;rw[xE]at s;refine s.trans ?_;rw[t,y,P,Q,R,S,U,V]
    rfl
   refine⟨_,_,e,⟨We,ay,⟨lb.map (·.2),?_,?_⟩,⟨f.map (·.2),?_,?_⟩,ad,bb⟩,⟨IR.of w0,IR.of w1,IR.of w3,IR.of wr,IR.of ws⟩,⟨ax,au⟩,⟨a4,a2⟩,⟨?_,?_⟩,⟨?_,?_⟩⟩
   ·show aH _ _ _ 4 (lb.map (·.1)).length (dR Bx.cells (lb.map (·.1)) _)
    rw[yA,ju];exact a5
   ·exact Bl Bx.body lb λx s=>(E x s).2
   ·show aH _ _ _ 3 (f.map (·.1)).length (dR Wl.cells (f.map (·.1)) _)
    rw[yA,ju];exact a6
   ·exact Bl Wl.body f λx s=>(F x s).2
   ·show(lb.map (·.1)).length<=_
    rw[ju];exact UT
   ·intro b s
    obtain⟨y,t,rfl⟩:=jz.1 s;exact(E y t).1
   ·show(f.map (·.1)).length<=_
    rw[ju];exact ba
   intro b s;obtain⟨y,t,rfl⟩:=jz.1 s;exact(F y t).1
end
def nx(k:ja):A Val->jw (Val×A Val)
 |[]=>je
 |x::l=>if x.k=k then N (x,l)else je


theorem put_defers(a:Act)(d:jw Tmp)(v:jb):(Act.put a d v).defers=a.defers:=by cases d<;>rfl
structure Vld(M c:T)(wr:jg)(l:A Val)(a:jb)(b:A jb):Prop where
 box:wr.heap[c]?=N (jh #[jc jd 3,jc jd 0,.string ⟨#[]⟩,a] 135 (0,0))
 own:wr.ownsRow M 135 4 a l.length (cS l b)
 kids:aN (λg=>M<=g/\g<wr.heap.size/\a.ownBlock≠N g) wr l b
 sz:M<=wr.heap.size
theorem Vld.start{a:T}(b:w.heap[a]?=N (jh #[jc jd 3,jc jd 0,.string ⟨#[]⟩,dG] 135 (0,0)))(c:M<=w.heap.size):Vld M a w [] dG []:=
 ⟨b,by simpa [cS]using qJ w M 135 4,by rw[aN],c⟩
theorem Gi(h:w.ownsRow M e R a m i)(c:∀k,M<=k->k<w.heap.size->W.heap[k]?=w.heap[k]?):W.ownsRow M e R a m i:=by
 refine⟨h.1,?_⟩
 rcases h.2 with v|⟨g,d,f,xs,v,b,j⟩
 ·exact .inl v
 exact .inr ⟨g,d,f,xs,v,(c g v (jR.1 b).1).trans b,j⟩
theorem Vld.later(h:Vld M R w S a i)(j:R<M)(c:w.heap.size<=W.heap.size)(e:∀k,R<=k->k<w.heap.size->W.heap[k]?=w.heap[k]?):Vld M R W S a i:=
 ⟨(e R (jG _) (jC j h.sz)).trans h.box,Gi h.own (λk g b=>e k Y b),aN.mono (λg b=>⟨b.1,jC b.2.1 c,b.2.2⟩) S i (aN.keep (λg b=>e g Y b.2.1) S i h.kids),jJ h.sz c⟩
theorem Vld.push{f:T}{a p i:jg}{l:A Val}{j n:jb}{c:A jb}(h:Vld M f a l j c)(v:f<M){x:Val}{d:jb}
 (s:aW (λg=>M<=g/\g<a.heap.size/\j.ownBlock≠N g) a x d) (m:cG M 135 4 a p j n (l.length+1) (cS l c++gU x d))
 (t:i.heap[f]?=N (jh #[jc jd 3,jc jd 0,.string ⟨#[]⟩,n] 135 (0,0))) (o:pW f p i):Vld M f i (l++[x]) n (c++[d]):=by
 have u:=h.kids.len;have q:∀g,(M<=g/\g<a.heap.size/\j.ownBlock≠N g)->i.heap[g]?=a.heap[g]?:=λg b=>
  (o.block g Y).trans (m.grown.block g b.2.1 (λe=>b.2.2 e.symm))
 have r:∀g,(M<=g/\g<a.heap.size/\j.ownBlock≠N g)->(M<=g/\g<i.heap.size/\n.ownBlock≠N g):=λg b=>
  ⟨b.1,by rw[o.size];exact jC b.2.1 m.grown.size,m.ne b.2.1 b.2.2⟩
 refine⟨t,?_,aN.append (aN.mono r _ _ (aN.keep q _ _ h.kids)) (aN.one (aW.mono r _ _ (aW.keep q _ _ s))),?_⟩
 ·have e:cS (l++[x]) (c++[d])=cS l c++gU x d:=by
   rw[sR l [x] c [d] u];simp[cS]
  rw[e,jH];exact Gi m.own (λk w _=>o.block k Y)
 rw[o.size];exact jJ h.sz m.grown.size
@[simp] theorem Ui (n):(vI n).k=1:=I
@[simp] theorem Uk (b):(vT b).k=2:=I
@[simp] theorem Ul (l):(vL l).k=3:=I
@[simp] theorem Um (n):(vI n).n=n:=I
@[simp] theorem Uf (b):(vT b).s=ofB b:=I
@[simp] theorem Uh (l):(vL l).l=l:=I
structure rq(c:Cmt):Prop where
 box:∀b∈c.box,b.body.length<=200
 wel:∀b∈c.wel,b.body.length<=200
 nchg:c.chg.length<=10
 npath:c.path.length<=12
 nbox:c.box.length<=40
 nwel:c.wel.length<=10
structure wQ(c:Cmt):Prop where
 ints:IR c.folder/\IR c.epoch/\IR c.author/\IR c.r/\IR c.s
 chg:∀x∈c.chg,IR x.k/\IR x.d/\IR x.p/\IR x.v/\IR x.c
 path:∀x∈c.path,IR x
 box:∀b∈c.box,IR b.node/\IR b.lev/\IR b.u
 wel:∀b∈c.wel,IR b.dev/\IR b.u
theorem FM(h:rq p)(a:wQ p)(e:p.parent.length=32)(f:p.confirm.length=32):fI p where
 ints:=a.ints
 plen:=e
 clen:=f
 chg:=⟨by have:=h.nchg;omega,a.chg⟩
 path:=⟨h.npath,a.path⟩
 box:=⟨by have:=h.nbox;omega,λb d=>⟨(a.box b d).1,(a.box b d).2.1,(a.box b d).2.2,h.box b d⟩⟩
 wel:=⟨by have:=h.nwel;omega,λb d=>⟨(a.wel b d).1,(a.wel b d).2,h.wel b d⟩⟩
def cZ(l:A aJ)(d:ja):jw aJ:=l.find? λm=>m.dev==d
def m7(l:A ar)(d:ja):jw ar:=l.find? λx=>x.d==d
theorem zw(f:H->ja)(d:ja):∀(l:A H),(l.map f).Nodup->∀m,(l.find? λm=>f m==d)=N m↔m∈l/\f m=d
 |[],_,m=>by simp
 |x::l,h,m=>by
  rw[jX,sy]at h;rw[List.find?_cons]
  by_cases e:f x=d
  ·simp only[e,BEq.rfl,q9.injEq]
   constructor
   ·rintro rfl;exact⟨j1 ..,e⟩
   rintro⟨b,a⟩
   rcases jE.1 b with rfl|c
   ·rfl
   exact jB (jz.2 ⟨m,c,by rw[a,e]⟩) h.1
  rw[beq_eq_false_iff_ne.2 e,zw f d l h.2 m]
  constructor
  ·rintro⟨b,a⟩;exact⟨mb _ b,a⟩
  rintro⟨b,a⟩
  rcases jE.1 b with rfl|c
  ·exact jB a e
  exact⟨c,a⟩
theorem sV(h:(Q.map aJ.dev).Nodup)(d:ja)(m:aJ):cZ Q d=N m↔m∈Q/\m.dev=d:=zw aJ.dev d Q h m
theorem td(h:(u.map ar.d).Nodup)(d:ja)(x:ar):m7 u d=N x↔x∈u/\x.d=d:=zw ar.d d u h x
theorem Mx{a b:jw H}(h:∀x,a=N x↔b=N x):a=b:=by
 cases a with
 |none=>cases b with
  |none=>rfl
  |some y=>exact jB ((h y).2 I) ao
 |some x=>exact((h x).1 I).symm
theorem uG:(cZ Q d).isSome=cD Q d:=by
 unfold cZ cD;rw[xG,List.find?_isSome,qM]
theorem pI(h:gz b p)(m:aJ):m∈(aB b p).mem↔(m∈b.mem/\∀x∈p.chg,x.d≠m.dev)\/∃x∈p.chg,x.k≠2/\m=⟨x.d,p.epoch,x.v⟩:=by
 have a:(fJ (fZ b.mem p.chg p.epoch)).Perm (fZ b.mem p.chg p.epoch):=nv _ _;exact a.mem_iff.trans (tl m)
theorem sd(h:gz b p):((aB b p).mem.map aJ.dev).Nodup:=wm (gY h)
theorem zM{g:Grp}{c:Cmt}(h:gz g c){d:ja}(j:m7 c.chg d=je):cZ (aB g c).mem d=cZ g.mem d:=by
 have i:∀x∈c.chg,x.d≠d:=λx f e=>by
  have:=(td h.form.once d x).2 ⟨f,e⟩;rw[j]at this;cases this
 refine Mx λm=>?_
 rw[sV (sd h),sV (wm h.val),pI h]
 constructor
 ·rintro⟨a|⟨x,a,-,rfl⟩,b⟩
  ·exact⟨a.1,b⟩
  exact jB b (i x a)
 rintro⟨a,b⟩;exact⟨.inl ⟨a,λx f e=>i x f (e.trans b)⟩,b⟩
theorem If{g:Grp}{c:Cmt}(h:gz g c){d:ja}{y:ar}(b:m7 c.chg d=N y)(f:y.k=2):(cZ g.mem d).isSome=jk/\cZ (aB g c).mem d=je:=by
 obtain⟨i,rfl⟩:=(td h.form.once d y).1 b;refine⟨by rw[uG,(h.poss.each y i).1,f];rfl,?_⟩
 cases e:cZ (aB g c).mem y.d with
 |none=>rfl
 |some m=>
  obtain⟨k,j⟩:=(sV (sd h) _ _).1 e
  rcases(pI h m).1 k with⟨-,a⟩|⟨x,a,l,rfl⟩
  ·exact jB j.symm (a y i)
  have:=(td h.form.once _ x).2 ⟨a,j⟩;rw[b]at this;injection this with this
  exact jB (by rw[<-this];exact f) l
theorem Ft{g:Grp}{c:Cmt}(h:gz g c){d:ja}{y:ar}(b:m7 c.chg d=N y)(f:y.k≠2):cZ (aB g c).mem d=N ⟨d,c.epoch,y.v⟩/\(cZ g.mem d).isSome= !(y.k==1):=by
 obtain⟨a,rfl⟩:=(td h.form.once d y).1 b;refine⟨(sV (sd h) _ _).2 ⟨(pI h _).2 (.inr ⟨y,a,f,I⟩),I⟩,?_⟩;rw[uG,(h.poss.each y a).1]
 by_cases e:y.k=1<;>simp[e]
theorem mx{B:Act}{x:jY}{X:js jb}{t:jt}{d:TypeDesc}(g:jl.underlying e=N d)(i:d.isRow=jk)(j:(jl.info? e).map (·.size)=N X.size)(k:o.op=.load e x)(m:B.eval x=jI (N ⟨M,0,je⟩))(n:w.heap[M]?=N (jh X t (0,0))):
 (o8 B.eval o).run jl w=.ok (.value (jm X)) w:=by
 have h:=gm (P:=jl) o B e x k M 0 m X.toList _ (vS (t:=t) (l:=X.toList) (ak n)) g i (by rw[qf];exact j)
 simpa using h
theorem F9{P:qe}{fn:Func}{p q k:Tmp}{c f:jt}(h:fn.results= #[.cell p c,.cell q f,.tmp k])(tmps:js jb)(w:jg)(g l:T)(t t2:jt)(i j:js jb)(n o:T×T)(d m:TypeDesc)
 (r:tmps.getD p qg=jI (N ⟨g,0,je⟩)) (s:tmps.getD q qg=jI (N ⟨l,0,je⟩)) (u:w.heap[g]?=N (jh i t n)) (x:w.heap[l]?=N (jh j t2 o))
 (y:P.underlying c=N d) (z:(match d with| .struct _ | .array _ _=>jk|_=>jr)=jk) (B:(P.info? c).map (·.size)=N i.size)
 (C:P.underlying f=N m) (hd2:(match m with| .struct _ | .array _ _=>jk|_=>jr)=jk) (D:(P.info? f).map (·.size)=N j.size):
 (results fn tmps).run P w=.ok (j0 #[jm i,jm j,tmps.getD k qg]) w:=by
 have e:(results fn tmps).run P w=((asAddr (tmps.getD p qg)).run P w).andThen λa E=>((loadVar c a).run P E).andThen λv F=>((asAddr (tmps.getD q qg)).run P F).andThen λb H=>((loadVar f b).run P H).andThen λK M=>.ok (j0 #[v,K,tmps.getD k qg]) M:=by
  simp only[results,h];simp[Sem.run_bind,Result.andThen]
 rw[e,r];simp only[asAddr,Sem.run_pure,Result.andThen_ok,run_loadVar_row w g t c i n d u y z B,s,run_loadVar_row w l t2 f j o m x C hd2 D]
def mR:Cmt:=⟨0,0,cI,0,[],[],[],[],cI,0,0⟩
def nK:CQ:=⟨jf je 0 0,jf je 0 0,jf je 0 0,jf je 0 0⟩
theorem eM:cI.length=32:=by simp[cI]
theorem LR(f e a:ja)(b:js jb)(d:b.size=32)(p:jw jN)(n c:T)(w:jg):
 (Instr.build 37 #[(0,jc jd f),(1,jc jd e),(2,jm b),(3,jc jd a),(4,jf p n c)]).run jl w=.ok (jm (#[jc jd f,jc jd e]++b++ #[jc jd a,jf p n c,jf je 0 0,jf je 0 0,jf je 0 0]++(cI.map v8).toArray++ #[jc jd 0,jc jd 0])) w:=by
 unfold Instr.build;go_simp;rw[vY b _ 2 32 d ao];obtain⟨l⟩:=b;simp[zeroCells37];have g:l.length=32:=d;rw[jq Y,jq Y,qz _ _ Y,qz _ _ Y,g]
 rfl
theorem RS(c:Cmt)(a b d e x:jb)(f:c.parent.length=32):(aF c ⟨a,b,d,e⟩).toArray.setIfInBounds 36 x=(aF c ⟨a,x,d,e⟩).toArray:=by
 apply qx
 rw[qE];unfold aF;have g:(c.parent.map v8).length=32:=by rw[ju];exact f
 show qQ (_ ::_ ::(c.parent.map v8++_)) 36 x=_;rw[qb,qb,qz _ _ Y,g]
 rfl
theorem Dy(c:Cmt)(a b d e x:jb)(f:c.parent.length=32):(aF c ⟨a,b,d,e⟩).toArray.setIfInBounds 37 x=(aF c ⟨a,b,x,e⟩).toArray:=by
 apply qx
 rw[qE];unfold aF;have g:(c.parent.map v8).length=32:=by rw[ju];exact f
 show qQ (_ ::_ ::(c.parent.map v8++_)) 37 x=_;rw[qb,qb,qz _ _ Y,g]
 rfl
theorem Ev(c:Cmt)(a b d e x:jb)(f:c.parent.length=32):(aF c ⟨a,b,d,e⟩).toArray.setIfInBounds 38 x=(aF c ⟨a,b,d,x⟩).toArray:=by
 apply qx
 rw[qE];unfold aF;have g:(c.parent.map v8).length=32:=by rw[ju];exact f
 show qQ (_ ::_ ::(c.parent.map v8++_)) 38 x=_;rw[qb,qb,qz _ _ Y,g]
 rfl
theorem R3:(jl.info? 3).map (λi=>(i.zero,i.size,i.bytes))=N (N (jc jd 0),1,8):=by kernel_rfl
theorem SX:(jl.info? 88).map (λi=>(i.zero,i.size,i.bytes))=N (N (jm #[jc jd 0,jc jd 0,jf je 0 0]),3,40):=by kernel_rfl
theorem SE{w:jg}{P:jO}{B:Act}{K:Act->jg->Prop}{h:Exit->Act->jg->Prop}(s x:jY)
 (e:P.op=.call {callee:=.builtin .append,args:=#[s,x],argTypes:=#[31,31]})
 (a:T) (v:jb) (n:T) (xs:A jb) (f:B.eval s=v) (g:w.ownsRow a 3 1 v n xs) (b:jb) (m:T) (ys:A jb) (i:B.eval x=b) (j:cH w b 1 m ys) (k:∀b∈ys,b.oneCell'=jk)
 (D:n+m<=4000000) (l:a<=w.heap.size) (d:∀c w',cG a 3 1 w w' v c (n+m) (xs++ys)->K (B.put P.dst c) w'):P.wp jl B w K h:=by
 obtain⟨p,q,r,t,u⟩:=oC R3;exact nY s x 31 e a 3 p _ 1 8 xk q r t u I L v n xs f g b m ys i j k (by unfold jZ;omega) Y l
  λc w' y z C=>d c w' (oB y z C)
theorem MQ{w:jg}{P:jO}{B:Act}{K:Act->jg->Prop}{h:Exit->Act->jg->Prop}(s x:jY)
 (e:P.op=.call {callee:=.builtin .append,args:=#[s,x],argTypes:=#[32,32]})
 (a:T) (v:jb) (n:T) (xs:A jb) (f:B.eval s=v) (g:w.ownsRow a 85 4 v n xs) (b:jb) (m:T) (ys:A jb) (i:B.eval x=b) (j:cH w b 4 m ys) (k:∀b∈ys,b.oneCell'=jk)
 (D:n+m<=2900000) (l:a<=w.heap.size) (d:∀c w',cG a 85 4 w w' v c (n+m) (xs++ys)->K (B.put P.dst c) w'):P.wp jl B w K h:=by
 obtain⟨p,q,r,t,u⟩:=oC Ic;exact nY s x 32 e a 85 p _ 4 48 underlying32 q r t u I L v n xs f g b m ys i j k (by unfold jZ;omega) Y l
  λc w' y z C=>d c w' (oB y z C)
theorem Lx{w:jg}{P:jO}{B:Act}{K:Act->jg->Prop}{h:Exit->Act->jg->Prop}(s x:jY)
 (e:P.op=.call {callee:=.builtin .append,args:=#[s,x],argTypes:=#[33,33]})
 (a:T) (v:jb) (n:T) (xs:A jb) (f:B.eval s=v) (g:w.ownsRow a 88 3 v n xs) (b:jb) (m:T) (ys:A jb) (i:B.eval x=b) (j:cH w b 3 m ys) (k:∀b∈ys,b.oneCell'=jk)
 (D:n+m<=2900000) (l:a<=w.heap.size) (d:∀c w',cG a 88 3 w w' v c (n+m) (xs++ys)->K (B.put P.dst c) w'):P.wp jl B w K h:=by
 obtain⟨p,q,r,t,u⟩:=oC SX;exact nY s x 33 e a 88 p _ 3 40 underlying33 q r t u I L v n xs f g b m ys i j k (by unfold jZ;omega) Y l
  λc w' y z C=>d c w' (oB y z C)
theorem kO(h:w.ownsRow M e R a m i)(c:∀k,M<=k->k<w.heap.size->W.heap[k]?=w.heap[k]?):W.ownsRow M e R a m i:=by
 refine⟨h.1,?_⟩
 rcases h.2 with v|⟨g,d,f,xs,v,b,j⟩
 ·exact .inl v
 exact .inr ⟨g,d,f,xs,v,(c g v (jR.1 b).1).trans b,j⟩
theorem S0(h:w.ownsRow M e R a m i)(p:0<m):∃g c d,a=jf (N ⟨g,0,je⟩) m c/\m<=c/\M<=g/\w.heap[g]?=N (jh d e (0,0))/\∀(j:T) b,i[j]?=N b->d[j]?=N b:=by
 rcases h.2 with⟨rfl,q⟩|⟨g,f,xs,rfl,k,l,n,r,s,o⟩
 ·omega
 refine⟨g,f,xs,I,n,k,l,λj b v=>?_⟩;rw[<-o,List.getElem?_take]at v
 split at v
 ·simpa using v
 cases v
theorem zO(c:Cmt)(d e f g:jw jN)(h i j k l m n o:T):(aF c ⟨jf d h l,jf e i m,jf f j n,jf g k o⟩).toArray.all (·.oneCell')=jk:=by
 rw[qc];intro b a;simp only[aF,wx,jE,jS,ql,or_false]at a
 rcases a with rfl|rfl|a|rfl|rfl|rfl|rfl|rfl|a|rfl|rfl
 ·rfl
 ·rfl
 ·exact iV _ b a
 ·rfl
 ·rfl
 ·rfl
 ·rfl
 ·rfl
 ·exact iV _ b a
 ·rfl
 rfl
theorem PO(a:LBy)(i:T)(b:i<10):(dA a).take (i+1)=(dA a).take i++[((aY 4 (aU (aA a i)):T):ja)]:=by
 rw[xa (by rw[lN];exact b)];simp[dA]
theorem ON(w:jg):(Instr.build 65 #[]).run jl w=.ok (jm (cI.map v8).toArray) w:=by
 unfold Instr.build;go_simp
 rfl
theorem MB{v:jb}{b j:T}{X d:js jb}(h:bJ w v t)(f:w.heap[b]?=N (jh X e (0,0)))(g:w'.heap[b]?=N (jh d e (0,0)))(l:∀k,k<w.heap.size->k≠b->w'.heap[k]?=w.heap[k]?)
 (k:∀i,i≠j->d[i]?=X[i]?) (a:∃p n c,X[j]?=N (jf p n c)):bJ w' v t:=by
 obtain⟨p,n,c,a⟩:=a;exact h.ints (uM f g k a l)
theorem Ml(c:Cmt)(a b d f e:jb)(g:c.parent.length=32)(j:T)(h:j≠37):(aF c ⟨a,b,f,e⟩).toArray[j]?=(aF c ⟨a,b,d,e⟩).toArray[j]?:=by
 rw[<-Dy c a b d e f g,rk (Ne.symm h)]
theorem JX(c:Cmt)(a b d e f:jb)(g:c.parent.length=32)(j:T)(h:j≠38):(aF c ⟨a,b,d,f⟩).toArray[j]?=(aF c ⟨a,b,d,e⟩).toArray[j]?:=by
 rw[<-Ev c a b d e f g,rk (Ne.symm h)]
theorem rV(c:Cmt)(a b d e:jb)(f:c.parent.length=32)(g:c.confirm.length=32):(aF c ⟨a,b,d,e⟩).toArray[36]?=N b/\(aF c ⟨a,b,d,e⟩).toArray[37]?=N d/\(aF c ⟨a,b,d,e⟩).toArray[38]?=N e/\(aF c ⟨a,b,d,e⟩).toArray.size=73:=by
 have h:=iy c ⟨a,b,d,e⟩ f g;exact⟨by simpa using h.2.2.2.2.1,by simpa using h.2.2.2.2.2.1,by simpa using h.2.2.2.2.2.2.1,by rw[jM,dl _ _ f g]⟩
structure eF{α:Type}(M R:T)(t e:jt)(k:T)(f:α->jb->A jb)(body:α->LBy)(X:jb->js jb)(w0 wr:jg)(n:T)(a:jb)(l:A α)(b:A jb):Prop where
 row:gB M R t e k X w0 wr n a (dR f l b)
 kids:ez (λg=>M<=g/\g<wr.heap.size/\a.ownBlock≠N g) wr (l.map body) b
theorem eF.later{z:jt}{f:H->jb->A jb}{body:H->LBy}{o:jb->js jb}{F:jg}{l:A H}(h:eF M R e z m f body o w W y a l i)(j:R<M)(b:jo W W F):eF M R e z m f body o w F y a l i:=
 ⟨h.row.later j b,(h.kids.keep (λg d=>b.block g d.2.1)).mono λg d=>⟨d.1,jC d.2.1 b.size,d.2.2⟩⟩
theorem eF.push{i:T}{t:jt}{k:T}{f:α->jb->A jb}{body:α->LBy}{b j:jg}{n m:T}{o a p:jb}{l:A α}{c:A jb}{x:α}(h:eF M R t e k f body X w0 b n o l c)(u:R<M)
 (v:aH (λg=>M<=g/\g<b.heap.size/\o.ownBlock≠N g) b p 1 (body x).length ((body x).map v8)) (q:cG M e k b j o a m (dR f l c++f x p)) (w:(X o).setIfInBounds i a=X a):
 eF M R t e k f body X w0 (j.setCell ⟨R,i,je⟩ a) m a (l++[x]) (c++[p]):=by
 have y:c.length=l.length:=by have:=h.kids.len;rwa [ju]at this
 have z:dR f (l++[x]) (c++[p])=dR f l c++f x p:=by rw[Dr f l [x] c [p] y];simp[dR]
 have B:(j.setCell ⟨R,i,je⟩ a).heap.size=j.heap.size:=pF _ _ _;have r:∀g,(M<=g/\g<b.heap.size/\o.ownBlock≠N g)->(j.setCell ⟨R,i,je⟩ a).heap[g]?=b.heap[g]?:=λg d=>
  (dB _ Y).trans (q.grown.block g d.2.1 (λe=>d.2.2 e.symm))
 have s:∀g,(M<=g/\g<b.heap.size/\o.ownBlock≠N g)->(M<=g/\g<(j.setCell ⟨R,i,je⟩ a).heap.size/\a.ownBlock≠N g):=λg d=>
  ⟨d.1,by rw[B];exact jC d.2.1 q.grown.size,q.ne d.2.1 d.2.2⟩
 refine⟨?_,?_⟩
 ·rw[z];exact h.row.push u q w
 rw[j5];exact ez.snoc (aH.mono (aH.keep v r) s) ((h.kids.keep r).mono s)
theorem eF.start{t:jt}{k:T}{f:α->jb->A jb}{body:α->LBy}(a:w.heap[R]?=N (jh (X (jf je 0 0)) t (0,0)))(b:M<=w.heap.size):eF M R t e k f body X w w 0 (jf je 0 0) [] []:=
 ⟨⟨a,by simpa [dR]using qJ w M e k,dx.refl _ _ _,b⟩,rfl⟩
theorem eF.slice{t:jt}{k:T}{f:α->jb->A jb}{body:α->LBy}{wr:jg}{n:T}{c:jb}{l:A α}{a:A jb}(h:eF M R t e k f body X w0 wr n c l a)(i:n=l.length){D:T->Prop}(d:∀g,M<=g->g<wr.heap.size->D g):
 ∃a,aH D wr c k l.length (dR f l a)/\ez D wr (l.map body) a:=
 ⟨a,aH.of_own (by rw[<-i];exact h.row.own) (λg b=>by have:=h.row.own.lt g b;exact d g this.1 this.2),h.kids.mono λg b=>d g b.1 b.2.1⟩
theorem EL{X:js jb}(c:w.heap[M]?=N (jh X e (0,0)))(d:∀(j:T) a,(r.map v8)[j]?=N a->X[R+j]?=N a)(t:r.length=m):bj w (jf (N ⟨M,R,je⟩) m m) r:=by
 subst t;exact aH.bytes (D:=λ_=>True) ⟨by simp,N ⟨M,R,je⟩,r.length,I,jG _,(λh=>by cases h),λ_=>⟨M,R,I,trivial,λj a f=>ah c (d j a f)⟩⟩
theorem F2{b i:T}{a:js jb}{t:jt}{x y:jb}(d:W.heap[b]?=N (jh a t (0,0))):
 (W.setCells b i [x,y]).heap[b]?=N (jh ((a.setIfInBounds i x).setIfInBounds (i+1) y) t (0,0))/\∀k,k≠b->(W.setCells b i [x,y]).heap[k]?=W.heap[k]?:=by
 have e:W.setCells b i [x,y]=(W.setCell ⟨b,i,je⟩ x).setCell ⟨b,i+1,je⟩ y:=I;rw[e];exact⟨fl y (fl x d),λk c=>(dB _ c).trans (dB _ c)⟩
noncomputable def ie(g:Grp)(a x:ja)(b:A ar):ja:=
 if 1099511627776<=g.epoch then 1 else if dt g a b≠0 then dt g a b else if x<1\/2305843009213688669<=x then 50 else if((aY 4 x.toNat:T):ja)≠dP g a b then 221 else 0
def Pk(g:Grp)(a x:ja)(d:A ar)(b init seed:LBy)(c:ja)(w:jg)(e:Ending)(w':jg):Prop:=
 (c=0->∃q,e=jv (j0 #[jm (aF (mkC g a x.toNat d b init seed) q).toArray,jm ((dL g b init).map v8).toArray,jc jd 0])/\aT (λk=>w.heap.size<=k/\k<w'.heap.size) w' (mkC g a x.toNat d b init seed) q)/\
 (c≠0->e=jv (j0 #[jm (aF mR nK).toArray,jm (cI.map v8).toArray,jc jd c]))/\jo w w w'
theorem Hi{g o:T}{a:js jb}{t:jt}(b:w.heap[g]?=N (jh a t (0,0)))(c:∀(j:T) v,xs[j]?=N v->a[o+j]?=N v):w.rangeAt g o xs:=λj v d=>ah b (c j v d)
theorem RH(k:LBy)(c:k.length=32)(n i j:T)(d:i<n)(v:jb)(h:((aA k i).map v8)[j]?=N v):(io (gI k n))[i*32+j]?=N v:=by
 have f:j<32:=by
  have:=(jV.1 h).1;rw[ju,fK k c]at this;exact this
 unfold io gI;rw[ow,<-xH];have m:∀x∈n0 n,((λk=>rv v8 k)∘aA k) x=(aA k x).map v8:=λ_ _=>rfl
 have e:∀(l:A T) (i:T) (x:T),l[i]?=N x->((l.map ((λk=>rv v8 k)∘aA k)).flatten)[i*32+j]?=((aA k x).map v8)[j]?:=by
  intro l
  induction l with
  |nil=>intro i x a;simp at a
  |cons y l g=>
   intro i x a;rw[jX,xI];have b:(((λk=>rv v8 k)∘aA k) y).length=32:=by simp[fK k c]
   rcases i with _|i
   ·have:y=x:=ak a
    subst this;rw[sq,qW,qX (by rw[b];exact f)]
    rfl
   rw[qK (by rw[b];omega),b,show(i+1)*32+j-32=i*32+j by omega];exact g i x (ak a)
 rw[xH];exact(e (n0 n) i i (by simp[d])).trans h
theorem sg(f:H->A jb)(k:T):∀(l:A H),(∀x∈l,(f x).length=k)->∀(j i:T) (x:H),l[j]?=N x->i<k->(l.flatMap f)[j*k+i]?=(f x)[i]?
 |[],_,j,i,x,h,_=>by simp at h
 |y::l,a,0,i,x,h,b=>by
  have e:y=x:=ak h;subst e;rw[qF,sq,qW,qX (by rw[a y (j1 ..)];exact b)]
 |y::l,a,j+1,i,x,h,b=>by
  have c:=a y (j1 ..);rw[qF,qK (by rw[c,Nat.add_mul];omega),c];have d:=sg f k l (λx e=>a x (mb _ e)) j i x (ak h) b;rw[show(j+1)*k+i-k=j*k+i by rw[Nat.add_mul];omega];exact d
theorem aH.rowM{f:H->A jb}{v:A H}(h:aH D w a R M (v.flatMap f))(z:M=v.length)(d:∀x∈v,(f x).length=R){i:T}{x:H}(b:v[i]?=N x):
 ∃g o c,a=jf (N ⟨g,o,je⟩) M c/\D g/\M<=c/\i<M/\w.rangeAt g (o+i*R) (f x):=by
 obtain⟨B,p,c,q,r,C,s⟩:=h;have E:=(jV.1 b).1;obtain⟨g,o,e,t,u⟩:=s Y;subst e;refine⟨g,o,c,q,t,r,by omega,λj y l=>?_⟩;have m:=(jV.1 l).1;rw[d x (j3 b)]at m;rw[qi];exact u _ y ((sg f R v d i j x b m).trans l)
abbrev CP:=Cmt×CQ
def pL(p:CP):A jb:=aF p.1 p.2
structure cF(w:jg)(v:jb)(a:A CP):Prop where
 row:aH (·<w.heap.size) w v 73 a.length (a.flatMap pL)
 all:∀p∈a,aT (·<w.heap.size) w p.1 p.2
theorem cF.below{v:jb}{c:A CP}(h:cF w v c)(a:jo w w w'):cF w' v c:=
 ⟨(h.row.keep λg b=>a.block g b).mono λg b=>jC b a.size,λp d=>(h.all p d).below a⟩
theorem cF.form{v:A CP}(h:cF w a v):∃p c,a=jf p v.length c:=h.row.form
theorem cF.len{v:A CP}(h:cF w a v):∀p∈v,(pL p).length=73:=λp b=>dl _ _ (h.all p b).plen (h.all p b).clen
theorem cF.elem{v:A CP}(h:cF w a v){i:T}{p:CP}(b:v[i]?=N p):
 ∃g o c,a=jf (N ⟨g,o,je⟩) v.length c/\g<w.heap.size/\v.length<=c/\i<v.length/\w.rangeAt g (o+i*73) (aF p.1 p.2):=h.row.rowM I h.len b
structure CK where
 ix:T
 p:CP
 id:LBy
 since:ja
 g:Grp
 vm:jb
 vt:jb
def aL(k:CK):A jb:=jc jd k.ix::(aF k.p.1 k.p.2++(k.id.map v8++(jc jd k.since::aD k.g k.vm k.vt)))
structure KIn(w:jg)(k:CK):Prop where
 com:aT (·<w.heap.size) w k.p.1 k.p.2
 leads:bH w k.g k.vm k.vt
 idl:k.id.length=32
theorem KIn.below{k:CK}(h:KIn w k)(a:jo w w w'):KIn w' k:=⟨h.com.below a,h.leads.below a,h.idl⟩
theorem KIn.len{k:CK}(h:KIn w k):(aL k).length=143:=by
 unfold aL;rw[jQ,jH,jH,jQ,ju,dl _ _ h.com.plen h.com.clen,h.idl,eX h.leads.llen]
theorem Cc{k:CK}(h:KIn w k){i:T}(a:i<73):(aL k)[1+i]?=(aF k.p.1 k.p.2)[i]?:=by
 unfold aL;rw[show 1+i=i+1 by omega,qB,qX (by rw[dl _ _ h.com.plen h.com.clen];exact a)]
theorem BI{k:CK}(h:KIn w k){i:T}(a:i<32):(aL k)[74+i]?=(k.id.map v8)[i]?:=by
 unfold aL;rw[show 74+i=73+i+1 by omega,qB,qK (by rw[dl _ _ h.com.plen h.com.clen];omega),dl _ _ h.com.plen h.com.clen,
  show 73+i-73=i by omega,qX (by rw[ju,h.idl];exact a)]
theorem nI{k:CK}(h:KIn w k)(i:T):(aL k)[106+i]?=(jj .i64 k.since::aD k.g k.vm k.vt)[i]?:=by
 unfold aL;rw[show 106+i=105+i+1 by omega,qB,qK (by rw[dl _ _ h.com.plen h.com.clen];omega),dl _ _ h.com.plen h.com.clen,
  qK (by rw[ju,h.idl];omega),ju,h.idl,show 105+i-73-32=i by omega]
theorem mO{k:CK}(h:KIn w k):(aL k)[0]?=N (jc jd k.ix)/\(aL k)[35]?=N (jc jd k.p.1.author)/\(aL k)[36]?=N k.p.2.vc/\(aL k)[106]?=N (jc jd k.since)/\(aL k)[141]?=N k.vm/\(aL k)[142]?=N k.vt:=by
 obtain⟨-,-,f,g,-⟩:=iy k.p.1 k.p.2 h.com.plen h.com.clen;obtain⟨-,-,i,j⟩:=lQ (vm:=k.vm) (vt:=k.vt) h.leads.llen;have a:=Cc h (show 34<73 by decide);have b:=Cc h (show 35<73 by decide);have c:=nI h 0;have d:=nI h 35;have e:=nI h 36;exact⟨I,a.trans f,b.trans g,c,d.trans i,e.trans j⟩
structure ov(w:jg)(v:jb)(a:A CK):Prop where
 row:aH (·<w.heap.size) w v 143 a.length (a.flatMap aL)
 all:∀k∈a,KIn w k
theorem ov.below{v:jb}{c:A CK}(h:ov w v c)(a:jo w w w'):ov w' v c:=
 ⟨(h.row.keep λg b=>a.block g b).mono λg b=>jC b a.size,λk d=>(h.all k d).below a⟩
theorem ov.form{v:A CK}(h:ov w a v):∃p c,a=jf p v.length c:=h.row.form
theorem ov.elem{v:A CK}(h:ov w a v){i:T}{k:CK}(b:v[i]?=N k):
 ∃g o c,a=jf (N ⟨g,o,je⟩) v.length c/\g<w.heap.size/\v.length<=c/\i<v.length/\w.rangeAt g (o+i*143) (aL k):=h.row.rowM I (λx d=>(h.all x d).len) b
abbrev S8:={p:CP//p.1.parent.length=32/\p.1.confirm.length=32}
instance:Inhabited S8:=⟨⟨(mR,nK),by decide,by decide⟩⟩
def aQ(l:A Cmt)(i:T):Cmt:=l.getD i mR
def bV(l:A Cmt)(n:T):A T:=(n0 n).filter λi=>decide (∀j,j<i->aG (aQ l j)≠aG (aQ l i))
theorem mP(l:A Cmt)(n:T):bV l (n+1)=bV l n++if∀j,j<n->aG (aQ l j)≠aG (aQ l n)then [n]else []:=by
 unfold bV;rw[List.range_succ,xx,List.filter_cons,List.filter_nil]
 congr 1
 by_cases h:∀j,j<n->aG (aQ l j)≠aG (aQ l n)
 ·rw[jp h,jp (xl h)]
 rw[jq h,jq (by rw[decide_eq_false h];decide)]
theorem oW:R∈bV j M↔R<M/\∀l,l<R->aG (aQ j l)≠aG (aQ j R):=by
 unfold bV;rw[qj,r5,decide_eq_true_eq]
structure aR where
 ix:T
 com:Cmt
 id:LBy
 since:ja
 leads:Grp
def dW(g:Grp)(d:ja):ja:=((cZ g.mem d).map aJ.since).getD 0
noncomputable def eh(g:Grp)(l:A Cmt)(i:T):jw aR:=by
 classical exact if(aQ l i).parent=g.last/\cC g (aQ l i)=0 then N ⟨i,aQ l i,aG (aQ l i),dW g (aQ l i).author,aB g (aQ l i)⟩else je
noncomputable def eH(g:Grp)(l:A Cmt):A aR:=(bV l l.length).filterMap (eh g l)
def dE:LBy->LBy->ja
 |[],[]=>0
 |[],_ ::_=> -1
 |_ ::_,[]=>1
 |a::l,b::m=>if a=b then dE l m else if a<b then -1 else 1
def iE(a b:aR):ja:=if cE a.since b.since≠0 then cE a.since b.since else if cE a.com.author b.com.author≠0 then cE a.com.author b.com.author else dE a.id b.id
def leC(a b:aR):jU:= !decide (iE b a<0)
noncomputable def eS(g:Grp)(l:A Cmt):A aR:=(eH g l).mergeSort leC
def gS(c:Cmt)(d:ja):jU:=c.chg.any λx=>x.k==2&&x.d==d
def nG(c:Cmt):T:=c.chg.countP λx=>x.k==2
def rR(left:A aR)(c:aR):jU:=left.any λx=>x.com.author !=c.com.author&&gS x.com c.com.author
def wu(w:jw aR)(c:aR):jU:=match w with|none=>jk|some w=>decide (nG w.com<nG c.com)
def fT(s:A aR×jw aR)(c:aR):A aR×jw aR:=
 if rR s.1 c=jk then s else(s.1++[c],if wu s.2 c=jk then N c else s.2)
noncomputable def et(g:Grp)(l:A Cmt):jw aR:=((eS g l).foldl fT ([],je)).2
def aM(a:ja):Grp:=⟨a,0,qy 32 0#8,[],[]⟩
noncomputable def fC(a:ja)(b:LBy)(l:A Cmt):jw aR:=
 ((bV l l.length).find? λi=>decide (aG (aQ l i)=b)).bind λi=>
  if cC (aM a) (aQ l i)=0 then N ⟨i,aQ l i,b,0,aB (aM a) (aQ l i)⟩else je
noncomputable def kV(l:A Cmt):T->jw aR->A aR
 |0,_=>[]
 |_ +1,je=>[]
 |n+1,N c=>c::kV l n (et c.leads l)
def kj(l:A Cmt)(g:Grp):T:=l.countP λc=>decide (g.epoch<c.epoch)
noncomputable def ft(a:ja)(b:LBy)(l:A Cmt):A aR:=kV l (l.length+1) (fC a b l)
theorem OE(h:M<j.length):aQ j M∈j:=by
 unfold aQ;rw[List.getD_eq_getElem?_getD,j9 h];exact rn h
structure nX(g:Grp)(l:A Cmt)(c:aR):Prop where
 lt:c.ix<l.length
 com:c.com=aQ l c.ix
 id:c.id=aG c.com
 next:cC g c.com=0
 leads:c.leads=aB g c.com
theorem tT{c:aR}(h:eh b j M=N c):c.ix=M/\c.com=aQ j M/\c.id=aG c.com/\c.com.parent=b.last/\cC b c.com=0/\c.since=dW b c.com.author/\c.leads=aB b c.com:=by
 unfold eh at h
 split at h
 ·rename_i a
  injection h with h
  subst h;exact⟨by dsimp only,by dsimp only,by dsimp only,a.1,a.2,by dsimp only,by dsimp only⟩
 cases h
theorem vz{c:aR}(h:c∈eH b j):nX b j c/\c.com.parent=b.last/\c.since=dW b c.com.author/\∀l,l<c.ix->aG (aQ j l)≠c.id:=by
 unfold eH at h;obtain⟨i,e,f⟩:=List.mem_filterMap.1 h;obtain⟨a,g,d,k,m,n,o⟩:=tT f;obtain⟨p,q⟩:=oW.1 e;refine⟨⟨by rw[a];exact p,by rw[a];exact g,d,m,o⟩,k,n,λl r=>?_⟩;rw[d,g];exact q l (by rw[<-a];exact r)
theorem sJ{c:aR}:c∈eS b j↔c∈eH b j:=(nv _ _).mem_iff
theorem IN:∀(b:A aR) (s:A aR×jw aR) (w:aR),(b.foldl fT s).2=N w->w∈b\/s.2=N w
 |[],s,w,h=>.inr h
 |c::b,s,w,h=>by
  rcases IN b (fT s c) w h with a|a
  ·exact .inl (mb _ a)
  unfold fT at a
  split at a
  ·exact .inr a
  dsimp only at a
  split at a
  ·injection a with a
   rw[<-a];exact .inl (j1 ..)
  exact .inr a
theorem AT{w:aR}(h:et b j=N w):w∈eH b j:=by
 rcases IN _ _ _ h with a|a
 ·exact sJ.1 a
 cases a
theorem ud{c:aR}(h:nX b j c):gz b c.com:=fW.1 h.next
theorem iG(g:Grp)(c:Cmt):(aB g c).epoch=c.epoch:=by unfold aB;dsimp only
theorem AK(g:Grp)(c:Cmt):(aB g c).last=aG c:=by unfold aB;dsimp only
theorem Hp{p q:H->jU}:∀{l:A H},(∀x,p x=jk->q x=jk)->∀x∈l,q x=jk->p x=jr->l.countP p<l.countP q
 |y::l,h,x,a,b,c=>by
  rw[xJ,xJ]
  rcases jE.1 a with rfl|a
  ·have:=List.countP_mono_left (l:=l) (p:=p) (q:=q) (λx _=>h x)
   rw[b,c,jp I,jq L];omega
  have d:=Hp h x a b c
  by_cases e:p y=jk
  ·rw[jp e,jp (h y e)];omega
  rw[jq e];omega
theorem yR{c:aR}(h:nX b j c):kj j c.leads<kj j b:=by
 have a:=ud h;have he:c.leads.epoch=b.epoch+1:=by rw[h.leads,iG];exact a.ep
 have g:c.com∈j:=by rw[h.com];exact OE h.lt
 unfold kj;refine Hp (λx d=>?_) c.com g ?_ ?_
 ·rw[decide_eq_true_eq]at d⊢
  omega
 ·rw[decide_eq_true_eq,a.ep];omega
 rw[decide_eq_false_iff_not,he,a.ep];omega
theorem N6(l:A Cmt)(g:Grp):kj l g<=l.length:=xK
theorem uN(l:A Cmt)(n:T):kV l n je=[]:=by cases n<;>rw[kV]
theorem zW(l:A Cmt):∀(n m:T) (c:aR),kj l c.leads<n->kj l c.leads<m->kV l n (N c)=kV l m (N c)
 |0,_,_,h,_=>jB h (qT _)
 |_,0,_,_,h=>jB h (qT _)
 |n+1,m+1,c,a,b=>by
  rw[kV,kV]
  cases hw:et c.leads l with
  |none=>rw[uN,uN]
  |some w=>
   have d:=yR (vz (AT hw)).1;rw[zW l n m w Y Y]
noncomputable def om(l:A Cmt)(c:aR):A aR:=kV l (kj l c.leads+1) (N c)
theorem vW(l:A Cmt)(c:aR):om l c=c::match et c.leads l with|none=>[]|some w=>om l w:=by
 unfold om;rw[kV]
 cases hw:et c.leads l with
 |none=>rw[uN]
 |some w=>
  have a:=yR (vz (AT hw)).1;dsimp only;rw[zW l (kj l c.leads) (kj l w.leads+1) w a Y]
theorem zk(a:ja)(b:LBy)(l:A Cmt):ft a b l=match fC a b l with|none=>[]|some c=>om l c:=by
 unfold ft om
 cases hf:fC a b l with
 |none=>rw[uN]
 |some c=>
  dsimp only;have:=N6 l c.leads;exact zW l _ _ c Y Y
theorem F5{c:aR}(h:fC d r j=N c):nX (aM d) j c/\c.id=r/\∀l,l<c.ix->aG (aQ j l)≠r:=by
 unfold fC at h
 cases hf:(bV j j.length).find? λi=>decide (aG (aQ j i)=r)with
 |none=>rw[hf]at h;cases h
 |some i=>
  rw[hf,Option.bind_some]at h
  split at h
  ·rename_i e
   injection h with h
   have b:aG (aQ j i)=r:=by
    have h:=xo hf
    simpa using h
   obtain⟨f,g⟩:=oW.1 (xn hf);subst h;refine⟨⟨f,by dsimp only,?_,e,by dsimp only⟩,by dsimp only,λl k=>?_⟩
   ·dsimp only;exact b.symm
   rw[<-b];exact g l k
  cases h
def kW(D:T->Prop)(v:jb):Prop:=∀p k c,v=jf p k c->0<k->∀a,p=N a->D a.block
theorem kW.mono{v:jb}(h:kW D v)(b:∀g,D g->E g):kW E v:=λp k c e d a f=>b _ (h p k c e d a f)
theorem cH.keepD{v:jb}(h:cH w v M R i)(d:kW D v)(e:∀g,D g->W.heap[g]?=w.heap[g]?):cH W v M R i:=by
 obtain⟨f,p,c,rfl,xs,k,l⟩:=h;refine⟨f,p,c,I,xs,k,λb=>?_⟩;obtain⟨g,o,rfl,m⟩:=l b;exact⟨g,o,I,λj q r=>(dV (a:=⟨g,o+j,je⟩) (e g (d _ _ _ I b _ I))).trans (m j q r)⟩
theorem bJ.keepD{v:jb}(h:bJ w v t)(i:kW D v)(k:∀g,D g->W.heap[g]?=w.heap[g]?):bJ W v t:=by
 obtain⟨p,c,rfl,l,m,n,q⟩:=h;refine⟨p,c,I,l,m,λb=>?_,q⟩;obtain⟨g,o,rfl,d⟩:=n b;have e:=k g (i _ _ _ I b _ I);exact⟨g,o,I,λj f=>⟨(dV (a:=⟨g,o+j*2,je⟩) e).trans (d j f).1,(dV (a:=⟨g,o+j*2+1,je⟩) e).trans (d j f).2⟩⟩
theorem cH.lt(h:cH w a M R i)(f:0<M):kW (·<w.heap.size) a:=by
 obtain⟨xs,p,c,rfl,-,-,j⟩:=h;rintro r k s e d v rfl;injection e with b l t
 subst l;obtain⟨g,o,rfl,m⟩:=j d;injection b with b
 subst b;have q:0<i.length:=by rw[xs];exact Nat.mul_pos d f
 exact gg (m 0 _ (j9 q))
theorem bJ.lt(h:bJ w a t):kW (·<w.heap.size) a:=by
 obtain⟨p,c,rfl,-,-,f,-⟩:=h;rintro l k m e d v rfl;injection e with b i n
 subst i;obtain⟨g,o,rfl,j⟩:=f d;injection b with b
 subst b;exact gg (j 0 d).1
structure dN(D:T->Prop)(w:jg)(g:Grp)(vm vt:jb):Prop where
 grp:bH w g vm vt
 bm:kW D vm
 bt:kW D vt
theorem dN.keep{g:Grp}(h:dN D w g vm vt)(a:∀k,D k->w'.heap[k]?=w.heap[k]?):dN D w' g vm vt:=
 ⟨⟨cH.keepD h.grp.mem h.bm a,h.grp.tree.keepD h.bt a,h.grp.llen⟩,h.bm,h.bt⟩
theorem dN.mono{g:Grp}(h:dN D w g vm vt)(a:∀k,D k->E k):dN E w g vm vt:=⟨h.grp,h.bm.mono a,h.bt.mono a⟩
theorem dN.of{n:T}{g:Grp}(h:bH w g vm vt)(f:Fr n vm)(i:Fr n vt):dN (λk=>n<=k/\k<w.heap.size) w g vm vt:=
 ⟨h,λp k c e d a b=>⟨f p k c e a b,cH.lt h.mem L p k c e d a b⟩,λp k c e d a b=>⟨i p k c e a b,h.tree.lt p k c e d a b⟩⟩
theorem dN.below{n:T}{g:Grp}(h:dN (λk=>n<=k/\k<w.heap.size) w g vm vt)(b:jo w w w'):dN (λk=>n<=k/\k<w'.heap.size) w' g vm vt:=
 (h.keep λk a=>b.block k a.2).mono λk a=>⟨a.1,jC a.2 b.size⟩
def CK.cand(k:CK):aR:=⟨k.ix,k.p.1,k.id,k.since,k.g⟩
structure KD(D:T->Prop)(a:A CP)(w:jg)(k:CK):Prop where
 at_:a[k.ix]?=N k.p
 grp:dN D w k.g k.vm k.vt
 idl:k.id.length=32
theorem KD.keep{a:A CP}{k:CK}(h:KD D a w k)(b:∀k,D k->w'.heap[k]?=w.heap[k]?):KD D a w' k:=⟨h.at_,h.grp.keep b,h.idl⟩
theorem KD.mono{a:A CP}{k:CK}(h:KD D a w k)(b:∀k,D k->E k):KD E a w k:=⟨h.at_,h.grp.mono b,h.idl⟩
theorem KD.below{n:T}{a:A CP}{k:CK}(h:KD (λk=>n<=k/\k<w.heap.size) a w k)(b:jo w w w'):KD (λk=>n<=k/\k<w'.heap.size) a w' k:=⟨h.at_,h.grp.below b,h.idl⟩
theorem KD.kin{v:A CP}{k:CK}(h:KD D v w k)(b:cF w a v):KIn w k:=⟨b.all _ (j3 h.at_),h.grp.grp,h.idl⟩
theorem KD.len{v:A CP}{k:CK}(h:KD D v w k)(c:cF W a v):(aL k).length=143:=by
 have b:=c.all _ (j3 h.at_);unfold aL;rw[jQ,jH,jH,jQ,ju,dl _ _ b.plen b.clen,h.idl,eX h.grp.grp.llen]
section
variable{b f:T}{e:jt}
section
variable {P:qe} {ops:js jO} {Q:Exit->Act->jg->Prop}
theorem MZ(t e:jt)(k:T)(x z:jb)(c:P.underlying t=N (.slice e))(d:∀w,(sizeOf e).run P w=.ok k w)(f:∀w,(zeroValue e).run P w=.ok z w)(j:z.cells.size=k)(b:x.cells.size=k)(l:0<k)(m:k<=1000)(w:jg):
 (Instr.buildSlice t 1 #[(0,x)]).run P w=.ok (jf (N ⟨w,0,je⟩) 1 1) (w.alloc (jh x.cells e)):=by
 have g:qP (λa y=>a.setIfInBounds (0+y.2) y.1) ((Array.range k).map (z.cells[·%z.cells.size]!)) x.cells.zipIdx 0 k=x.cells:=by
  rw[vY x.cells _ 0 k b ao,vi,xt,wv ao,qC,xL]
 unfold Instr.buildSlice;simp[qL c,d,f,Result.andThen,show ¬(2^24<k) by omega,show k≠0 by omega,Instr.fill,b];have i:qP (fun(a:js jb) (x:jb×T)=>a.setIfInBounds x.snd x.fst) ((Array.range k).map (z.cells[·%z.cells.size]!)) x.cells.zipIdx 0 k=x.cells:=by
  have h:=g;simp only[qW]at h;exact h
 have a:(newRow e x.cells).run P w=.ok ⟨w,0,je⟩ (w.alloc (jh x.cells e)):=by simp[newRow,go_sem]
 rw[i,a]
theorem fa{S:jg->Prop}{a:Act}{w:jg}(h:Q .normal a w):da P ops (NoPanic Q) S f .done a w:=qu h
structure eC(P:qe) where
 t:jt
 e:jt
 k:T
 b:T
 i:TypeInfo
 z:jb
 ht:P.underlying t=N (.slice e)
 hi:P.info? e=N i
 hz:i.zero=N z
 hs:i.size=k
 hb:i.bytes=b
 hzs:z.cells.size=k
 h0:0<k
 hk:k<=1000
 hbb:b<=8000
theorem rG{z:jb}(h:(P.info? e).map (λi=>(i.zero,i.size,i.bytes))=N (N z,f,b)):(P.info? e).isSome=jk:=by
 cases hq:P.info? e with
 |none=>rw[hq]at h;cases h
 |some i=>rfl
theorem Bp{z:jb}(h:(P.info? e).map (λi=>(i.zero,i.size,i.bytes))=N (N z,f,b)):((P.info? e).get (rG h)).zero=N z/\((P.info? e).get (rG h)).size=f/\((P.info? e).get (rG h)).bytes=b:=by
 have a:P.info? e=N ((P.info? e).get (rG h)):=(xM _).symm;generalize(P.info? e).get (rG h)=i at a⊢;rw[a]at h
 simpa using h
def eC.of(t e:jt)(k b:T)(z:jb)(a:P.underlying t=N (.slice e))(h:(P.info? e).map (λi=>(i.zero,i.size,i.bytes))=N (N z,k,b))(c:z.cells.size=k)(d:0<k)(f:k<=1000)(g:b<=8000):eC P:=
 ⟨t,e,k,b,(P.info? e).get (rG h),z,a,(xM _).symm,(Bp h).1,(Bp h).2.1,(Bp h).2.2,c,d,f,g⟩
theorem eC.size(R:eC P)(w:jg):(sizeOf R.e).run P w=.ok R.k w:=by simp[sizeOf,typeInfo,R.hi,R.hs]
theorem eC.zero(R:eC P)(w:jg):(zeroValue R.e).run P w=.ok R.z w:=by simp[zeroValue,typeInfo,R.hi,R.hz]
theorem eC.wp_build(R:eC P){o:jO}{a:Act}{w:jg}{K:Act->jg->Prop}(x:jY)(b:o.op=.buildSlice R.t 1 #[(0,x)])(v:jb)(c:a.eval x=v)(d:v.cells.size=R.k)
 (h:K (a.put o.dst (jf (N ⟨w,0,je⟩) 1 1)) (w.alloc (jh v.cells R.e))):o.wp P a w K Q:=by
 refine IU (v:=jf (N ⟨w,0,je⟩) 1 1) (w':=w.alloc (jh v.cells R.e)) ?_ h;unfold o8;simp only[b,xN,jX,qw,c,Sem.run_bind,MZ R.t R.e R.k v R.z R.ht R.size R.zero R.hzs d R.h0 R.hk w,Result.andThen_ok,Sem.run_pure]
theorem MM{w:jg}{a:js jb}(h:w.heap[f]?=N (jh a e (0,0)))(k:a.size=b):cH w (jf (N ⟨f,0,je⟩) 1 1) b 1 a.toList:=by
 refine⟨by rw[qf,k,Nat.one_mul],_,1,I,jG _,(λe=>by cases e),λ_=>⟨f,0,I,λj d c=>?_⟩⟩;rw[qW];exact ah h (ak c)
theorem eC.wp_append(R:eC P){o:jO}{a:Act}{w:jg}{K:Act->jg->Prop}(s x:jY)(d:o.op=.call {callee:=.builtin .append,args:=#[s,x],argTypes:=#[R.t,R.t]})
 (base:T) (v:jb) (n:T) (xs:A jb) (e:a.eval s=v) (f:w.ownsRow base R.e R.k v n xs) (g:T) (b:js jb) (i:a.eval x=jf (N ⟨g,0,je⟩) 1 1) (j:w.heap[g]?=N (jh b R.e (0,0))) (k:b.size=R.k) (l:∀c∈b.toList,c.oneCell'=jk)
 (p:n<=1000000) (m:base<=w.heap.size)
 (h:∀c w',w'.ownsRow base R.e R.k c (n+1) (xs++b.toList)->w.grownBy w' v.ownBlock->(c.ownBlock=v.ownBlock\/c.ownBlock=N w.heap.size)->K (a.put o.dst c) w'):o.wp P a w K Q:=
 nY s x R.t d base R.e R.i R.z R.k R.b R.ht R.hi R.hz R.hs R.hb R.hzs R.h0 v n xs e f _ 1 b.toList i (MM j k) l (by unfold jZ;omega) (by
  have:=R.hbb;have c:(n+1)*R.b<=1000001*8000:=Nat.mul_le_mul Y this
  omega) m h
structure zS(c d:eC P)(base:T)(w w':jg)(u1 u2 a b:jb)(e f:T)(g h:A jb):Prop where
 own1:w'.ownsRow base c.e c.k a e g
 own2:w'.ownsRow base d.e d.k b f h
 sep:∀k,a.ownBlock=N k->b.ownBlock≠N k
 lie1:a.ownBlock=u1.ownBlock\/∀k,a.ownBlock=N k->w.heap.size<=k
 lie2:b.ownBlock=u2.ownBlock\/∀k,b.ownBlock=N k->w.heap.size<=k
 heap:∀k,k<w.heap.size->u1.ownBlock≠N k->u2.ownBlock≠N k->w'.heap[k]?=w.heap[k]?
 bel:jo 0 w w'
theorem iF{w w':jg}{n:T}{z:jb}{xs:A jb}(h:w.ownsRow f e b z n xs)(c:∀g,z.ownBlock=N g->w'.heap[g]?=w.heap[g]?):w'.ownsRow f e b z n xs:=by
 refine⟨h.1,?_⟩
 rcases h.2 with a|⟨g,d,B,sz,a,i,j⟩
 ·exact .inl a
 exact .inr ⟨g,d,B,sz,a,(c g (by rw[sz];rfl)).trans i,j⟩
theorem GZ{w w':jg}(h:jo f w w'):jo 0 w w':=h.mono (mz _)
theorem G6{w w':jg}{a:jw T}(h:w.grownBy w' a):jo 0 w w':=⟨h.os,h.tape,h.output,h.size,λk b=>jB b (qT k)⟩
theorem RJ{S:jg->Prop}{f m i:T}{o:jO}{l:bE->bE}{E:Act->Act}{r:bE}{a:Act}{w:jg}(s:ops[b]?=N o)(t:Region.noSelect ops=jk)(u:∀c a e w,Q (.panic c) a w->Q (.panic c) e w)
 (K:oe ops b m=jk) (M:oe ops b i=jk) (c:T->Act->jg->jw jb->Prop) (x:c 0 a w je) (n:∀j a w d,c j a w d->S w)
 (y:∀a w d,c 0 a w d->wpOp P ops Q m (λe w'=>c 1 e w' d) a w) (z:∀a w d,c 1 a w d->wpOp P ops Q i (λe w'=>c 2 e w' d) a w)
 (U:∀j a w,c j a w je->wpOp P ops Q b (λe w'=>∃v,e=a.put o.dst v/\c j a w' (N v)) a w)
 (p:∀a w d,c 2 a w d->c 3 (E a) w d/\(∀R,da P ops Q S f R (E a) w->da P ops Q S f (l R) a w)/\∀v R,da P ops Q S f R ((E a).put o.dst v) w->da P ops Q S f (l R) (a.put o.dst v) w)
 (B:∀a w v,c 3 a w (N v)->da P ops Q S f r (a.put o.dst v) w):
 da P ops Q S f (.w m b (.w i b (l (.o b r)) (.o i (l r))) (.o m (.o i (l r)))) a w:=by
 obtain⟨V,C,W⟩:=Ad s K;obtain⟨X,D,q2⟩:=Ad s M;have F:∀a w v,c 1 a w (N v)->da P ops Q S f (.o i (l r)) (a.put o.dst v) w:=λa w v h=>by
  refine qZ (λH w' g=>?_) (zz (v:=v) D q2 (λk b=>Region.noSelect_spec t i X k b D) u (z a w (N v) h));obtain⟨e,rfl,d⟩:=g;exact .inr ⟨n _ _ _ _ d,λ_=>(p e w' _ d).2.2 v r (B _ _ _ (p e w' _ d).1)⟩
 have e1:∀a w v,c 0 a w (N v)->da P ops Q S f (.o m (.o i (l r))) (a.put o.dst v) w:=λa w v h=>by
  refine qZ (λH w' g=>?_) (zz (v:=v) C W (λk b=>Region.noSelect_spec t m V k b C) u (y a w (N v) h));obtain⟨e,rfl,d⟩:=g;exact .inr ⟨n _ _ _ _ d,λ_=>F _ _ _ d⟩
 have q:∀(j:T) (R:bE) a w,c j a w je->(∀w' v,c j a w' (N v)->da P ops Q S f R (a.put o.dst v) w')->da P ops Q S f (.o b R) a w:=λj R a w h hr=>by
  refine qZ (λH w' g=>?_) (U j a w h);obtain⟨v,rfl,d⟩:=g;exact .inr ⟨n _ _ _ _ d,λ_=>hr w' v d⟩
 refine⟨qZ (λe w' g=>.inr ⟨n _ _ _ _ g,λ_=>?_⟩) (y a w je x),q 0 _ a w x λw' v d=>e1 _ _ _ d⟩;refine⟨qZ (λa2 w2 H=>.inr ⟨n _ _ _ _ H,λ_=>?_⟩) (z e w' je g),q 1 _ e w' g λw' v d=>F _ _ _ d⟩;obtain⟨k,h3,-⟩:=p a2 w2 je H;exact h3 _ (q 3 _ _ _ k λw' v d=>B _ _ _ d)
def rY(a:bE->bE)(r:bE):bE:=.w 3 8 (.w 4 8 (a (.o 8 (.o 9 r))) (.o 4 (a (.o 9 r)))) (.o 3 (.o 4 (a (.o 9 r))))
theorem Ae(i n:eC P){S:jg->Prop}{f:T}{a:Act}{w:jg}{r:bE}{T0:bE->bE}{E:Act->Act}{o3 o4 U o9:jO}{r1 r2 rb r3 s1 s2 t1 t2:T}(hs:Region.noSelect ops=jk)(a3:∀c a b w,Q (.panic c) a w->Q (.panic c) b w)
 (a4:oe ops 8 3=jk) (a5:oe ops 8 4=jk) (h3:ops[3]?=N o3) (h4:ops[4]?=N o4) (h8:ops[8]?=N U) (h9:ops[9]?=N o9)
 (g3:o3.guard=je) (g4:o4.guard=je) (g8:U.guard=je) (g9:o9.guard=je) (d3:o3.dst=N r1) (d4:o4.dst=N r2) (d8:U.dst=N rb) (d9:o9.dst=N r3)
 (p3:o3.op=.buildSlice i.t 1 #[(0,.tmp s1)]) (p4:o4.op=.call {callee:=.builtin .append,args:=#[.tmp t1,.tmp r1],argTypes:=#[i.t,i.t]})
 (p8:U.op=.buildSlice n.t 1 #[(0,.tmp s2)]) (p9:o9.op=.call {callee:=.builtin .append,args:=#[.tmp t2,.tmp rb],argTypes:=#[n.t,n.t]})
 (l1:r1<a.tmps.size) (lb:rb<a.tmps.size) (q1:r1≠t1) (q2:r1≠s2) (q3:r2≠s2) (q4:r1≠t2) (q5:r2≠t2) (q6:rb≠t2)
 (hE:∀(b:Act) v,E (b.put (N rb) v)=(E b).put (N rb) v) (a6:∀b:Act,(E b).eval (.tmp s2)=b.eval (.tmp s2)) (ba:∀b:Act,(E b).eval (.tmp t2)=b.eval (.tmp t2)) (bb:∀b:Act,(E b).tmps.size=b.tmps.size)
 (hT:∀(b:Act) (w':jg) R,(∀s,s≠r1->s≠r2->s≠rb->b.eval (.tmp s)=a.eval (.tmp s))->da P ops Q S f R (E b) w'->da P ops Q S f (T0 R) b w')
 {x1 x2 u1 u2:jb} (e1:a.eval (.tmp s1)=x1) (q:a.eval (.tmp s2)=x2) (f1:a.eval (.tmp t1)=u1) (f2:a.eval (.tmp t2)=u2) (c1:x1.cells.size=i.k) (c2:x2.cells.size=n.k) (y1:∀c∈x1.cells.toList,c.oneCell'=jk) (y2:∀c∈x2.cells.toList,c.oneCell'=jk)
 {base l o:T} {K aa:A jb} (au:w.ownsRow base i.e i.k u1 l K) (ax:w.ownsRow base n.e n.k u2 o aa) (ay:∀k,u1.ownBlock=N k->u2.ownBlock≠N k) (m1:l<=1000000) (m2:o<=1000000) (WW:base<=w.heap.size)
 (a1:∀w',(∀k,k<w.heap.size->u1.ownBlock≠N k->u2.ownBlock≠N k->w'.heap[k]?=w.heap[k]?)->w.heap.size<=w'.heap.size->S w')
 (hQ:∀z1 z2 d c w',zS i n base w w' u1 u2 d c (l+1) (o+1) (K++x1.cells.toList) (aa++x2.cells.toList)->da P ops Q S f r (((E ((a.put (N r1) z1).put (N r2) d)).put (N rb) z2).put (N r3) c) w'):
 da P ops Q S f (rY T0 r) a w:=by
 have z1:∀k,u1.ownBlock=N k->k<w.heap.size:=λk c=>(au.lt k c).2
 have z2:∀k,u2.ownBlock=N k->k<w.heap.size:=λk c=>(ax.lt k c).2
 have bc:∀k,w.heap.size<=k->u1.ownBlock≠N k:=λk c e=>by have:=z1 k e;omega
 unfold rY;refine RJ h8 hs a3 a4 a5 (E:=E) (λj b w' V=>jo 0 w w'/\(∀k,k<w.heap.size->u1.ownBlock≠N k->w'.heap[k]?=w.heap[k]?)/\
  (∀v,V=N v->∃g,v=jf (N ⟨g,0,je⟩) 1 1/\w.heap.size<=g/\w'.heap[g]?=N (jh x2.cells n.e (0,0)))/\
  match j with
  |0=>b=a/\w'.ownsRow base i.e i.k u1 l K
  |1=>∃g,b=a.put (N r1) (jf (N ⟨g,0,je⟩) 1 1)/\w'.ownsRow base i.e i.k u1 l K/\w.heap.size<=g/\w'.heap[g]?=N (jh x1.cells i.e (0,0))
  |j+2=>∃z d,b=(if j=0 then id else E) ((a.put (N r1) z).put (N r2) d)/\w'.ownsRow base i.e i.k d (l+1) (K++x1.cells.toList)/\(d.ownBlock=u1.ownBlock\/∀k,d.ownBlock=N k->w.heap.size<=k)/\
   ∀g,V=N (jf (N ⟨g,0,je⟩) 1 1)->∀k,d.ownBlock=N k->k≠g)
  ⟨nn _ _,λ_ _ _=>rfl,(λv e=>by cases e),rfl,au⟩ (λ_ _ _ _ H=>a1 _ (λk c l _=>H.2.1 k c l) H.1.size) ?_ ?_ ?_ ?_ ?_
 ·rintro W p V ⟨b,t,B,rfl,m⟩
  refine Ay h3 g3 (i.wp_build _ p3 x1 e1 c1 ?_);rw[d3];have u:=ap p (jh x1.cells i.e);refine⟨b.trans (GZ u),λk c x=>(u.block k (jC c b.size)).trans (t k c x),λv e=>?_,_,I,cP m u,b.size,jD p _⟩;obtain⟨g,rfl,D,y⟩:=B v e;exact⟨g,I,D,av y u⟩
 ·rintro W p V ⟨b,t,B,g,rfl,m,bd,Yj⟩
  refine Ay h4 g4 (i.wp_append _ _ p4 base u1 l K ((iq q1).trans f1) m g x1.cells (Ca l1) Yj c1 y1 m1 (jJ WW b.size) ?_);intro v' w' ad C X;rw[d4];have F:v'.ownBlock=u1.ownBlock\/∀k,v'.ownBlock=N k->w.heap.size<=k:=by
   rcases X with h|h
   ·exact .inl h
   exact .inr λk e=>by rw[h]at e;cases e;exact b.size
  refine⟨b.trans (G6 C),λk c x=>(C.block k (jC c b.size) (λe=>x e.symm)).trans (t k c x),λv e=>?_,_,_,I,ad,F,λgb e k M=>?_⟩
  ·obtain⟨gb,rfl,D,y⟩:=B v e
   exact⟨gb,I,D,(C.block gb (jR.1 y).1 (λe=>bc gb D e.symm)).trans y⟩
  obtain⟨a2,e',D,y⟩:=B _ e;obtain rfl:gb=a2:=ak e';have bf:=(jR.1 y).1
  rcases X with h|h
  ·rw[h]at M
   have:=z1 k M;omega
  rw[h]at M
  cases M
  omega
 ·intro j W p H
  obtain⟨b,t,B,H⟩:=H;have bd:W.eval (.tmp s2)=x2:=by
   match j,H with
   |0,⟨h,_⟩=>rw[h];exact q
   |1,⟨g,h,_⟩=>rw[h];exact(iq q2).trans q
   |j+2,⟨z,d,h,_⟩=>
    rw[h];have h0:((a.put (N r1) z).put (N r2) d).eval (.tmp s2)=x2:=(iq q3).trans ((iq q2).trans q)
    by_cases a2:j=0
    ·rw[jp a2];exact h0
    rw[jq a2];exact(a6 _).trans h0
  refine Ay h8 g8 (n.wp_build _ p8 x2 bd c2 ?_);have u:=ap p (jh x2.cells n.e);refine⟨_,I,b.trans (GZ u),λk c x=>(u.block k (jC c b.size)).trans (t k c x),λv e=>?_,?_⟩
  ·injection e with e
   exact⟨_,e.symm,b.size,jD p _⟩
  match j,H with
  |0,⟨h,m⟩=>exact⟨h,cP m u⟩
  |1,⟨g,h,m,D,y⟩=>exact⟨g,h,cP m u,D,av y u⟩
  |j+2,⟨z,d,h,m,F,_⟩=>
   refine⟨z,d,h,cP m u,F,λg e k M=>?_⟩;have h1:p.heap.size=g:=ak e;have:=(m.lt k M).2;omega
 ·rintro W p V ⟨b,t,B,z,d,rfl,m,F,x⟩
  refine⟨⟨b,t,B,z,d,I,m,F,x⟩,λR h=>?_,λv R h=>?_⟩
  ·exact hT _ p R (λs l o j=>(iq (Ne.symm o)).trans (iq (Ne.symm l))) h
  rw[d8]at h⊢;exact hT _ p R (λs l o j=>(iq (Ne.symm j)).trans ((iq (Ne.symm o)).trans (iq (Ne.symm l)))) (by rw[hE];exact h)
 rintro W p v ⟨b,t,B,z,d,rfl,m,F,x⟩;obtain⟨gb,rfl,D,y⟩:=B v I;replace x:=x gb I;obtain⟨u,s⟩:=J (E ((a.put (N r1) z).put (N r2) d));have H:u.eval (.tmp t2)=u2/\u.tmps.size=a.tmps.size:=by
  rw[s];exact⟨(ba _).trans ((iq q5).trans ((iq q4).trans f2)),(bb _).trans (by rw[yT,yT])⟩
 show da P ops Q S f (.o 9 r) (Act.put (E ((a.put (N r1) z).put (N r2) d)) U.dst _) p;rw[<-s,d8];have R:p.ownsRow base n.e n.k u2 o aa:=iF ax λg j=>t g (z2 g j) (λe=>ay g e j)
 refine cY h9 λK' V=>?_
 rw[jp (by unfold Region.wanted;simp[g9])];refine n.wp_append _ _ p9 base u2 o aa ((iq q6).trans H.1) R gb x2.cells (Ca (by rw[H.2];exact lb)) y c2 y2 m2 (jJ WW b.size) λv' w' ad C X=>V _ _ (a1 _ (λk c l o=>(C.block k (jC c b.size) (λe=>o e.symm)).trans (t k c l)) (jJ b.size C.size)) λ_=>?_
 rw[d9,s];have M:∀k,d.ownBlock=N k->u2.ownBlock≠N k:=λk e q=>by
  rcases F with h|h
  ·rw[h]at e;exact ay k e q
  have:=h k e;have:=z2 k q;omega
 refine hQ z _ d v' w' ⟨iF m λg j=>C.block g (m.lt g j).2 (λe=>M g j e.symm),ad,λk e q=>?_,F,?_,λk c l o=>(C.block k (jC c b.size) (λe=>o e.symm)).trans (t k c l),b.trans (G6 C)⟩
 ·rcases X with h|h
  ·rw[h]at q;exact M k e q
  rw[h]at q
  cases q
  have:=(m.lt _ e).2;omega
 rcases X with h|h
 ·exact .inl h
 exact .inr λk e=>by rw[h]at e;cases e;exact b.size
end
end
section
theorem yj(w:jg)(Z C:js jb)(t:jt):(w.alloc (jh Z t)).setRow w.heap.size C=w.alloc (jh C t):=by
 have h:∀k:T,((w.alloc (jh Z t)).setRow w.heap.size C).heap[k]?=(w.alloc (jh C t)).heap[k]?:=by
  intro k
  by_cases a:k=w.heap.size
  ·subst a;exact(j4 _ _ _ _ _ _ (jD w _)).trans (jD w _).symm
  rw[qv _ _ _ _ a];show(w.heap.push _)[k]?=(w.heap.push _)[k]?;rw[xO,xO,jq a,jq a]
 have a:((w.alloc (jh Z t)).setRow w.heap.size C).heap=(w.alloc (jh C t)).heap:=Array.ext_getElem? h;show({w with heap:=_}:jg)={w with heap:=_};exact jT (λH=>({w with heap:=H}:jg)) a
section
variable {P:qe} {ops:js jO} {Q:Exit->Act->jg->Prop}
structure VarT(P:qe) where
 t:jt
 n:T
 Z:js jb
 d:TypeDesc
 hu:P.underlying t=N d
 hd:d.isRow=jk
 hi:(P.info? t).map (·.size)=N n
 hZ:Z.size=n
 hal:∀w,(Instr.alloc t jk (j0 #[])).run P w=.ok (jI (N ⟨w,0,je⟩)) (w.alloc (jh Z t))
variable (V:VarT P) {o:jO} {rest:A jO} {a:Act} {w:jg}
theorem VarT.made(b:o.guard=je)(c:o.op=.alloc V.t)(h:j8 P ops Q rest (a.put o.dst (jI (N ⟨w,0,je⟩))) (w.alloc (jh V.Z V.t))):j8 P ops Q (o::rest) a w:=
 jP b λ_ d=>gM V.t c V.Z V.hal (d _ _ h)
theorem VarT.store(d:o.guard=je){x y:jY}(e:o.op=.store V.t x y){g:T}(f:a.eval x=jI (N ⟨g,0,je⟩))(C:js jb)(i:a.eval y=jm C)(c:C.size=V.n)(j:C.all (·.oneCell')=jk)
 {b:js jb} (k:w.heap[g]?=N (jh b V.t (0,0))) (l:b.size=V.n) (h:j8 P ops Q rest (a.put o.dst qg) (w.setRow g C)):j8 P ops Q (o::rest) a w:=
 jP d λ_ m=>ms V.t x y e g C f i V.t b k (by rw[c];exact V.hi) (l.trans c.symm) j (m _ _ h)
theorem VarT.first(b:o.guard=je){x y:jY}(c:o.op=.store V.t x y)(d:a.eval x=jI (N ⟨w,0,je⟩))(C:js jb)(e:a.eval y=jm C)(f:C.size=V.n)(g:C.all (·.oneCell')=jk)
 (h:j8 P ops Q rest (a.put o.dst qg) (w.alloc (jh C V.t))):j8 P ops Q (o::rest) a (w.alloc (jh V.Z V.t)):=
 V.store b c d C e f g (jD w _) V.hZ (by rw[yj];exact h)
theorem VarT.load(c:Region.wanted o (yielded ops a.tmps)=jk){x:jY}(d:o.op=.load V.t x){g f:T}(e:a.eval x=jI (N ⟨g,f,je⟩))(b:A jb)(i:b.length=V.n)(j:w.rangeAt g f b)
 (h:j8 P ops Q rest (a.put o.dst (jm b.toArray)) w):j8 P ops Q (o::rest) a w:=
 eD c (gm o a V.t x d g f e b V.d j V.hu V.hd (by rw[i];exact V.hi)) h
theorem VarT.loadA(b:Region.wanted o (yielded ops a.tmps)=jk){x:jY}(c:o.op=.load V.t x){g:T}(d:a.eval x=jI (N ⟨g,0,je⟩))(C:js jb)(e:C.size=V.n){t:jt}(f:w.heap[g]?=N (jh C t (0,0)))
 (h:j8 P ops Q rest (a.put o.dst (jm C)) w):j8 P ops Q (o::rest) a w:=by
 refine V.load b c d C.toList (by rw[qf];exact e) (λj v i=>?_) (by rw[xL];exact h);rw[qW];exact ah f (ak i)
end
end
section
open Go.RowKit Go.Maps Go.Sort Go.Shelf
structure fq{α β:Type}(p:α->β)(c:α->α->ja):Prop where
 eq:∀x y,c x y=0↔p x=p y
 anti:∀x y,c x y<0↔0<c y x
 trans:∀x y z,c x y<0->c y z<0->c x z<0
 depl:∀x y z,p x=p y->c x z=c y z
 depr:∀x y z,p x=p y->c z x=c z y
theorem fq.lex{i:Type}{p:H->C}{q:H->i}{c d:H->H->ja}(a:fq p c)(f:fq q d):fq (λx=>(p x,q x)) (λx y=>if c x y≠0 then c x y else d x y) where
 eq x y:=by
  by_cases h:c x y=0
  ·rw[jq Y,f.eq]
   have:=(a.eq x y).1 h;simp[this]
  rw[jp h];have:¬p x=p y:=λe=>h ((a.eq x y).2 e)
  simp[h,this]
 anti x y:=by
  by_cases h:c x y=0
  ·have b:c y x=0:=(a.eq y x).2 ((a.eq x y).1 h).symm
   rw[jq Y,jq Y];exact f.anti x y
  have b:¬c y x=0:=λe=>h ((a.eq x y).2 ((a.eq y x).1 e).symm)
  rw[jp h,jp b];exact a.anti x y
 trans x y z hxy hyz:=by
  by_cases h:c x y=0
  ·have e:=(a.eq x y).1 h
   rw[jq Y]at hxy
   by_cases b:c y z=0
   ·rw[jq Y]at hyz
    rw[jq (by rw[a.depl x y z e];omega)];exact f.trans x y z hxy hyz
   rw[jp b]at hyz;rw[jp (by rw[a.depl x y z e];exact b),a.depl x y z e];exact hyz
  rw[jp h]at hxy
  by_cases b:c y z=0
  ·have e:=(a.eq y z).1 b
   rw[jp (by rw[<-a.depr y z x e];exact h),<-a.depr y z x e];exact hxy
  rw[jp b]at hyz;have g:=a.trans x y z hxy hyz;rw[jp Y];exact g
 depl x y z e:=by
  have b:=jT Prod.fst e;have g:=jT Prod.snd e;simp only at b g;rw[a.depl x y z b,f.depl x y z g]
 depr x y z e:=by
  have b:=jT Prod.fst e;have g:=jT Prod.snd e;simp only at b g;rw[a.depr x y z b,f.depr x y z g]
theorem fq.int(p:α->ja):fq p (λx y=>cE (p x) (p y)) where
 eq x y:=by unfold cE;split<;>(try split)<;>omega
 anti x y:=by unfold cE;split<;>(try split)<;>(try split)<;>omega
 trans x y z:=by
  intro c d;unfold cE at*
  by_cases a:p x<p y
  ·by_cases b:p y<p z
   ·rw[jp Y];decide
   rw[jq b]at d;split at d<;>omega
  rw[jq a]at c;split at c<;>omega
 depl x y z e:=by simp only[e]
 depr x y z e:=by simp only[e]
theorem Cy:∀(a b:LBy),dE a b=0↔a=b
 |[],[]=>by simp[dE]
 |[],_ ::_=>by simp[dE]
 |_ ::_,[]=>by simp[dE]
 |a::c,b::d=>by
  unfold dE
  by_cases h:a=b
  ·rw[jp h,Cy c d,h];simp
  rw[jq h];have:¬(a::c=b::d):=λe=>h (by injection e)
  split<;>simp[this]
theorem I8{a b:BitVec 8}(h:a≠b):a<b↔¬b<a:=by
 have:a.toNat≠b.toNat:=λe=>h (xd e)
 rw[r6,r6];omega
theorem Gh:∀(a b:LBy),dE a b<0↔0<dE b a
 |[],[]=>by simp[dE]
 |[],_ ::_=>by simp[dE]
 |_ ::_,[]=>by simp[dE]
 |a::d,b::e=>by
  unfold dE
  by_cases h:a=b
  ·rw[jp h,jp h.symm];exact Gh d e
  rw[jq h,jq (Ne.symm h)]
  by_cases c:a<b
  ·rw[jp c,jq ((I8 h).1 c)];decide
  rw[jq c,jp ((I8 (Ne.symm h)).2 c)];decide
theorem Jt{a b:BitVec 8}{V:LBy}:dE (a::r) (b::V)<0↔a<b\/a=b/\dE r V<0:=by
 rw[dE]
 by_cases h:a=b
 ·rw[jp h]
  subst h;have:¬a<a:=by rw[r6];omega
  simp[this]
 rw[jq h]
 by_cases c:a<b
 ·rw[jp c];simp[c]
 rw[jq c];simp[h,c]
theorem Cx:∀(a b c:LBy),dE a b<0->dE b c<0->dE a c<0
 |[],[],c,h,_=>by simp[dE]at h
 |[],_ ::_,[],_,h=>by simp[dE]at h
 |[],_ ::_,_ ::_,_,_=>by simp[dE]
 |_ ::_,[],_,h,_=>by simp[dE]at h
 |_ ::_,_ ::_,[],_,h=>by simp[dE]at h
 |a::f,b::g,c::i,e,d=>by
  rw[Jt]at*
  rcases e with e|⟨rfl,e⟩
  ·rcases d with d|⟨rfl,d⟩
   ·exact .inl (by rw[r6]at*;omega)
   exact .inl e
  rcases d with d|⟨rfl,d⟩
  ·exact .inl d
  exact .inr ⟨I,Cx f g i e d⟩
theorem fq.bytes(p:α->LBy):fq p (λx y=>dE (p x) (p y)) where
 eq x y:=Cy _ _
 anti x y:=Gh _ _
 trans x y z:=Cx _ _ _
 depl x y z e:=by simp only[e]
 depr x y z e:=by simp only[e]
theorem Tl:fq (λx:aR=>(x.since,x.com.author,x.id)) iE:=
 (fq.int aR.since).lex ((fq.int λx:aR=>x.com.author).lex (fq.bytes aR.id))
theorem fq.on{a:Type}{p:H->C}{c:H->H->ja}(h:fq p c)(f:a->H):fq (λx=>p (f x)) (λx y=>c (f x) (f y)) where
 eq x y:=h.eq _ _
 anti x y:=h.anti _ _
 trans x y z:=h.trans _ _ _
 depl x y z e:=h.depl _ _ _ e
 depr x y z e:=h.depr _ _ _ e
theorem fq.swo{p:H->C}{c:H->H->ja}(h:fq p c):SWO (ltOf c) where
 irrefl x:=by
  have:=(h.eq x x).2 I;simp only[ltOf,decide_eq_false_iff_not];omega
 trans x y z h1 h2:=by
  simp only[ltOf,decide_eq_true_eq]at*;exact h.trans x y z h1 h2
 ntrans x y z h1 h2:=by
  simp only[ltOf,decide_eq_false_iff_not]at*;intro a
  by_cases b:c x y=0
  ·rw[h.depl x y z ((h.eq x y).1 b)]at a;exact h2 a
  exact h2 (h.trans y x z ((h.anti y x).2 Y) a)
theorem fq.tot{p:H->C}{c:H->H->ja}(h:fq p c){x y:H}(b:ltOf c x y=jr)(a:ltOf c y x=jr):p x=p y:=by
 simp only[ltOf,decide_eq_false_iff_not]at b a
 by_cases e:c x y=0
 ·exact(h.eq x y).1 e
 exact jB ((h.anti y x).2 Y) a
theorem FP{f:H->C}:∀{l:A H},(l.map f).Nodup->∀x∈l,∀y∈l,f x=f y->x=y
 |[],_,x,g,_,_,_=>by cases g
 |a::l,d,x,g,y,h,e=>by
  rw[jX,sy]at d
  rcases jE.1 g with c|c
  ·rcases jE.1 h with b|b
   ·rw[c,b]
   exact jB (jz.2 ⟨y,b,by rw[<-e,c]⟩) d.1
  rcases jE.1 h with b|b
  ·exact jB (jz.2 ⟨x,c,by rw[e,b]⟩) d.1
  exact FP d.2 x c y b e
end
section
open Go.RowKit Go.Maps Go.Sort Go.Shelf
def Grw(w w':jg):Prop:=∃q os,w'=grow (w.drewN q) os
theorem Grw.refl(w:jg):Grw w w:=⟨0,#[],(grow_empty (w.drewN 0)).symm⟩
theorem Grw.trans{a b c:jg}(h:Grw a b)(k:Grw b c):Grw a c:=by
 obtain⟨q,os,rfl⟩:=h;obtain⟨d,e,rfl⟩:=k;refine⟨q+d,os++e,?_⟩;show({a with heap:=a.heap++os++e,drawn:=a.drawn+q+d}:jg)={a with heap:=a.heap++(os++e),drawn:=a.drawn+(q+d)};rw[Array.append_assoc,qi]
theorem Grw.alloc(w:jg)(o:Obj):Grw w (w.alloc o):=⟨0,#[o],by
 show({w with heap:=w.heap.push o}:jg)={w with heap:=w.heap++ #[o]}
 congr 1⟩
theorem Grw.drew(w:jg):Grw w w.drew:=⟨1,#[],(grow_empty (w.drewN 1)).symm⟩
theorem Grw.drewN(w:jg)(n:T):Grw w (w.drewN n):=⟨n,#[],(grow_empty (w.drewN n)).symm⟩
theorem Grw.size(h:Grw w w'):w.heap.size<=w'.heap.size:=by
 obtain⟨q,os,rfl⟩:=h;simp[grow,World.drewN]
theorem Grw.heap(h:Grw w w'){k:T}(a:k<w.heap.size):w'.heap[k]?=w.heap[k]?:=by
 obtain⟨q,os,rfl⟩:=h;show(w.heap++os)[k]?=_;rw[xP a]
theorem Grw.below(h:Grw w w'):jo w w w':=by
 refine⟨?_,?_,?_,h.size,λk a=>h.heap a⟩<;>(obtain⟨q,os,rfl⟩:=h;rfl)
theorem Grw.keep(h:Grw w w'){g:T}{o:Obj}(a:w.heap[g]?=N o):w'.heap[g]?=N o:=
 (h.heap (jR.1 a).1).trans a
theorem zV[Inhabited H]{enc:H->A jb}{k m off:T}{w:jg}{a:T}{d:js H}{os:js Obj}{g:T}(c:g<w.heap.size)(b:g≠a):(sortWorldK enc k w a off m d os).heap[g]?=w.heap[g]?:=by
 unfold sortWorldK putRowK putRow mapBlock Go.Sort.ahead Go.Sort.grow;simp only;rw[xP (by simp;omega),xu,jq (Ne.symm b)]
theorem OC[Inhabited H]{enc:H->A jb}{k m off:T}{w:jg}{a:T}{d:js H}{os:js Obj}:w.heap.size<=(sortWorldK enc k w a off m d os).heap.size:=by
 unfold sortWorldK putRowK putRow mapBlock Go.Sort.ahead Go.Sort.grow;simp
end
section
open Go.RowKit Go.Maps Go.Sort Go.Shelf
theorem DZ:∀(a b:LBy),Lib.compareBytes (Lib.bytesOf (a.map λx=>(x.toNat:ja))) (Lib.bytesOf (b.map λx=>(x.toNat:ja)))=dE a b
 |[],[]=>rfl
 |[],_ ::_=>rfl
 |_ ::_,[]=>rfl
 |x::a,y::b=>by
  have g:=DZ a b;unfold Lib.bytesOf at g⊢;rw[jX,jX,jX,jX,Lib.compareBytes,g,dE];have i:=x.isLt;have j:=y.isLt;have c:∀z:BitVec 8,((z.toNat:ja).toNat.toUInt8).toNat=z.toNat:=λz=>by have:=z.isLt;simp
  by_cases h:x=y
  ·subst h
   rw[jq (UInt8.lt_irrefl _),jq (UInt8.lt_irrefl _),jp I]
  have k:x.toNat≠y.toNat:=λe=>h (xd e)
  rw[jq h]
  by_cases d:x<y
  ·have f:x.toNat<y.toNat:=d
   rw[jp d,jp (by rw[UInt8.lt_iff_toNat_lt,c,c];exact f)]
  have f:¬x.toNat<y.toNat:=d;rw[jq d,jq (by rw[UInt8.lt_iff_toNat_lt,c,c];exact f),jp (by rw[UInt8.lt_iff_toNat_lt,c,c];omega)]
theorem CN(h:w.rangeAt M R (r.map v8))(c:T):(Extern.Bytes.bytesOf (jf (N ⟨M,R,je⟩) r.length c)).run jl w=.ok ⟨(Lib.bytesOf (r.map λx=>(x.toNat:ja))).toArray⟩ w:=by
 have d:=Lib.run_loadBytesX (P:=jl) w (r.map λx=>(x.toNat:ja)) ⟨M,R,je⟩ .empty (λj x a=>by
  have e:(⟨M,R,je⟩:jN).add j=⟨M,R+j,je⟩:=by unfold Addr.add;split<;>simp_all
  rw[e];refine h j _ ?_;rw[qa]at a⊢
  cases hq:r[j]? with
  |none=>rw[hq]at a;cases a
  |some z=>rw[hq]at a;injection a with a;rw[<-a];rfl)
 rw[ju]at d;simp only[Extern.Bytes.bytesOf];rw[d];simp
theorem J6{V:LBy}(g:w.rangeAt M R (r.map v8))(h:w.rangeAt m y (V.map v8))(e f:T):
 (Extern.BytealgCompare.compare #[jf (N ⟨M,R,je⟩) r.length e,jf (N ⟨m,y,je⟩) V.length f]).run jl w=.ok (jc jd (dE r V)) w:=by
 show(do pure (goInt (Extern.BytealgCompare.cmp (<-Extern.Bytes.bytesOf (jf (N ⟨M,R,je⟩) r.length e)) (<-Extern.Bytes.bytesOf (jf (N ⟨m,y,je⟩) V.length f)))):Sem jb).run jl w=_;simp only[Sem.run_bind,CN g,CN h,Sem.run_pure,Result.andThen];rw[Lib.cmp_eq,<-DZ]
 rfl
theorem P7{b c d f:T}{l m:LBy}(g:w.rangeAt b c (l.map v8))(h:w.rangeAt d f (m.map v8))(i j k n:T)(o:k=l.length)(p:n=m.length):
 jy jl 174 #[jf (N ⟨b,c,je⟩) k i,jf (N ⟨d,f,je⟩) n j] w λe w'=>e=jv (jc jd (dE l m))/\w'=w:=by
 have a:=J6 g h i j;rw[<-o,<-p]at a;generalize dE l m=r at a⊢;clear g h o p
 go_enter func174,ntmps174
 go_wp2_with fail
 rw[run_callFunc_extern func227 af af af (e:=Extern.BytealgCompare.compare) af,a];simp only[Result.andThen];rw[Oper.upon_value]
 go_wp2_with fail
 go_ret;exact⟨I,I⟩
end
theorem BD(g:Grp)(a:ja)(l:A ar):(dT g a l).length<=1000000:=by
 unfold dT
 split
 ·rename_i h
  obtain⟨b,c,d⟩:=lC.1 h;obtain⟨e,f⟩:=vU b c d;have i:=Cf (aX g.tree l) (ig a) 1;rw[Aw e f]at i;show(fw (aX g.tree l) (ig a) 1).length<=_;omega
 simp
theorem DT(a:ja)(l:A ar):(du a l).length<=l.length:=by
 unfold du fh;rw[(nv _ _).length_eq];exact qU _ _
theorem cM{B:Act}{x:jY}{X:js jb}{t:jt}{d:TypeDesc}(g:jl.underlying e=N d)(i:d.isRow=jk)(j:(jl.info? e).map (·.size)=N X.size)(k:o.op=.load e x)(m:B.eval x=jI (N ⟨M,0,je⟩))(n:w.heap[M]?=N (jh X t (0,0))):
 (o8 B.eval o).run jl w=.ok (.value (jm X)) w:=by
 have h:=gm (P:=jl) o B e x k M 0 m X.toList _ (vS (t:=t) (l:=X.toList) (ak n)) g i (by rw[qf];exact j)
 simpa using h
theorem P3{a:Act}{parts:js (T×jY)}{f e:ja}{b:js jb}(c:b.size=32)(d:o.op=.build 29 parts)(g:(parts.map fun(i,x)=>(i,a.eval x))= #[(0,jc jd f),(1,jc jd e),(2,jm b)])(W:jg):
 (o8 a.eval o).run jl W=.ok (.value (jm (#[jc jd f,jc jd e]++b++ #[jf je 0 0,jf je 0 0]))) W:=by
 simp only[o8,d,g,Sem.run_bind,LD f e b c,Result.andThen_ok,Sem.run_pure]
theorem Aa{B:Act}{P:jO}(b:P.op=.build 29 #[])(W:jg):
 (o8 B.eval P).run jl W=.ok (.value (jm (aD ⟨0,0,qy 32 0#8,[],[]⟩ (jf je 0 0) (jf je 0 0)).toArray)) W:=by
 simp only[o8,b,xN,qw,Sem.run_bind,Qj,Result.andThen_ok,Sem.run_pure]
theorem Rl(f e:ja)(d:LBy)(g:d.length=32):∃X c:js jb,c=(d.map v8).toArray/\c.size=32/\X= #[jc jd f,jc jd e]++c++ #[jf je 0 0,jf je 0 0]/\
 X=(aD ⟨f,e,d,[],[]⟩ (jf je 0 0) (jf je 0 0)).toArray/\(jl.info? 29).map (·.size)=N X.size/\X.all (·.oneCell')=jk/\X.size=36:=by
 have h:(aD ⟨f,e,d,[],[]⟩ (jf je 0 0) (jf je 0 0)).toArray.size=36:=by rw[jM,eX g]
 have a: #[jc jd f,jc jd e]++(d.map v8).toArray++ #[jf je 0 0,jf je 0 0]=(aD ⟨f,e,d,[],[]⟩ (jf je 0 0) (jf je 0 0)).toArray:=by unfold aD;simp
 refine⟨_,_,I,by rw[jM,ju];exact g,I,a,?_,?_,?_⟩
 ·rw[a,h];kernel_rfl
 ·rw[a,qc]
  intro i b;simp only[aD,wx,jE,jS,ql,or_false]at b
  rcases b with rfl|rfl|b|rfl|rfl
  ·rfl
  ·rfl
  ·exact iV _ i b
  ·rfl
  rfl
 rw[a];exact h
theorem JN(g:Grp)(c:Cmt):∀a,a=aG c->∀b v:jb,aD ⟨g.folder,c.epoch,a,[],[]⟩ b v=aD (aB g c) b v:=by
 intro a h b v;rw[h];clear h;unfold aB;generalize aG c=i;dsimp only[aD]
theorem Mf(g:Grp)(c:Cmt):(aB g c).last.length=32:=by
 have h:=dS c;unfold aB
 revert h
 generalize aG c=i;exact λh=>h
theorem Sc(g:Grp)(c:Cmt)(W:jg)(a v:jb)(b:EM.At W a (fJ (fZ g.mem c.chg c.epoch)))(d:bJ W v (gr (aX g.tree c.chg) c.author c.path)):bH W (aB g c) a v:=by
 have h:=Mf g c
 revert h
 unfold aB;generalize aG c=i;exact λh=>⟨b,d,h⟩
def Cm(g:Grp)(c:Cmt)(w:jg)(e:Ending)(w':jg):Prop:=
 (cC g c=0->∃vm vt,e=jv (j0 #[jm (aD (aB g c) vm vt).toArray,jc jd 0])/\bH w' (aB g c) vm vt/\Fr w.heap.size vm/\Fr w.heap.size vt)/\
 (cC g c≠0->e=jv (j0 #[jm (aD kB (jf je 0 0) (jf je 0 0)).toArray,jc jd (cC g c)]))/\jo w w w'
theorem yV(g:Grp)(vm vt:jb)(c:Cmt)(q:CQ)(w:jg)(h:bH w g vm vt)(hC:aT (·<w.heap.size) w c q)(i:cT (aP c))(hT:bS w)(bi:g.mem.length<=900000)(bm:g.tree.length<=600000):
 jy jl 9 #[jm (aD g vm vt).toArray,jm (aF c q).toArray] w (Cm g c w):=by
 obtain⟨er,V⟩:=J (cC g c);obtain⟨NG,b⟩:=J (aB g c);obtain⟨P,d⟩:=J (Cm g c w);have HP:ji (∀e w',((er=0->∃vm vt,e=jv (j0 #[jm (aD NG vm vt).toArray,jc jd 0])/\bH w' NG vm vt/\Fr w.heap.size vm/\Fr w.heap.size vt)/\(er≠0->e=jv (j0 #[jm (aD kB (jf je 0 0) (jf je 0 0)).toArray,jc jd er]))/\jo w w w')->P e w'):=O (by
  rw[d,V,b];exact λe w' h=>h)
 rw[<-d];clear d;have ct:ji (∀F,F=aG c->∀ad v:jb,aD ⟨g.folder,c.epoch,F,[],[]⟩ ad v=aD NG ad v):=O (by rw[b];exact JN g c);have cu:ji (∀(W:jg) (ad v:jb),EM.At W ad (fJ (fZ g.mem c.chg c.epoch))->bJ W v (gr (aX g.tree c.chg) c.author c.path)->bH W NG ad v):=O (by rw[b];exact Sc g c);clear b;have a2:=O V;have au:=rF (vm:=vm) (vt:=vt) h.llen;have ax:(jl.info? 37).map (·.size)=N (aF c q).toArray.size:=by rw[jM,dl c q hC.plen hC.clen];exact mT
 have Vs:=lQ (vm:=vm) (vt:=vt) h.llen;have bn:=iy c q hC.plen hC.clen;have a1:∀(w:jg) (b:T),w.heap[b]?=N (jh (aD g vm vt).toArray 29 (0,0))->w.rangeAt b 2 (g.last.map v8):=λw b hb=>dy.last ⟨hb,h.llen⟩
 have a4:∀(w:jg) (b:T),w.heap[b]?=N (jh (aF c q).toArray 37 (0,0))->w.rangeAt b 2 (c.parent.map v8):=λw b hb j v hj=>by
  have d:=(jV.1 hj).1;rw[ju,hC.plen]at d;have h1:=Da c q hC.plen d;refine(ah hb (ak h1)).trans ?_;rw[<-hj,qa,j9 (by rw[hC.plen];exact d)];simp[qt,hC.plen,d]
 have HV:ji (∀W,bH W g vm vt->jy jl 26 #[jm (aD g vm vt).toArray] W λe w'=>e=jv (.bool (fE g))/\jo W W w'):=O (λW d=>BV g vm vt W d Y Y);have HK:ji (∀W,aT (·<W.heap.size) W c q->jy jl 27 #[jm (aF c q).toArray] W λe w'=>e=jv (jc jd (gW c))/\jo W W w'):=O (λW d=>MH c q W d i);have HN:ji (∀W,bH W g vm vt->EC.At W q.vc c.chg->jy jl 28 #[jm (aD g vm vt).toArray,jc jd c.author,q.vc] W λe w'=>∃ad,e=jv (j0 #[ad,jc jd (dt g c.author c.chg)])/\w'.ownsRow W 85 4 ad (dT g c.author c.chg).length (EB0.flat (dT g c.author c.chg))/\jo W W w'):=O (λW d f=>Gz g vm vt _ _ _ W d f Y Y i.lens.1);have bk:ji (∀W,dC g->eU c.chg->gN g c.author c.chg->bH W g vm vt->EC.At W q.vc c.chg->jy jl 35 #[jm (aD g vm vt).toArray,jc jd c.author,q.vc] W λe w'=>e=jv (jc jd (dP g c.author c.chg))/\jo W W w'):=O (λW hv hf hp d f=>Gm g vm vt _ _ _ W d (uD hv) Y f (λhn=>by
  have h0:=hp.own;rw[hn]at h0;obtain⟨x,r,h1,-⟩:=hp.first (by have:=hv.ep.1;have h2:=of_decide_eq_false h0.symm;omega);rw[h1];simp))
 have bK:ji (∀W,aT (·<W.heap.size) W c q->bS W->jy jl 36 #[jm (aF c q).toArray] W λe w'=>∃D,e=jv (jf (N ⟨D,0,je⟩) 32 32)/\bj w' (jf (N ⟨D,0,je⟩) 32 32) (dq c)/\jo W W w'):=O (λW d hT=>Hw c q W d i hT);have bM:ji (∀W,aT (·<W.heap.size) W c q->bS W->jy jl 8 #[jm (aF c q).toArray] W λe w'=>e=jv (jm ((aG c).map v8).toArray)/\jo W W w'):=O (λW d hT=>pY c q W d i hT);have bp:ji (∀W,eU c.chg->bH W g vm vt->EC.At W q.vc c.chg->jy jl 38 #[jm (aD g vm vt).toArray,q.vc] W λe w'=>∃ad,e=jv (jm #[ad])/\bJ w' ad (aX g.tree c.chg)/\jo W W w'):=O (λW hf d f=>yG g vm vt _ _ W d hf Y f);obtain⟨aa,hA⟩:=J ((aD g vm vt).toArray);obtain⟨C,B⟩:=J ((aF c q).toArray);rw[<-hA]at au HV HN bk bp a1⊢;rw[<-B]at ax HK bK bM a4⊢;obtain⟨x0,k⟩:=J ((((w.alloc (jh aa 29)).alloc (jh C 37)).alloc (jh #[jc jd 0,jc jd 0,jj jn 0,jj jn 0,jj jn 0,jj jn 0,jj jn 0,jj jn 0,jj jn 0,jj jn 0,jj jn 0,jj jn 0,jj jn 0,jj jn 0,jj jn 0,jj jn 0,jj jn 0,jj jn 0,jj jn 0,jj jn 0,jj jn 0,jj jn 0,jj jn 0,jj jn 0,jj jn 0,jj jn 0,jj jn 0,jj jn 0,jj jn 0,jj jn 0,jj jn 0,jj jn 0,jj jn 0,jj jn 0,jf je 0 0,jf je 0 0] 29)));obtain⟨s,r⟩:=J w.heap.size;have d:=jD w (jh aa 29);have u:=ap w (jh aa 29);have a6:=jD (w.alloc (jh aa 29)) (jh C 37);have H:=ap (w.alloc (jh aa 29)) (jh C 37);have M:=jD ((w.alloc (jh aa 29)).alloc (jh C 37)) (jh #[jc jd 0,jc jd 0,jj jn 0,jj jn 0,jj jn 0,jj jn 0,jj jn 0,jj jn 0,jj jn 0,jj jn 0,jj jn 0,jj jn 0,jj jn 0,jj jn 0,jj jn 0,jj jn 0,jj jn 0,jj jn 0,jj jn 0,jj jn 0,jj jn 0,jj jn 0,jj jn 0,jj jn 0,jj jn 0,jj jn 0,jj jn 0,jj jn 0,jj jn 0,jj jn 0,jj jn 0,jj jn 0,jj jn 0,jj jn 0,jf je 0 0,jf je 0 0] 29);have Q:=ap ((w.alloc (jh aa 29)).alloc (jh C 37)) (jh #[jc jd 0,jc jd 0,jj jn 0,jj jn 0,jj jn 0,jj jn 0,jj jn 0,jj jn 0,jj jn 0,jj jn 0,jj jn 0,jj jn 0,jj jn 0,jj jn 0,jj jn 0,jj jn 0,jj jn 0,jj jn 0,jj jn 0,jj jn 0,jj jn 0,jj jn 0,jj jn 0,jj jn 0,jj jn 0,jj jn 0,jj jn 0,jj jn 0,jj jn 0,jj jn 0,jj jn 0,jj jn 0,jj jn 0,jj jn 0,jf je 0 0,jf je 0 0] 29);replace d:=av d H;replace d:=av d Q;rw[jK]at a6;replace a6:=av a6 Q;rw[jK,jK]at M;have z:=((u).trans (H.mono (u).size)).trans (Q.mono ((u).trans (H.mono (u).size)).size);rw[<-k]at z;rw[<-k,<-r]at d;rw[<-k,<-r]at a6;rw[<-k,<-r]at M;have U:=O d;have UU:=O a6;have S:=O M;have o:=O z;have HW:=O k;have HG:=O r;have bq:=O h;have bb:=O hC;have bo:=h.below z;have bv:=hC.below z;obtain⟨Z,m⟩:∃y:js jb,y= #[jc jd 0,jc jd 0,jj jn 0,jj jn 0,jj jn 0,jj jn 0,jj jn 0,jj jn 0,jj jn 0,jj jn 0,jj jn 0,jj jn 0,jj jn 0,jj jn 0,jj jn 0,jj jn 0,jj jn 0,jj jn 0,jj jn 0,jj jn 0,jj jn 0,jj jn 0,jj jn 0,jj jn 0,jj jn 0,jj jn 0,jj jn 0,jj jn 0,jj jn 0,jj jn 0,jj jn 0,jj jn 0,jj jn 0,jj jn 0,jf je 0 0,jf je 0 0]:=⟨_,I⟩;have bw:(aD kB (jf je 0 0) (jf je 0 0)).toArray=Z:=by rw[m];rfl
 have bA:(jl.info? 29).map (·.size)=N Z.size:=by rw[m];kernel_rfl
 have bB:Z.all (·.oneCell')=jk:=by rw[m];kernel_rfl
 replace S:ji (x0.heap[s+1+1]?=N (jh Z 29 (0,0))):=O (by rw[m];exact S);have YO:=O au;have Y4:=O ax;have K:=O bA;have a3:=O bB;have bN:ji (Z.size=36):=O (by rw[m];rfl);have ay:=O bw;have YS:=O bo;have X:=O bv;have cv:=O a1;have cw:=O a4;have br:=O hT;have cx:=O i;have VA:=O h.llen;have Wp:=O hC.plen;have cy:=O hC.clen;have WB:=O bi;have Ww:=O bm;have bd:ji (aa[0]?=N (jc jd g.folder)/\aa[1]?=N (jc jd g.epoch)/\aa[34]?=N vm/\aa[35]?=N vt):=O (by rw[hA];simpa using Vs);have t:ji (C[0]?=N (jc jd c.folder)/\C[1]?=N (jc jd c.epoch)/\C[34]?=N (jc jd c.author)/\C[35]?=N q.vc/\C[36]?=N q.vp/\C[37]?=N q.vb/\C[38]?=N q.vw/\C[71]?=N (jc jd c.r)/\C[72]?=N (jc jd c.s)):=O (by rw[B];simpa using bn);have V8:=O hA;have Yy:=O B;have VZ:=O (Tw c);have bs:=O (yH g c.author c.chg);obtain⟨vb,a5⟩:=J (fE g);obtain⟨ek,f⟩:=J (gW c);rw[<-a5]at HV bs;rw[<-f]at HK VZ;have bl:=O a5;have bO:=O f;obtain⟨pc,nc,em,ba⟩:∃p n c',q.vc=jf p n c':=by obtain⟨p,c',h⟩:=hC.chg.form;exact⟨p,_,c',h⟩
 obtain⟨pp,np,cp,bc⟩:∃p n c',q.vp=jf p n c':=by obtain⟨p,c',h⟩:=hC.path.form;exact⟨p,_,c',h⟩
 obtain⟨pb,nb,eq,bg⟩:∃p n c',q.vb=jf p n c':=by obtain⟨us,h,-⟩:=hC.box;obtain⟨p,c',h⟩:=h.form;exact⟨p,_,c',h⟩
 obtain⟨pw,nw,ev,bh⟩:∃p n c',q.vw=jf p n c':=by obtain⟨us,h,-⟩:=hC.wel;obtain⟨p,c',h⟩:=h.form;exact⟨p,_,c',h⟩
 obtain⟨pm,nm,cz,c5⟩:∃p n c',vm=jf p n c':=by obtain⟨p,c',h,-⟩:=h.mem.form;exact⟨p,_,c',h⟩
 obtain⟨pt,nt,eA,c6⟩:=gu h.tree;rw[ba]at t HN bk bp;rw[bc,bg,bh]at t;have bf:=O ba;have c7:=O bc;have bu:=O bg;have bT:=O bh;subst c5;subst c6;clear bo bv m bw bA bB au ax a1 a4 hT i bi bm hA B Vs bn h hC a5 f ba bc bg bh V;clear z k r d u a6 H M Q
 go_enter func9,ntmps9
 go_upto_region 1 with fail
 rw[<-HW,<-HG];refine jW ?_;refine r9 I 29 _ I s I 29 aa (0,0) _ U.out jF I YO ?_
 go_wp2_with fail
 refine(HV x0 YS).mono ?_;rintro e x1 ⟨rfl,d⟩;have UW:=ae U d;have Q:=ae UU d;have V:=ae S d;have WI:=O (YS.below d);have WT:=O (aT.below X d);have Uq:=aj o d;clear U UU S YS X o;clear d
 cases vb with
 |false=>
  have m:ji (er=1):=O (by rw[a2];unfold cC;rw[jp bl.symm])
  go_upto_region 2 with fail
  refine jW ?_;refine eD (v:=jm Z) ai (cM jF I K I I V) (G ?_);refine jP I λ_ r=>ms 29 _ _ I (s+1+1) Z I I 29 _ V.out K I a3 (r _ _ ?_)
  clear r;refine G ?_;refine ee ?_;rename_i KR Zp XR;refine Zp _ _ ?_;refine wp_ret ?_;show pz _ _ P .ret _ _;exact ob (fP I _ _ (s+1+1) 29 Z (0,0) _ I (j4 _ _ _ _ _ _ V.out) jF I K) I (HP _ _ ⟨λh=>jB (m.symm.trans h) L,λ_=>by rw[ay,m];kernel_rfl,oj Uq.out (by rw[HG];omega) _⟩)
 |true=>
 go_upto_region 3 with fail
 refine jW ?_;refine r9 I 37 _ I (s+1) I 37 C (0,0) _ Q.out qY I Y4 ?_
 go_wp2_with fail
 refine(HK x1 WT).mono ?_;rintro e x2 ⟨rfl,d⟩;have Vn:=ae UW d;have M:=ae Q d;have H:=ae V d;have WU:=O (WI.below d);have VN:=O (aT.below WT d);have Ur:=aj Uq d;clear UW Q V WI WT Uq;clear d
 rcases VZ.out with⟨f,rfl⟩|⟨f,rfl⟩
 case inr=>
  have m:ji (er=220):=O (by rw[a2];unfold cC;rw[jq (by rw[<-bl];decide),jp (by rw[<-bO];decide)])
  go_upto_region 5 with fail
  refine jW ?_;refine eD (v:=jm Z) ai (cM jF I K I I H) (G ?_);refine ee ?_;refine jP I λ_ r=>ms 29 _ _ I (s+1+1) Z I I 29 _ H.out K I a3 (r _ _ ?_)
  clear r;refine G ?_;refine ee ?_;rename_i KR Zp XR;refine Zp _ _ ?_;refine wp_ret ?_;show pz _ _ P .ret _ _;exact ob (fP I _ _ (s+1+1) 29 Z (0,0) _ I (j4 _ _ _ _ _ _ H.out) jF I K) I (HP _ _ ⟨λh=>jB (m.symm.trans h) L,λ_=>by rw[ay,m];kernel_rfl,oj Ur.out (by rw[HG];omega) _⟩)
 have VT:=O f;clear f;have f:ji (cC g c=if onB g c=jr then 220 else if dt g c.author c.chg≠0 then dt g c.author c.chg else if kD g c=jr then 220
  else if lX (dP g c.author c.chg) c.r c.s (dq c)=jr then 222 else eZ (aX g.tree c.chg) c.author c.path):=O (by unfold cC;rw[jq (by rw[<-bl];decide),jq (by rw[<-bO];decide)])
 obtain⟨B,z⟩:=J g.folder;obtain⟨ep,i⟩:=J g.epoch;obtain⟨cf,au⟩:=J c.folder;obtain⟨u,ax⟩:=J c.epoch;rw[<-z,<-i]at bd;rw[<-au,<-ax]at t;have bv:=O z;have Ya:=O i;have b4:=O au;have bm:=O ax;have k:dC g:=by
  by_cases hx:dC g
  ·exact hx
  have h2:=bl.out;rw[kr hx]at h2;cases h2
 have bw:=O k;have eB:0<=ep:=by rw[i];exact k.ep.1
 have e2:ep<=1099511627776:=by rw[i];exact k.ep.2
 clear z i au ax k;have c0:=ah M t.1;have c1:=ah M t.2.1;have a0:=ah Vn bd.1;have bh:=ah Vn bd.2.1;have WR:=O (cv _ _ Vn.out);have ax:=O (cw _ _ M.out);obtain⟨TL,i⟩:=J ((g.last.map v8).toArray);obtain⟨TP,k⟩:=J ((c.parent.map v8).toArray);obtain⟨b5,au⟩:=J (decide (c.parent=g.last));have a1:=O i;have a5:=O k;have b6:=O au;have bi:∀z,(Op.equalIn 10000 23 (jm TP) (jm TL)).run jl z=.ok b5 z:=by
  rw[i,k,au];exact λz=>nZ c.parent g.last Wp VA z
 clear i k au
 by_cases h1:cf=B
 case neg=>
  have bg:(cf==B)=jr:=ak h1;have b7:(cf !=B)=jk:=ak h1;have m:ji (er=220):=O (by rw[a2,f,jp (by unfold onB;rw[<-b4,<-bv,bg];rfl)]);clear h1
  go_upto_region 7 with fail
  refine jW ?_;refine eD (v:=jm Z) ai (cM jF I K I I H) (G ?_);refine jP I λ_ r=>ms 29 _ _ I (s+1+1) Z I I 29 _ H.out K I a3 (r _ _ ?_)
  clear r;refine G ?_;refine ee ?_;rename_i KR Zp XR;refine Zp _ _ ?_;refine wp_ret ?_;show pz _ _ P .ret _ _;exact ob (fP I _ _ (s+1+1) 29 Z (0,0) _ I (j4 _ _ _ _ _ _ H.out) jF I K) I (HP _ _ ⟨λh=>jB (m.symm.trans h) L,λ_=>by rw[ay,m];kernel_rfl,oj Ur.out (by rw[HG];omega) _⟩)
 have bg:(cf==B)=jk:=ak h1;have b7:(cf !=B)=jr:=ak h1;clear h1
 by_cases h2:u=ep+1
 case neg=>
  have hd2:(u==ep+1)=jr:=ak h2;have b8:(u !=ep+1)=jk:=ak h2;have m:ji (er=220):=O (by rw[a2,f,jp (by unfold onB;rw[<-bm,<-Ya,hd2];simp)]);clear h2
  go_upto_region 7 with fail
  refine jW ?_;refine eD (v:=jm Z) ai (cM jF I K I I H) (G ?_);refine jP I λ_ r=>ms 29 _ _ I (s+1+1) Z I I 29 _ H.out K I a3 (r _ _ ?_)
  clear r;refine G ?_;refine ee ?_;rename_i KR Zp XR;refine Zp _ _ ?_;refine wp_ret ?_;show pz _ _ P .ret _ _;exact ob (fP I _ _ (s+1+1) 29 Z (0,0) _ I (j4 _ _ _ _ _ _ H.out) jF I K) I (HP _ _ ⟨λh=>jB (m.symm.trans h) L,λ_=>by rw[ay,m];kernel_rfl,oj Ur.out (by rw[HG];omega) _⟩)
 have hd2:(u==ep+1)=jk:=ak h2;have b8:(u !=ep+1)=jr:=ak h2;have e4:=O h2;clear h2;have bc:(jl.info? 23).map (·.size)=N (c.parent.map v8).length:=by rw[ju,Wp];kernel_rfl
 have i:(jl.info? 23).map (·.size)=N (g.last.map v8).length:=by rw[ju,VA];kernel_rfl
 have bn:=O bc;have ba:=O i;clear bc i;have i:IntKind.i64.wrap (ep+1)=ep+1:=IntWalk.i64_in _ Y
 go_upto_region 6 with fail
 refine jW ?_;iterate 15 refine ee ?_
 refine uT ai λ_ r=>wp_load_mid 23 _ I (s+1) 2 I (c.parent.map v8) _ ax.out qd I bn (r _ _ ?_)
 rw[<-a5];refine G ?_;refine ee ?_;refine uT ai λ_ r=>wp_load_mid 23 _ I s 2 I (g.last.map v8) _ WR.out qd I ba (r _ _ ?_)
 rw[<-a1];refine G ?_;clear i
 cases b5 with
 |false=>
  have m:ji (er=220):=O (by rw[a2,f,jp (by unfold onB;rw[<-b6];simp)])
  go_upto_region 7 with fail
  refine jW ?_;refine eD (v:=jm Z) ai (cM jF I K I I H) (G ?_);refine jP I λ_ r=>ms 29 _ _ I (s+1+1) Z I I 29 _ H.out K I a3 (r _ _ ?_)
  clear r;refine G ?_;refine ee ?_;rename_i KR Zp XR;refine Zp _ _ ?_;refine wp_ret ?_;show pz _ _ P .ret _ _;exact ob (fP I _ _ (s+1+1) 29 Z (0,0) _ I (j4 _ _ _ _ _ _ H.out) jF I K) I (HP _ _ ⟨λh=>jB (m.symm.trans h) L,λ_=>by rw[ay,m];kernel_rfl,oj Ur.out (by rw[HG];omega) _⟩)
 |true=>
 have i:ji (cC g c=if dt g c.author c.chg≠0 then dt g c.author c.chg else if kD g c=jr then 220
  else if lX (dP g c.author c.chg) c.r c.s (dq c)=jr then 222 else eZ (aX g.tree c.chg) c.author c.path):=O (by rw[f,jq (by unfold onB;rw[<-b4,<-bv,<-bm,<-Ya,bg,hd2,<-b6];decide)])
 obtain⟨au,k⟩:=J c.author;rw[<-k]at t HN bk bs;have a4:=O k;clear k;have k:=ah M t.2.2.1;have Y5:=ah M t.2.2.2.1
 go_upto_region 8 with fail
 clear c0 c1 a0 bh WR ax bi bg b7 hd2 b8 a1 a5 bn ba f;refine jW ?_;refine r9 I 29 _ I s I 29 aa (0,0) _ Vn.out jF I YO ?_
 go_wp2_with fail
 refine(HN x2 WU.out (by rw[<-bf];exact EK.At.of_sl (E:=EC) VN.chg)).mono ?_;rintro e x3 ⟨ad,rfl,hu,d⟩;have ax:=O (EK.At.of_own (E:=EB0) hu);clear hu k Y5;have WX:=ae Vn d;have U2:=ae M d;have f:=ae H d;have a5:=O (WU.below d);have Wx:=O (aT.below VN d);have Uu:=aj Ur d;clear Vn M H WU VN Ur;clear d;obtain⟨pu,e5,rfl,-,-⟩:=ax.form;obtain⟨nu,k⟩:=J ((dT g au c.chg).length);rw[<-k]at ax⊢;have e6:=O k;clear k
 rcases bs.out with⟨hx,-⟩|⟨-,-,hx⟩|⟨-,hf,hp,hx⟩
 case inl=>cases hx
 case inr.inl=>
  have m:ji (er=221):=O (by rw[a2,i,<-a4,hx];rfl);rw[hx];clear hx
  go_upto_region 10 with fail
  refine jW ?_;refine eD (v:=jm Z) ai (cM jF I K I I f) (G ?_);refine ee ?_;refine jP I λ_ r=>ms 29 _ _ I (s+1+1) Z I I 29 _ f.out K I a3 (r _ _ ?_)
  clear r;refine G ?_;refine ee ?_;rename_i KR Zp XR;refine Zp _ _ ?_;refine wp_ret ?_;show pz _ _ P .ret _ _;exact ob (fP I _ _ (s+1+1) 29 Z (0,0) _ I (j4 _ _ _ _ _ _ f.out) jF I K) I (HP _ _ ⟨λh=>jB (m.symm.trans h) L,λ_=>by rw[ay,m];kernel_rfl,oj Uu.out (by rw[HG];omega) _⟩)
 rw[hx];have bA:ji (cC g c=if kD g c=jr then 220 else if lX (dP g c.author c.chg) c.r c.s (dq c)=jr then 222 else eZ (aX g.tree c.chg) c.author c.path):=O (by rw[i,<-a4,hx];rfl);have Yo:=O (oF.1 hf);have b9:=O (tK.1 hp);clear hf hp hx i;have Zu:=O cx.lens;obtain⟨eb,i⟩:=J (decide (c.box.map (λb:Bx=>(b.lev,b.node))=(dT g au c.chg).map (λx:ja×ja=>x)));have bh:=O i;obtain⟨ew,k⟩:=J (decide (c.wel.map Wl.dev=(du au c.chg).map ar.d));have bo:=O k;clear i k
 go_upto_region 13 with fail
 cases eb with
 |false=>
  have m:ji (er=220):=O (by rw[a2,bA,jp (by unfold kD;rw[<-a4];have h:=bh.out;rw[List.map_id']at h;rw[<-h];rfl)]);refine p6 ?_;refine dj (λk=>k.heap[s+1]?=N (jh C 37 (0,0))) (.t 0 (.t 1 (.t 2 (.t 3 (.o 4 (.t 5 (.t 6 (.t 7 (.t 8 (.t 9 (.t 10 (.t 11 (.t 12 (.t 14 (.o 13 (.o 15 (.t 16 (.t 17 .done)))))))))))))))))) af af af L (λ_ _ _ _ h=>h) U2 ?_;obtain⟨z0,UL⟩:=J x3.drew;have d:=bX x3;rw[<-UL]at d⊢;have U:=ae WX d;have UU:=ae U2 d;have S:=ae f d;have YS:=O (a5.below d);have X:=O (aT.below Wx d);have o:=aj Uu d;have a1:=O (ax.below d);clear d UL WX U2 f a5 Wx Uu ax;refine aK ?_
  (refine aS (v:=?_) I ai (λk i=>?_) ?_;rotate_left;(have b0:=ah i t.2.2.1;have b1:=ah i t.2.2.2.1;have b2:=ah i t.2.2.2.2.2.1;have b3:=ah i t.2.2.2.2.2.2.1;go_simp;with_reducible rfl);refine G ?_)
  iterate 2 refine aK ?_
  refine aE I (λK' r=>?_);go_simp;refine(z8 c.box (dT g au c.chg) _ _ z0 (by rw[<-bu];exact X.box) a1 Zu.2.2.1 (BD g au c.chg)).mono ?_;rintro e z1 ⟨rfl,d⟩;rw[<-bh];have UW:=ae U d;have Q:=ae UU d;have V:=ae S d;have WI:=O (YS.below d);have WT:=O (aT.below X d);have Uq:=aj o d;have YR:=O (a1.below d);clear U UU S YS X o a1;clear d;refine r _ _ Q.out λ_=>?_
  clear r;refine G ?_;iterate 2 refine aK ?_
  iterate 7 refine fF ?_
  refine aE I (λK' r=>?_);rw[jq (xQ.1 ai)];refine r _ _ Q.out λ_=>?_
  clear r;refine G ?_;refine aE I (λK' r=>?_);rw[jq (xQ.1 ai)];refine r _ _ Q.out λ_=>?_
  clear r;refine G ?_;refine fF ?_;refine aK ?_;refine qu ?_
  go_upto_region 14 with fail
  refine jW ?_;refine eD (v:=jm Z) ai (cM jF I K I I V) (G ?_);refine jP I λ_ r=>ms 29 _ _ I (s+1+1) Z I I 29 _ V.out K I a3 (r _ _ ?_)
  clear r;refine G ?_;refine ee ?_;rename_i KR Zp XR;refine Zp _ _ ?_;refine wp_ret ?_;show pz _ _ P .ret _ _;exact ob (fP I _ _ (s+1+1) 29 Z (0,0) _ I (j4 _ _ _ _ _ _ V.out) jF I K) I (HP _ _ ⟨λh=>jB (m.symm.trans h) L,λ_=>by rw[ay,m];kernel_rfl,oj Uq.out (by rw[HG];omega) _⟩)
 |true=>
 cases ew with
 |false=>
  have m:ji (er=220):=O (by rw[a2,bA,jp (by unfold kD;rw[<-a4,<-bo];simp)]);refine p6 ?_;refine dj (λk=>k.heap[s+1]?=N (jh C 37 (0,0))) (.t 0 (.t 1 (.t 2 (.t 3 (.o 4 (.t 5 (.t 6 (.t 7 (.t 8 (.t 9 (.t 10 (.t 11 (.t 12 (.t 14 (.o 13 (.o 15 (.t 16 (.t 17 .done)))))))))))))))))) af af af L (λ_ _ _ _ h=>h) U2 ?_;obtain⟨z0,UL⟩:=J x3.drew;have d:=bX x3;rw[<-UL]at d⊢;have U:=ae WX d;have UU:=ae U2 d;have S:=ae f d;have YS:=O (a5.below d);have X:=O (aT.below Wx d);have o:=aj Uu d;have a1:=O (ax.below d);clear d UL WX U2 f a5 Wx Uu ax;refine aK ?_
  (refine aS (v:=?_) I ai (λk i=>?_) ?_;rotate_left;(have b0:=ah i t.2.2.1;have b1:=ah i t.2.2.2.1;have b2:=ah i t.2.2.2.2.2.1;have b3:=ah i t.2.2.2.2.2.2.1;go_simp;with_reducible rfl);refine G ?_)
  iterate 2 refine aK ?_
  refine aE I (λK' r=>?_);go_simp;refine(z8 c.box (dT g au c.chg) _ _ z0 (by rw[<-bu];exact X.box) a1 Zu.2.2.1 (BD g au c.chg)).mono ?_;rintro e z1 ⟨rfl,d⟩;rw[<-bh];have UW:=ae U d;have Q:=ae UU d;have V:=ae S d;have WI:=O (YS.below d);have WT:=O (aT.below X d);have Uq:=aj o d;have YR:=O (a1.below d);clear U UU S YS X o a1;clear d;refine r _ _ Q.out λ_=>?_
  clear r;refine G ?_;iterate 3 refine aK ?_
  (refine aS (v:=?_) I ai (λk i=>?_) ?_;rotate_left;(have b0:=ah i t.2.2.1;have b1:=ah i t.2.2.2.1;have b2:=ah i t.2.2.2.2.2.1;have b3:=ah i t.2.2.2.2.2.2.1;go_simp;with_reducible rfl);refine G ?_)
  refine aK ?_
  (refine aS (v:=?_) I ai (λk i=>?_) ?_;rotate_left;(have b0:=ah i t.2.2.1;have b1:=ah i t.2.2.2.1;have b2:=ah i t.2.2.2.2.2.1;have b3:=ah i t.2.2.2.2.2.2.1;go_simp;with_reducible rfl);refine G ?_)
  refine aK ?_
  (refine aS (v:=?_) I ai (λk i=>?_) ?_;rotate_left;(have b0:=ah i t.2.2.1;have b1:=ah i t.2.2.2.1;have b2:=ah i t.2.2.2.2.2.1;have b3:=ah i t.2.2.2.2.2.2.1;go_simp;with_reducible rfl);refine G ?_)
  refine aK ?_;refine aE I (λK' r=>?_);rw[jp ai];go_simp;refine(zx au c.chg _ z1 (by rw[<-bf];exact EK.At.of_sl (E:=EC) WT.chg) Yo.once Zu.1).mono ?_;rintro e z2 ⟨ad,rfl,hu,d⟩;have ba:=O hu;clear hu;obtain⟨py,c9,rfl,-,-⟩:=ba.form;have Vn:=ae UW d;have M:=ae Q d;have H:=ae V d;have WU:=O (WI.below d);have VN:=O (aT.below WT d);have Ur:=aj Uq d;have bi:=O (YR.below d);clear UW Q V WI WT Uq YR;clear d;refine r _ _ M.out λ_=>?_
  clear r;refine G ?_;refine aE I (λK' r=>?_);rw[jp ai];go_simp;refine(FD c.wel (du au c.chg) _ _ z2 (by rw[<-bT];exact VN.wel) ba Zu.2.2.2 (by have:=DT au c.chg;have:=Zu.1;omega)).mono ?_;rintro e z3 ⟨rfl,d⟩;rw[<-bo];have WX:=ae Vn d;have U2:=ae M d;have f:=ae H d;have a5:=O (WU.below d);have Wx:=O (aT.below VN d);have Uu:=aj Ur d;have ax:=O (bi.below d);clear Vn M H WU VN Ur bi ba;clear d;refine r _ _ U2.out λ_=>?_
  clear r;refine G ?_;iterate 2 refine aK ?_
  refine qu ?_
  go_upto_region 14 with fail
  refine jW ?_;refine eD (v:=jm Z) ai (cM jF I K I I f) (G ?_);refine jP I λ_ r=>ms 29 _ _ I (s+1+1) Z I I 29 _ f.out K I a3 (r _ _ ?_)
  clear r;refine G ?_;refine ee ?_;rename_i KR Zp XR;refine Zp _ _ ?_;refine wp_ret ?_;show pz _ _ P .ret _ _;exact ob (fP I _ _ (s+1+1) 29 Z (0,0) _ I (j4 _ _ _ _ _ _ f.out) jF I K) I (HP _ _ ⟨λh=>jB (m.symm.trans h) L,λ_=>by rw[ay,m];kernel_rfl,oj Uu.out (by rw[HG];omega) _⟩)
 |true=>
 have ca:ji (cC g c=if lX (dP g c.author c.chg) c.r c.s (dq c)=jr then 222 else eZ (aX g.tree c.chg) c.author c.path):=O (by rw[bA,jq (by unfold kD;rw[<-a4,<-bo];have h:=bh.out;rw[List.map_id']at h;rw[<-h];decide)]);refine p6 ?_;refine dj (λk=>k.heap[s+1]?=N (jh C 37 (0,0))) (.t 0 (.t 1 (.t 2 (.t 3 (.o 4 (.t 5 (.t 6 (.t 7 (.t 8 (.t 9 (.t 10 (.t 11 (.t 12 (.t 14 (.o 13 (.o 15 (.t 16 (.t 17 .done)))))))))))))))))) af af af L (λ_ _ _ _ h=>h) U2 ?_;obtain⟨z0,UL⟩:=J x3.drew;have d:=bX x3;rw[<-UL]at d⊢;have U:=ae WX d;have UU:=ae U2 d;have S:=ae f d;have YS:=O (a5.below d);have X:=O (aT.below Wx d);have o:=aj Uu d;have a1:=O (ax.below d);clear d UL WX U2 f a5 Wx Uu ax;refine aK ?_
 (refine aS (v:=?_) I ai (λk i=>?_) ?_;rotate_left;(have b0:=ah i t.2.2.1;have b1:=ah i t.2.2.2.1;have b2:=ah i t.2.2.2.2.2.1;have b3:=ah i t.2.2.2.2.2.2.1;go_simp;with_reducible rfl);refine G ?_)
 iterate 2 refine aK ?_
 refine aE I (λK' r=>?_);go_simp;refine(z8 c.box (dT g au c.chg) _ _ z0 (by rw[<-bu];exact X.box) a1 Zu.2.2.1 (BD g au c.chg)).mono ?_;rintro e z1 ⟨rfl,d⟩;rw[<-bh];have UW:=ae U d;have Q:=ae UU d;have V:=ae S d;have WI:=O (YS.below d);have WT:=O (aT.below X d);have Uq:=aj o d;have YR:=O (a1.below d);clear U UU S YS X o a1;clear d;refine r _ _ Q.out λ_=>?_
 clear r;refine G ?_;iterate 3 refine aK ?_
 (refine aS (v:=?_) I ai (λk i=>?_) ?_;rotate_left;(have b0:=ah i t.2.2.1;have b1:=ah i t.2.2.2.1;have b2:=ah i t.2.2.2.2.2.1;have b3:=ah i t.2.2.2.2.2.2.1;go_simp;with_reducible rfl);refine G ?_)
 refine aK ?_
 (refine aS (v:=?_) I ai (λk i=>?_) ?_;rotate_left;(have b0:=ah i t.2.2.1;have b1:=ah i t.2.2.2.1;have b2:=ah i t.2.2.2.2.2.1;have b3:=ah i t.2.2.2.2.2.2.1;go_simp;with_reducible rfl);refine G ?_)
 refine aK ?_
 (refine aS (v:=?_) I ai (λk i=>?_) ?_;rotate_left;(have b0:=ah i t.2.2.1;have b1:=ah i t.2.2.2.1;have b2:=ah i t.2.2.2.2.2.1;have b3:=ah i t.2.2.2.2.2.2.1;go_simp;with_reducible rfl);refine G ?_)
 refine aK ?_;refine aE I (λK' r=>?_);rw[jp ai];go_simp;refine(zx au c.chg _ z1 (by rw[<-bf];exact EK.At.of_sl (E:=EC) WT.chg) Yo.once Zu.1).mono ?_;rintro e z2 ⟨ad,rfl,hu,d⟩;have ba:=O hu;clear hu;obtain⟨py,c9,rfl,-,-⟩:=ba.form;have Vn:=ae UW d;have M:=ae Q d;have H:=ae V d;have WU:=O (WI.below d);have VN:=O (aT.below WT d);have Ur:=aj Uq d;have bi:=O (YR.below d);clear UW Q V WI WT Uq YR;clear d;refine r _ _ M.out λ_=>?_
 clear r;refine G ?_;refine aE I (λK' r=>?_);rw[jp ai];go_simp;refine(FD c.wel (du au c.chg) _ _ z2 (by rw[<-bT];exact VN.wel) ba Zu.2.2.2 (by have:=DT au c.chg;have:=Zu.1;omega)).mono ?_;rintro e z3 ⟨rfl,d⟩;rw[<-bo];have WX:=ae Vn d;have U2:=ae M d;have f:=ae H d;have a5:=O (WU.below d);have Wx:=O (aT.below VN d);have Uu:=aj Ur d;have ax:=O (bi.below d);clear Vn M H WU VN Ur bi ba;clear d;refine r _ _ U2.out λ_=>?_
 clear r;refine G ?_;iterate 2 refine aK ?_
 refine qu ?_;clear a5 Wx ax
 go_upto_region 15 with fail
 refine p6 ?_;refine dj (λk=>k.heap[s]?=N (jh aa 29 (0,0))/\k.heap[s+1]?=N (jh C 37 (0,0))) (.t 0 (.t 1 (.t 2 (.t 3 (.t 4 (.t 6 (.t 8 (.t 9 (.o 5 (.o 7 (.o 10 (.t 11 .done)))))))))))) af af af L (λ_ _ _ _ h=>h) ⟨WX,U2⟩ ?_;obtain⟨y0,UL⟩:=J z3.drew;have d:=bX z3;rw[<-UL]at d⊢;have a1:=ae WX d;have a5:=ae U2 d;have ba:=ae f d;have Zw:=aj Uu d;clear d UL WX U2 f Uu;have U:=a1;clear a1;have UU:=a5;clear a5;have S:=ba;clear ba;have o:=Zw;clear Zw
 (refine aS (v:=jm aa) I ai (λk i=>cM jF I YO I I i.1) (G ?_))
 refine aK ?_
 (refine aS (v:=?_) I ai (λk i=>?_) ?_;rotate_left;(have b0:=ah i.2 t.2.2.1;have b1:=ah i.2 t.2.2.2.1;have b2:=ah i.2 t.2.2.2.2.2.2.2.1;have b3:=ah i.2 t.2.2.2.2.2.2.2.2;go_simp;with_reducible rfl);refine G ?_)
 refine aK ?_
 (refine aS (v:=?_) I ai (λk i=>?_) ?_;rotate_left;(have b0:=ah i.2 t.2.2.1;have b1:=ah i.2 t.2.2.2.1;have b2:=ah i.2 t.2.2.2.2.2.2.2.1;have b3:=ah i.2 t.2.2.2.2.2.2.2.2;go_simp;with_reducible rfl);refine G ?_)
 (refine aS (v:=jm C) I ai (λk i=>cM qY I Y4 I I i.2) (G ?_))
 refine aK ?_
 (refine aS (v:=?_) I ai (λk i=>?_) ?_;rotate_left;(have b0:=ah i.2 t.2.2.1;have b1:=ah i.2 t.2.2.2.1;have b2:=ah i.2 t.2.2.2.2.2.2.2.1;have b3:=ah i.2 t.2.2.2.2.2.2.2.2;go_simp;with_reducible rfl);refine G ?_)
 refine aE I (λK' r=>?_);go_simp;refine(bk y0 bw Yo b9 (bq.below o) (by rw[<-bf];exact(EK.At.of_sl (E:=EC) bb.chg).below o)).mono ?_;rintro e y1 ⟨rfl,d⟩;have UW:=ae U d;have Q:=ae UU d;have V:=ae S d;have Uq:=aj o d;clear U UU S o;clear d;refine r _ _ ⟨UW,Q⟩ λ_=>?_
 clear r;refine G ?_;refine aE I (λK' r=>?_);go_simp;refine(bK y1 (bb.below Uq) (br.below Uq)).mono ?_;rintro e y2 ⟨D,rfl,X,d⟩;have ax:=O X;clear X;have Vn:=ae UW d;have M:=ae Q d;have H:=ae V d;have Ur:=aj Uq d;clear UW Q V Uq;clear d;refine r _ _ ⟨Vn,M⟩ λ_=>?_
 clear r;refine G ?_;refine aE I (λK' r=>?_);go_simp;refine(N7 (dP g au c.chg) c.r c.s (dq c) _ (by rw[MG];decide) y2 ax (br.below Ur)).mono ?_;rintro e y3 ⟨vr,rfl,X,d⟩;have bi:=O X;clear X;have WX:=ae Vn d;have U2:=ae M d;have f:=ae H d;have Uu:=aj Ur d;clear Vn M H Ur ax;clear d;refine r _ _ ⟨WX,U2⟩ λ_=>?_
 clear r;refine G ?_;refine aK ?_;refine qu ?_;have X:vr=lX (dP g au c.chg) c.r c.s (dq c):=by rw[xG,As];exact bi
 have ZF:=O X;clear X bi
 cases vr with
 |false=>
  have m:ji (er=222):=O (by rw[a2,ca,jp (by rw[<-a4];exact ZF.symm)])
  go_upto_region 16 with fail
  refine jW ?_;refine eD (v:=jm Z) ai (cM jF I K I I f) (G ?_);refine jP I λ_ r=>ms 29 _ _ I (s+1+1) Z I I 29 _ f.out K I a3 (r _ _ ?_)
  clear r;refine G ?_;refine ee ?_;rename_i KR Zp XR;refine Zp _ _ ?_;refine wp_ret ?_;show pz _ _ P .ret _ _;exact ob (fP I _ _ (s+1+1) 29 Z (0,0) _ I (j4 _ _ _ _ _ _ f.out) jF I K) I (HP _ _ ⟨λh=>jB (m.symm.trans h) L,λ_=>by rw[ay,m];kernel_rfl,oj Uu.out (by rw[HG];omega) _⟩)
 |true=>
 have cb:ji (er=eZ (aX g.tree c.chg) au c.path):=O (by rw[a2,ca,jq (by rw[<-a4,<-ZF];decide),<-a4]);obtain⟨F,bc⟩:=J (aG c);have bi:F.length=32:=by rw[bc];exact dS c
 have bn:=O bc;have ax:=O bi;obtain⟨X,db,hT,cc,hX,cd,ce,cg,bB⟩:=Rl B u F bi;have cj:Z.size=X.size:=by rw[bB];exact bN
 have Zo:=O cc;have dd:ji (∀W,aT (·<W.heap.size) W c q->bS W->jy jl 8 #[jm C] W λe w'=>e=jv (jm db)/\jo W W w'):=O (by rw[hT,bc];exact bM);have bC:=O cd;have dk:=O ce;have dr:=O cg;have Wk:=O hX;have dv:=O cj;have bI:=O bB;clear hT hX cd ce cg cc cj bB bc bi
 go_upto_region 17 with fail
 refine p6 ?_;refine dj (λk=>k.heap[s]?=N (jh aa 29 (0,0))/\k.heap[s+1]?=N (jh C 37 (0,0))) (.t 0 (.t 1 (.t 2 (.t 3 (.t 4 (.o 5 (.t 6 (.o 7 .done)))))))) af af af L (λ_ _ _ _ h=>h) ⟨WX,U2⟩ ?_;obtain⟨u0,UL⟩:=J y3.drew;have d:=bX y3;rw[<-UL]at d⊢;have a1:=ae WX d;have a5:=ae U2 d;have ba:=ae f d;have Zw:=aj Uu d;clear d UL WX U2 f Uu;have U:=a1;clear a1;have UU:=a5;clear a5;have S:=ba;clear ba;have o:=Zw;clear Zw;refine aK ?_
 (refine aS (v:=?_) I ai (λk i=>?_) ?_;rotate_left;(have b0:=ah i.1 bd.1;have b1:=ah i.2 t.2.1;go_simp;with_reducible rfl);refine G ?_)
 refine aK ?_
 (refine aS (v:=?_) I ai (λk i=>?_) ?_;rotate_left;(have b0:=ah i.1 bd.1;have b1:=ah i.2 t.2.1;go_simp;with_reducible rfl);refine G ?_)
 (refine aS (v:=jm C) I ai (λk i=>cM qY I Y4 I I i.2) (G ?_))
 refine aE I (λK' r=>?_);go_simp;refine(dd u0 (bb.below o) (br.below o)).mono ?_;rintro e u1 ⟨rfl,d⟩;have UW:=ae U d;have Q:=ae UU d;have V:=ae S d;have Uq:=aj o d;clear U UU S o;clear d;refine r _ _ ⟨UW,Q⟩ λ_=>?_
 clear r;refine G ?_
 (refine aS (v:=jm X) I ai (λk i=>by rw[Wk];exact P3 (f:=B) (e:=u) Zo I af k) ?_;refine G ?_)
 refine aE I (λK' r=>?_);rw[jp ai];refine ms 29 _ _ I (s+1+1) X I I 29 _ V.out dk dv dr (r _ _ ⟨(qv _ _ _ _ Y).trans UW,(qv _ _ _ _ Y).trans Q⟩ λ_=>?_);clear r;have ZQ:ji ((u1.setRow (s+1+1) X).heap[s]?=N (jh aa 29 (0,0))):=O ((qv _ _ _ _ Y).trans UW);have Zh:ji ((u1.setRow (s+1+1) X).heap[s+1]?=N (jh C 37 (0,0))):=O ((qv _ _ _ _ Y).trans Q);have ZZ:ji ((u1.setRow (s+1+1) X).heap[s+1+1]?=N (jh X 29 (0,0))):=O (j4 _ _ _ _ _ _ V.out);have VM:=O (oj Uq (show w.heap.size<=s+1+1 by rw[HG];omega) X);generalize u1.setRow (s+1+1) X=u9 at ZQ Zh ZZ VM⊢;clear UW Q V Uq;refine G ?_;refine qu ?_;obtain⟨re,bc⟩:=J (eZ (aX g.tree c.chg) au c.path);have bi:(aX g.tree c.chg).length<=800000:=by have:=wP g.tree c.chg;have:=Ww.out;have:=Yo.len;omega
 have bB:aO au:=by
  obtain⟨h1,h2⟩:=vU bw Yo b9;exact aO.of Y
 have cc:∀j,aO (c.path.getD j 0):=λj=>by
  rcases Nat.lt_or_ge j c.path.length with h1|h1
  ·rw[fp _ h1];exact Af (VT.path _ (rn h1))
  rw[show c.path.getD j 0=0 by simp[qt,h1]];exact aO.of Y
 have Z8:ji (∀W v,bJ W v (aX g.tree c.chg)->dh W (jf pp np cp) c.path->jy jl 37 #[jm #[v],jc jd au,jf pp np cp] W λe w'=>∃x,e=jv (j0 #[jm #[x],jc jd re])/\(bJ w' x (gr (aX g.tree c.chg) au c.path)/\Fr W.heap.size x)/\jo W W w'):=O (by
  rw[bc];exact λW v hv hp=>Pb _ v au c.path _ W hv bi bB hp Zu.2.1 cc)
 have cd:=O bc;have ea:ji (dh w (jf pp np cp) c.path):=O (by rw[<-c7];exact aH.ints bb.path);clear bc bi bB cc
 go_upto_region 18 with fail
 refine p6 ?_;refine dj (λk=>k.heap[s]?=N (jh aa 29 (0,0))/\k.heap[s+1]?=N (jh C 37 (0,0))) (.t 0 (.t 1 (.t 2 (.t 4 (.t 5 (.t 6 (.t 7 (.o 3 (.o 8 (.t 9 (.t 10 (.t 11 (.t 12 (.o 13 (.t 14 .done))))))))))))))) af af af L (λ_ _ _ _ h=>h) ⟨ZQ,Zh⟩ ?_;obtain⟨v0,UL⟩:=J u9.drew;have d:=bX u9;rw[<-UL]at d⊢;have a1:=ae ZQ d;have a5:=ae Zh d;have ba:=ae ZZ d;have Zw:=aj VM d;clear d UL ZQ Zh ZZ VM;have U:=a1;clear a1;have UU:=a5;clear a5;have S:=ba;clear ba;have o:=Zw;clear Zw
 (refine aS (v:=jm aa) I ai (λk i=>cM jF I YO I I i.1) (G ?_))
 refine aK ?_
 (refine aS (v:=?_) I ai (λk i=>?_) ?_;rotate_left;(have b0:=ah i.2 t.2.2.1;have b1:=ah i.2 t.2.2.2.1;have b2:=ah i.2 t.2.2.2.2.1;go_simp;with_reducible rfl);refine G ?_)
 refine aK ?_
 (refine aS (v:=?_) I ai (λk i=>?_) ?_;rotate_left;(have b0:=ah i.2 t.2.2.1;have b1:=ah i.2 t.2.2.2.1;have b2:=ah i.2 t.2.2.2.2.1;go_simp;with_reducible rfl);refine G ?_)
 refine aK ?_
 (refine aS (v:=?_) I ai (λk i=>?_) ?_;rotate_left;(have b0:=ah i.2 t.2.2.1;have b1:=ah i.2 t.2.2.2.1;have b2:=ah i.2 t.2.2.2.2.1;go_simp;with_reducible rfl);refine G ?_)
 refine aE I (λK' r=>?_);go_simp;refine(bp v0 Yo (bq.below o) (by rw[<-bf];exact(EK.At.of_sl (E:=EC) bb.chg).below o)).mono ?_;rintro e v1 ⟨u1,rfl,hu,d⟩;have i:=O hu;clear hu;obtain⟨p2,n2,c2,rfl⟩:=gu i;have UW:=ae U d;have Q:=ae UU d;have V:=ae S d;have Uq:=aj o d;clear U UU S o;clear d;refine r _ _ ⟨UW,Q⟩ λ_=>?_
 clear r;refine G ?_;refine aE I (λK' r=>?_);go_simp;refine(Z8 v1 _ i.out (eu ea Uq)).mono ?_;rintro e v2 ⟨x9,rfl,hx,d⟩;have o:=O hx.1;have ec:=O (hx.2.mono Uq.size);clear hx;obtain⟨S,nx,U,rfl⟩:=gu o;have Vn:=ae UW d;have M:=ae Q d;have H:=ae V d;have Ur:=aj Uq d;clear UW Q V Uq i;clear d;refine r _ _ ⟨Vn,M⟩ λ_=>?_
 clear r;refine G ?_;iterate 4 refine aK ?_
 refine aE I (λK' r=>?_);rw[jp ai];refine wp_store_mid 27 _ _ I (s+1+1) 35 #[jf S nx U] I I (sD H.out (by rw[bI];exact jG _)) rr (by simp[r7]) (r _ _ ⟨(dB _ Y).trans Vn,(dB _ Y).trans M⟩ λ_=>?_);clear r;have W:v2.setCells (s+1+1) 35 (#[jf S nx U]:js jb).toList=v2.setCell ⟨s+1+1,35,je⟩ (jf S nx U):=I;rw[W];have ZQ:ji ((v2.setCell ⟨s+1+1,35,je⟩ (jf S nx U)).heap[s]?=N (jh aa 29 (0,0))):=O ((dB _ Y).trans Vn);have Zh:ji ((v2.setCell ⟨s+1+1,35,je⟩ (jf S nx U)).heap[s+1]?=N (jh C 37 (0,0))):=O ((dB _ Y).trans M);have ZZ:ji ((v2.setCell ⟨s+1+1,35,je⟩ (jf S nx U)).heap[s+1+1]?=N (jh (aD ⟨B,u,F,[],[]⟩ (jf je 0 0) (jf S nx U)).toArray 29 (0,0))):=O (by
  have h:=fl (i:=35) (jf S nx U) H;rw[bC,Db ⟨B,u,F,[],[]⟩ _ _ _ ax.out]at h;exact h)
 have cc:ji (bJ (v2.setCell ⟨s+1+1,35,je⟩ (jf S nx U)) (jf S nx U) (gr (aX g.tree c.chg) au c.path)):=O (o.ints (uM (i:=35) (X:=X) H ZZ (λj hj=>by rw[bC];exact Sn ⟨B,u,F,[],[]⟩ _ _ _ ax.out j hj) (by rw[bC];exact(nf ⟨B,u,F,[],[]⟩ _ _ ax.out).2.1) (λk _ hk=>dB _ hk)));have VM:ji (jo w w (v2.setCell ⟨s+1+1,35,je⟩ (jf S nx U))):=O (Ur.setCell (p:=⟨s+1+1,35,je⟩) (by show w.heap.size<=s+1+1;rw[HG];omega) _);generalize v2.setCell ⟨s+1+1,35,je⟩ (jf S nx U)=s9 at ZQ Zh ZZ VM cc⊢;clear W Vn M H Ur o;refine G ?_;refine aK ?_;refine qu ?_
 by_cases h0:re=0
 case neg=>
  have bg:(re !=0)=jk:=ak h0;have hd2:(re==0)=jr:=ak h0;have m:ji (er=re):=O (by rw[cb,cd]);have o:=O h0;clear h0
  go_upto_region 20 with fail
  refine jW ?_;refine eD (v:=jm Z) ai (by rw[<-ay];exact Aa I _) ?_;refine G ?_;refine ee ?_;refine jP I λ_ r=>ms 29 _ _ I (s+1+1) Z I I 29 _ ZZ.out K.out (by rw[bN];exact(nf ⟨B,u,F,[],[]⟩ _ _ ax.out).2.2) a3 (r _ _ ?_)
  clear r;refine G ?_;refine ee ?_;rename_i KR Zp XR;refine Zp _ _ ?_;refine wp_ret ?_;show pz _ _ P .ret _ _;exact ob (fP I _ _ (s+1+1) 29 Z (0,0) _ I (j4 _ _ _ _ _ _ ZZ.out) jF I K) I (HP _ _ ⟨λh=>jB (m.symm.trans h) o,λ_=>by rw[ay,m];kernel_rfl,oj VM.out (by rw[HG];omega) _⟩)
 subst h0;have ed:ji (er=0):=O (cb.trans cd.symm);have W:=ah ZQ bd.2.2.1;have m:dQ s9 (s+1) c q:=⟨by rw[Zh,Yy],Wp,cy⟩;have VL:=O m;clear m
 go_upto_region 22 with fail
 go_wp2_with fail
 refine(PF g.mem (jf pm nm cz) s9 (bq.below VM).mem (aI WB)).mono ?_;rintro e t1 ⟨u1,rfl,hu,d⟩;have M:=O hu;have o:=O d;clear hu d W
 go_wp2_with fail
 refine(JR (Qi c q (s+1) s9 VL ((EK.At.of_sl (E:=EC) bb.chg).below VM) Zu.1) g.mem u1 t1 M o o.size (aI WB)).mono ?_;rintro e t2 ⟨u2,rfl,hu,a1⟩;have Vl:=O hu;have a5:=O (o.trans a1);obtain⟨p3,c3,Wi⟩:=cO hu;obtain⟨n3,W⟩:=J ((g.mem.filter λm=> !fL c.chg m).length);rw[<-W]at Wi;subst Wi;have ce:=O W;clear hu a1 o M W;have bc:s+1+1<s9.heap.size:=(jR.1 ZZ).1;have M:=(a5.block (s+1+1) bc).trans ZZ;have cg:=ah M (nf ⟨B,u,F,[],[]⟩ _ _ ax.out).1;have e7:=gt (o:=34) M;have H:=O M;clear M
 go_upto_region 23 with fail
 obtain⟨mL,ba⟩:∃f:T->A aJ,f=λi=>(g.mem.filter λm=> !fL c.chg m)++((c.chg.take i).filter λx=> !(x.k==2)).map λx=>(⟨x.d,u,x.v⟩:aJ):=⟨_,I⟩
 have YY:=O ba;have bB:mL 0=g.mem.filter λm=> !fL c.chg m:=by rw[ba];simp
 have cj:∀i,(mL i).length<=900100:=λi=>by
  rw[ba];have h1:=qU (λm=> !fL c.chg m) g.mem;have h2:=qU (λx:ar=> !(x.k==2)) (c.chg.take i);have h3:=List.length_take_le i c.chg;have M:=Yo.len;have h5:=WB.out;simp only[jH,ju];have h6:(c.chg.take i).length<=c.chg.length:=List.length_take_le' _ _;omega
 have ck:=O cj;obtain⟨M,hM⟩:=J s9.heap.size;have Yp:ji (s+1+1<M):=O (by rw[hM];exact bc);have bi:∀ad v,((λv=>(aD ⟨B,u,F,[],[]⟩ v (jf S nx U)).toArray) ad).setIfInBounds 34 v=(λv=>(aD ⟨B,u,F,[],[]⟩ v (jf S nx U)).toArray) v:=λad v=>Dz ⟨B,u,F,[],[]⟩ ad _ v ax
 have Ve:=O bi;have Zv:=O hM;have a1:=gB.first (M:=M) (R:=s+1+1) (i:=34) (X:=(λv=>(aD ⟨B,u,F,[],[]⟩ v (jf S nx U)).toArray)) (e:=100) (sz:=3) (w0:=s9) H.out (by rw[hM];exact Vl) (by rw[hM];exact a5) (by rw[hM];exact a5.size) Yp (bi _ (jf p3 n3 c3));rw[<-ce,<-bB]at a1;clear ba bB cj hM bi H Vl a5 bc;have W:n3=(mL 0).length:=by rw[YY,ce];simp
 generalize t2.setCell ⟨s+1+1,34,je⟩ (jf p3 n3 c3)=W9 at a1⊢;have YB:=O a1;have a5:=O W;clear W a1;have hA:W9.heap[s]?=N (jh aa 29 (0,0)):=(YB.but.block s (aI Yp) Y).trans ZQ;have hC:W9.heap[s+1]?=N (jh C 37 (0,0)):=(YB.but.block (s+1) (aI Yp) Y).trans Zh;have cj:=bb.chg;rw[bf]at cj;obtain⟨ba,p1,q1,eg,ei,a6,H⟩:=cj;injection eg with e1 W e3
 subst e1;subst e3;have bc:=O W;rw[<-W]at ei H;have cm:=O H;clear ba a6 H W;have Y5:=ah hC t.2.2.2.1;have Ze:ji (nc<=64):=O (by rw[bc];exact Yo.len);clear hA hC
 go_wp2_with fail
 go_loopw [123] (λv wr=>∃(i m:T) (H:jw jN) (W:T),v=jc jd i/\i<=nc/\ji (m=(mL i).length)/\ji (gB M (s+1+1) 29 100 3 (λv=>(aD ⟨B,u,F,[],[]⟩ v (jf S nx U)).toArray) s9 wr m (jf H m W) (EM.flat (mL i)))) (λv _=>nc-(jA v).toNat)
 case atStart=>exact⟨0,n3,p3,c3,I,mz _,a5,YB⟩
 clear YB a5 Y5;obtain⟨i,m,H,W,rfl,hi,HM,HR⟩:=hrel;have e8:=Ze.out
 by_cases cq:i<nc
 ·have hd:=az ((i:ja)<(nc:ja))
  have UN:=az (i<nc);obtain⟨g0,o,rfl,a5,a6⟩:=cm Y;obtain⟨x,hx,ba⟩:=wU (l:=c.chg) (j:=i) (by rw[<-bc];exact cq);have bi:g0<M:=by have:=Yp.out;have:=HG.out;omega
  have bB:g0≠s+1+1:=aI HG;have Vk:=(HR.but.block g0 bi bB).trans (VM.block g0 a5);have a1:=λk hk=>(dV (a:=⟨g0,o+(i*5+k),je⟩) Vk).trans (a6 (i*5+k) _ ((flat_get ar.cells 5 (λ_=>rfl) c.chg i k x hx hk).trans (show x.cells[k]?=N (x.cells.getD k (jc jd 0)) by have:x.cells.length=5:=I;simp[qt,j9 (show k<x.cells.length by omega)])))
  have d0:wr.cell? ⟨g0,o+i*5,je⟩=N (jc jd x.k):=a1 0 L;have d1:wr.cell? ⟨g0,o+i*5+1,je⟩=N (jc jd x.d):=a1 1 L;have d2:wr.cell? ⟨g0,o+i*5+2,je⟩=N (jc jd x.p):=a1 2 L;have d3:wr.cell? ⟨g0,o+i*5+3,je⟩=N (jc jd x.v):=a1 3 L;have d4:wr.cell? ⟨g0,o+i*5+4,je⟩=N (jc jd x.c):=a1 4 L;have cn:=LZ g.mem c.chg u ba;have Wc:ji (mL (i+1)=mL i++(if x.k=2 then []else [⟨x.d,u,x.v⟩])):=O (by rw[YY];exact cn);have cs:ji (wr.heap[s+1]?=N (jh C 37 (0,0))):=O ((HR.but.block (s+1) (aI Yp) Y).trans Zh);clear bi bB Vk a1 a6 hx ba cn a5
  go_upto_region 26 with fail
  obtain⟨bx,bi⟩:=J wr.heap.size;have a6:=jD wr (jh #[jc jd x.k,jc jd x.d,jc jd x.p,jc jd x.v,jc jd x.c] 55);have d:=ap wr (jh #[jc jd x.k,jc jd x.d,jc jd x.p,jc jd x.v,jc jd x.c] 55);have ZT:ji ((qD H m W).ownBlock≠N bx):=O (eV HR.own (.inl (qS bi.symm)));rw[<-bi]at a6⊢;obtain⟨k0,Zg⟩:=J (wr.alloc (jh #[jc jd x.k,jc jd x.d,jc jd x.p,jc jd x.v,jc jd x.c] 55));rw[<-Zg]at a6 d⊢;have ba:=O (HR.later Yp d);have bB:=ae cs d;have a5:=O a6;clear a6 d Zg bi HR cs d0 d1 d2 d3 d4
  by_cases a6:x.k=2
  ·have hd2:(x.k !=2)=jr:=ak a6
   have e0:k0.cell? ⟨bx,0,je⟩=N (jc jd x.k):=ah a5 I;have VJ:=O a6;clear a6
   go_wp2_with fail
   refine⟨⟨i+1,m,H,W,by go_num,by omega,O ?_,O ?_⟩,?_⟩
   ·rw[Wc,jp VJ.out,qC];exact HM
   ·rw[Wc,jp VJ.out,qC];exact ba
   simp only[jA];omega
  have hd2:(x.k !=2)=jk:=ak a6;have e0:k0.cell? ⟨bx,0,je⟩=N (jc jd x.k):=ah a5 I;have VJ:=O a6;clear a6;have bi:=O ba.box;have cs:ji (((λv=>(aD ⟨B,u,F,[],[]⟩ v (jf S nx U)).toArray) (jf H m W))[34]?=N (jf H m W)):=O (nf ⟨B,u,F,[],[]⟩ _ _ ax.out).1;have bI:ji (((λv=>(aD ⟨B,u,F,[],[]⟩ v (jf S nx U)).toArray) (jf H m W)).size=36):=O (nf ⟨B,u,F,[],[]⟩ _ _ ax.out).2.2
  go_upto_region 27 with fail
  clear e0;refine jW ?_;have b0:=ah bi cs;have b1:=ah (i:=1) a5 I;have b2:=ah bB t.2.1;have b3:=ah (i:=3) a5 I;iterate 9 refine ee ?_
  clear b0 b1 b2 b3;refine jP I λ_ r=>?_
  go_simp;have d:=ap k0 (jh #[jc jd x.d,jc jd u,jc jd x.v] 100);have Uw:=jD k0 (jh #[jc jd x.d,jc jd u,jc jd x.v] 100);obtain⟨k1,hx⟩:=J (k0.alloc (jh #[jc jd x.d,jc jd u,jc jd x.v] 100));have WR:=lA k0 [jc jd x.d,jc jd u,jc jd x.v] 100 (0,0) 3 1 1 I (jG _);replace WR:cH (k0.alloc (jh #[jc jd x.d,jc jd u,jc jd x.v] 100)) (jf (N ⟨k0,0,je⟩) 1 1) 3 1 [jc jd x.d,jc jd u,jc jd x.v]:=WR;rw[<-hx]at WR;have Z8:=O WR;clear WR;rw[<-hx]at d Uw⊢;have a6:=O (ba.later Yp d);have ej:=ae bi d;have e9:=ae a5 d;have cm:=ae bB d;clear ba bi a5 bB;have bB:=O Uw;clear Uw hx d;refine r _ _ ?_;clear r;refine G ?_;refine jP I λ_ r=>?_
  refine LP _ _ I M (jf H m W) m _ I a6.own _ 1 _ I Z8 (by simp[r7]) (by have h1:=ck i;rw[<-HM]at h1;omega) a6.sz' λv' m2 Zs=>?_
  have UD:=Zs.own;obtain⟨pn,cn,rfl⟩:=cO UD;have a5:=lg ej Zs.grown (eV a6.own (.inr Yp));refine r _ _ ?_;replace Zs:=O Zs;have ba:ji (gB M (s+1+1) 29 100 3 (λv=>(aD ⟨B,u,F,[],[]⟩ v (jf S nx U)).toArray) s9 (m2.setCell ⟨s+1+1,34,je⟩ (jf pn (m+1) cn)) (m+1) (jf pn (m+1) cn) (EM.flat (mL (i+1)))):=O (by
   have h:=a6.push (i:=34) Yp Zs (Ve _ _);rw[Wc,jq VJ.out,EK.flat_append,EK.flat_one];exact h)
  clear r UD;refine G ?_;refine ee ?_;refine jP I λ_ r=>?_
  obtain⟨⟨vo,bi⟩,f3,-,-⟩:=ku (i:=34) (jf pn (m+1) cn) a5 (by rw[bI];decide);go_simp;refine r _ _ ?_;clear r bi f3 a5
  go_wp2_with fail
  refine⟨⟨i+1,m+1,pn,cn,by go_num,by omega,O ?_,ba⟩,?_⟩
  ·rw[Wc,jq VJ.out,jH,<-HM];rfl
  simp only[jA];omega
 have hd:=aw ((i:ja)<(nc:ja));have UN:=aw (i<nc);have a5:mL i=fZ g.mem c.chg c.epoch:=by
  rw[YY,bm];dsimp only;unfold fZ;rw[qh (by rw[<-bc];omega)]
 have e0:=O a5;have b1:ji (Fr w.heap.size (jf H m W)):=O ((Fr.of_own HR.own).mono (by rw[Zv];exact VM.size));have UD:=HR.own;have YW:=HM.out;rw[a5]at UD YW;rw[YW]at UD;have Zb:=O UD;have b2:=O YW;have cg:=ah HR.box (nf ⟨B,u,F,[],[]⟩ (jf H m W) (jf S nx U) ax).1;have b3:=O (Hm (ep:=c.epoch) (wm bw) Yo.once);have cn:ji ((fZ g.mem c.chg c.epoch).length<=1000000):=O (by rw[<-a5];have:=ck i;omega);clear a5 UD YW
 go_upto_region 29 with fail
 go_wp2_with fail
 refine(JI (fZ g.mem c.chg c.epoch) b3 M (jf H m W) wr (by rw[b2];exact Zb) HR.sz' cn).mono ?_;rintro e f1 ⟨rfl,Vs,d⟩;have Vt:=O Vs;have e9:=O d;have a6:ji (f1.heap[s+1+1]?=N (jh ((λv=>(aD ⟨B,u,F,[],[]⟩ v (jf S nx U)).toArray) (jf H m W)) 29 (0,0))):=O ((d.block (s+1+1) Yp).trans HR.box);have cs:ji (jo w w f1):=O (VM.trans ((HR.but.below (n:=w.heap.size) (by rw[HG];omega) (dY Yp HG)).trans (d.mono (dY Yp HG))));have ej:ji (∀k,k<s9.heap.size->k≠s+1+1->f1.heap[k]?=s9.heap[k]?):=O (λk hk hn=>(d.block k (by rw[Zv];exact hk)).trans (HR.but.block k (by rw[Zv];exact hk) hn));clear Vs d HR cg hd UN cq;obtain⟨d,hY⟩:=J ((λv=>(aD ⟨B,u,F,[],[]⟩ v (jf S nx U)).toArray) (jf H m W));have ba:d.size=36:=by rw[hY];exact(nf ⟨B,u,F,[],[]⟩ _ _ ax.out).2.2
 have bi:(jl.info? 29).map (·.size)=N d.size:=by rw[ba];kernel_rfl
 have bB:d.all (·.oneCell')=jk:=by
  rw[hY,qc];intro ad hu;simp only[aD,wx,jE,jS,ql,or_false]at hu
  rcases hu with rfl|rfl|hu|rfl|rfl
  ·rfl
  ·rfl
  ·exact iV _ ad hu
  ·rfl
  rfl
 have a5:ji (f1.heap[s+1+1]?=N (jh d 29 (0,0))):=O (by rw[hY];exact a6);have b0:=O hY;have Yq:=O bi;have cq:=O bB;clear hY ba bi bB a6
 go_upto_region 30 with fail
 refine jW ?_;refine eD (v:=jm d) ai (cM jF I Yq I I a5) (G ?_);refine jP I λ_ r=>ms 29 _ _ I (s+1+1) d I I 29 _ a5.out Yq I cq (r _ _ ?_)
 clear r;refine G ?_;refine ee ?_;rename_i KR Zp XR;refine Zp _ _ ?_;refine wp_ret ?_;show pz _ _ P .ret _ _;refine ob (fP I _ _ (s+1+1) 29 d (0,0) _ I (j4 _ _ _ _ _ _ a5.out) jF I Yq) I (HP _ _ ⟨λ_=>⟨jf H m W,jf S nx U,?_,cu _ _ _ ?_ ?_,b1,ec⟩,λh=>jB ed h,oj cs.out (by rw[HG];omega) _⟩)
 ·rw[b0]
  have h1:(λv=>(aD ⟨B,u,F,[],[]⟩ v (jf S nx U)).toArray) (jf H m W)=(aD NG (jf H m W) (jf S nx U)).toArray:=by
   show(aD ⟨B,u,F,[],[]⟩ _ _).toArray=_;rw[bv,bm];exact jT List.toArray (ct F bn _ _)
  exact jT (λz=>Ending.returned (j0 #[jm z,jc jd 0])) h1
 ·rw[rx a5]
  exact Vt
 have h2:(f1.setRow (s+1+1) d).heap[s+1+1]?=N (jh ((λv=>(aD ⟨B,u,F,[],[]⟩ v (jf S nx U)).toArray) (jf H m W)) 29 (0,0)):=(j4 f1 (s+1+1) d _ _ _ a5.out).trans (jT (λz=>N (Obj.cells z 29 (0,0))) b0);have h3:bJ (f1.setRow (s+1+1) d) (jf S nx U) (gr (aX g.tree c.chg) au c.path):=cc.ints (uM (i:=34) (X:=(λv=>(aD ⟨B,u,F,[],[]⟩ v (jf S nx U)).toArray) (jf je 0 0)) ZZ h2 (λj hj=>Nq ⟨B,u,F,[],[]⟩ _ _ _ ax.out j hj) (nf ⟨B,u,F,[],[]⟩ _ _ ax.out).1 (λk hk hn=>(qv _ _ _ _ hn).trans (ej k hk hn)));rw[a4]at h3;exact h3
section
open Go.RowKit Go.Maps Go.Sort Go.Shelf
theorem R9(c B:js jb)(a b:ja)(f:c[106]?=N (jc jd a))(g:B[106]?=N (jc jd b))(w:jg):
 jy jl 171 #[jm c,jm B] w λe w'=>e=jv (jc jd (cE a b))/\w'=(w.alloc (jh c 110)).alloc (jh B 110):=by
 have d:=O (tO a b)
 go_enter func171,ntmps171
 go_wp2_with fail
 refine(d _).mono ?_;rintro e h ⟨rfl,rfl⟩
 go_wp2_with fail
 go_ret;exact⟨I,I⟩
theorem JB(c B:js jb)(a b:ja)(f:c[35]?=N (jc jd a))(g:B[35]?=N (jc jd b))(w:jg):
 jy jl 172 #[jm c,jm B] w λe w'=>e=jv (jc jd (cE a b))/\w'=(w.alloc (jh c 110)).alloc (jh B 110):=by
 have d:=O (tO a b)
 go_enter func172,ntmps172
 go_wp2_with fail
 refine(d _).mono ?_;rintro e h ⟨rfl,rfl⟩
 go_wp2_with fail
 go_ret;exact⟨I,I⟩
theorem Lj(c B:js jb)(a b:LBy)(k:a.length=32)(lb:b.length=32)(h:∀(j:T) v,(a.map v8)[j]?=N v->c[74+j]?=N v)(i:∀(j:T) v,(b.map v8)[j]?=N v->B[74+j]?=N v)(w:jg):
 jy jl 173 #[jm c,jm B] w λe w'=>e=jv (jc jd (dE a b))/\∃q,w'=((w.alloc (jh c 110)).alloc (jh B 110)).drewN q:=by
 obtain⟨d,f⟩:=J ((w.alloc (jh c 110)).alloc (jh B 110));have n:=O h;have o:=O i;have g:=O f;rw[<-f];clear h i f;have p:ji (∀W,W=d.drew->W.rangeAt w.heap.size 74 (a.map v8)):=O (by
  rintro W rfl j v f;rw[g];exact(World.cell?_alloc2_first c _ _ _).trans (n j v f))
 have r:ji (∀W,W=d.drew->W.rangeAt (w.heap.size+1) 74 (b.map v8)):=O (by
  rintro W rfl j v f;rw[g];exact(World.cell?_alloc2_new _ B _ _).trans (o j v f))
 go_enter func173,ntmps173
 go_upto_region 1 with fail
 rw[<-g];refine p6 ?_;refine dj (λ_=>True) (.t 0 (.t 1 (.t 2 (.t 3 (.o 4 (.t 5 .done)))))) af af af L (λ_ _ _ _ h=>h) trivial ?_;obtain⟨i,f⟩:=J d.drew;rw[<-f];have h:=O f;clear f;iterate 4 refine aK ?_
 refine aE I (λj f=>?_);go_simp;refine(P7 (l:=a) (m:=b) (p i h) (r i h) 32 32 32 32 k.symm lb.symm).mono ?_;rintro e j ⟨rfl,rfl⟩;refine f _ _ trivial λ_=>?_
 clear f;refine G ?_;refine aK ?_;refine qu ?_
 go_wp2_with fail
 go_ret;exact⟨I,1,h⟩
def pC(r:T->ja):ja:=if r 0≠0 then r 0 else if r 1≠0 then r 1 else r 2
theorem OV{r:T->ja}(b:M<3)(h:∀j,j<M->r j=0)(a:r M≠0):pC r=r M:=by
 unfold pC
 rcases(by omega:M=0\/M=1\/M=2)with rfl|rfl|rfl
 ·rw[jp a]
 ·rw[jq (by rw[h 0 L];decide),jp a]
 rw[jq (by rw[h 0 L];decide),jq (by rw[h 1 L];decide)]
theorem Tq{r:T->ja}(h:∀j,j<3->r j=0):pC r=0:=by
 unfold pC;rw[jq (by rw[h 0 L];decide),jq (by rw[h 1 L];decide),h 2 L]
theorem Grw.cell(h:Grw w w'){a:jN}{v:jb}(b:w.cell? a=N v):w'.cell? a=N v:=(dV (h.heap (gg b))).trans b
theorem KM(a B:js jb)(j:a.size=143)(m:B.size=143)(F:T->T)(r:T->ja)(n:∀k,k<3->∀args w,(sa (F k) args).run jl w=.ok (.enter (F k) args) w)
 (o:∀k,k<3->∀W,jy jl (F k) #[jm a,jm B] W λe w'=>e=jv (jc jd (r k))/\Grw W w') (w:jg) (p l:T)
 (q:w.cell? ⟨p,0,je⟩=N (jf (N ⟨l,0,je⟩) 3 3)) (s:∀k,k<3->w.cell? ⟨l,k,je⟩=N (.func (.func (F k)) #[] #[])):
 jy jl 226 #[jm a,jm B,jI (N ⟨p,0,je⟩)] w λe w'=>e=jv (jc jd (pC r))/\Grw w w':=by
 have i:(jl.info? 110).map (·.size)=N 143:=by kernel_rfl
 have E:ji ((jl.info? 110).map (·.size)=N a.size):=O (by rw[j];exact i);have H:ji ((jl.info? 110).map (·.size)=N B.size):=O (by rw[m];exact i);obtain⟨c,b⟩:=J ((w.alloc (jh a 110)).alloc (jh B 110));obtain⟨g,d⟩:=J w.heap.size;have f:Grw w c:=by rw[b];exact(Grw.alloc _ _).trans (Grw.alloc _ _)
 have t:c.heap[g]?=N (jh a 110 (0,0)):=by rw[b,d];exact av (jD w _) (ap _ _)
 have u:c.heap[g+1]?=N (jh B 110 (0,0)):=by
  have h:=jD (w.alloc (jh a 110)) (jh B 110);rw[jK]at h;rw[b,d];exact h
 have z:=f.cell q;have K:ji (∀k,k<3->c.cell? ⟨l,k,je⟩=N (.func (.func (F k)) #[] #[])):=O λk v=>f.cell (s k v)
 have x:=O f;have M:=O t;have P:=O u;have y:=O (And.intro b d);have Q:=O n;have R:=O o;clear j m i b d f t u n o q s
 go_enter func226,ntmps226
 go_upto_region 1 with fail
 rw[<-y.1,<-y.2]
 go_wp2_with fail
 clear z
 go_loopw [11] (λi wr=>∃k:T,i=jc jd k/\k<=3/\ji (∀j,j<k->r j=0)/\ji (Grw c wr)) (λi _=>3-(jA i).toNat)
 case atStart=>exact⟨0,I,by omega,O (λj q=>jB q (qT j)),O (Grw.refl _)⟩
 obtain⟨k,rfl,v,m,d⟩:=hrel
 by_cases i:k<3
 case neg=>
  have S:=aw ((k:ja)<3);have U:=aw (k<3);obtain rfl:k=3:=Y;have b:=O (Tq m)
  go_wp2_with fail
  go_ret;exact⟨by rw[b];rfl,x.trans d⟩
 have S:=az ((k:ja)<3);have U:=az (k<3);have s:=d.cell (K k i);have t:=Q k i;have b:=O (R k i);have u:ji (wr.heap[g]?=N (jh a 110 (0,0))):=O (d.keep M);have z:ji (wr.heap[g+1]?=N (jh B 110 (0,0))):=O (d.keep P);have C:ji (r k≠0->pC r=r k):=O (OV i m);obtain⟨n,o⟩:=J (r k);obtain⟨f,D⟩:=J (F k);rw[<-D]at s t b;rw[<-o]at b C;have V:=O o;clear D o
 go_wp2_with (first|(refine eD ai (cM q7 I E I I u) (G ?_))|(refine eD ai (cM q7 I H I I z) (G ?_)))
 refine(b wr).mono ?_;rintro e W ⟨rfl,o⟩;have D:=O (d.trans o);clear o s t b u z
 by_cases b:n=0
 case neg=>
  have o:(n !=0)=jk:=ak b;have s:=O (C b);clear b
  go_wp2_with fail
  go_ret;exact⟨by rw[s];rfl,x.trans D⟩
 have o:(n !=0)=jr:=ak b;have s:ji (∀j,j<k+1->r j=0):=O λj q=>by
  rcases(by omega:j<k\/j=k)with h|rfl
  ·exact m j h
  rw[<-V];exact b
 clear b
 go_wp2_with fail
 exact⟨⟨k+1,by go_num,by omega,s,D⟩,by simp only[jA];omega⟩
end
section
open Go.RowKit Go.Maps Go.Sort Go.Shelf
def Dj:T->T
 |0=>171
 |1=>172
 |_=>173
structure lz(w:jg)(b a:T):Prop where
 var:w.cell? ⟨b,0,je⟩=N (jf (N ⟨a,0,je⟩) 3 3)
 fns:∀k,k<3->w.cell? ⟨a,k,je⟩=N (.func (.func (Dj k)) #[] #[])
theorem lz.below{a b:T}(h:lz w a b)(c:jo w w w'):lz w' a b:=⟨aC h.var c,λk d=>aC (h.fns k d) c⟩
theorem lz.lt(h:lz w M R):M<w.heap.size/\R<w.heap.size:=⟨gg h.var,gg (h.fns 0 L)⟩
theorem Sl(p:jw jN)(n c:T)(w:jg):jy jl 170 #[jf p n c] w λe w'=>e=jv (.func (.func 226) #[] #[jI (N ⟨w,0,je⟩)])/\w'=w.alloc (jh #[jf p n c] 321):=by
 go_enter func170,ntmps170
 go_wp2_with fail
 go_ret;exact⟨I,I⟩
theorem M9(w:jg):jy jl 119 #[] w λe w'=>∃d h,e=jv (.func (.func 226) #[] #[jI (N ⟨d,0,je⟩)])/\lz w' d h/\w.heap.size<=d/\w.heap.size<=h/\jo w w w':=by
 go_enter func119,ntmps119
 go_wp2_with fail
 refine(Sl _ _ _ _).mono ?_;rintro e m ⟨rfl,rfl⟩;obtain⟨a,f⟩:∃a:Obj,a=(jh #[.func (.func 171) #[] #[],.func (.func 172) #[] #[],.func (.func 173) #[] #[]] 191):=⟨_,I⟩;have b:=av (jD w a) (ap _ (jh #[jf (N ⟨w,0,je⟩) 3 3] 321));have c:=jD (w.alloc a) (jh #[jf (N ⟨w,0,je⟩) 3 3] 321);have g:=(ap w a).trans ((ap (w.alloc a) (jh #[jf (N ⟨w,0,je⟩) 3 3] 321)).mono ao);rw[<-f];generalize i:(w.alloc a).alloc (jh #[jf (N ⟨w,0,je⟩) 3 3] 321)=W at b c g⊢;rw[f]at b;rw[jK]at c;have j:ji (lz W (w.heap.size+1) w.heap.size):=O ⟨ah c I,λk n=>ah b (by rcases(by omega:k=0\/k=1\/k=2)with rfl|rfl|rfl<;>rfl)⟩;have l:=O g;clear b c g i f
 go_wp2_with fail
 go_ret;exact⟨_,_,I,j,by omega,jG _,l⟩
def D2(x y:aR):T->ja
 |0=>cE x.since y.since
 |1=>cE x.com.author y.com.author
 |_=>dE x.id y.id
theorem KE(x y:aR):pC (D2 x y)=iE x y:=I
theorem OM{x y:CK}{c:A CP}(d:KD D c w x)(f:KD D c w y)(m:cF w a c){g n:T}(o:lz W g n):
 jy jl 226 (#[jm (aL x).toArray,jm (aL y).toArray]++ #[jI (N ⟨g,0,je⟩)]) W λe w'=>e=jv (jc jd (iE x.cand y.cand))/\∃q os,w'=grow (W.drewN q) os:=by
 have i:=d.kin m;have l:=f.kin m;obtain⟨-,p,-,r,-,-⟩:=mO i;obtain⟨-,s,-,t,-,-⟩:=mO l;rw[<-KE];refine KM (aL x).toArray (aL y).toArray (by rw[jM,i.len]) (by rw[jM,l.len]) Dj (D2 x.cand y.cand) (λk v=>?_) (λk v w0=>?_) W g n o.var o.fns
 ·rcases(by omega:k=0\/k=1\/k=2)with rfl|rfl|rfl
  ·exact sh func171 af I
  ·exact sh func172 af I
  exact sh func173 af I
 rcases(by omega:k=0\/k=1\/k=2)with rfl|rfl|rfl
 ·refine(R9 _ _ x.since y.since (ak r) (ak t) w0).mono ?_
  rintro e w' ⟨rfl,rfl⟩;exact⟨I,(Grw.alloc _ _).trans (Grw.alloc _ _)⟩
 ·refine(JB _ _ x.p.1.author y.p.1.author (ak p) (ak s) w0).mono ?_
  rintro e w' ⟨rfl,rfl⟩;exact⟨I,(Grw.alloc _ _).trans (Grw.alloc _ _)⟩
 refine(Lj _ _ x.id y.id d.idl f.idl (λj b v=>?_) (λj b v=>?_) w0).mono ?_
 ·have b:=(jV.1 v).1
  rw[ju,d.idl]at b;have h:=BI i b
  simpa using h.trans v
 ·have b:=(jV.1 v).1
  rw[ju,f.idl]at b;have h:=BI l b
  simpa using h.trans v
 rintro e w' ⟨rfl,q,rfl⟩;exact⟨I,((Grw.alloc _ _).trans (Grw.alloc _ _)).trans (Grw.drewN _ _)⟩
end
section
open Go.RowKit Go.Maps Go.Sort Go.Shelf
theorem nD{q:CQ}(h:aT D w p q):∀v∈aF p q,v.oneCell'=jk:=by
 obtain⟨f,g,a⟩:=h.chg.form;obtain⟨i,j,b⟩:=h.path.form;obtain⟨s,k,-⟩:=h.box;obtain⟨l,m,d⟩:=k.form;obtain⟨t,n,-⟩:=h.wel;obtain⟨o,c,e⟩:=n.form;obtain⟨u,x,y,z⟩:=q;dsimp only at a b d e;subst a b d e;have h:=zO p f i l o p.chg.length p.path.length p.box.length p.wel.length g j m c;rw[qc]at h;exact λv r=>h v (ak r)
theorem KD.ones{d:A CP}{k:CK}(h:KD D d w k)(e:cF W a d):∀b∈aL k,b.oneCell'=jk:=by
 intro b v;unfold aL at v;rw[jE,jS,jS,jE]at v
 rcases v with rfl|v|v|rfl|v
 ·rfl
 ·exact nD (e.all _ (j3 h.at_)) b v
 ·exact iu _ b v
 ·rfl
 obtain⟨p,c,f,-,-⟩:=h.grp.grp.mem.form;obtain⟨i,n',j,g⟩:=gu h.grp.grp.tree;rw[f,g]at v;unfold aD at v;rw[jE,jE,jS]at v
 rcases v with rfl|rfl|v|v
 ·rfl
 ·rfl
 ·exact iu _ b v
 simp only[jE,xR,or_false]at v
 rcases v with rfl|rfl<;>rfl
abbrev CW:={k:CK//(aL k).length=143/\∀a∈aL k,a.oneCell'=jk}
def EKK:EK CW:=⟨λk=>aL k.1,143,110,by decide,λk=>k.2.1,λk v a=>k.2.2 v a⟩
theorem Gj(l:A CW):EKK.flat l=(l.map (·.1)).flatMap aL:=by rw[List.flatMap_map];rfl
def KD.cw{D:T->Prop}{a:A CP}{w w0:jg}{v:jb}{k:CK}(h:KD D a w k)(b:cF w0 v a):CW:=⟨k,h.len b,h.ones b⟩
def mm(l:A CW):A CW:=l.mergeSort λx y=>leC x.1.cand y.1.cand
theorem Tf(l:A CW):(mm l).map (λk=>k.1.cand)=(l.map λk=>k.1.cand).mergeSort leC:=
 xS λ_ _ _ _=>rfl
theorem No{l:A CW}{x:CW}:x∈mm l↔x∈l:=(nv _ _).mem_iff
theorem TA(l:A CW):(mm l).length=l.length:=(nv _ _).length_eq
theorem O9(l:A CW)(F:(l.map λk=>k.1.id).Nodup)(p g n c:T)(w W:jg)(h:dw EKK p w W g n c l)(P:n<=1000000){w0:jg}{D:T->Prop}{q:A CP}{v:jb}(d:∀x∈l,KD D q w0 x.1)(H:cF w0 v q)
 {i t:T} (j:lz W i t) (K:i≠g) (M:t≠g):
 jy jl 118 #[jf (N ⟨g,0,je⟩) n c,.func (.func 226) #[] #[jI (N ⟨i,0,je⟩)]] W λe w'=>
  e=jv (j0 #[])/\EKK.At w' (jf (N ⟨g,0,je⟩) n c) (mm l)/\jo p W w'/\W.heap.size<=w'.heap.size/\∀k,k<W.heap.size->k≠g->w'.heap[k]?=W.heap[k]?:=by
 rcases Nat.eq_zero_or_pos n with u|u
 ·subst u
  obtain rfl:l=[]:=xT h.len.symm;refine(Tryzx.sortFunc_noneK _ c _ W).mono ?_;rintro e w' ⟨rfl,rfl⟩;have e:mm []=[]:=by unfold mm;simp
  rw[e];exact⟨I,h.at,nn _ _,jG _,λ_ _ _=>rfl⟩
 have o:l≠[]:=λe=>by have:=h.len;rw[e]at this;simp at this;omega
 haveI:Inhabited {x//x∈l}:=⟨⟨l.head o,List.head_mem o⟩⟩
 have B:=Tl.on (λx:{x//x∈l}=>x.1.1.cand);have C:=AnyQ.slices_SortFunc_total (α:={x//x∈l}) Tryzx.laysK 143 isAgg110 sizeOf110 (λx=>EKK.cells x.1) (λx=>EKK.len x.1) (λx v a=>EKK.one x.1 v a) (λx y=>iE x.1.1.cand y.1.1.cand) B.swo 226 #[jI (N ⟨i,0,je⟩)] g 0 c l.attach.toArray W
  (sh func226 af rfl)
  (λm os a _ x y=>OM (d x.1 x.2) (d y.1 y.2) H ⟨(dV (zV j.lt.1 K)).trans j.var,λk d=>(dV (zV j.lt.2 M)).trans (j.fns k d)⟩)
  h.holds h.lt.2 (by rw[jM,xe,<-h.len];omega)
  (λx y a b=>Subtype.ext (FP F x.1 x.2 y.1 y.2 (by
   have e:=B.tot a b;exact jT (λz=>z.2.2) e)))
 rw[jM,xe,<-h.len]at C;refine C.mono ?_;rintro e w' ⟨rfl,m,os,rfl⟩;have z:((l.attach.mergeSort λx y=> !ltOf (λx y:{x//x∈l}=>iE x.1.1.cand y.1.1.cand) y x).map Subtype.val)=mm l:=by
  refine(xS (r:=λx y:{x//x∈l}=> !ltOf (λx y:{x//x∈l}=>iE x.1.1.cand y.1.1.cand) y x) (s:=λx y:CW=>leC x.1.cand y.1.cand) (f:=Subtype.val) (λa _ b _=>rfl)).trans ?_;rw[xU]
  rfl
 have a:=holdsK_sortWorldK (λx:{x//x∈l}=>EKK.cells x.1) 143 W g 0 m l.attach.toArray (l.attach.mergeSort λx y=> !ltOf (λx y:{x//x∈l}=>iE x.1.1.cand y.1.1.cand) y x).toArray os h.lt.2 h.holds (by simp[(nv _ _).length_eq]);refine⟨I,?_,AR h.lt.1 (cV h.lt),OC,λk d o=>zV d o⟩;rw[<-z];exact Bq (E:=EKK) a (by rw[ju,(nv _ _).length_eq,xe];exact h.len) h.cap
end
section
open Go Go.RowKit Go.Maps
def dgV(d:LBy):jb:=jm (d.map v8).toArray
theorem FL{a b:LBy}(h:dgV a=dgV b):a=b:=by
 unfold dgV at h;injection h with h
 have c:=jT Array.toList h;rw[r8,r8]at c;refine(List.map_inj_right (λx y e=>?_)).1 c;injection e with _ e
 exact xd Y
def ef(w:jg)(b:T)(S:A (LBy)):Prop:=
 ∃a c,w.heap[b]?=N (.map a c)/\a.toList.map MapEntry.key=S.map dgV/\(∀x∈a.toList,x.val=.bool jk)/\∀d∈S,d.length=32
theorem ef.made(w:jg):ef (w.alloc (.map #[] 0)) w.heap.size []:=⟨#[],0,jD _ _,I,ao,ao⟩
theorem ef.keep{w w':jg}{b:T}{S:A (LBy)}(h:ef w b S)(a:w'.heap[b]?=w.heap[b]?):ef w' b S:=by
 obtain⟨c,d,e,f⟩:=h;exact⟨c,d,a.trans e,f⟩
theorem ef.lt{w:jg}{b:T}{S:A (LBy)}(h:ef w b S):b<w.heap.size:=by
 obtain⟨c,d,a,-⟩:=h;exact(jR.1 a).1
theorem ef.below{w w':jg}{b:T}{S:A (LBy)}(h:ef w b S)(a:jo w w w'):ef w' b S:=h.keep (a.block b h.lt)
section
variable {P:qe} {k e t:jt} {w:jg} {b:T} {S:A (LBy)}
structure ri(P:qe)(k:jt):Prop where
 law:WideMaps.KeyLaw P k
 key:∀d:LBy,d.length=32->∃l,keyOf P k (dgV d)=N l
theorem ef.keys(K:ri P k){a:js MapEntry}(c:a.toList.map MapEntry.key=S.map dgV)(f:∀d∈S,d.length=32):∀x∈a.toList,∃l,keyOf P k x.key=N l:=λx d=>by
 have h:x.key∈a.toList.map MapEntry.key:=jz.2 ⟨x,d,I⟩;rw[c]at h;obtain⟨b,g,e⟩:=jz.1 h;rw[<-e];exact K.key b (f b g)
theorem ef.look(h:ef w b S)(K:ri P k)(m:P.underlying t=N (.map k e))(q:(zeroValue e).run P w=.ok (.bool jr) w){d:LBy}(r:d.length=32):
 (Instr.lookup t (.map (N b)) (jm (d.map v8).toArray) jr).run P w=.ok (.bool (decide (d∈S))) w:=by
 show(Instr.lookup t (.map (N b)) (dgV d) jr).run P w=_;obtain⟨n,B,o,a,s,u⟩:=h;obtain⟨l,c⟩:=K.key d r
 rcases K.law.find w c n.toList (ef.keys K a u)with⟨f,g⟩|⟨j,i,f,g,v⟩
 ·have p:d∉S:=λy=>by
   have h:dgV d∈n.toList.map MapEntry.key:=by rw[a];exact jz.2 ⟨d,y,I⟩
   obtain⟨x,z,e⟩:=jz.1 h;exact g x z e
  rw[decide_eq_false p];simp[Instr.lookup,qL m,MapKept.run_getObj_map o,K.law.check w _ c,f,q,Result.andThen]
 have p:=j3 g;have x:d∈S:=by
  have h:i.key∈S.map dgV:=by rw[<-a];exact jz.2 ⟨i,p,I⟩
  obtain⟨z,y,e⟩:=jz.1 h;rw[v]at e;rw[<-FL e];exact y
 rw[xl x];simp[Instr.lookup,qL m,MapKept.run_getObj_map o,K.law.check w _ c,f,s i p,Result.andThen]
theorem ef.put(h:ef w b S)(K:ri P k)(z:P.underlying t=N (.map k e)){d:LBy}(B:d.length=32):
 ∃n,(Instr.mapUpdate t (.map (N b)) (jm (d.map v8).toArray) (.bool jk)).run P w=.ok () n/\ef n b (if d∈S then S else S++[d])/\dx b w.heap.size w n:=by
 show∃n,(Instr.mapUpdate t (.map (N b)) (dgV d) (.bool jk)).run P w=.ok () n/\_;obtain⟨c,s,f,p,C,u⟩:=h;obtain⟨l,q⟩:=K.key d B;have D:∀o,dx b w.heap.size w (ChangeMaps.setBlock w b o):=λo=>⟨I,I,I,by simp[ChangeMaps.setBlock],λg _ H=>ChangeMaps.heap_setBlock_other f o H⟩
 rcases K.law.find w q c.toList (ef.keys K p u)with⟨v,m⟩|⟨j,r,v,m,y⟩
 ·have F:d∉S:=λM=>by
   have h:dgV d∈c.toList.map MapEntry.key:=by rw[p];exact jz.2 ⟨d,M,I⟩
   obtain⟨x,a,e⟩:=jz.1 h;exact m x a e
  refine⟨ChangeMaps.setBlock w b (.map (c.push ⟨dgV d,.bool jk,s⟩) (s+1)),?_,?_,D _⟩
  ·simp[Instr.mapUpdate,qL z,MapKept.run_getObj_map f,K.law.check w jr q,v,MapKept.run_setObj_map _ f,Result.andThen,ChangeMaps.setBlock]
  rw[jq F];refine⟨_,_,ChangeMaps.heap_setBlock_same f _,?_,?_,?_⟩
  ·rw[xV,j5,j5,p];rfl
  ·intro x a
   rw[xV,jS,qk]at a
   rcases a with a|rfl
   ·exact C x a
   rfl
  intro E i;rw[jS,qk]at i
  rcases i with i|rfl
  ·exact u E i
  exact B
 have M:=j3 m;have Q:c[j]?=N r:=ak m;have R:d∈S:=by
  have h:r.key∈S.map dgV:=by rw[<-p];exact jz.2 ⟨r,M,I⟩
  obtain⟨E,i,e⟩:=jz.1 h;rw[y]at e;rw[<-FL e];exact i
 have E:(c.modify j (λi=>{i with key:=dgV d,val:=.bool jk})).toList=c.toList.set j {r with key:=dgV d,val:=.bool jk}:=by rw[Array.toList_modify,ChangeMaps.modify_eq_set _ _ _ _ m]
 refine⟨ChangeMaps.setBlock w b (.map (c.modify j (λi=>{i with key:=dgV d,val:=.bool jk})) s),?_,?_,D _⟩
 ·simp[Instr.mapUpdate,qL z,MapKept.run_getObj_map f,K.law.check w jr q,v,Q,y,K.law.stays w q,MapKept.run_setObj_map _ f,Result.andThen,ChangeMaps.setBlock]
 rw[jp R];refine⟨_,_,ChangeMaps.heap_setBlock_same f _,?_,?_,u⟩
 ·rw[E,List.map_set,<-p]
  refine wi λi=>?_
  by_cases F:i=j
  ·subst F
   have U:=(jV.1 m).1;rw[xr (ak U),qa,m,q8,y]
  rw[List.getElem?_set_ne (Ne.symm F)]
 intro x a;rw[E]at a
 rcases List.mem_or_eq_of_mem_set a with a|rfl
 ·exact C x a
 rfl
end
end
section
open Go Go.RowKit Go.Maps
theorem N9{P:qe}{t:jt}{n:T}{k:IntKind}(f:P.underlying t=N (.array n e))(he:P.underlying e=N (.int k))(h:P.cellsOf t=n)(j:P.cellsOf e=1)(m:T)(b:A ja)(d:b.length=n)(o:∀c∈b,(Lit.int k c).wf=jk):
 P.keyLits (m+2) t (b.map (jj k))=N (b.map (Lit.int k)):=by
 have p:∀i∈n0 n,P.keyLits (m+1) e (((b.map (jj k)).drop (i*1)).take 1)=N [Lit.int k (b.getD i 0)]:=λi c=>by
  have a:i<b.length:=by rw[d];exact r5.1 c
  have l:((b.map (jj k)).drop (i*1)).take 1=[jj k b[i]]:=by
   rw[Nat.mul_one,<-List.map_drop,<-List.map_take,o1 a,xD,vi,jX,qw]
  have q:b.getD i 0=b[i]:=by simp[qt,a]
  rw[l,q];unfold Program.keyLits;rw[he];simp[o _ (rn a)]
 unfold Program.keyLits;rw[f];simp only[ju,d,h,j,if_true];rw[Bc (g:=λi=>[Lit.int k (b.getD i 0)]) _ p];simp only[q8,q9.injEq];have q:∀(l:A T),(l.map λi=>[Lit.int k (b.getD i 0)]).flatten=l.map λi=>Lit.int k (b.getD i 0):=λl=>by
  induction l with
  |nil=>rfl
  |cons a l r=>rw[jX,xI,r];rfl
 rw[q]
 apply wi
 intro i;rw[qa,qa]
 by_cases c:i<n
 ·rw[List.getElem?_range c,j9 Y]
  have:i<b.length:=Y;simp[qt,this]
 rw[wq (by simp;omega),wq Y]
 rfl
theorem vu:ri jl 23 where
 law:=deep_law (m:=2) L af af af
 key:=λd a=>by
  have f:=N9 (P:=jl) (t:=23) (e:=5) (n:=32) (k:=.u8) qd xj af af (jl.types.size-1) (d.map λb=>(b.toNat:ja)) (by rw[ju];exact a) (by
   intro c g;obtain⟨y,-,rfl⟩:=jz.1 g;have:=y.isLt;exact WalkArith.wf_u8 Y)
  have c:jl.types.size-1+2=jl.types.size+1:=by kernel_rfl
  have e:(d.map λb=>(b.toNat:ja)).map (jj .u8)=d.map v8:=by rw[ow];rfl
  rw[c,e]at f;have g:(jl.keyType 23&&(dgV d).formed jl 23)=jk:=by
   rw[xA];refine⟨by kernel_rfl,?_⟩;unfold Value.formed dgV;rw[qd];simp[a]
   kernel_rfl
  refine⟨.string (keyBytes ((d.map λb=>(b.toNat:ja)).map (Lit.int .u8))),?_⟩;unfold keyOf;rw[qd];dsimp only;rw[jp g];show((jl.keyLits (jl.types.size+1) 23 (d.map v8).toArray.toList).map λb=>Lit.string (keyBytes b))=_;rw[r8,f]
  rfl
end
section
variable{f:jb}
noncomputable def VC:VarT jl:=⟨37,73,(aF mR nK).toArray,_,qY,I,mT,by rw[jM];exact dl _ _ L L,λ_=>by kernel_rfl⟩
noncomputable def VD:VarT jl:=⟨23,32,(qy 32 (jj .u8 0)).toArray,_,qd,I,vA,by simp,λ_=>by kernel_rfl⟩
noncomputable def VP:VarT jl:=⟨114,3,#[jf je 0 0,jf je 0 0,jf je 0 0],_,underlying114,I,by kernel_rfl,rfl,λ_=>by kernel_rfl⟩
noncomputable def RI:eC jl:=.of 31 3 1 8 (jc jd 0) xk af I L L L
noncomputable def RD:eC jl:=.of 112 23 32 32 (jm (qy 32 (jj .u8 0)).toArray) underlying112 af (by simp[qH]) L L L
theorem cX(W:jg)(C:js jb)(t:jt):∃x b,x=W.alloc (jh C t)/\b=W.heap.size/\ji (x.heap[b]?=N (jh C t (0,0)))/\jo W W x:=⟨_,_,I,I,jD W _,ap W _⟩
def gq(l:A Cmt)(n:T):A (LBy):=(bV l n).map λi=>aG (aQ l i)
theorem AO{l:A Cmt}{d:LBy}:∀{n:T},d∈gq l n↔∃i,i<n/\aG (aQ l i)=d
 |0=>by
  unfold gq bV;simp
 |n+1=>by
  have a:=AO (l:=l) (d:=d) (n:=n);unfold gq at a⊢;rw[mP,j5,jS,a]
  constructor
  ·rintro(⟨i,b,e⟩|h)
   ·exact⟨i,by omega,e⟩
   split at h
   ·rw[jX,qw,qk]at h
    exact⟨n,by omega,h.symm⟩
   cases h
  rintro⟨i,b,e⟩
  by_cases c:i<n
  ·exact .inl ⟨i,c,e⟩
  obtain rfl:i=n:=Y
  by_cases h:∀j,j<i->aG (aQ l j)≠aG (aQ l i)
  ·right
   rw[jp h];simp[e]
  left
  have⟨j,hj⟩:=Classical.not_forall.1 h;have⟨h1,h2⟩:=Classical.not_imp.1 hj;exact⟨j,h1,(Classical.not_not.1 h2).trans e⟩
theorem Cw{l:A Cmt}{n:T}(h:aG (aQ l n)∉gq l n):bV l (n+1)=bV l n++[n]:=by
 rw[mP,jp λj a e=>h (AO.2 ⟨j,a,e⟩)]
theorem Hv{l:A Cmt}{n:T}(h:aG (aQ l n)∈gq l n):bV l (n+1)=bV l n:=by
 rw[mP,jq,qC];intro a;obtain⟨j,b,e⟩:=AO.1 h;exact a j b e
theorem BN(l:A Cmt)(n:T):(if aG (aQ l n)∈gq l n then gq l n else gq l n++[aG (aQ l n)])=gq l (n+1):=by
 by_cases h:aG (aQ l n)∈gq l n
 ·rw[jp h];unfold gq;rw[Hv h]
 rw[jq h];unfold gq;rw[Cw h,j5];rfl
theorem rZ(l:A Cmt)(n:T):(bV l n).length<=n:=by
 unfold bV;exact jJ (qU _ _) ao
def kf(l:A Cmt)(P:A T):A jb:=P.flatMap λi=>(aG (aQ l i)).map v8
def iX(P:A T):A jb:=P.map λi=>jc jd (i:T)
structure iw(D:T->Prop)(w:jg)(b c d:jb)(a:A CP):Prop where
 list:cF w b a
 ids:aH D w c 32 (bV (a.map (·.1)) a.length).length (kf (a.map (·.1)) (bV (a.map (·.1)) a.length))
 at_:aH D w d 1 (bV (a.map (·.1)) a.length).length (iX (bV (a.map (·.1)) a.length))
structure PSt(M b m:T)(f:jb)(l:A Cmt)(i j:T)(k:T)(a c:jw jN)(d e:T)(W:jg):Prop where
 box:W.heap[b]?=N (jh #[f,jf a k d,jf c k e] 114 (0,0))
 ids:W.ownsRow M RD.e RD.k (jf a k d) k (kf l (bV l i))
 at_:W.ownsRow M RI.e RI.k (jf c k e) k (iX (bV l i))
 map:ef W m (gq l j)
 len:k=(bV l i).length
 lb:M<=b
 lm:M<=m
theorem PSt.below{M b m:T}{c:jb}{l:A Cmt}{i j k:T}{d e:jw jN}{f g:T}{W n:jg}(h:PSt M b m c l i j k d e f g W)(a:jo W W n):PSt M b m c l i j k d e f g n:=
 ⟨av h.box a,cP h.ids a,cP h.at_ a,h.map.below a,h.len,h.lb,h.lm⟩
theorem Bf{W:jg}{M:T}{e:jt}{sz n:T}{xs:A jb}(h:W.ownsRow M e sz f n xs){g:T}(a:f.ownBlock=N g):∃b,W.heap[g]?=N (jh b e (0,0)):=by
 rcases h.2 with⟨c,-⟩|⟨g',v,b,c,i,d,-⟩
 ·rw[c]at a;cases a
 rw[c]at a;cases a;exact⟨b,d⟩
theorem cQ{W:jg}{M:T}{e t:jt}{sz n:T}{xs:A jb}(h:W.ownsRow M e sz f n xs){b:T}{c:js jb}{d:T×T}(v:W.heap[b]?=N (jh c t d))(g:e≠t):f.ownBlock≠N b:=λi=>by
 obtain⟨j,a⟩:=Bf h i;rw[v]at a;injection a with a
 injection a with _ a
 exact g a.symm
theorem AQ{W:jg}{M b:T}{e t:jt}{sz n c n':T}{a:jb}{xs ys:A jb}(h:W.ownsRow M e sz f n xs)(d:W.ownsRow b t c a n' ys)(v:e≠t):∀k,f.ownBlock=N k->a.ownBlock≠N k:=λk g i=>by
 obtain⟨l,j⟩:=Bf d i;exact cQ h j v g
theorem uF{W:jg}{M:T}{e:jt}{sz n:T}{xs:A jb}(h:W.ownsRow M e sz f n xs){b:T}{S:A (LBy)}(c:ef W b S):f.ownBlock≠N b:=λd=>by
 obtain⟨g,a⟩:=Bf h d;obtain⟨i,j,v,-⟩:=c;rw[v]at a
 cases a
theorem PSt.put{M b m:T}{l:A Cmt}{i j k:T}{n o:jw jN}{p q:T}{W c:jg}(h:PSt M b m f l i j k n o p q W){r:T}(s:ef c m (gq l r))(d:dx m W.heap.size W c):PSt M b m f l i r k n o p q c:=by
 have t:b≠m:=λe=>by
  obtain⟨u,v,g,-⟩:=h.map;have a:=h.box;rw[e,g]at a
  cases a
 exact⟨(d.block b (jR.1 h.box).1 t).trans h.box,iF h.ids (λg a=>d.block g (h.ids.lt g a).2 λe=>uF h.ids h.map (e▸a)),
  iF h.at_ (λg a=>d.block g (h.at_.lt g a).2 λe=>uF h.at_ h.map (e▸a)),s,h.len,h.lb,h.lm⟩
theorem PSt.old{M b m:T}{l:A Cmt}{i k:T}{d h:jw jN}{a g:T}{W:jg}(c:PSt M b m f l i i k d h a g W)(j:aG (aQ l i)∈gq l i):PSt M b m f l (i+1) i k d h a g W:=by
 have e:=Hv j;exact⟨c.box,by rw[e];exact c.ids,by rw[e];exact c.at_,c.map,by rw[e];exact c.len,c.lb,c.lm⟩
section
variable {P:qe} {ops:js jO} {Q:Exit->Act->jg->Prop} {k e t:jt} {w:jg} {b:T} {S:A (LBy)} {o:jO} {rest:A jO} {a:Act}
theorem H7(h:ef w b S)(K:ri P k)(f:P.underlying t=N (.map k e))(g:(zeroValue e).run P w=.ok (.bool jr) w){d:LBy}(i:d.length=32){c:js jb}(j:c=(d.map v8).toArray)
 (l:o.guard=je) (m x:jY) (n:o.op=Op.lookup t m x jr) (p:a.eval m=.map (N b)) (q:a.eval x=jm c) (r:j8 P ops Q rest (a.put o.dst (.bool (decide (d∈S)))) w):j8 P ops Q (o::rest) a w:=by
 subst j;refine jP l λv s=>?_
 have u:=h.look K f g i;unfold Oper.wp;simp[o8,n,p,q,u,Result.andThen];exact s _ _ r
theorem C6(h:ef w b S)(K:ri P k)(f:P.underlying t=N (.map k e)){d:LBy}(g:d.length=32){c:js jb}(i:c=(d.map v8).toArray)
 (j:o.guard=je) (m x v:jY) (l:o.op=Op.mapUpdate t m x v) (n:a.eval m=.map (N b)) (p:a.eval x=jm c) (q:a.eval v=.bool jk)
 (r:∀w',ef w' b (if d∈S then S else S++[d])->dx b w.heap.size w w'->j8 P ops Q rest (a.put o.dst qg) w'):j8 P ops Q (o::rest) a w:=by
 subst i;refine jP j λB s=>?_
 obtain⟨w',u,y,z⟩:=h.put K f g;unfold Oper.wp;simp[o8,l,n,p,q,u,Result.andThen];exact s _ _ (r w' y z)
end
theorem pX(s:A CP)(X:jb)(w:jg)(a:cF w X s)(c:∀p∈s,cT (aP p.1))(h:bS w)(hn:s.length<=1000):
 jy jl 47 #[X] w λe w'=>∃v2 v3,e=jv (jm #[X,v2,v3])/\iw (λg=>w.heap.size<=g/\g<w'.heap.size) w' X v2 v3 s/\jo w w w':=by
 obtain⟨t,f,rfl⟩:=a.form;obtain⟨l,hl⟩:∃l:A Cmt,l=s.map (·.1):=⟨_,I⟩;obtain⟨n,b⟩:=J s.length;have HL:=O a;have HE:=O c;have HT:=O h;have a1:=O hl;have Zx:=O b;obtain⟨M,d⟩:=J w.heap.size;have u:=O d;rw[<-b]at hn⊢;have k:=ap w (jh #[jf je 0 0,jf je 0 0,jf je 0 0] 114);clear a c h hl b;have m:=@run_makeMap jl;have i:ji (∀W,W=((w.alloc (jh #[jf t n f,jf je 0 0,jf je 0 0] 114)).alloc (.map #[] 0))->PSt M M (M+1) (jf t n f) l 0 0 0 je je 0 0 W/\jo w w W):=O (by
  rintro W rfl;have a:=jD w (jh #[jf t n f,jf je 0 0,jf je 0 0] 114);have b:=ap w (jh #[jf t n f,jf je 0 0,jf je 0 0] 114);have c:=ap (w.alloc (jh #[jf t n f,jf je 0 0,jf je 0 0] 114)) (.map #[] 0);have j:=ef.made (w.alloc (jh #[jf t n f,jf je 0 0,jf je 0 0] 114));rw[jK]at j;rw[u];refine⟨⟨av a c,qJ _ _ _ _,qJ _ _ _ _,j,I,jG _,Nat.le_succ _⟩,b.trans (c.mono b.size)⟩)
 go_enter func47,ntmps47
 go_wp2_with fail
 obtain⟨b,c⟩:=i _ I;rw[<-u];clear d;generalize((w.alloc (jh #[jf t n f,jf je 0 0,jf je 0 0] 114)).alloc (.map #[] 0))=W0 at b c⊢;have Wb:=O b;have Us:=O c;clear b c i m k
 go_loopw [12] (λv wr=>∃(i k:T) (x z:jw jN) (y B:T),v=jc jd i/\i<=n/\ji (PSt M M (M+1) (jf t n f) l i i k x z y B wr)/\ji (jo w w wr)) (λv _=>n-(jA v).toNat)
 case atStart=>exact⟨0,0,je,je,0,0,I,mz _,Wb,Us⟩
 obtain⟨i,k,x,z,y,B,rfl,hi,b,d⟩:=hrel
 by_cases ba:i<n
 case neg=>
  have hd:=aw ((i:ja)<(n:ja));have UN:=aw (i<n);obtain rfl:i=n:=Y;have c:=O b.box;have j:k=(bV (s.map (·.1)) s.length).length:=by rw[b.len,a1,Zx]
  have o:ji (iw (λg=>w.heap.size<=g/\g<wr.heap.size) wr (jf t i f) (jf x k y) (jf z k B) s):=O (by
   have a:=aH.of_own b.ids (λg S=>b.ids.lt g S);have m:=aH.of_own b.at_ (λg S=>b.at_.lt g S);rw[a1,Zx,u,j]at a m;refine⟨?_,?_,?_⟩
   ·rw[Zx];exact HL.below d
   ·rw[j];exact a
   rw[j];exact m)
  clear j
  go_wp2_with (first|(refine VP.loadA ai I I _ I c (G ?_))|(refine VP.store I I I #[jf t i f,jf x k y,jf z k B] I I (by simp[r7]) c I ?_;rw[setRow_self _ _ _ _ _ c.out];refine G ?_))
  refine bodyPost_ret (results_cell_row I _ _ M 114 _ (0,0) _ I c underlying114 I af) I ?_;exact⟨_,_,I,o,d⟩
 have hd:=az ((i:ja)<(n:ja));have UN:=az (i<n);obtain⟨⟨c,q⟩,a⟩:∃p,s[i]?=N p:=⟨_,j9 (by rw[<-Zx];exact ba)⟩;obtain⟨g,o,bd,e1,S,-,-,D⟩:=HL.elem a;injection e1 with e1 _ e3
 subst e1;subst e3;have r:=j3 a;have HQ:=O (HL.all _ r);have bb:=O (HE _ r);have W:ji (aQ l i=c):=O (by unfold aQ;rw[a1];simp[qt,a]);have K:ji (wr.rangeAt g (o+i*73) (aF c q)):=O λj aa hj=>aC (D j aa hj) d
 have Vx:ji ((aF c q).length=VC.n):=O (dl c q HQ.plen HQ.clen);obtain⟨C,m⟩:=J ((aF c q).toArray);have Yy:=O m;have VE:ji (C.size=VC.n):=O (by rw[m,jM];exact Vx);have UM:ji (C.all (·.oneCell')=jk):=O (by
  rw[m,qc];exact λaa H=>nD HQ aa (ak H))
 clear m r a D S
 go_upto_region 6 with(first|(refine VC.load ai I I (aF c q) Vx K ?_;rw[<-Yy];refine G ?_)|(refine VC.made I I (G ?_))|(refine VC.first I I I C I VE UM (G ?_)))
 obtain⟨x1,bf,D,F,P,a⟩:=cX wr C VC.t;rw[<-D,<-F];replace b:=O (b.below a);replace d:=aj d a;obtain⟨r,h⟩:=J (((aG c).map v8).toArray);have m:=pY c q x1 ((HQ.below d)) bb (HT.below d);rw[<-h,<-Yy]at m;replace m:=O m;have ad:=O h;have V:ji (r.size=VD.n):=O (by rw[h,jM,ju,dS];rfl);have Vp:ji (r.all (·.oneCell')=jk):=O (by rw[h];exact ff _);clear D F a h K
 go_upto_region 7 with(first|(refine VC.loadA ai I I C VE P (G ?_)))
 refine m.mono ?_;rintro e x2 ⟨rfl,a⟩;replace b:=O (b.below a);replace d:=aj d a;clear a P m
 go_upto_region 7 with(first|(refine VD.made I I (G ?_))|(refine VD.first I I I r I V Vp (G ?_)))
 obtain⟨x3,P,D,F,m,a⟩:=cX x2 r VD.t;rw[<-D,<-F];have ZX:ji (∀g,(qD x k y).ownBlock=N g->g<P):=O λg S=>by rw[F];exact(b.ids.lt g S).2
 replace b:=O (b.below a);replace d:=aj d a;clear D F a;obtain⟨bc,h⟩:=J (decide (aG c∈gq l i));have ax:=O h;clear h;have WS:=O (dS c)
 cases bc with
 |true=>
  have F:=O (b.old (by rw[W];exact of_decide_eq_true ax.symm));clear b
  go_upto_region 10 with(first|(refine VD.loadA ai I I r V m (G ?_))|(refine H7 F.map vu sn (zeroValue4 _) WS ad I _ _ I I I ?_;rw[<-ax];refine G ?_)|
   (refine C6 F.map vu sn WS ad I _ _ _ I I I I ?_;intro x9 au U;refine G ?_))
  have Zv:ji (PSt M M (M+1) (jf (N ⟨g,o,je⟩) n f) l (i+1) (i+1) k x z y B x9):=O (F.put (by have h:=BN l i;rw[W]at h;rw[<-h];exact au) U);have VM:ji (jo w w x9):=O (d.trans (U.below (by rw[u];omega) d.size));clear au U
  go_wp2_with fail
  exact⟨⟨i+1,k,x,z,y,B,by go_num,by omega,Zv,VM⟩,by simp only[jA];omega⟩
 |false=>
  go_upto_region 8 with(first|(refine VD.loadA ai I I r V m (G ?_))|(refine H7 b.map vu sn (zeroValue4 _) WS ad I _ _ I I I ?_;rw[<-ax];refine G ?_))
  have a2:ji (bV l (i+1)=bV l i++[i]):=O (Cw (by rw[W];exact of_decide_eq_false ax.symm));have F:k<=1000:=by rw[b.len];have:=rZ l i;omega
  have a4:=O F;clear F;refine p6 ?_;refine fN (λF=>F.heap[M]?=N (jh #[jf (N ⟨g,o,je⟩) n f,jf x k y,jf z k B] 114 (0,0))/\F.heap[P]?=N (jh r VD.t (0,0))) 11
   (.t 0 (.t 1 (.t 2 (.t 5 (.t 6 (.t 7 (rY (.t 10) (.o 11 (.o 12 (.o 13 .done)))))))))) af af af af L (λ_ _ _ _ h=>h) ⟨b.box,m⟩ ?_
  obtain⟨x4,D⟩:=J x3.drew;have a:=bX x3;rw[<-D]at a⊢;replace b:=O (b.below a);replace d:=aj d a;replace m:=ae m a;clear D a;refine cr ?_
  (refine cL (v:=?_) I ai (λF a=>?_) ?_;rotate_left;(have D:=ah (i:=1) a.1 I;clear a;go_simp;with_reducible rfl);refine G ?_)
  (refine cL (v:=jm r) I ai (λF a=>cM qd I (by rw[V];exact vA) I I a.2) ?_;refine G ?_)
  refine cr ?_
  (refine cL (v:=?_) I ai (λF a=>?_) ?_;rotate_left;(have D:=ah (i:=2) a.1 I;clear a;go_simp;with_reducible rfl);refine G ?_)
  refine cr ?_;refine Ae RD RI (T0:=.t 10) (E:=λa=>a.put (N 33) (jI (N ⟨M,1,je⟩))) (r1:=26) (r2:=27) (rb:=31) (r3:=32) (s1:=25) (s2:=30) (t1:=24) (t2:=29) af (λ_ _ _ _ h=>h) af af
   rfl rfl rfl rfl rfl rfl rfl rfl rfl rfl rfl rfl rfl rfl rfl rfl (show 26<39 by decide) (show 31<39 by decide) L L L L L L
   (λa v=>Act.put_comm a _ _ L) (λa=>iq L) (λa=>iq L) (λa=>yT) (λa w' R h D=>cL rfl rfl (λF _=>?_) D)
   (x1:=jm r) (x2:=jc jd (i:T)) (u1:=jf x k y) (u2:=jf z k B) rfl rfl rfl rfl V rfl (λaa H=>(qc.1 Vp) aa (by simpa [qH]using H)) (by simp[qH,r7]) b.ids b.at_ (AQ b.ids b.at_ L) (aI a4) (aI a4) (by rw[u];exact d.size) (λw' F H=>?_) ?_
  ·have H:a.eval (.tmp 2)=jI (N ⟨M,0,je⟩):=h 2 L L L
   clear h D;generalize a.eval=D at H⊢;go_simp
  ·have hl:=(jR.1 b.box).1
   exact⟨(F M hl (cQ b.ids b.box L) (cQ b.at_ b.box L)).trans b.box,
    (F P (jR.1 m).1 (λe=>by have:=ZX P e;omega) (cQ b.at_ m L)).trans m⟩
  rintro z1 z2 X v2 Q a;obtain⟨D,F,rfl⟩:=cO a.own1;obtain⟨H,K,rfl⟩:=cO a.own2;have R:Q.heap[M]?=N (jh #[jf (N ⟨g,o,je⟩) n f,jf x k y,jf z k B] 114 (0,0)):=(a.heap M (jR.1 b.box).1 (cQ b.ids b.box L) (cQ b.at_ b.box L)).trans b.box;have a5:=fl (i:=1) (jf D (k+1) F) R;have a6:=fl (i:=2) (jf H (k+1) K) a5;have Z9:ji (PSt M M (M+1) (jf (N ⟨g,o,je⟩) n f) l (i+1) i (k+1) D H F K ((Q.setCell ⟨M,1,je⟩ (jf D (k+1) F)).setCell ⟨M,2,je⟩ (jf H (k+1) K))):=O (by
   have a3:∀g',g'≠M->((Q.setCell ⟨M,1,je⟩ (jf D (k+1) F)).setCell ⟨M,2,je⟩ (jf H (k+1) K)).heap[g']?=Q.heap[g']?:=λg' h=>(dB _ h).trans (dB _ h)
   refine⟨a6,?_,?_,?_,?_,b.lb,b.lm⟩
   ·have h:=iF a.own1 λg' ZE=>a3 g' λe=>cQ a.own1 R L (e▸ZE)
    have e:kf l (bV l (i+1))=kf l (bV l i)++(qI r).cells.toList:=by
     unfold kf;rw[a2,xf];simp[qH,ad.out,W.out]
    rw[e];exact h
   ·have h:=iF a.own2 λg' ZE=>a3 g' λe=>cQ a.own2 R L (e▸ZE)
    have e:iX (bV l (i+1))=iX (bV l i)++(jj .i64 (i:T)).cells.toList:=by
     unfold iX;rw[a2,j5]
     rfl
    rw[e];exact h
   ·have ay:M+1≠M:=Y
    exact b.map.keep ((a3 _ ay).trans (a.heap _ b.map.lt (uF b.ids b.map) (uF b.at_ b.map)))
   rw[a2,jH,<-b.len];rfl)
  have UH:ji (jo w w ((Q.setCell ⟨M,1,je⟩ (jf D (k+1) F)).setCell ⟨M,2,je⟩ (jf H (k+1) K))):=O (by
   have h5:jo w x4 Q:=⟨a.bel.os,a.bel.tape,a.bel.output,a.bel.size,λk' a3=>a.heap k' (jC a3 d.size) (λe=>by have:=(b.ids.lt k' e).1;rw[u]at this;omega) (λe=>by have:=(b.at_.lt k' e).1;rw[u]at this;omega)⟩;exact((d.trans h5).setCell (p:=⟨M,1,je⟩) (qS u.symm) _).setCell (p:=⟨M,2,je⟩) (qS u.symm) _)
  have a3:ji (((Q.setCell ⟨M,1,je⟩ (jf D (k+1) F)).setCell ⟨M,2,je⟩ (jf H (k+1) K)).heap[P]?=N (jh r VD.t (0,0))):=O (by
   have ay:P≠M:=λe=>by have h:=m.out;rw[e,b.box]at h;injection h with h;injection h with _ h;exact jB h L
   exact((dB _ ay).trans (dB _ ay)).trans ((a.heap P (jR.1 m).1 (λe=>by have:=ZX P e;omega) (cQ b.at_ m L)).trans m))
  have m1:=ah (i:=1) R I;have m2:=ah (i:=2) R I;have f1:=gt (o:=1) R;have f2:=gt (o:=2) R;clear a5 a6 R a b d m;refine G ?_;refine nH I L af (λb a=>?_);go_simp;refine a _ _ ?_;clear a;refine G ?_;refine nH I L af (λb a=>?_);go_simp;refine a _ _ ?_;clear a;refine G ?_;refine nH I L af (λb a=>?_);go_simp;refine a _ _ ?_;clear a m1 m2 f1 f2;refine G ?_;refine fa ?_;generalize((Q.setCell ⟨M,1,je⟩ (jf D (k+1) F)).setCell ⟨M,2,je⟩ (jf H (k+1) K))=a at Z9 UH a3⊢
  go_upto_region 10 with(first|(refine VD.loadA ai I I r V a3 (G ?_))|
   (refine C6 Z9.map vu sn WS ad I _ _ _ I I I I ?_;intro x9 au U;refine G ?_))
  have Zv:ji (PSt M M (M+1) (jf (N ⟨g,o,je⟩) n f) l (i+1) (i+1) (k+1) D H F K x9):=O (Z9.put (by have h:=BN l i;rw[W]at h;rw[<-h];exact au) U);have VM:ji (jo w w x9):=O (UH.trans (U.below (by rw[u];omega) UH.size));clear au U
  go_wp2_with fail
  exact⟨⟨i+1,k+1,D,H,F,K,by go_num,by omega,Zv,VM⟩,by simp only[jA];omega⟩
end
theorem LG{v:jN}(h:w.cell? v=N a):∀W,jo w w W->W.cell? v=N a:=λ_ b=>aC h b
theorem JJ(w:jg):∀W o,jo w w W->jo w w (W.alloc o):=λ_ o h=>h.trans ((ap _ o).mono h.size)
theorem Uc(h:M<w.heap.size):∀W,jo w w W->M<W.heap.size:=λ_ a=>jC h a.size
theorem Ph(h:bH w b vm vt):∃(d:js jb) (a:jg) (g:T) (p:jw jN) (c:T),d=(aD b vm vt).toArray/\a=w.alloc (jh d 29)/\g=w.heap.size/\
 vm=jf p b.mem.length c/\jo w w a/\g<a.heap.size/\a.cell? ⟨g,34,je⟩=N (jf p b.mem.length c)/\EM.At a (jf p b.mem.length c) b.mem:=by
 have e:=dy.new w (vm:=vm) (vt:=vt) h.llen;obtain⟨p,c,rfl,-,-⟩:=h.mem.form;exact⟨_,_,_,p,c,I,I,I,I,ap _ _,by simp,e.at.2.2.1,h.mem.below (ap _ _)⟩
theorem Sr{p:H->jU}{l:A H}{x:H}(h:l.find? p=je)(a:p x=jr):(l++[x]).find? p=je:=by
 rw[xg,h];simp[a]
theorem OW{p:α->jU}{l m:A α}{x:α}{k:T}(h:(l.take k).find? p=je)(a:l.take (k+1)=l.take k++[x])(b:p x=jk):l.find? p=N x:=by
 rw[<-qV (k+1) l,xg,a,xg,h];simp[b]
theorem SK(a:Grp)(vm vt:jb)(d:ja)(w:jg)(h:bH w a vm vt)(K:a.mem.length<=900000):
 jy jl 117 #[jm (aD a vm vt).toArray,jc jd d] w λe w'=>e=jv (jc jd (dW a d))/\jo w w w':=by
 obtain⟨V,q,b,p,c,g,i,k,rfl,o,t,r,u⟩:=Ph h;rw[<-g];have x:=O u.cells;obtain⟨n,f⟩:=J a.mem.length;rw[<-f]at r K x;have z:=O f;have s:=O o;have B:=O (And.intro i k);have W:=LG r;have C:=JJ q;have X:=Uc t;have D:=O (nn q.heap.size q);clear g i f r k t o u h
 go_enter func117,ntmps117
 go_upto_region 1 with fail
 rw[<-B.1,<-B.2];have f:=D.out
 go_wp2_with fail
 clear f
 go_loopw [10] (λi wr=>∃k:T,i=jc jd k/\k<=n/\ji (cZ (a.mem.take k) d=je)/\jo q q wr) (λi _=>n-(jA i).toNat)
 case atStart=>exact⟨0,I,mz _,O I,D⟩
 obtain⟨k,rfl,hk,u,f⟩:=hrel
 by_cases M:k<n
 case neg=>
  have P:=aw ((k:ja)<(n:ja));have Q:=aw (k<n);obtain rfl:k=n:=Y;have v:ji (dW a d=0):=O (by
   have h:=u.out;rw[z,xW]at h;unfold dW;rw[h];rfl)
  go_wp2_with fail
  go_ret;exact⟨by rw[v];rfl,s.trans (f.mono s.size)⟩
 have P:=az ((k:ja)<(n:ja));have Q:=az (k<n);obtain⟨g,o,rfl,i⟩:=x.2.2 Y;obtain⟨y,t,E⟩:=dK (l:=a.mem) (j:=k) (by rw[<-z];exact M);have R:wr.cell? ⟨g,o+k*3,je⟩=N (jc jd y.dev):=aC (i k y t 0 _ I) f;have S:wr.cell? ⟨g,o+k*3+1,je⟩=N (jc jd y.since):=aC (i k y t 1 _ I) f;have r:wr.cell? ⟨g,o+k*3+2,je⟩=N (jc jd y.ver):=aC (i k y t 2 _ I) f;obtain⟨md,F,U⟩:=y;dsimp only at R S r;have H:=O E;clear i E t
 by_cases i:md=d
 case neg=>
  have he:(md==d)=jr:=ak i;have t:decide (md=d)=jr:=ak i;have E:ji (cZ (a.mem.take (k+1)) d=je):=O (by rw[H];exact Sr u (ak i));clear i
  go_wp2_with fail
  exact⟨⟨k+1,by go_num,by omega,E,C _ _ f⟩,by simp only[jA];omega⟩
 have v:ji (dW a d=F):=O (by
  unfold dW;rw[show cZ a.mem d=N ⟨md,F,U⟩from OW (m:=[]) u H (ak i)];rfl)
 have he:(md==d)=jk:=ak i;have t:decide (md=d)=jk:=ak i;clear i
 go_wp2_with fail
 go_ret;exact⟨by rw[v];rfl,s.trans ((C _ _ f).mono s.size)⟩
noncomputable def VG:VarT jl:=⟨29,36,(aD kB (jf je 0 0) (jf je 0 0)).toArray,_,jF,I,by kernel_rfl,rfl,λ_=>by kernel_rfl⟩
def ck0:CK:=⟨0,(mR,nK),cI,0,kB,jf je 0 0,jf je 0 0⟩
noncomputable def VK:VarT jl:=⟨110,143,(aL ck0).toArray,_,q7,I,by kernel_rfl,rfl,λ_=>by kernel_rfl⟩
noncomputable def RK:eC jl:=.of 126 110 143 344 (jm (aL ck0).toArray) underlying126 af I L L L
theorem mF{a:T->jw (T×T)}{i off size:T}(k:a i=N (off,size)){A0 B D:A jb}(d:A0.length=off)(f:B.length=size){v:jb}(g:v.cells.size=size)(j:A (T×jb)):
 Instr.fill a (A0++(B++D)).toArray ((i,v)::j)=Instr.fill a (A0++(v.cells.toList++D)).toArray j:=by
 rw[Instr.fill,k];dsimp only;rw[jq (by simp[d,f,g])];have h:=vY v.cells (A0++(B++D)).toArray off size g (by simp[d,f]);have e:v.cells.zipIdx.size=size:=by simp[g]
 refine jT (λc=>Instr.fill a c j) ?_;refine Eq.trans (b:=qP (λc x=>c.setIfInBounds (off+x.2) x.1) (A0++(B++D)).toArray v.cells.zipIdx 0 size) ?_ (h.trans ?_)
 ·rw[<-e]
 rw[r8,List.take_left' d,<-qO A0 B D,List.drop_left' (by rw[jH,d,f]),qO]
theorem uE{P:qe}{t:jt}{a:js Field}{zero:jb}{places:js (T×T)}(b:∀w,(zeroValue t).run P w=.ok zero w)(c:P.underlying t=N (.struct a))(d:∀w,(a.mapM (λf=>Functor.map (Prod.mk f.offset) (sizeOf f.type)):Sem (js (T×T))).run P w=.ok places w)
 {parts:js (T×jb)} {X:js jb} (e:Instr.fill (places[·]?) zero.cells parts.toList=N X) (w:jg):(Instr.build t parts).run P w=.ok (jm X) w:=by
 unfold Instr.build;simp[b,qL c,d,e,Result.andThen]
theorem zy{a:Act}{parts:js (T×jY)}{i s:ja}{C I0 G0:js jb}(c:C.size=73)(d:I0.size=32)(f:G0.size=36)(g:o.op=.build 110 parts)
 (h:(parts.map fun(i,x)=>(i,a.eval x))= #[(0,jc jd i),(1,jm C),(2,jm I0),(3,jc jd s),(4,jm G0)]) (W:jg):
 (o8 a.eval o).run jl W=.ok (.value (jm (#[jc jd i]++C++I0++ #[jc jd s]++G0))) W:=by
 have j:(aL ck0).toArray=([]++([jj .i64 0]++(aF mR nK++(cI.map v8++([jj .i64 0]++(aD kB (jf je 0 0) (jf je 0 0)++[])))))).toArray:=by kernel_rfl
 have k:=uE (P:=jl) (t:=110) (zero:=jm (aL ck0).toArray) (places:=#[(0,1),(1,73),(74,32),(106,1),(107,36)]) (λw=>by kernel_rfl) q7 (λw=>by kernel_rfl)
  (parts:=#[(0,jc jd i),(1,jm C),(2,jm I0),(3,jc jd s),(4,jm G0)]) (X:=(#[jc jd i]++C++I0++ #[jc jd s]++G0)) (by
   show Instr.fill _ (aL ck0).toArray [(0,jj .i64 i),(1,qI C),(2,qI I0),(3,jj .i64 s),(4,qI G0)]=_;have m:∀l:A jb,[jj .i64 i]++(C.toList++l)=([jj .i64 i]++C.toList)++l:=λl=>by simp
   have n:∀l:A jb,([jj .i64 i]++C.toList)++(I0.toList++l)=([jj .i64 i]++C.toList++I0.toList)++l:=λl=>by simp
   have p:∀l:A jb,([jj .i64 i]++C.toList++I0.toList)++([jj .i64 s]++l)=([jj .i64 i]++C.toList++I0.toList++[jj .i64 s])++l:=λl=>by simp
   have b:C.toList.length=73:=by rw[qf];exact c
   have e:I0.toList.length=32:=by rw[qf];exact d
   rw[j,mF (A0:=[]) (off:=0) (size:=1) I I I I];show Instr.fill _ ([jj .i64 i]++_).toArray _ =_;rw[mF (A0:=[jj .i64 i]) (off:=1) (size:=73) I I (dl _ _ L L) (v:=jm C) c];show Instr.fill _ ([jj .i64 i]++(C.toList++_)).toArray _ =_;rw[m,mF (A0:=[jj .i64 i]++C.toList) (off:=74) (size:=32) I (by simp[b]) I (v:=jm I0) d];show Instr.fill _ (([jj .i64 i]++C.toList)++(I0.toList++_)).toArray _ =_;rw[n,mF (A0:=[jj .i64 i]++C.toList++I0.toList) (off:=106) (size:=1) I (by simp[b,e]) I (v:=jc jd s) I];show Instr.fill _ (([jj .i64 i]++C.toList++I0.toList)++([jj .i64 s]++_)).toArray _ =_;rw[p,mF (A0:=[jj .i64 i]++C.toList++I0.toList++[jj .i64 s]) (off:=107) (size:=36) I (by simp[b,e]) I (v:=jm G0) f];rw[Instr.fill,qC]
   congr 1
   apply qx
   simp[qH]) W
 simp only[o8,g,h,Sem.run_bind,k,Result.andThen_ok,Sem.run_pure]
structure KSt(M:T)(c:A CP)(a:jb)(m:T)(Ks:A CK)(W:jg):Prop where
 own:W.ownsRow M RK.e RK.k a m (Ks.flatMap aL)
 len:m=Ks.length
 all:∀k∈Ks,KD (λb=>M<=b/\b<W.heap.size/\a.ownBlock≠N b) c W k
theorem KSt.below{d:A CP}{e:jb}{Ks:A CK}{f:jg}(h:KSt M d e m Ks W)(c:jo W W f):KSt M d e m Ks f:=
 ⟨cP h.own c,h.len,λk g=>((h.all k g).keep λb a=>c.block b a.2.1).mono λb a=>⟨a.1,jC a.2.1 c.size,a.2.2⟩⟩
theorem KSt.push{s:T}{j:A CP}{c f:jb}{Ks:A CK}{l:jg}{k:CK}(h:KSt M j c m Ks W)(o:KD (λb=>s<=b/\b<W.heap.size) j W k)(p:M<=s)(q:∀b,c.ownBlock=N b->b<s)
 (r:l.ownsRow M RK.e RK.k f (m+1) (Ks.flatMap aL++aL k)) (g:W.grownBy l c.ownBlock) (t:f.ownBlock=c.ownBlock\/f.ownBlock=N W.heap.size):KSt M j f (m+1) (Ks++[k]) l:=by
 have n:∀b,b<W.heap.size->c.ownBlock≠N b->f.ownBlock≠N b:=λb a i e=>by
  rcases t with d|d
  ·exact i (d▸e)
  rw[d]at e;cases e;omega
 refine⟨by rw[xf];simpa using r,by rw[jH,<-h.len];rfl,λx d=>?_⟩
 rcases jS.1 d with d|d
 ·exact((h.all x d).keep λb a=>g.block b a.2.1 λe=>a.2.2 e.symm).mono λb a=>⟨a.1,jC a.2.1 g.size,n b a.2.1 a.2.2⟩
 rw[qk]at d;subst d;have i:∀b,s<=b->c.ownBlock≠N b:=λb a e=>by have:=q b e;omega
 exact(o.keep λb a=>g.block b a.2 λe=>i b a.1 e.symm).mono λb a=>⟨jJ p a.1,jC a.2 g.size,n b a.2 (i b a.1)⟩
theorem D8(h:¬((aQ j M).parent=b.last/\cC b (aQ j M)=0)):eh b j M=je:=by
 unfold eh;rw[jq h]
theorem MC(a:(aQ j M).parent=b.last)(g:cC b (aQ j M)=0):eh b j M=N ⟨M,aQ j M,aG (aQ j M),dW b (aQ j M).author,aB b (aQ j M)⟩:=by
 unfold eh;rw[jp ⟨a,g⟩]
theorem N5(f:H->jw C){l:A H}{j:T}{x:H}(h:l[j]?=N x):(l.take (j+1)).filterMap f=(l.take j).filterMap f++(f x).toList:=by
 have a:=(jV.1 h).1;rw[xa a,List.filterMap_append,(jV.1 h).2]
 cases hx:f x<;>simp[hx]
theorem Kv(l:A Cmt)(n:T):(bV l n).Pairwise λi j=>aG (aQ l i)≠aG (aQ l j):=by
 have h:(bV l n).Pairwise (·<·):=(List.pairwise_lt_range).filter _;refine List.Pairwise.imp_of_mem (λ{i j} c a b=>?_) h;exact(oW.1 a).2 i b
theorem KV(g:Grp)(l:A Cmt):((eH g l).map aR.id).Nodup:=by
 unfold eH;rw[List.map_filterMap,List.nodup_iff_pairwise_ne];refine(Kv l l.length).filterMap _ λi j e b a c d=>?_
 rw[Option.map_eq_some_iff]at a d;obtain⟨x,f,rfl⟩:=a;obtain⟨y,h,rfl⟩:=d;obtain⟨-,x2,k,-⟩:=tT f;obtain⟨-,y2,m,-⟩:=tT h;rw[k,m,x2,y2];exact e
structure KsD(D:T->Prop)(a:A CP)(w:jg)(v:jb)(Ks:A CK):Prop where
 row:aH D w v 143 Ks.length (Ks.flatMap aL)
 all:∀k∈Ks,KD D a w k
theorem aH.at1(h:aH D w a M R i)(b:0<R):∃g o c,a=jf (N ⟨g,o,je⟩) R c/\D g/\R<=c/\∀(j:T) v,i[j]?=N v->w.cell? ⟨g,o+j,je⟩=N v:=by
 obtain⟨-,p,c,d,e,-,f⟩:=h;obtain⟨g,o,rfl,xs,k⟩:=f b;exact⟨g,o,c,d,xs,e,k⟩
theorem BC{P:A T}(d:P[M]?=N R){t:T}{a:jb}(b:((aG (aQ j R)).map v8)[t]?=N a):(kf j P)[M*32+t]?=N a:=by
 have c:=(jV.1 b).1;rw[ju,dS]at c;exact(sg (λR=>(aG (aQ j R)).map v8) 32 P (λx _=>by rw[ju,dS]) M t R d c).trans b
theorem RU{q:CQ}(b:(p.parent.map v8)[M]?=N a):(aF p q)[2+M]?=N a:=by
 unfold aF;rw[show 2+M=M+1+1 by omega,qB,qB,qX (jV.1 b).1];exact b
theorem mc(h:bH w b a f):∀g∈aD b a f,g.oneCell'=jk:=by
 intro g vm;obtain⟨p,c,d,-,-⟩:=h.mem.form;obtain⟨vt,n',i,e⟩:=gu h.tree;rw[d,e]at vm;unfold aD at vm;rw[jE,jE,jS]at vm
 rcases vm with rfl|rfl|vm|vm
 ·rfl
 ·rfl
 ·exact iu _ g vm
 simp only[jE,xR,or_false]at vm
 rcases vm with rfl|rfl<;>rfl
structure SD(g:Grp)(c:Cmt)(w w':jg)(X:js jb)(a:ja):Prop where
 sz:X.size=36
 one:X.all (·.oneCell')=jk
 eq:a=cC g c
 new:a=0->∃vm vt,X=(aD (aB g c) vm vt).toArray/\dN (λk=>w.heap.size<=k/\k<w'.heap.size) w' (aB g c) vm vt
 bel:jo w w w'
theorem A5(g:Grp)(vm vt:jb)(c:Cmt)(q:CQ)(w:jg)(h:bH w g vm vt)(i:aT (·<w.heap.size) w c q)(j:cT (aP c))(k:bS w)(l:g.mem.length<=900000)(m:g.tree.length<=600000):
 jy jl 9 #[jm (aD g vm vt).toArray,jm (aF c q).toArray] w λe w'=>∃X d,e=jv (j0 #[jm X,jc jd d])/\SD g c w w' X d:=by
 refine(yV g vm vt c q w h i j k l m).mono ?_;rintro e w' ⟨n,o,f⟩
 by_cases a:cC g c=0
 ·obtain⟨p,r,rfl,b,s,t⟩:=n a
  refine⟨_,0,I,by rw[jM,eX b.llen],?_,a.symm,λ_=>⟨p,r,I,dN.of b s t⟩,f⟩;rw[qc];exact λu v=>mc b u (ak v)
 obtain rfl:=o a;exact⟨_,_,I,I,by kernel_rfl,rfl,λh=>jB h a,f⟩
theorem KD.of{a:A CP}{i:T}{s:ja}{p:CP}{d:LBy}{g:Grp}{b c:jb}(e:a[i]?=N p)(f:dN D w g b c)(h:d.length=32):KD D a w ⟨i,p,d,s,g,b,c⟩:=⟨e,f,h⟩
theorem CK.cand_of{q:CQ}:(⟨M,(p,q),r,d,b,a,f⟩:CK).cand=⟨M,p,r,d,b⟩:=I
theorem Ao(i:T)(s:ja)(c:Cmt)(q:CQ)(d:LBy)(g:Grp)(a b:jb):
 (#[jj .i64 (i:T)]++(aF c q).toArray++(d.map v8).toArray++ #[jj .i64 s]++(aD g a b).toArray).toList=aL ⟨i,(c,q),d,s,g,a,b⟩:=by
 simp only[Array.toList_append,qO,aL]
 rfl
theorem KsD.mono{a:A CP}{v:jb}{Ks:A CK}(h:KsD D a w v Ks)(c:∀b,D b->E b):KsD E a w v Ks:=⟨h.row.mono c,λk b=>(h.all k b).mono c⟩
theorem QQ{n:A CP}{q:jw jN}{Ks:A CK}(t:cF w a n)(v:KSt M n (jf q R m) R Ks w)(D:R<=1000000)(E:M<=w.heap.size)(F:(Ks.map λk=>k.id).Nodup)
 {o u:T} (H:lz w o u) (K:(qD q R m).ownBlock≠N o) (P:(qD q R m).ownBlock≠N u):
 jy jl 118 #[jf q R m,.func (.func 226) #[] #[jI (N ⟨o,0,je⟩)]] w λe w'=>
  e=jv (j0 #[])/\∃d,KsD (λb=>M<=b/\b<w'.heap.size) n w' (jf q R m) d/\d.map CK.cand=(Ks.map CK.cand).mergeSort leC/\jo M w w':=by
 rcases v.own.2 with⟨i,W⟩|⟨g,aa,Ux,i,h2,h3,h4⟩
 ·injection i with i y r
  subst i;subst y;subst r;obtain rfl:Ks=[]:=xT v.len.symm;refine(Tryzx.sortFunc_noneK _ _ _ w).mono ?_;rintro e w' ⟨rfl,rfl⟩;exact⟨I,[],⟨aH.of_own v.own (λg d=>v.own.lt g d),λk s=>by cases s⟩,by simp,nn _ _⟩
 injection i with i y r
 subst i;subst r;obtain⟨d,j⟩:∃d:A CW,d.map (·.1)=Ks:=⟨Ks.attach.map λk=>(v.all k.1 k.2).cw t,by rw[ow];exact xU Ks⟩;have z:d.length=R:=by rw[v.len,<-j,ju]
 have Q:dw EKK M w w g R m d:=⟨by rw[Gj,j];exact v.own,z.symm,nn _ _,E⟩;have B:∀x∈d,x.1∈Ks:=λx l=>by rw[<-j];exact sA l
 refine(O9 d (by have h:=F;rw[<-j,ow]at h;exact h) M g R m w w Q D (λx l=>v.all x.1 (B x l)) t H (λe=>K (e▸I)) (λe=>P (e▸I))).mono ?_;rintro e w' ⟨rfl,c,S,C,U⟩;have hs:(mm d).length=R:=(TA d).trans z;refine⟨I,(mm d).map (·.1),⟨?_,?_⟩,?_,S⟩
 ·have h:=c
  unfold EK.At at h;rw[Gj]at h;obtain⟨V,p,X,f,h6,h7,h8⟩:=h;rw[ju];refine⟨V,p,X,f,h6,h7,λW=>?_⟩;obtain⟨g',o',rfl,h9⟩:=h8 W;injection f with f _ _
  injection f with f
  injection f with f e6
  subst f;exact⟨_,_,I,⟨(v.own.lt _ I).1,jC (v.own.lt _ I).2 C⟩,h9⟩
 ·intro k s
  obtain⟨x,l,rfl⟩:=jz.1 s;refine((v.all _ (B x (No.1 l))).keep λb f=>U b f.2.1 λe=>f.2.2 (e▸I)).mono λb f=>⟨f.1,jC f.2.1 C⟩
 have h:=Tf d;rw[ow];refine Eq.trans h ?_;rw[<-j,ow]
 rfl
theorem EZ(B:A CP)(v1 v2 v3:jb)(g:Grp)(vm vt:jb)(w:jg)(f:iw (·<w.heap.size) w v1 v2 v3 B)(a:bH w g vm vt)(C:∀p∈B,cT (aP p.1))(hT:bS w)(hn:B.length<=1000)(K:g.mem.length<=900000)(E:g.tree.length<=600000):
 jy jl 54 #[jm #[v1,v2,v3],jm (aD g vm vt).toArray] w λe w'=>∃v Ks,e=jv v/\KsD (λb=>w.heap.size<=b/\b<w'.heap.size) B w' v Ks/\Ks.map CK.cand=eS g (B.map (·.1))/\jo w w w':=by
 obtain⟨l,u⟩:∃l:A Cmt,l=B.map (·.1):=⟨_,I⟩;obtain⟨W,r⟩:=J (bV l B.length);have bo:W.length<=1000:=by rw[r];have:=rZ l B.length;omega
 have h2:=f.ids;have t:=f.at_;rw[<-u,<-r]at h2 t;obtain⟨p1,k1,rfl⟩:=f.list.form;obtain⟨p2,k2,rfl⟩:=h2.form;obtain⟨p3,k3,rfl⟩:=t.form;obtain⟨pm,d,Q,-,-⟩:=a.mem.form;obtain⟨pt,nt,ct,S⟩:=gu a.tree;have HL:=O f.list;have HI:=O h2;have HA:=O t;have HE:=O C;have HT:=O hT;have HG:=O a;have WB:=O K;have Ww:=O E;have a6:=O u;have Wp:=O r;obtain⟨n,x⟩:=J B.length;obtain⟨D,y⟩:=J W.length;have Zx:=O x;have ba:=O y;rw[<-x]at hn⊢;rw[<-y]at bo HI HA⊢;obtain⟨ad,m⟩:=J ((aD g vm vt).toArray);have V8:=O m;have bb:ji (ad.size=VG.n):=O (by rw[m,jM,eX a.llen];rfl);have bp:ji (∀(j:T) o,(g.last.map v8)[j]?=N o->ad[2+j]?=N o):=O λj o hj=>by
  have h:=(dy.last (vm:=vm) (vt:=vt) (dy.new w a.llen)) j o hj;rw[World.cell?_alloc_new]at h;rw[m];exact h
 have VA:=O a.llen;rw[<-m];obtain⟨M,q⟩:=J w.heap.size;have HM:=O q;obtain⟨R,c⟩:=J ((w.alloc (jh #[jf p1 n k1,jf p2 D k2,jf p3 D k3] 114)).alloc (jh ad 29));have z:R.heap[M]?=N (jh #[jf p1 n k1,jf p2 D k2,jf p3 D k3] 114 (0,0)):=by rw[c,q];exact av (jD w _) (ap _ _)
 have F:R.heap[M+1]?=N (jh ad 29 (0,0)):=by
  have h:=jD (w.alloc (jh #[jf p1 n k1,jf p2 D k2,jf p3 D k3] 114)) (jh ad 29);rw[jK]at h;rw[c,q];exact h
 have H:jo w w R:=by rw[c];exact(ap _ _).trans ((ap _ _).mono ao)
 have a2:ji (R.heap.size=M+2):=O (by rw[c,q,jK,jK]);have Y7:=O z;have bc:=O F;have Us:=O H;have P:=O c;have U:=ah (i:=2) z I;have U1:=O (nn R.heap.size R);have Yw:ji (KSt (M+2) B (jf je 0 0) 0 [] R):=O ⟨qJ _ _ _ _,I,λk hk=>by cases hk⟩;clear c z F H q m x y u r h2 t f a C hT K E Q S
 go_enter func54,ntmps54
 go_upto_region 1 with fail
 rw[<-P,<-HM];clear P
 go_wp2_with fail
 clear U
 go_loopw [4,13] (λa v wr=>∃(j m:T) (q:jw jN) (c:T) (Ks:A CK),v=jc jd j/\a=jf q m c/\j<=D/\ji (KSt (M+2) B (jf q m c) m Ks wr)/\ji (Ks.map CK.cand=(W.take j).filterMap (eh g l))/\ji (jo R R wr)) (λ_ v _=>D-(jA v).toNat)
 case atStart=>exact⟨0,0,je,0,[],I,I,mz _,Yw,O I,U1⟩
 obtain⟨j,m,q,c,Ks,rfl,rfl,hj,f,F,r⟩:=hrel
 by_cases bq:j<D
 case neg=>
  have hd:=aw ((j:ja)<(D:ja));have UN:=aw (j<D);obtain rfl:j=D:=Y;have t:ji (Ks.map CK.cand=eH g (B.map (·.1))):=O (by
   have h:=F.out;rw[ba,xW,Wp,a6]at h;unfold eH;rw[ju];exact h)
  have Q:ji ((Ks.map λk=>k.id).Nodup):=O (by
   have h:=KV g (B.map (·.1));rw[<-t,ow]at h;exact h)
  have a4:ji (m<=1000):=O (by have h:=jT qN F;have h2:=xh (eh g l) (W.take j);rw[ju,<-f.len]at h;rw[xi]at h2;omega);have U:ji (M+2<=wr.heap.size):=O (by rw[<-a2];exact r.size);have E:jo w w wr:=Us.trans (r.mono Us.size);have u:=O E;clear E
  go_wp2_with fail
  refine(M9 wr).mono ?_;rintro e y ⟨V,X,rfl,x,z,H,a⟩;have aa:=O (f.below a);replace u:=aj u a;have C:=O (QQ (HL.below u) aa (aI a4) (jJ U a.size) Q x (λe=>by have:=(f.own.lt V e).2;omega) (λe=>by have:=(f.own.lt X e).2;omega));clear x z H a
  go_wp2_with fail
  refine C.mono ?_;rintro e z ⟨rfl,ax,x,H,P⟩;have HD:=O x;have au:=O H;have Ur:ji (jo w w z):=O (u.trans (P.mono (by rw[HM];omega)));clear x H P C
  go_wp2_with fail
  go_ret;refine⟨_,ax,I,HD.mono λb S=>⟨by rw[<-HM];omega,S.2⟩,?_,Ur⟩;rw[au,t]
  rfl
 have hd:=az ((j:ja)<(D:ja));have UN:=az (j<D);obtain⟨i,y⟩:∃i,W[j]?=N i:=⟨_,j9 (by rw[<-ba];exact bq)⟩;have br:i<n:=by
  have h:=j3 y;rw[Wp,<-Zx]at h;exact(oW.1 h).1
 obtain⟨ga,oa,ka,e3,ay,-,X⟩:=HA.at1 Y;injection e3 with e1 _ e2
 subst e1;subst e2;obtain⟨U,oi,ki,e4,aa,-,Q⟩:=HI.at1 Y;injection e4 with e1 _ e2
 subst e1;subst e2;obtain⟨⟨d,qm⟩,H⟩:∃p,B[i]?=N p:=⟨_,j9 (by rw[<-Zx];exact br)⟩;obtain⟨gl,ol,kl,e5,K,-,-,ax⟩:=HL.elem H;injection e5 with e1 _ e2
 subst e1;subst e2;have V:=j3 H;have E:jo w w wr:=Us.trans (r.mono Us.size);have u:=O E;have ca:wr.cell? ⟨ga,oa+j,je⟩=N (jc jd (i:T)):=aC (X j _ (by unfold iX;rw[qa,y];rfl)) E;have bs:ji (w.rangeAt U (oi+j*32) ((aG (aQ l i)).map v8)):=O λt o x=>by
  rw[qi];exact Q _ o (BC y x)
 have bO:ji (wr.rangeAt U (oi+j*32) ((aG (aQ l i)).map v8)):=O λt o x=>by
  rw[qi];exact aC (Q _ o (BC y x)) E
 have Vd:ji (wr.rangeAt gl (ol+i*73) (aF d qm)):=O λj o hj=>aC (ax j o hj) E
 have HQ:=O (HL.all _ V);have bu:=O (HE _ V);have bv:=O H;have au:ji (aQ l i=d):=O (by unfold aQ;rw[a6];simp[qt,H]);have Vx:ji ((aF d qm).length=VC.n):=O (dl d qm HQ.plen HQ.clen);have bw:=O y;have bd:ji (U<w.heap.size):=O aa;have c0:=aC (ah (i:=0) Y7 I) r;obtain⟨C,P⟩:=J ((aF d qm).toArray);have Yy:=O P;have VE:ji (C.size=VC.n):=O (by rw[P,jM];exact Vx);have UM:ji (C.all (·.oneCell')=jk):=O (by
  rw[P,qc];exact λo hu=>nD HQ o (ak hu))
 clear P V H ax X Q ay aa K y E
 go_upto_region 5 with(first|(refine VC.load ai I I (aF d qm) Vx Vd ?_;rw[<-Yy];refine G ?_)|(refine VC.made I I (G ?_))|(refine VC.first I I I C I VE UM (G ?_)))
 obtain⟨x1,bf,E,S,y,a⟩:=cX wr C VC.t;rw[<-E,<-S];replace f:=O (f.below a);replace r:=aj r a;replace u:=aj u a;have bA:ji (M+2<=x1.heap.size):=O (by rw[<-a2];exact r.size);have Vh:ji (∀b,(qD q m c).ownBlock=N b->b<x1.heap.size):=O λb S=>(f.own.lt b S).2
 have V:ji (x1.rangeAt bf 2 (d.parent.map v8)):=O λt o x=>ah y.out (by rw[Yy];simpa using RU x)
 have a3:ji (x1.heap[M+1]?=N (jh ad VG.t (0,0))):=O (av bc r);have a5:ji (x1.rangeAt (M+1) 2 (g.last.map v8)):=O λt o x=>ah a3 (bp t o x)
 have bg:ji ((d.parent.map v8).length=VD.n):=O (by rw[ju,HQ.plen];rfl);have bh:ji ((g.last.map v8).length=VD.n):=O (by rw[ju,VA];rfl);obtain⟨TL,H⟩:=J ((g.last.map v8).toArray);obtain⟨TP,K⟩:=J ((d.parent.map v8).toArray);obtain⟨bi,P⟩:=J (decide (d.parent=g.last));have bk:=O H;have bl:=O K;have bm:=O P;have Q:∀z,(Op.equalIn 10000 23 (jm TP) (jm TL)).run jl z=.ok bi z:=by
  rw[H,K,P];exact λz=>nZ d.parent g.last HQ.plen VA z
 have YX:=O (N5 (eh g l) bw);clear E S a H K P ca c0 Vd
 rcases bi with _|_
 ·have ay:ji (Ks.map CK.cand=(W.take (j+1)).filterMap (eh g l)):=O (by
   rw[YX,D8 (λh=>by have e:=bm.out;rw[<-au,xl h.1]at e;cases e)];rw[xX,qC];exact F)
  go_wp2_with (first|(refine VD.load ai I I (d.parent.map v8) bg V ?_;rw[<-bl];refine G ?_)|(refine VD.load ai I I (g.last.map v8) bh a5 ?_;rw[<-bk];refine G ?_))
  exact⟨⟨j+1,m,q,c,Ks,by go_num,rfl,by omega,f,ay,r⟩,by simp only[jA];omega⟩
 go_upto_region 6 with(first|(refine VD.load ai I I (d.parent.map v8) bg V ?_;rw[<-bl];refine G ?_)|(refine VD.load ai I I (g.last.map v8) bh a5 ?_;rw[<-bk];refine G ?_))
 have bB:ji (d.parent=g.last):=O (of_decide_eq_true bm.symm);clear Q
 go_upto_region 7 with(first|(refine VG.loadA ai I I ad bb a3 (G ?_))|(refine VC.loadA ai I I C VE y (G ?_)))
 have H:=A5 g vm vt d qm x1 (HG.below u) (HQ.below u) bu (HT.below u) WB Ww;rw[<-V8,<-Yy]at H;refine H.mono ?_;clear H;rintro e x2 ⟨X,er,rfl,H⟩;have a:=H.bel;have HN:=O H;have YT:=ae y a;replace f:=O (f.below a);replace r:=aj r a;replace u:=aj u a;have bT:ji (x1.heap.size<=x2.heap.size):=O a.size;clear H a
 go_upto_region 7 with(first|(refine VG.made I I (G ?_))|(refine VG.first I I I X I HN.sz HN.one (G ?_)))
 obtain⟨x3,bx,E,S,H,a⟩:=cX x2 X VG.t;rw[<-E,<-S];have UO:ji (bx=x2.heap.size):=O S;have K:=ae YT a;replace f:=O (f.below a);replace r:=aj r a;replace u:=aj u a;have a1:=O a;clear E S a
 by_cases ax:er=0
 case neg=>
  have bC:(er==0)=jr:=by simp[ax]
  have bI:decide (er=0)=jr:=by simp[ax]
  have ay:ji (Ks.map CK.cand=(W.take (j+1)).filterMap (eh g l)):=O (by
   rw[YX,D8 (λh=>ax (by rw[HN.eq,<-au];exact h.2))];rw[xX,qC];exact F)
  go_wp2_with fail
  exact⟨⟨j+1,m,q,c,Ks,by go_num,rfl,by omega,f,ay,r⟩,by simp only[jA];omega⟩
 have bC:(er==0)=jk:=by simp[ax]
 have bI:decide (er=0)=jk:=by simp[ax]
 obtain⟨um,ut,P,Q⟩:=HN.new ax;have ay:ji ((W.take (j+1)).filterMap (eh g l)=Ks.map CK.cand++[⟨i,d,aG d,dW g d.author,aB g d⟩]):=O (by
  rw[YX,MC (by rw[au];exact bB) (by rw[au,<-HN.eq];exact ax),au,<-F]
  rfl)
 have Wm:=O P;have Vv:ji (dN (λk=>x1.heap.size<=k/\k<x2.heap.size) x2 (aB g d) um ut):=O Q;clear P Q
 go_upto_region 8 with fail
 have bn:ji (((aG d).map v8).length=VD.n):=O (by rw[ju,dS];rfl);have bK:ji (C[34]?=N (jc jd d.author)):=O (by
  have h:(aF d qm)[2+32]?=N (jc jd d.author):=by
   unfold aF;rw[show 2+32=32+1+1 by rfl,qB,qB,qK (by rw[ju,HQ.plen];exact jG _),ju,HQ.plen]
   rfl
  rw[Yy];simpa using h)
 have aa:ji (x3.rangeAt U (oi+j*32) ((aG d).map v8)):=O (by
  have h:=bs.out;rw[au]at h;exact λt o x=>aC (h t o x) u)
 have Wh:ji (∀b,b<M->(qD q m c).ownBlock≠N b):=O λb S e=>by have:=(f.own.lt b e).1;omega
 have a4:ji (m<=1000):=O (by have h:=jT qN F;have h2:=xh (eh g l) (W.take j);rw[ju,<-f.len]at h;rw[xi]at h2;omega);have P:=O (av Y7 r);have Q:=O (av bc r);clear YT V a3 a5 F y;refine p6 ?_;refine fN (λF=>F.heap[bf]?=N (jh C VC.t (0,0))/\F.heap[M]?=N (jh #[jf (N ⟨gl,ol,je⟩) n k1,jf (N ⟨U,oi,je⟩) D k2,jf (N ⟨ga,oa,je⟩) D k3] 114 (0,0))/\F.heap[M+1]?=N (jh ad VG.t (0,0))/\F.heap[bx]?=N (jh X VG.t (0,0))/\F.rangeAt U (oi+j*32) ((aG d).map v8)) 17
  (.t 0 (.t 1 (.t 2 (.t 3 (.t 4 (.t 5 (.t 6 (.t 7 (.t 8 (.t 9 (.t 10 (.t 12 (.o 11 (.t 13 (.o 14 (.o 15 (.t 16 .done))))))))))))))))) af af af af L (λ_ _ _ _ h=>h) ⟨K,P,Q,H,aa⟩ ?_
 obtain⟨x4,E⟩:=J x3.drew;have a:=bX x3;rw[<-E]at a⊢;replace f:=O (f.below a);replace r:=aj r a;replace u:=aj u a;replace K:=ae K a;replace P:=ae P a;replace Q:=ae Q a;replace H:=ae H a;replace a1:=aj a1 a;replace aa:ji (x4.rangeAt U (oi+j*32) ((aG d).map v8)):=O (λt o x=>aC (aa t o x) a);clear E a;iterate 2 refine cr ?_
 (refine cL (v:=jm C) I ai (λF y=>cM VC.hu VC.hd (by rw[VE];exact VC.hi) I I y.1) ?_;refine G ?_)
 refine cr ?_
 (refine cL (v:=?_) I ai (λF y=>?_) ?_;rotate_left;(have V:=ah (i:=1) y.2.1 I;clear y;go_simp;with_reducible rfl);refine G ?_)
 iterate 2 refine cr ?_
 (refine cL (v:=jm ((aG d).map v8).toArray) I ai (λF y=>gm _ _ VD.t _ I _ _ I _ VD.d y.2.2.2.2 VD.hu VD.hd (by rw[bn];exact VD.hi)) ?_;refine G ?_)
 (refine cL (v:=jm ad) I ai (λF y=>cM VG.hu VG.hd (by rw[bb];exact VG.hi) I I y.2.2.1) ?_;refine G ?_)
 refine cr ?_
 (refine cL (v:=?_) I ai (λF y=>?_) ?_;rotate_left;(have V:=ah (i:=34) y.1 bK;clear y;go_simp;with_reducible rfl);refine G ?_)
 (refine cL (v:=jm X) I ai (λF y=>cM VG.hu VG.hd (by rw[HN.sz];exact VG.hi) I I y.2.2.2.1) ?_;refine G ?_)
 refine cY I (λK' hK=>?_);go_simp;have V:=SK g vm vt d.author x4 (HG.below u) WB;rw[<-V8]at V;refine V.mono ?_;clear V;rintro e x5 ⟨rfl,a⟩;replace f:=O (f.below a);replace r:=aj r a;replace u:=aj u a;replace K:=ae K a;replace P:=ae P a;replace Q:=ae Q a;replace H:=ae H a;replace a1:=aj a1 a;replace aa:ji (x5.rangeAt U (oi+j*32) ((aG d).map v8)):=O (λt o x=>aC (aa t o x) a);refine hK _ _ ⟨K,P,Q,H,aa⟩ λ_=>?_
 clear hK a;refine G ?_;obtain⟨V,hT⟩:=J ((#[jj .i64 (i:T)]++C++((aG d).map v8).toArray++ #[jj .i64 (dW g d.author)]++X))
 (refine cL (v:=jm V) I ai (λF y=>by rw[hT];exact zy (i:=(i:T)) (s:=dW g d.author) (C:=C) (I0:=((aG d).map v8).toArray) (G0:=X) VE.out (by rw[jM];exact bn) HN.sz I af F) ?_;refine G ?_)
 obtain⟨k,hk⟩:∃k:CK,k=⟨i,(d,qm),aG d,dW g d.author,aB g d,um,ut⟩:=⟨_,I⟩;have Ww:ji (V.toList=aL k):=O (by rw[hT,hk,Yy,Wm];exact Ao _ _ _ _ _ _ _ _);have y:ji (KD (λb=>x1.heap.size<=b/\b<x5.heap.size) B x5 k):=O (by
  rw[hk];exact KD.of bv (Vv.below a1) (dS d))
 have Zo:ji (V.size=143):=O (by rw[<-qf,Ww];exact y.len HL);have Vp:ji (∀o∈V.toList,o.oneCell'=jk):=O (by rw[Ww];exact y.ones HL);have a5:ji (k.cand=⟨i,d,aG d,dW g d.author,aB g d⟩):=O (by rw[hk];exact CK.cand_of);clear hT hk;refine cY I (λK' hK=>?_);rw[jp ai];refine RK.wp_build (.tmp 49) I (jm V) I Zo ?_;have a:=ap x5 (jh V RK.e);have F:=jD x5 (jh V RK.e);obtain⟨x6,E⟩:=J (x5.alloc (jh V RK.e));obtain⟨bt,a3⟩:=J x5.heap.size;have bM:x6.heap.size=bt+1:=by rw[E,jK,a3]
 have e0:(qI V).cells=V:=I;rw[e0,<-E,<-a3];rw[<-E]at a F;rw[<-a3]at F;have bN:=O F;replace f:=O (f.below a);replace r:=aj r a;replace u:=aj u a;replace K:=ae K a;replace P:=ae P a;replace Q:=ae Q a;replace H:=ae H a;replace aa:ji (x6.rangeAt U (oi+j*32) ((aG d).map v8)):=O (λt o x=>aC (aa t o x) a);replace y:=O (y.below a);refine hK _ _ ⟨K,P,Q,H,aa⟩ λ_=>?_
 clear hK a E F a3 bM e0;refine G ?_;refine cY I (λK' hK=>?_);rw[jp ai];refine RK.wp_append (.tmp 36) (.tmp 50) I (M+2) (jf q m c) m (Ks.flatMap aL) I f.own bt V I bN Zo Vp (aI a4) (by rw[<-a2];exact r.size) ?_;intro v' F E a hv;obtain⟨q',c',rfl⟩:=cO E;have a3:ji (KSt (M+2) B (jf q' (m+1) c') (m+1) (Ks++[k]) F):=O (by
  rw[Ww]at E;exact f.push y bA Vh E a hv)
 have ZS:ji (jo R R F):=O (r.trans ⟨a.os,a.tape,a.output,a.size,λk' bM=>a.block k' (jC bM r.size) λe=>by have:=(f.own.lt k' e.symm).1;rw[<-a2]at this;omega⟩);refine hK _ _ ⟨?_,?_,?_,?_,?_⟩ λ_=>?_
 ·exact(a.block _ (jR.1 K).1 λe=>cQ f.own K L e.symm).trans K
 ·exact(a.block _ (jR.1 P).1 λe=>cQ f.own P L e.symm).trans P
 ·exact(a.block _ (jR.1 Q).1 λe=>cQ f.own Q L e.symm).trans Q
 ·exact(a.block _ (jR.1 H).1 λe=>cQ f.own H L e.symm).trans H
 ·intro t o x
  have e1:=a.block U (jC bd u.size) λe=>Wh U (by rw[HM];exact bd) e.symm
  have h:=aa t o x;unfold World.cell? at h⊢;dsimp only at h⊢;rw[e1];exact h
 clear hK E a hv;refine G ?_;refine cr ?_;refine fa ?_;have a:ji ((Ks++[k]).map CK.cand=(W.take (j+1)).filterMap (eh g l)):=O (by
  rw[j5,ay,jX,qw,a5])
 go_wp2_with fail
 exact⟨⟨j+1,m+1,q',c',Ks++[k],by go_num,rfl,by omega,a3,a,ZS⟩,by simp only[jA];omega⟩
structure Ej(Ks:A CK)(F:T)(caps:js jb)(w:jg)(p:CK->jU):Prop where
 enter:∀args w,(sa F args).run jl w=.ok (.enter F args) w
 call:∀x∈Ks,∀w',jo w w w'->jy jl F (#[jm (aL x).toArray]++caps) w' λe a=>e=jv (.bool (p x))/\jo w' w' a
theorem Se{Ks:A CK}{X:js jb}{p:CK->jU}(a:Ej Ks M X w p)(v:jb)(h:cH w v 143 Ks.length (Ks.flatMap aL))(d:∀k∈Ks,(aL k).length=143)(H:Ks.length<=1000000):
 jy jl 153 #[v,.func (.func M) #[] X] w λe w'=>∃r,e=jv (jc jd r)/\m0 p Ks r/\jo w w w':=by
 obtain⟨-,q,c,rfl,K,-,g⟩:=h;have EG:=a.enter;have F:=O a;have u:=O g;have f:=O d;obtain⟨n,b⟩:=J Ks.length;have z:=O b;rw[<-b]at H K u⊢;clear b a g d
 go_enter func153,ntmps153
 go_wp2_with fail
 go_loopw [8] (λi wr=>∃k:T,i=jc jd k/\k<=n/\ji (∀y∈Ks.take k,p y=jr)/\ji (jo w w wr)) (λi _=>n-(jA i).toNat)
 case atStart=>exact⟨0,I,mz _,O ao,O (nn _ _)⟩
 obtain⟨k,rfl,hk,i,b⟩:=hrel
 by_cases P:k<n
 ·have Q:=az ((k:ja)<(n:ja))
  have R:=az (k<n);obtain⟨e,he,x⟩:=dK (l:=Ks) (j:=k) (by rw[<-z];exact P);have a:=j3 he;obtain⟨g,o,rfl,B⟩:=u Y;have d:=O (F.call e a wr b);obtain⟨r,m⟩:=J (p e);rw[<-m]at d;have C:=O m;have S:=O x;have U:=O he;have V:ji ((aL e).length=VK.n):=O (f e a);have D:ji (wr.rangeAt g (o+k*143) (aL e)):=O λt W E=>by
   rw[qi];exact aC (B _ W ((sg aL 143 Ks f k t e he (by rw[<-f e a];exact(jV.1 E).1)).trans E)) b
  obtain⟨caps,s⟩:=J ((aL e).toArray);rw[<-s]at d;have HX:=O s;clear B he x m a s
  go_wp2_with (first|(refine VK.load ai I I (aL e) V D ?_;rw[<-HX];refine G ?_))
  refine(d).mono ?_;rintro x s ⟨rfl,a⟩;have m:=aj b a;clear a d D
  rcases r with _|_
  ·go_wp2_with fail
   exact⟨⟨k+1,by go_num,by omega,O (by
    rw[S];intro y a
    rcases jS.1 a with a|a
    ·exact i y a
    rw[qk]at a;rw[a];exact C.symm),m⟩,by simp only[jA];omega⟩
  go_wp2_with fail
  go_ret;exact⟨_,I,.inr ⟨k,_,I,U,C.symm,i⟩,m⟩
 have Q:=aw ((k:ja)<(n:ja));have R:=aw (k<n);obtain rfl:k=n:=Y
 go_wp2_with fail
 go_ret;exact⟨_,I,.inl ⟨I,by have h:=i.out;rw[qh (by rw[<-z];exact jG _)]at h;exact h⟩,b⟩
theorem Oa{Ks:A CK}{F:T}{caps:js jb}{p:CK->jU}(d:Ej Ks F caps w p)(v:jb)(h:cH w v 143 Ks.length (Ks.flatMap aL))(a:∀k∈Ks,(aL k).length=143)(b:Ks.length<=1000000):
 jy jl 100 #[v,.func (.func F) #[] caps] w λe w'=>e=jv (.bool (Ks.any p))/\jo w w w':=by
 have c:=O (Se d v h a b);clear h a b
 go_enter func100,ntmps100
 go_wp2_with fail
 refine(c).mono ?_;rintro x h ⟨r,rfl,a,b⟩;have f:=O a.any;have g:=O b;clear a b c
 go_wp2_with fail
 go_ret;exact⟨iC f,g⟩
theorem Km(d:ja)(b:T)(x:ar)(w:jg)(h:Boxed w b 3 (jc jd d)):
 jy jl 154 #[jm x.cells.toArray,jI (N ⟨b,0,je⟩)] w λe w'=>e=jv (.bool (x.k==2&&x.d==d))/\jo w w w':=by
 obtain⟨a,f,i,j,k⟩:=x;obtain⟨r,c⟩:=J ((a==2&&f==d));show jy _ _ _ _ λe w'=>e=jv (.bool (a==2&&f==d))/\_
 rw[<-c];have l:=O c;unfold ar.cells;have g:=ap w (jh #[jc jd a,jc jd f,jc jd i,jc jd j,jc jd k] 55);have o:(w.alloc (jh #[jc jd a,jc jd f,jc jd i,jc jd j,jc jd k] 55)).cell? ⟨b,0,je⟩=N (jc jd d):=aC h.cell g;have m:=O g;clear c g h
 by_cases c:a=2
 ·have g:(a==2)=jk:=ak c
  have h:decide (a=2)=jk:=ak c;have n:ji (r=(f==d)):=O (by rw[l];simp[c]);clear c
  go_enter func154,ntmps154
  go_wp2_with fail
  go_ret;exact⟨iC n.symm,m⟩
 have g:(a==2)=jr:=ak c;have h:decide (a=2)=jr:=ak c;obtain rfl:r=jr:=by rw[l,g];rfl
 clear c
 go_enter func154,ntmps154
 go_wp2_with fail
 go_ret;exact⟨I,m⟩
theorem LX(d:ja)(b a:T)(c:b<a):fS EC 154 #[jI (N ⟨b,0,je⟩)] a (λW=>Boxed W b 3 (jc jd d)) (λx=>x.k==2&&x.d==d) where
 enter _ _:=I
 keep w w' hn h hB:=(hB.block b c).trans h
 call x w hn h:=Km d b x w h
theorem Of(k:CK)(d:ja)(w:jg)(h:KIn w k)(g:k.p.1.chg.length<=1000000):
 jy jl 102 #[jm (aL k).toArray,jc jd d] w λe w'=>e=jv (.bool (gS k.p.1 d))/\jo w w w':=by
 have b:=ap w (jh (aL k).toArray 110);have c:=b.trans ((ap (w.alloc (jh (aL k).toArray 110)) (jh #[jc jd d] 3)).mono b.size);have j:((w.alloc (jh (aL k).toArray 110)).alloc (jh #[jc jd d] 3)).heap[w.heap.size]?=N (jh (aL k).toArray 110 (0,0)):=av (jD w _) (ap _ _);have l:Boxed ((w.alloc (jh (aL k).toArray 110)).alloc (jh #[jc jd d] 3)) (w.heap.size+1) 3 (jc jd d):=by
  have h:=jD (w.alloc (jh (aL k).toArray 110)) (jh #[jc jd d] 3);rw[jK]at h;exact h
 have f:=ah (i:=36) (v:=k.p.2.vc) j (by simpa using(mO h).2.2.1);have a:=O (Bs (LX d (w.heap.size+1) (w.heap.size+2) Y) k.p.1.chg k.p.2.vc _ (EK.At.of_sl (h.com.below c).chg) l (by rw[jK,jK];exact jG _) g);have m:=O c;obtain⟨r,s,o⟩:=h.com.chg.form;rw[o]at f a;obtain⟨n,p⟩:=J k.p.1.chg.length;rw[<-p]at f a;obtain⟨X,q⟩:=J ((aL k).toArray);rw[<-q]at f a m⊢;clear b c j l h q o p g
 go_enter func102,ntmps102
 go_wp2_with fail
 refine a.mono ?_;rintro e x1 ⟨rfl,b⟩;have c:=aj m b;clear b a
 go_wp2_with fail
 go_ret;exact⟨I,c⟩
theorem Hg(k:CK)(w:jg)(h:KIn w k)(D:k.p.1.chg.length<=1000000):
 jy jl 103 #[jm (aL k).toArray] w λe w'=>e=jv (jc jd (nG k.p.1:T))/\jo w w w':=by
 have b:=ap w (jh (aL k).toArray 110);have d:=ah (i:=36) (v:=k.p.2.vc) (jD w (jh (aL k).toArray 110)) (by simpa using(mO h).2.2.1);have a:=EK.At.of_sl (E:=EC) (h.com.below b).chg;obtain⟨l,g⟩:=J k.p.1.chg;have m:nG k.p.1=l.countP λx=>x.k==2:=by rw[g];rfl
 rw[<-g]at a D;obtain⟨q,c,f,M,-⟩:=a.form;rw[f]at d a;rw[m];have s:=O a;have t:=O b;obtain⟨n,j⟩:=J l.length;have F:=O j;rw[<-j]at d s D M;obtain⟨X,o⟩:=J ((aL k).toArray);rw[<-o]at d s t⊢;clear b h o g m a f j
 go_enter func103,ntmps103
 go_wp2_with fail
 obtain⟨H,a⟩:=J (w.alloc (jh X 110));rw[<-a]at d s t⊢;clear d a
 go_loopw [2,9] (λm i wr=>∃j:T,i=jc jd j/\m=jc jd ((l.take j).countP λx=>x.k==2:T)/\j<=n/\ji (jo w w wr)/\ji (jo H H wr)) (λ_ i _=>n-(jA i).toNat)
 case atStart=>exact⟨0,I,I,mz _,t,O (nn _ _)⟩
 obtain⟨j,rfl,rfl,U,h,a⟩:=hrel
 by_cases P:j<n
 case neg=>
  have Q:=aw ((j:ja)<(n:ja));have R:=aw (j<n);obtain rfl:j=n:=Y;have e:l.take j=l:=qh (by rw[<-F];exact jG _);rw[e];clear e
  go_wp2_with fail
  go_ret;exact⟨I,h⟩
 have Q:=az ((j:ja)<(n:ja));have R:=az (j<n);obtain⟨e,he,C⟩:=dK (l:=l) (j:=j) (by rw[<-F];exact P);obtain⟨g,o,rfl,r⟩:=(s.cells).2.2 Y;have u:ji ((l.take (j+1)).countP (λx=>x.k==2)=(l.take j).countP (λx=>x.k==2)+if e.k==2 then 1 else 0):=O (by rw[C,List.countP_append,List.countP_singleton]);have S:(l.take j).countP (λx=>x.k==2)<=n:=by
  have:=xK (p:=λx:ar=>x.k==2) (l:=l.take j);rw[xi]at this;omega
 obtain⟨b,f,y,z,B⟩:=e;have V:wr.cell? ⟨g,o+j*5,je⟩=N (jc jd b):=aC (r j _ he 0 _ I) a;have d:wr.cell? ⟨g,o+j*5+1,je⟩=N (jc jd f):=aC (r j _ he 1 _ I) a;have W:wr.cell? ⟨g,o+j*5+2,je⟩=N (jc jd y):=aC (r j _ he 2 _ I) a;have c3:wr.cell? ⟨g,o+j*5+3,je⟩=N (jc jd z):=aC (r j _ he 3 _ I) a;have c4:wr.cell? ⟨g,o+j*5+4,je⟩=N (jc jd B):=aC (r j _ he 4 _ I) a;obtain⟨m,K⟩:=J ((l.take j).countP (λx=>x.k==2));rw[<-K]at S u⊢;replace h:=O (h.trans ((ap wr (jh #[jc jd b,jc jd f,jc jd y,jc jd z,jc jd B] 55)).mono h.size));replace a:=O (a.trans ((ap wr (jh #[jc jd b,jc jd f,jc jd y,jc jd z,jc jd B] 55)).mono a.size));clear he C r K
 by_cases r:b=2
 ·have C:(b==2)=jk:=by simp[r]
  have K:decide (b=2)=jk:=by simp[r]
  clear r
  go_wp2_with fail
  exact⟨⟨j+1,by go_num,by rw[u];simp[C],by omega,h,a⟩,by simp only[jA];omega⟩
 have C:(b==2)=jr:=by simp[r]
 have K:decide (b=2)=jr:=by simp[r]
 clear r
 go_wp2_with fail
 exact⟨⟨j+1,by go_num,by rw[u];simp[C],by omega,h,a⟩,by simp only[jA];omega⟩
def oE(k x:CK):jU:=x.p.1.author !=k.p.1.author&&gS x.p.1 k.p.1.author
theorem KG(x k:CK)(b:T)(w:jg)(h:KIn w x)(q:KIn w k)(t:w.heap[b]?=N (jh (aL k).toArray VK.t (0,0)))(u:x.p.1.chg.length<=1000000):
 jy jl 101 #[jm (aL x).toArray,jI (N ⟨b,0,je⟩)] w λe w'=>e=jv (.bool (oE k x))/\jo w w w':=by
 have a:=ap w (jh (aL x).toArray 110);have j:=jD w (jh (aL x).toArray 110);have y:=ah (i:=35) (v:=jc jd x.p.1.author) j (by simpa using(mO h).2.1);have z:=ah (i:=35) (v:=jc jd k.p.1.author) (av t a) (by simpa using(mO q).2.1);have l:=O j;have m:ji ((aL x).toArray.size=VK.n):=O (by rw[jM];exact h.len);have f:=O (Of x k.p.1.author _ (h.below a) u);have n:=O a;obtain⟨s,o⟩:=J (oE k x);rw[<-o];obtain⟨r,p⟩:=J (gS x.p.1 k.p.1.author);have g:ji (s=(x.p.1.author !=k.p.1.author&&r)):=O (by rw[o,p];rfl);rw[<-p]at f;obtain⟨X,B⟩:=J ((aL x).toArray);rw[<-B]at y z l m f n⊢;obtain⟨c,C⟩:=J x.p.1.author;obtain⟨d,D⟩:=J k.p.1.author;rw[<-C]at y g;rw[<-D]at z g f;clear a j h q t u p o B C D
 by_cases a:c=d
 ·have j:(c==d)=jk:=by simp[a]
  have o:decide (c=d)=jk:=by simp[a]
  have h:(c !=d)=jr:=by simp[a]
  have p:decide (c≠d)=jr:=by simp[a]
  obtain rfl:s=jr:=by rw[g,h];rfl
  clear a
  go_enter func101,ntmps101
  go_wp2_with (first|(refine VK.loadA ai I I X m l (G ?_)))
  go_ret;exact⟨I,n⟩
 have j:(c==d)=jr:=by simp[a]
 have o:decide (c=d)=jr:=by simp[a]
 have h:(c !=d)=jk:=by simp[a]
 have p:decide (c≠d)=jk:=by simp[a]
 obtain rfl:s=r:=by rw[g,h];rfl
 clear a
 go_enter func101,ntmps101
 go_wp2_with (first|(refine VK.loadA ai I I X m l (G ?_)))
 refine f.mono ?_;rintro e x1 ⟨rfl,a⟩;have q:=aj n a;clear a f
 go_wp2_with fail
 go_ret;exact⟨I,q⟩
theorem iw.below{c d e:jb}{f:A CP}(h:iw (·<w.heap.size) w c d e f)(b:jo w w w'):iw (·<w'.heap.size) w' c d e f:=
 ⟨h.list.below b,(h.ids.keep λg a=>b.block g a).mono λg a=>jC a b.size,(h.at_.keep λg a=>b.block g a).mono λg a=>jC a b.size⟩
theorem iw.mono{c d:jb}{e:A CP}(h:iw D w a c d e)(f:∀b,D b->E b):iw E w a c d e:=⟨h.list,h.ids.mono f,h.at_.mono f⟩
theorem KsD.keep{a:A CP}{v:jb}{Ks:A CK}(h:KsD D a w v Ks)(c:∀b,D b->w'.heap[b]?=w.heap[b]?):KsD D a w' v Ks:=⟨h.row.keep c,λk b=>(h.all k b).keep c⟩
noncomputable def dm:jw CK->js jb
 |none=>VK.Z
 |some k=>(aL k).toArray
structure WSt(M a:T)(d:A CP)(v:jb)(Ks:A CK)(e:jb)(m j:T)(c:A CK)(wk:jw CK)(w0 W:jg):Prop where
 ks:KsD (λb=>M+3<=b/\b<a) d W v Ks
 own:W.ownsRow a RK.e RK.k e m (c.flatMap aL)
 len:m=c.length
 le:m<=j
 sub:∀k∈c,k∈Ks
 wsub:∀k,wk=N k->k∈Ks
 var:W.heap[M+2]?=N (jh (dm wk) VK.t (0,0))
 bel:jo (M+2) w0 W
 st:((Ks.map CK.cand).take j).foldl fT ([],je)=(c.map CK.cand,wk.map CK.cand)
 sz:a<=W.heap.size
 big:M+3<=a
theorem KIn.ones{k:CK}(h:KIn w k):∀b∈aL k,b.oneCell'=jk:=by
 intro b a;unfold aL at a;rw[jE,jS,jS,jE]at a
 rcases a with rfl|a|a|rfl|a
 ·rfl
 ·exact nD h.com b a
 ·exact iu _ b a
 ·rfl
 exact mc h.leads b a
theorem sM{wk:jw CK}(h:∀k,wk=N k->KIn w k):(dm wk).size=VK.n/\(dm wk).all (·.oneCell')=jk:=by
 rcases wk with _|k
 ·exact⟨VK.hZ,by kernel_rfl⟩
 have a:=h k I;refine⟨by unfold dm;rw[jM];exact a.len,?_⟩;unfold dm;rw[qc];exact λb c=>a.ones b (ak c)
theorem WSt.below{c:T}{d:A CP}{v:jb}{Ks:A CK}{e:jb}{j:T}{f:A CK}{wk:jw CK}{g:jg}(h:WSt M c d v Ks e m j f wk w0 W)(a:jo W W g):WSt M c d v Ks e m j f wk w0 g:=
 ⟨h.ks.keep λb i=>a.block b (jC i.2 h.sz),cP h.own a,h.len,h.le,h.sub,h.wsub,av h.var a,h.bel.trans (a.mono (by have:=h.sz;have:=h.big;omega)),h.st,jJ h.sz a.size,h.big⟩
theorem WSt.step{c:T}{d:A CP}{v:jb}{Ks:A CK}{j:T}{a:A CK}{wk:jw CK}(h:WSt M c d v Ks f m j a wk w0 W){k:CK}(b:Ks[j]?=N k):
 ((Ks.map CK.cand).take (j+1)).foldl fT ([],je)=fT (a.map CK.cand,wk.map CK.cand) k.cand:=by
 have g:=(jV.1 b).1;have e:(Ks.map CK.cand).take (j+1)=(Ks.map CK.cand).take j++[k.cand]:=by
  rw[xa (by rw[ju];exact g)];simp[(jV.1 b).2]
 rw[e,List.foldl_append,h.st]
 rfl
theorem Dd(a:A CK)(k:CK):rR (a.map CK.cand) k.cand=a.any (oE k):=by
 unfold rR;rw[List.any_map]
 rfl
theorem WSt.struck{c:A CP}{Ks:A CK}{v:A CK}{wk:jw CK}(h:WSt M R c a Ks f m y v wk w W){k:CK}(e:Ks[y]?=N k)(d:v.any (oE k)=jk):WSt M R c a Ks f m (y+1) v wk w W:=
 ⟨h.ks,h.own,h.len,Nat.le_succ_of_le h.le,h.sub,h.wsub,h.var,h.bel,by rw[h.step e];unfold fT;rw[jp (by rw[Dd];exact d)],h.sz,h.big⟩
def sN(wk:jw CK)(k:CK):jU:=match wk with|none=>jk|some x=>decide (nG x.p.1<nG k.p.1)
theorem NY(wk:jw CK)(k:CK):wu (wk.map CK.cand) k.cand=sN wk k:=by cases wk<;>rfl
structure nW(M a:T)(d:A CP)(v:jb)(Ks:A CK)(e:jb)(m j:T)(c:A CK)(wk:jw CK)(k:CK)(w0 W:jg):Prop where
 ks:KsD (λb=>M+3<=b/\b<a) d W v Ks
 own:W.ownsRow a RK.e RK.k e m (c.flatMap aL)
 len:m=c.length
 le:m<=j
 sub:∀k∈c,k∈Ks
 wsub:∀k,wk=N k->k∈Ks
 mem:k∈Ks
 var:W.heap[M+2]?=N (jh (dm wk) VK.t (0,0))
 bel:jo (M+2) w0 W
 st:((Ks.map CK.cand).take j).foldl fT ([],je)=(c.map CK.cand,if sN wk k=jk then N k.cand else wk.map CK.cand)
 sz:a<=W.heap.size
 big:M+3<=a
theorem WSt.push{f:T}{o:A CP}{v:jb}{Ks:A CK}{l p:jb}{j:T}{g:A CK}{wk:jw CK}{i:jg}(h:WSt M f o v Ks l m j g wk w0 W){k:CK}(q:Ks[j]?=N k)(s:g.any (oE k)=jr)
 (t:i.ownsRow f RK.e RK.k p (m+1) (g.flatMap aL++aL k)) (a:W.grownBy i l.ownBlock):nW M f o v Ks p (m+1) (j+1) (g++[k]) wk k w0 i:=by
 have u:∀b,b<f->l.ownBlock≠N b:=λb c e=>by have:=(h.own.lt b e).1;omega
 have n:∀b,b<f->i.heap[b]?=W.heap[b]?:=λb c=>a.block b (jC c h.sz) λe=>u b c e.symm
 have r:=j3 q;refine⟨h.ks.keep λb c=>n b c.2,by rw[xf];simpa using t,by rw[jH,<-h.len];rfl,Nat.succ_le_succ h.le,λx d=>?_,h.wsub,r,(n _ (cV h.big)).trans h.var,
  h.bel.trans ⟨a.os,a.tape,a.output,a.size,λb c=>n b (cV h.big)⟩,?_,jJ h.sz a.size,h.big⟩
 ·rcases jS.1 d with d|d
  ·exact h.sub x d
  rw[qk]at d;rw[d];exact r
 rw[h.step q,fT,jq (by rw[Dd,s];decide)];dsimp only;rw[NY,j5]
 rfl
theorem nW.below{c:T}{d:A CP}{v:jb}{Ks:A CK}{e:jb}{j:T}{f:A CK}{wk:jw CK}{k:CK}{g:jg}(h:nW M c d v Ks e m j f wk k w0 W)(a:jo W W g):nW M c d v Ks e m j f wk k w0 g:=
 ⟨h.ks.keep λb i=>a.block b (jC i.2 h.sz),cP h.own a,h.len,h.le,h.sub,h.wsub,h.mem,av h.var a,h.bel.trans (a.mono (by have:=h.sz;have:=h.big;omega)),h.st,jJ h.sz a.size,h.big⟩
theorem nW.stay{b:A CP}{Ks:A CK}{d:A CK}{wk:jw CK}{k:CK}(h:nW M R b a Ks f m y d wk k w W)(e:sN wk k=jr):WSt M R b a Ks f m y d wk w W:=
 ⟨h.ks,h.own,h.len,h.le,h.sub,h.wsub,h.var,h.bel,by rw[h.st,e];rfl,h.sz,h.big⟩
theorem nW.set{d:T}{e:A CP}{v:jb}{Ks:A CK}{j:T}{g:A CK}{wk:jw CK}{k:CK}(h:nW M d e v Ks f m j g wk k w0 W)(a:sN wk k=jk):WSt M d e v Ks f m j g (N k) w0 (W.setRow (M+2) (aL k).toArray):=
 ⟨h.ks.keep λb a=>qv _ _ _ _ Y,iF h.own λb a=>qv _ _ _ _ (by have:=(h.own.lt b a).1;have:=h.big;omega),h.len,h.le,h.sub,λx c=>by injection c with c;rw[<-c];exact h.mem,
  j4 _ _ _ _ _ _ h.var,iS h.bel (jG _) _,by rw[h.st,a];rfl,by rw[setRow_size];exact h.sz,h.big⟩
theorem C8{c:jU}{p q:Prop}(h:c=jr)(k:q):if c=jk then p else q:=by rw[h];exact k
theorem uj(o:A CP)(v1 v2 v3:jb)(g:Grp)(vm vt:jb)(w:jg)(d:iw (·<w.heap.size) w v1 v2 v3 o)(n:bH w g vm vt)(q:∀p∈o,cT (aP p.1))(r:bS w)(a:o.length<=1000)(t:g.mem.length<=900000)(u:g.tree.length<=600000)(v:∀p∈o,p.1.chg.length<=1000000):
 jy jl 48 #[jm #[v1,v2,v3],jm (aD g vm vt).toArray] w λe w'=>∃wk,e=jv (j0 #[jm (dm wk),.bool wk.isSome])/\(∀k,wk=N k->KD (λb=>w.heap.size<=b/\b<w'.heap.size) o w' k)/\wk.map CK.cand=et g (o.map (·.1))/\jo w w w':=by
 obtain⟨p1,k1,e1⟩:=d.list.form;obtain⟨p2,k2,s⟩:=d.ids.form;obtain⟨p3,k3,e3⟩:=d.at_.form;obtain⟨K,j⟩:=J ((aD g vm vt).toArray);obtain⟨B,l⟩:=J (#[v1,v2,v3]);have bf:ji (B.size=VP.n):=O (by rw[l];rfl);have bg:ji (K.size=VG.n):=O (by rw[j,jM,eX n.llen];rfl);obtain⟨M,f⟩:=J w.heap.size;have HM:=O f;obtain⟨P,c⟩:=J (((w.alloc (jh B 114)).alloc (jh K 29)).alloc (jh VK.Z VK.t));have ad:=ap w (jh B 114);have U:=ad.trans ((ap (w.alloc (jh B 114)) (jh K 29)).mono ad.size);have m:=ap ((w.alloc (jh B 114)).alloc (jh K 29)) (jh VK.Z VK.t);have x:ji (P.heap[M]?=N (jh B VP.t (0,0))):=O (by rw[c,f];exact av (av (jD w _) (ap _ _)) m);have y:ji (P.heap[M+1]?=N (jh K VG.t (0,0))):=O (by
  have h:=jD (w.alloc (jh B 114)) (jh K 29);rw[jK]at h;rw[c,f];exact av h m)
 have z:ji (P.heap[M+2]?=N (jh VK.Z VK.t (0,0))):=O (by
  have h:=jD ((w.alloc (jh B 114)).alloc (jh K 29)) (jh VK.Z VK.t);rw[jK,jK]at h;rw[c,f];exact h)
 have V:ji (jo w w P):=O (by rw[c];exact U.trans (m.mono U.size));have bh:ji (P.heap.size=M+3):=O (by rw[c,f,jK,jK,jK]);have i:=EZ o v1 v2 v3 g vm vt P (d.below V) (n.below V) q (r.below V) a t u;rw[<-j,<-l]at i;replace i:=O i;have HL:=O d.list;have VT:=O v;have Ze:=O a;rw[<-j,<-l];have C:=O c;clear ad U m c f j l d n q r a t u v e1 s e3
 go_enter func48,ntmps48
 go_upto_region 2 with(first|(refine VK.made I I (G ?_)))
 rw[<-C];simp only[jK];rw[show w.heap.size+1+1=w.heap.size+2 from I,<-HM];clear C
 go_wp2_with (first|(refine VP.loadA ai I I B bf x (G ?_))|(refine VG.loadA ai I I K bg y (G ?_)))
 refine i.mono ?_;rintro e x1 ⟨v,Ks,rfl,c,d,Q⟩;obtain⟨pv,kv,rfl⟩:=c.row.form;obtain⟨au,j⟩:=J x1.heap.size;have f:ji (WSt M au o (jf pv Ks.length kv) Ks (jf je 0 0) 0 0 [] je P x1):=O (by
  have hz:=bh.out;have hs:=Q.size;rw[j];exact⟨c.mono λb R=>⟨by have:=R.1;omega,R.2⟩,qJ _ _ _ _,I,jG _,(λk u=>by cases u),(λk u=>by cases u),av z Q,Q.mono Y,I,jG _,by omega⟩)
 obtain⟨n,a⟩:=J Ks.length;rw[<-a]at f⊢;have Zx:=O a;have bi:=O d;have bo:n<=1000:=by
  have h:=jT qN d;have l:(eS g (o.map (·.1))).length<=(bV (o.map (·.1)) (o.map (·.1)).length).length:=by
   unfold eS;rw[List.length_mergeSort];exact xh _ _
  have m:=rZ (o.map (·.1)) (o.map (·.1)).length;rw[ju]at h l m;have:=Ze.out;omega
 clear j a c d Q i z y x
 go_wp2_with fail
 go_loopw [6,14,5] (λa i ok wr=>∃(j m:T) (q:jw jN) (c:T) (C:A CK) (wk:jw CK),i=jc jd j/\a=jf q m c/\ok=.bool wk.isSome/\j<=n/\ji (WSt M au o (jf pv n kv) Ks (jf q m c) m j C wk P wr)) (λ_ i _ _=>n-(jA i).toNat)
 case atStart=>exact⟨0,0,je,0,[],je,I,I,I,mz _,f⟩
 obtain⟨j,m,q,c,C,wk,rfl,rfl,rfl,hj,a⟩:=hrel;clear f
 by_cases bk:j<n
 case neg=>
  have hd:=aw ((j:ja)<(n:ja));have UN:=aw (j<n);obtain rfl:j=n:=Y;have r:ji (∀x∈Ks,KIn wr x):=O λx d=>(a.ks.all x d).kin (HL.below (V.trans (a.bel.mono (by rw[<-HM];omega))))
  have f:=O (sM (wk:=wk) λk u=>r k (a.wsub k u));have i:=O a.var
  go_wp2_with (first|(refine VK.loadA ai I I (dm wk) f.1 i (G ?_))|(refine VK.store I I I (dm wk) I f.1 f.2 i f.1 ?_;rw[setRow_self _ _ _ _ _ i.out];refine G ?_))
  refine ob (fP I _ _ (M+2) VK.t (dm wk) (0,0) _ I i q7 I (by rw[f.1];exact VK.hi)) I ?_;refine⟨wk,I,λk u=>(a.ks.all k (a.wsub k u)).mono λb R=>⟨by rw[<-HM];omega,jC R.2 a.sz⟩,?_,V.trans (a.bel.mono (by rw[<-HM];omega))⟩;have h:=a.st;rw[qh (by rw[ju,<-Zx];exact jG _),bi]at h;unfold et;rw[h]
 have hd:=az ((j:ja)<(n:ja));have UN:=az (j<n);obtain⟨k,u⟩:∃k,Ks[j]?=N k:=⟨_,j9 (by rw[<-Zx];exact bk)⟩;have f:=j3 u;have l:ji (jo w w wr):=O (V.trans (a.bel.mono (by rw[<-HM];omega)));have r:ji (∀x∈Ks,KIn wr x):=O λx d=>(a.ks.all x d).kin (HL.below l)
 obtain⟨gk,ok,ck,e1,z,-,y⟩:=a.ks.row.at1 (by rw[<-Zx];omega);injection e1 with e1 s e3
 subst e1;subst e3;clear s;have a4:ji ((aL k).length=VK.n):=O (r k f).len;have s:ji (wr.rangeAt gk (ok+j*143) (aL k)):=O λt W ht=>by
  rw[qi];exact y _ W ((sg aL 143 Ks (λx d=>(r x d).len) j t k u (by rw[<-(r k f).len];exact(jV.1 ht).1)).trans ht)
 have Ym:ji (∀W∈aL k,W.oneCell'=jk):=O ((a.ks.all k f).ones (HL.below l));obtain⟨X,i⟩:=J ((aL k).toArray);have HX:=O i;have D:ji (X.size=VK.n):=O (by rw[i,jM];exact a4);have U5:ji (X.all (·.oneCell')=jk):=O (by rw[i,qc];exact λW E=>Ym W (ak E));have a5:=O u;have ay:=O f;clear y z i u f
 go_upto_region 5 with(first|(refine VK.load ai I I (aL k) a4 s ?_;rw[<-HX];refine G ?_)|(refine VK.made I I (G ?_))|(refine VK.first I I I X I D U5 (G ?_)))
 obtain⟨x2,bc,d,R,z,f⟩:=cX wr X VK.t;rw[<-d,<-R];have bl:ji (∀b,(qD q m c).ownBlock=N b->b<bc):=O λb h=>by rw[R];exact(a.own.lt b h).2
 replace a:=O (a.below f);replace r:ji (∀x∈Ks,KIn x2 x):=O λx d=>(r x d).below f
 have i:=O (Oa (Ks:=C) (F:=101) (caps:=#[jI (N ⟨bc,0,je⟩)]) (p:=oE k) (w:=x2) ⟨λ_ _=>rfl,λx d w' Q=>KG x k bc w' ((r x (a.sub x d)).below Q) ((r k ay).below Q) (av (by rw[<-HX];exact z) Q) (VT _ (j3 (a.ks.all x (a.sub x d)).at_))⟩
  (jf q m c) (by rw[<-a.len];exact cH.of_own a.own) (λx d=>(r x (a.sub x d)).len) (by have:=a.le;have:=a.len;omega))
 clear d R f s l
 go_wp2_with fail
 refine i.mono ?_;rintro e x3 ⟨rfl,f⟩;replace a:=O (a.below f);replace r:ji (∀x∈Ks,KIn x3 x):=O λx d=>(r x d).below f
 replace z:=ae z f;obtain⟨s,hs⟩:=J (C.any (oE k));rw[<-hs];have a6:=O hs;clear hs f i
 cases s with
 |true=>
  have E:=O (a.struck a5 a6.symm)
  go_wp2_with fail
  exact⟨⟨j+1,m,q,c,C,wk,by go_num,rfl,rfl,by omega,E⟩,by simp only[jA];omega⟩
 |false=>
  have ba:ji (X.toList=aL k):=O (by rw[HX]);have bm:ji (∀W∈X.toList,W.oneCell'=jk):=O (by rw[ba];exact Ym);have bb:ji (m<=1000000/\au<=x3.heap.size+1):=O ⟨by have:=a.le;omega,by have:=a.sz;omega⟩
  go_upto_region 8 with(first|(refine VK.loadA ai I I X D z (G ?_))|(refine jP I λ_ i=>RK.wp_build (.tmp 23) I (jm X) I D (i _ _ ?_);clear i;refine G ?_)|
   (refine jP I λ_ i=>RK.wp_append (.tmp 22) (.tmp 24) I au (jf q m c) m (C.flatMap aL) I (cP a.own (ap x3 (jh X RK.e))) x3.heap.size X I (jD _ _) D bm bb.1 (by rw[jK];exact bb.2) ?_;intro v' x4 l y hv;obtain⟨q',c',rfl⟩:=cO l;refine i _ _ ?_;clear i;refine G ?_;have S:=O l;have H:=O y;clear l y hv))
  have l:=O ((a.below (ap x3 (jh X RK.e))).push a5 a6.symm (by rw[<-ba];exact S) H);have y:ji (x4.heap[bc]?=N (jh X VK.t (0,0))):=O ((H.block bc (by rw[jK];have:=(jR.1 z).1;omega) λe=>by have:=bl bc e.symm;omega).trans (av z (ap _ _)));have f:=bX x4;obtain⟨x5,d⟩:=J x4.drew;rw[<-d]at f;replace l:=O (l.below f);replace y:=ae y f;have a1:=O d;have bn:ji (cF x5 v1 o):=O (HL.below (V.trans (l.bel.mono (by rw[<-HM];omega))));have aa:ji (∀x∈Ks,KIn x5 x):=O λx d=>(l.ks.all x d).kin bn
  clear S H r z d f
  rcases wk with _|H
  ·refine p6 ?_
   refine fN (λ_=>True) 9 (.t 0 (.t 1 (.t 2 (.t 3 (.t 5 (.o 4 (.o 6 (.t 7 (.t 8 .done))))))))) af af af af L (λ_ _ _ _ h=>h) trivial ?_;rw[<-a1];iterate 3 refine cr ?_
   iterate 2 (refine Hq I ai (G ?_))
   refine cY I (λK' i=>C8 ai (i _ _ trivial λ_=>?_));clear i;refine G ?_;refine cY I (λK' i=>C8 ai (i _ _ trivial λ_=>?_));clear i;refine G ?_
   (refine Hq I ai (G ?_))
   refine cr ?_;refine fa ?_;have E:=O (l.set I);rw[<-HX]at E
   go_wp2_with (first|(refine VK.loadA ai I I X D y (G ?_))|(refine VK.store I I I X I D U5 l.var VK.hZ (G ?_)))
   exact⟨⟨j+1,m+1,q',c',C++[k],N k,by go_num,rfl,rfl,by omega,E⟩,by simp only[jA];omega⟩
  obtain⟨UI,hY⟩:=J ((aL H).toArray);have ax:=l.wsub H I;have S:ji (x5.heap[M+2]?=N (jh UI VK.t (0,0))):=O (by rw[hY];exact l.var);have Yq:ji (UI.size=VK.n):=O (by rw[hY,jM];exact(aa H ax).len);obtain⟨na,a2⟩:=J (nG k.p.1);obtain⟨nb,a3⟩:=J (nG H.p.1);have bd:ji (sN (N H) k=decide (nb<na)):=O (by rw[a2,a3];rfl);have UR:ji (∀z,(∀x∈Ks,KIn z x)->jy jl 103 #[jm X] z λe w'=>e=jv (jc jd (na:T))/\jo z z w'):=O λz hz=>by
   rw[a2,HX];exact Hg k z (hz k ay) (VT _ (j3 (l.ks.all k ay).at_))
  have UQ:ji (∀z,(∀x∈Ks,KIn z x)->jy jl 103 #[jm UI] z λe w'=>e=jv (jc jd (nb:T))/\jo z z w'):=O λz hz=>by
   rw[a3,hY];exact Hg H z (hz H ax) (VT _ (j3 (l.ks.all H ax).at_))
  clear a2 a3 ax hY;refine p6 ?_;refine fN (λW'=>W'.heap[bc]?=N (jh X VK.t (0,0))/\W'.heap[M+2]?=N (jh UI VK.t (0,0))) 9 (.t 0 (.t 1 (.t 2 (.t 3 (.t 5 (.o 4 (.o 6 (.t 7 (.t 8 .done))))))))) af af af af L (λ_ _ _ _ h=>h) (by rw[<-a1];exact⟨y,S⟩) ?_;rw[<-a1];iterate 3 refine cr ?_
  (refine cL (v:=jm X) I ai (λW' hS=>cM VK.hu VK.hd (by rw[D];exact VK.hi) I I hS.1) ?_;refine G ?_)
  (refine cL (v:=jm UI) I ai (λW' hS=>cM VK.hu VK.hd (by rw[Yq];exact VK.hi) I I hS.2) ?_;refine G ?_)
  refine cY I (λK' i=>?_);go_simp;refine(UR x5 aa).mono ?_;rintro e x6 ⟨rfl,f⟩;replace l:=O (l.below f);replace y:=ae y f;replace S:=ae S f;replace aa:ji (∀x∈Ks,KIn x6 x):=O λx d=>(aa x d).below f
  refine i _ _ ⟨y,S⟩ λ_=>?_
  clear i f;refine G ?_;refine cY I (λK' i=>?_);go_simp;refine(UQ x6 aa).mono ?_;rintro e x7 ⟨rfl,f⟩;replace l:=O (l.below f);replace y:=ae y f;replace S:=ae S f;refine i _ _ ⟨y,S⟩ λ_=>?_
  clear i f aa UR UQ;refine G ?_
  by_cases f:nb<na
  ·have ad:=az ((nb:ja)<(na:ja))
   have U:=az (nb<na);have E:=O (l.set (by rw[bd];exact U));rw[<-HX]at E;iterate 2 refine cr ?_
   refine fa ?_
   go_wp2_with (first|(refine VK.loadA ai I I X D y (G ?_))|(refine VK.store I I I X I D U5 S Yq (G ?_)))
   exact⟨⟨j+1,m+1,q',c',C++[k],N k,by go_num,rfl,rfl,by omega,E⟩,by simp only[jA];omega⟩
  have ad:=aw ((nb:ja)<(na:ja));have U:=aw (nb<na);have E:=O (l.stay (by rw[bd];exact U));iterate 2 refine cr ?_
  refine fa ?_
  go_wp2_with fail
  exact⟨⟨j+1,m+1,q',c',C++[k],N H,by go_num,rfl,rfl,by omega,E⟩,by simp only[jA];omega⟩
end Go.Proofs.YtpmlopbaafjefaaGreatDoor
