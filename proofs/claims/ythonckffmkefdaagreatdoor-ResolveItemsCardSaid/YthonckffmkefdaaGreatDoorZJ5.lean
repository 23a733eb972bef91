/- Texts of the proof, part 5 of 7 (Bs Bu Bv Bx Lt Ha Nb Hb Hc Sc Jc Ia Ib Rp Ic Ja Nc Hx Sd Oc Sm Ry Rz Se Sk So Bw Sp Sq Sr Sa Sb Ss Sn Su Sv Sw Sx). -/
import Derived.WalkLawsBesides
import Derived.Deep.SlicePairs
import Derived.Lib.BytesEntry
import Derived.Test.YthonckffmkefdaaGreatDoorZJ4
namespace Go.Proofs.YthonckffmkefdaaGreatDoor
set_option maxHeartbeats 64000000
set_option maxRecDepth 100000
set_option linter.unusedVariables false
set_option linter.unusedSimpArgs false
set_option linter.unusedSectionVars false
open Go.RowKit
open Go.Proofs.Tryz
open _root_ renaming rfl->I,Nat->T,List->A,Int->ja,if_pos->jp,if_neg->jq,Array->js,Option->jw,absurd->jA,congrArg->jS,Bool->jT,decide_eq_true->xk
open _root_.Option renaming some->N,none->je,map_some->qZ,some->q7,some_get->xM,toList->xX
open Go renaming Value->jb,World->jg,TypeId->jt,Calls->jz,Addr->jM,Oper->jN,wpList_plain->jO,wp_region_lit->jV,Operand->jX,maxLen->jY,setRow_heap->j4,wpList->j6,wp_store_row->j9,DataW->ms,MemPlace->mz,bodyPost_ret_by->nn,below_setRow->nv,execOp->oj,bodyPost->ow,wp_region_noPanic->o1,Program->qa,undef->qd,setRow_other->qk,run_underlying->qI,wpOp_mono->qX,wpList_load_row->r6,callFunc->r7
open Go.Value renaming int->jc
open Go.IntKind renaming i64->jd
open Go.Value renaming slice->jf,agg->jm,pointer->jI,tuple->jZ
open Go.Obj renaming cells->jh
open Go.RowKit renaming Hid->ji,Below->jo
open Go.Value renaming int->jj,slice->qz,cells->qU,agg->qV,oneCell'->r4
open _root_.Bool renaming true->jk,false->jr,and_eq_true->xz,eq_iff_iff->xA,eq_false_iff->xQ
open Go.Proofs.Tryz renaming prog->jl
open Go.IntKind renaming u8->jn
open _root_.List renaming length_map->ju,mem_map->jy,mem_cons->jD,length_append->jG,size_toArray->jL,length_cons->jP,mem_append->jR,getElem?_eq_some_iff->jU,map_cons->jW,mem_cons_self->j0,mem_of_getElem?->j1,map_append->j5,getElem?_eq_getElem->j7,mem_cons_of_mem->j8,mergeSort_perm->mb,map_map->ob,getElem?_map->o8,set_cons_succ->pz,range->qc,take_of_length_le->qf,mem_filter->qg,mem_singleton->qh,mem_nil_iff->qi,map_nil->ql,replicate->qs,set_append_right->qt,length_nil->qu,getElem?_cons_succ->qv,drop_eq_getElem_cons->qw,append_nil->qx,getD->qy,flatMap_cons->qB,getElem?_append_right->qE,getElem_toArray->qF,getElem_cons_zero->qG,getElem_cons_succ->qH,any_eq_true->qJ,length->qK,append_assoc->qL,set->qN,length_filter_le->qQ,getElem?_append_left->qT,getElem_mem->q9,map->rk,toList_toArray->r5,zipIdx_cons->sn,filter_sublist->sq,nodup_cons->sv,mem_map_of_mem->sx,mem_toArray->vi,take_succ_eq_append_getElem->wi,mem_range->wq,take_zero->wt,ext_getElem?->wv,getElem?_eq_none->wx,length_attach->xd,flatMap_append->xe,find?_append->xf,length_filterMap_le->xg,length_take->xh,find?_eq_none->xl,mem_of_find?_eq_some->xm,find?_some->xn,any_eq_false->xo,getElem?_set_self->xq,nil_append->xr,filter_append->xw,pairwise_mergeSort->xx,pairwise_map->xy,flatMap_def->xC,flatten_cons->xD,take_succ_cons->xE,take_append_drop->xG,drop_eq_nil_of_le->xH,flatMap_map->xI,countP_cons->xJ,countP_le_length->xK,map_toArray->xN,not_mem_nil->xR,map_mergeSort->xS,eq_nil_of_length_eq_zero->xT,attach_map_subtype_val->xU,take_length->xW
open Go.Ending renaming returned->jv
open _root_.Nat renaming lt_of_lt_of_le->jB,le_refl->jE,le_trans->jJ,zero_le->n0,add_assoc->qn,mul_le_mul_right->qC,le_of_eq->qO,not_lt_zero->qP,zero_add->qS,zero_mul->sh,mul_comm->sy,div_add_mod->xB
open Go.World renaming alloc_heap_new->jC,size_alloc->jK,ownsRow_nil->qD,frozen?->xu
open Go.Proofs renaming intOf->jF,enters_of->r8
open Go.Proofs.Tryz renaming underlying51->jH,underlying3->j3,underlying23->qe,underlying57->qW,underlying79->qY,underlying109->r9,underlying38->xi,underlying5->xj
open _root_.Array renaming getElem?_eq_some_iff->jQ,all_eq_true_iff_forall_mem->p6,length_toList->qb,ext'->qo,toList_setIfInBounds->qA,foldl->qM,getElem?_setIfInBounds_ne->q8,getElem?_modify->xt,toArray_toList->xL,getElem?_push->xO,getElem?_append_left->xP,toList_push->xV
open Go.RowKit.Below renaming refl->lw
open Go.NoPanic renaming normal->qj
open _root_.BitVec renaming ofNat->rn,lt_def->rv,eq_of_toNat_eq->xa
variable{t:A (ja×ja)}{j:A Cmt}{S:A Val}{Q:A aJ}{u:A ap}{x:A ja}{i xs:A jb}{p:Cmt}{b:Grp}{r:LBy}{M R m y:T}{C H α:Type}{D E:T->Prop}{o:jN}{U d:ja}{a f vm vt:jb}{X:jb->js jb}{W w w' w0:jg}{e:jt}
theorem Dc(b:LBy):b.length<=(enc (vT b)).length:=by
 rw[vT,enc,jq G,jp I];simp only[jP,jG,yL];omega
theorem rt{x:Val}(h:x∈S):(enc x).length<=(enc (vL S)).length:=by
 rw[pE];have:=Ey h;simp only[jP,jG];omega
theorem da.bodies(h:da (aR p)):(∀b∈p.box,b.body.length<=800000)/\(∀b∈p.wel,b.body.length<=800000):=by
 have g:=h.len;refine⟨λb a=>?_,λb a=>?_⟩
 ·have d:(enc (vL (p.box.map Bx.val))).length<=(enc (vL (aR p))).length:=rt (by unfold aR;simp)
  have e:(enc b.val).length<=(enc (vL (p.box.map Bx.val))).length:=rt (jy.2 ⟨b,a,I⟩);have f:(enc (vT b.body)).length<=(enc b.val).length:=rt ar;have:=Dc b.body;omega
 have d:(enc (vL (p.wel.map Wl.val))).length<=(enc (vL (aR p))).length:=rt (by unfold aR;simp);have e:(enc b.val).length<=(enc (vL (p.wel.map Wl.val))).length:=rt (jy.2 ⟨b,a,I⟩);have f:(enc (vT b.body)).length<=(enc b.val).length:=rt ar;have:=Dc b.body;omega
theorem Tk(c:Cmt):(mC c/\gV c=0)\/(¬mC c/\gV c=220):=by
 by_cases h:mC c
 ·exact .inl ⟨h,un h⟩
 exact .inr ⟨h,fj h⟩
theorem Mo(c:Cmt)(q:CQ)(w:jg)(f:aZ (·<w.heap.size) w c q)(a:da (aR c)):
 jz jl 54 #[jm (aF c q).toArray] w λe w'=>e=jv (jc jd (gV c))/\jo w w w':=
 Oz c q w f a.lens.1 a.lens.2.1 a.lens.2.2.1 a.lens.2.2.2 (λb d=>by have:=a.bodies.1 b d;omega) (λb d=>by have:=a.bodies.2 b d;omega)
theorem LN{l:A aJ}(e:mo l)(h:cA l d=jk):∃m,l[lV l d]?=N m/\l.find? (λm=>m.dev==d)=N m:=by
 obtain⟨m,b⟩:∃m,l.find? (λm=>m.dev==d)=N m:=by
  cases hf:l.find? (λm=>m.dev==d)with
  |some m=>exact⟨m,I⟩
  |none=>
   exfalso
   unfold cA at h;obtain⟨x,a,c⟩:=qJ.1 h;exact jA c (by have:=xl.1 hf x a;simpa using this)
 refine⟨m,?_,b⟩;have g:=xm b;have f:m.dev=d:=by have:=xn b;simpa using this
 obtain⟨i,a,he⟩:=List.getElem_of_mem g;have j:lV l d=i:=by
  refine Aw d l i Y (λt k=>?_) (λt n c=>?_)
  ·have:=e t i k a
   rw[fp _ a,he,f]at this;exact this
  have:=yJ e n c;rw[fp _ a,he,f]at this;exact this
 rw[j,j7 a,he]
theorem F3(g:Grp)(vm vt U:jb)(a:ja)(l:A ap)(w:jg)(h:bW w g vm vt)(s:mo g.mem)(V:g.mem.length<=1000000)(x:EC.At w U l)(i:cA g.mem a=jr->l≠[]):
 jz jl 39 #[jm (aD g vm vt).toArray,jc jd a,U] w λe w'=>e=jv (jc jd (dQ g a l))/\jo w w w':=by
 have y:=rx (vm:=vm) (vt:=vt) h.llen;have t:=λW hW=>yK g vm vt a W hW s V h.llen
 have z:=dF.new w (vm:=vm) (vt:=vt) h.llen;have j:=z.blk;have f:=ao w (jh (aD g vm vt).toArray 51);have k:=z.at.2.2.1;obtain⟨B,C,rfl,WI,-⟩:=h.mem.form;obtain⟨pl,cl,rfl,Vr,-⟩:=x.form;have m:=h.mem.below f;have o:=x.below f;obtain⟨D,E⟩:=J ((aD g (jf B g.mem.length C) vt).toArray);rw[<-E]at y t j f k m o⊢;obtain⟨x0,c⟩:=J (w.alloc (jh D 51));obtain⟨b,F⟩:=J w.heap.size;rw[<-c]at j f k m o;rw[<-F]at j k;obtain⟨n,H⟩:=J l.length;obtain⟨u,v⟩:=J g.mem.length;rw[<-H]at o Vr⊢;rw[<-v]at k m WI V t;have HX:=O c;have ac:=O F;have K:=O j;have X:=O f;have M:=O m;have aa:=O o;have UX:=O y;have P:=O t;have ZK:=O i;have ay:=O s;have HN:=O H;have ad:=O v;have Ve:=O (λh=>LN (d:=a) s h);obtain⟨Q,p⟩:=J (cA g.mem a);obtain⟨q,R⟩:=J (lV g.mem a);rw[<-p,<-R]at P;rw[<-p]at ZK;rw[<-R,<-p]at Ve;have au:=O p;have ax:ji (D[34]?=N (jf B u C)):=O (by rw[E,v];simpa using(lN (vm:=jf B g.mem.length C) (vt:=vt) h.llen).2.2.1);obtain⟨r,S⟩:=J (dQ g a l);rw[<-S];have HR:=O S;clear y t z j f m o E c F H v p R h s x i k S
 go_enter func39,ntmps39
 go_upto_region 1 with fail
 rw[<-HX,<-ac];refine jV ?_;refine r6 I 51 _ I b I 51 D (0,0) _ K.out jH I UX ?_
 go_wp2_with fail
 refine(P x0 M).mono ?_;rintro e x1 ⟨rfl,f⟩;have v:=ae K f;have y:=O (M.below f);have z:=O (aa.below f);have s:=ai X f;clear f P K M aa X
 cases Q with
 |true=>
  obtain⟨m,k,t⟩:=Ve I;have E:q<u:=by rw[ad];exact(jU.1 k).1
  obtain⟨p,o,rfl,f⟩:=(y.cells).2.2 Y;have F:=ah v ax;have x:x1.cell? ⟨p,o+q*3+2,je⟩=N (jc jd m.ver):=f q m k 2 _ I;have j:r=m.ver:=by rw[HR];unfold dQ;rw[t]
  have H:=az ((q:ja)<(u:ja));have hd2:=az (q<u);rw[<-j]at x;clear f k t j
  go_wp2_with fail
  go_ret;exact⟨I,s⟩
 |false=>
  have i:=ZK I;obtain⟨x,k,c⟩:∃x k,l=x::k:=by
   rcases l with _|⟨x,r⟩
   ·exact jA I i
   exact⟨x,r,I⟩
  have E:0<n:=by rw[HN,c];simp
  obtain⟨p,o,rfl,f⟩:=(z.cells).2.2 E;have F:x1.cell? ⟨p,o+3,je⟩=N (jc jd x.v):=by
   have h:=f 0 x (by rw[c];rfl) 3 _ I;rw[sh,Nat.add_zero]at h;exact h
  have t:g.mem.find? (λm=>m.dev==a)=je:=by
   rw[xl];intro m Q;have h:=au.out;unfold cA at h;have:=xo.1 h.symm m Q
   simpa using this
  have j:r=x.v:=by rw[HR];unfold dQ;rw[t,c]
  rw[<-j]at F;clear f c t i j
  go_wp2_with fail
  go_ret;exact⟨I,s⟩
theorem KY(a c b d:ja)(f:ja)(g:jw jM)(i j:T)(w:jg):jz jl 55 #[jm #[jc jd a,jc jd c,jc jd f,jf g i j],jm #[jc jd b,jc jd d,jc jd 0,jf je 0 0]] w λe w'=>e=jv (.bool ((a==b)&&(c==d)))/\jo w w w':=by
 have h:=(ao w (jh #[jc jd a,jc jd c,jc jd f,jf g i j] 105)).trans ((ao (w.alloc (jh #[jc jd a,jc jd c,jc jd f,jf g i j] 105)) (jh #[jc jd b,jc jd d,jc jd 0,jf je 0 0] 105)).mono (ao w _).size);have l:=O h;clear h
 by_cases h:a=b
 ·have k:(a==b)=jk:=ak h
  rw[k,Bool.true_and];clear h
  go_enter func55,ntmps55
  go_wp2_with fail
  go_ret;exact⟨I,l⟩
 have k:(a==b)=jr:=ak h;rw[k,Bool.false_and];clear h
 go_enter func55,ntmps55
 go_wp2_with fail
 go_ret;exact⟨I,l⟩
theorem zW(l:A Bx)(r:A (ja×ja))(v aa:jb)(w:jg)(h:∃Q,aH D w v 4 l.length (dR Bx.cells l Q)/\ey D w (l.map Bx.body) Q)(a:EB0.At w aa r)(hl:l.length<=1000000)(hr:r.length<=1000000):
 jz jl 57 #[v,aa,.func (.func 55) #[] #[]] w λe w'=>e=jv (.bool (decide (l.map (λb:Bx=>(b.lev,b.node))=r.map (λx:ja×ja=>x))))/\jo w w w':=by
 obtain⟨V,f⟩:=J (decide (l.map (λb:Bx=>(b.lev,b.node))=r.map (λx:ja×ja=>x)));rw[<-f];have X:=O f;obtain⟨p,c,g⟩:∃p c,v=jf p l.length c:=by obtain⟨Q,h,-⟩:=h;exact h.form
 obtain⟨q,d,rfl,hd,-⟩:=a.form;obtain⟨n,i⟩:=J l.length;obtain⟨m,k⟩:=J r.length;have HU:=O h;have HV:=O a;have Zu:=O g;rw[g];have HN:=O i;have HM:=O k;rw[<-i]at hl⊢;rw[<-k]at hr hd HV⊢;have EG:∀args w,(r7 55 args).run jl w=.ok (.enter 55 args) w:=λ_ _=>rfl
 clear h a i k f g
 by_cases F:n=m
 ·have a4:((n:ja)!=(m:ja))=jr:=by simp[F]
  have Up:((n:ja)==(m:ja))=jk:=by simp[F]
  have ac:=O F;clear F
  go_enter func57,ntmps57
  go_wp2_with fail
  go_loopw [17] (λi wr=>∃k:T,i=jc jd k/\k<=n/\ji ((l.take k).map (λb:Bx=>(b.lev,b.node))=(r.take k).map (λx:ja×ja=>x))/\ji (jo w w wr)) (λi _=>n-(jF i).toNat)
  case atStart=>exact⟨0,I,n0 _,O ar,O (lw _ _)⟩
  obtain⟨k,rfl,hk,HG,a⟩:=hrel
  by_cases a5:k<n
  ·have a6:=az ((k:ja)<(n:ja))
   have ba:=az (k<n);have bb:k<m:=aI ac;have hd2:=az ((k:ja)<(m:ja));have bk:=az (k<m);obtain⟨x,R,ad⟩:=dL (l:=l) (j:=k) (by rw[<-HN];exact a5);obtain⟨y,E,au⟩:=dL (l:=r) (j:=k) (by rw[<-HM];exact bb);obtain⟨Q,ax,ay⟩:=HU.out;obtain⟨bl,a1,a2⟩:=ay.at (i:=k) (b:=x.body) (by rw[o8,R];rfl);obtain⟨g,o,c',hq,H⟩:=oC ax (λ_ _=>rfl) R a1;rw[Zu]at hq;injection hq with e1 e2 e3
   subst e1;subst e3;obtain⟨t,u,rfl⟩:=a2.form;obtain⟨B,a3⟩:=J x.body.length;rw[<-a3]at H;obtain⟨S,U,rfl,K⟩:=(HV.cells).2.2 Y;have bc:=O ad;have bd:=O au;have V8:=O R;have bf:=O E;obtain⟨f,s,C,xb⟩:=x;obtain⟨M,P⟩:=y;have z:=ao wr (jh #[jc jd f,jc jd s,jc jd C,jf t B u] 105);have Wh:=ao (wr.alloc (jh #[jc jd f,jc jd s,jc jd C,jf t B u] 105)) (jh #[jc jd P,jc jd M,jc jd 0,jf je 0 0] 105);have a0:wr.cell? ⟨g,o+k*4,je⟩=N (jc jd f):=aB (H 0 _ I) a;have bg:wr.cell? ⟨g,o+k*4+1,je⟩=N (jc jd s):=aB (H 1 _ I) a;have bh:wr.cell? ⟨g,o+k*4+2,je⟩=N (jc jd C):=aB (H 2 _ I) a;have bi:wr.cell? ⟨g,o+k*4+3,je⟩=N (jf t B u):=aB (H 3 _ I) a;have b0:(wr.alloc (jh #[jc jd f,jc jd s,jc jd C,jf t B u] 105)).cell? ⟨S,U+k*4,je⟩=N (jc jd P):=aB (aB (K k _ E 0 _ I) a) z;have b1:(wr.alloc (jh #[jc jd f,jc jd s,jc jd C,jf t B u] 105)).cell? ⟨S,U+k*4+1,je⟩=N (jc jd M):=aB (aB (K k _ E 1 _ I) a) z;have b2:(wr.alloc (jh #[jc jd f,jc jd s,jc jd C,jf t B u] 105)).cell? ⟨S,U+k*4+2,je⟩=N (jc jd 0):=aB (aB (K k _ E 2 _ I) a) z;have b3:(wr.alloc (jh #[jc jd f,jc jd s,jc jd C,jf t B u] 105)).cell? ⟨S,U+k*4+3,je⟩=N (jf je 0 0):=aB (aB (K k _ E 3 _ I) a) z;have HC:=O (λW=>KY f s P M C t B u W);have W:=O (z.trans (Wh.mono z.size));clear H ax ay a1 a2 K R E ad au z Wh e2 a3
   go_wp2_with fail
   refine(HC _).mono ?_;rintro e w1 ⟨rfl,z⟩;have K:=O (a.trans ((W.trans (z.mono W.size)).mono a.size));clear z HC W a0 bg bh bi b0 b1 b2 b3
   by_cases E:((f==P)&&(s==M))=jk
   ·rw[E]
    have z:ji ((l.take (k+1)).map (λb:Bx=>(b.lev,b.node))=(r.take (k+1)).map (λx:ja×ja=>x)):=O (by
     rw[bc,bd,j5,j5,HG]
     congr 1
     simp only[jW,ql];simp at E;simp[E])
    clear E
    go_wp2_with fail
    exact⟨⟨k+1,by go_num,by omega,z,K⟩,by simp only[jF];omega⟩
   have R:((f==P)&&(s==M))=jr:=ak E;rw[R];obtain rfl:V=jr:=by
    rw[X,decide_eq_false_iff_not];intro e;have H:=jS (λz=>z[k]?) e;simp only[o8,V8.out,bf.out,qZ,q7.injEq]at H
    apply E
    try simp at H
    simp[H]
   clear E R
   go_wp2_with fail
   go_ret;exact⟨I,K⟩
  have a6:=aw ((k:ja)<(n:ja));have ba:=aw (k<n);obtain rfl:k=n:=Y;obtain rfl:V=jk:=by
   rw[X,decide_eq_true_iff];have h:=HG.out;rw[qf (l:=l) (by rw[<-HN];exact jE _),qf (l:=r) (by rw[<-HM,<-ac];exact jE _)]at h;exact h
  go_wp2_with fail
  go_ret;exact⟨I,a⟩
 have a4:((n:ja)!=(m:ja))=jk:=by simp;omega
 have Up:((n:ja)==(m:ja))=jr:=by simp;omega
 obtain rfl:V=jr:=by
  rw[X,decide_eq_false_iff_not];intro e;have:=jS qK e;rw[ju,ju,<-HN,<-HM]at this;exact F this
 clear F
 go_enter func57,ntmps57
 go_wp2_with fail
 go_ret;exact⟨I,lw _ _⟩
theorem Rm(a b h c:ja)(i j k:ja)(d:jw jM)(f g:T)(w:jg):jz jl 56 #[jm #[jc jd a,jc jd b,jf d f g],jm #[jc jd h,jc jd c,jc jd i,jc jd j,jc jd k]] w λe w'=>e=jv (.bool (a==c))/\jo w w w':=by
 have l:=(ao w (jh #[jc jd a,jc jd b,jf d f g] 107)).trans ((ao (w.alloc (jh #[jc jd a,jc jd b,jf d f g] 107)) (jh #[jc jd h,jc jd c,jc jd i,jc jd j,jc jd k] 61)).mono (ao w _).size);have m:=O l;clear l
 go_enter func56,ntmps56
 go_wp2_with fail
 go_ret;exact⟨I,m⟩
theorem Fh(l:A Wl)(r:A ap)(v aa:jb)(w:jg)(h:∃Q,aH D w v 3 l.length (dR Wl.cells l Q)/\ey D w (l.map Wl.body) Q)(a:EC.At w aa r)(hl:l.length<=1000000)(hr:r.length<=1000000):
 jz jl 58 #[v,aa,.func (.func 56) #[] #[]] w λe w'=>e=jv (.bool (decide (l.map (Wl.dev)=r.map (ap.d))))/\jo w w w':=by
 obtain⟨S,f⟩:=J (decide (l.map (Wl.dev)=r.map (ap.d)));rw[<-f];have U:=O f;obtain⟨p,c,g⟩:∃p c,v=jf p l.length c:=by obtain⟨Q,h,-⟩:=h;exact h.form
 obtain⟨q,d,rfl,hd,-⟩:=a.form;obtain⟨n,i⟩:=J l.length;obtain⟨m,k⟩:=J r.length;have HU:=O h;have HV:=O a;have Zu:=O g;rw[g];have V:=O i;have X:=O k;rw[<-i]at hl⊢;rw[<-k]at hr hd HV⊢;have EG:∀args w,(r7 56 args).run jl w=.ok (.enter 56 args) w:=λ_ _=>rfl
 clear h a i k f g
 by_cases E:n=m
 ·have a4:((n:ja)!=(m:ja))=jr:=by simp[E]
  have Up:((n:ja)==(m:ja))=jk:=by simp[E]
  have ac:=O E;clear E
  go_enter func58,ntmps58
  go_wp2_with fail
  go_loopw [17] (λi wr=>∃k:T,i=jc jd k/\k<=n/\ji ((l.take k).map (Wl.dev)=(r.take k).map (ap.d))/\ji (jo w w wr)) (λi _=>n-(jF i).toNat)
  case atStart=>exact⟨0,I,n0 _,O ar,O (lw _ _)⟩
  obtain⟨k,rfl,hk,HG,a⟩:=hrel
  by_cases a5:k<n
  ·have a6:=az ((k:ja)<(n:ja))
   have ba:=az (k<n);have bb:k<m:=aI ac;have hd2:=az ((k:ja)<(m:ja));have bi:=az (k<m);obtain⟨x,R,ad⟩:=dL (l:=l) (j:=k) (by rw[<-V];exact a5);obtain⟨y,C,au⟩:=dL (l:=r) (j:=k) (by rw[<-X];exact bb);obtain⟨Q,ax,ay⟩:=HU.out;obtain⟨bk,a1,a2⟩:=ay.at (i:=k) (b:=x.body) (by rw[o8,R];rfl);obtain⟨g,o,c',hq,H⟩:=oC ax (λ_ _=>rfl) R a1;rw[Zu]at hq;injection hq with e1 e2 e3
   subst e1;subst e3;obtain⟨s,t,rfl⟩:=a2.form;obtain⟨u,a3⟩:=J x.body.length;rw[<-a3]at H;obtain⟨K,M,rfl,F⟩:=(HV.cells).2.2 Y;have bc:=O ad;have bd:=O au;have V8:=O R;have bf:=O C;obtain⟨f,B,xb⟩:=x;obtain⟨yk,P,yp,yv,yc⟩:=y;have z:=ao wr (jh #[jc jd f,jc jd B,jf s u t] 107);have Wh:=ao (wr.alloc (jh #[jc jd f,jc jd B,jf s u t] 107)) (jh #[jc jd yk,jc jd P,jc jd yp,jc jd yv,jc jd yc] 61);have a0:wr.cell? ⟨g,o+k*3,je⟩=N (jc jd f):=aB (H 0 _ I) a;have bg:wr.cell? ⟨g,o+k*3+1,je⟩=N (jc jd B):=aB (H 1 _ I) a;have bh:wr.cell? ⟨g,o+k*3+2,je⟩=N (jf s u t):=aB (H 2 _ I) a;have b0:(wr.alloc (jh #[jc jd f,jc jd B,jf s u t] 107)).cell? ⟨K,M+k*5,je⟩=N (jc jd yk):=aB (aB (F k _ C 0 _ I) a) z;have b1:(wr.alloc (jh #[jc jd f,jc jd B,jf s u t] 107)).cell? ⟨K,M+k*5+1,je⟩=N (jc jd P):=aB (aB (F k _ C 1 _ I) a) z;have b2:(wr.alloc (jh #[jc jd f,jc jd B,jf s u t] 107)).cell? ⟨K,M+k*5+2,je⟩=N (jc jd yp):=aB (aB (F k _ C 2 _ I) a) z;have b3:(wr.alloc (jh #[jc jd f,jc jd B,jf s u t] 107)).cell? ⟨K,M+k*5+3,je⟩=N (jc jd yv):=aB (aB (F k _ C 3 _ I) a) z;have b4:(wr.alloc (jh #[jc jd f,jc jd B,jf s u t] 107)).cell? ⟨K,M+k*5+4,je⟩=N (jc jd yc):=aB (aB (F k _ C 4 _ I) a) z;have HC:=O (λW=>Rm f B yk P yp yv yc s u t W);have W:=O (z.trans (Wh.mono z.size));clear H ax ay a1 a2 F R C ad au z Wh e2 a3
   go_wp2_with fail
   refine(HC _).mono ?_;rintro e w1 ⟨rfl,z⟩;have H:=O (a.trans ((W.trans (z.mono W.size)).mono a.size));clear z HC W a0 bg bh b0 b1 b2 b3 b4
   by_cases C:(f==P)=jk
   ·rw[C]
    have z:ji ((l.take (k+1)).map (Wl.dev)=(r.take (k+1)).map (ap.d)):=O (by
     rw[bc,bd,j5,j5,HG]
     congr 1
     simp only[jW,ql];simp at C;simp[C])
    clear C
    go_wp2_with fail
    exact⟨⟨k+1,by go_num,by omega,z,H⟩,by simp only[jF];omega⟩
   have R:(f==P)=jr:=ak C;rw[R];obtain rfl:S=jr:=by
    rw[U,decide_eq_false_iff_not];intro e;have F:=jS (λz=>z[k]?) e;simp only[o8,V8.out,bf.out,qZ,q7.injEq]at F
    apply C
    try simp at F
    simp[F]
   clear C R
   go_wp2_with fail
   go_ret;exact⟨I,H⟩
  have a6:=aw ((k:ja)<(n:ja));have ba:=aw (k<n);obtain rfl:k=n:=Y;obtain rfl:S=jk:=by
   rw[U,decide_eq_true_iff];have h:=HG.out;rw[qf (l:=l) (by rw[<-V];exact jE _),qf (l:=r) (by rw[<-X,<-ac];exact jE _)]at h;exact h
  go_wp2_with fail
  go_ret;exact⟨I,a⟩
 have a4:((n:ja)!=(m:ja))=jk:=by simp;omega
 have Up:((n:ja)==(m:ja))=jr:=by simp;omega
 obtain rfl:S=jr:=by
  rw[U,decide_eq_false_iff_not];intro e;have:=jS qK e;rw[ju,ju,<-V,<-X]at this;exact E this
 clear E
 go_enter func58,ntmps58
 go_wp2_with fail
 go_ret;exact⟨I,lw _ _⟩
def fK(l:A ap)(m:aJ):jT:=l.any λx=>x.d==m.dev
theorem Oa(d:ja)(b:T)(f g:ja)(x:ap)(w:jg)(c:w.heap[b]?=N (jh #[jc jd d,jc jd f,jc jd g] 82 (0,0))):
 jz jl 63 #[jm x.cells.toArray,jI (N ⟨b,0,je⟩)] w λe w'=>e=jv (.bool (x.d==d))/\jo w w w':=by
 obtain⟨h,j,k,l,m⟩:=x;unfold ap.cells;have a:=ao w (jh #[jc jd h,jc jd j,jc jd k,jc jd l,jc jd m] 61);have o:=ah (i:=0) (av c a) I;have n:=O a;clear a c
 go_enter func63,ntmps63
 go_wp2_with fail
 go_ret;exact⟨I,n⟩
theorem Oo(d:ja)(a b:T)(c e:ja)(f:a<b):fT EC 63 #[jI (N ⟨a,0,je⟩)] b (λW=>W.heap[a]?=N (jh #[jc jd d,jc jd c,jc jd e] 82 (0,0))) (λx=>x.d==d) where
 enter _ _:=I
 keep w w' hn h hB:=(hB.block a f).trans h
 call x w hn h:=Oa d a c e x w h
theorem MQ(c:Cmt)(q:CQ)(b:T)(m:aJ)(w:jg)(r:dV w b c q)(h:EC.At w q.vc c.chg)(s:c.chg.length<=1000000):
 jz jl 61 #[jm m.cells.toArray,jI (N ⟨b,0,je⟩)] w λe w'=>e=jv (.bool (fK c.chg m))/\jo w w w':=by
 obtain⟨md,a,d⟩:=m;unfold aJ.cells;have f:=ao w (jh #[jc jd md,jc jd a,jc jd d] 82);have g:=jC w (jh #[jc jd md,jc jd a,jc jd d] 82);obtain⟨t,i⟩:=J (w.alloc (jh #[jc jd md,jc jd a,jc jd d] 82));obtain⟨y,j⟩:=J w.heap.size;rw[<-i]at f g;rw[<-j]at g;have k:=h.below f;have l:=(r.below f).at.2.2.2.1;obtain⟨p,D,u,-,-⟩:=h.form;rw[u]at l k;have o:=O (Bg (Oo md y t.heap.size a d (jQ.1 g).1) c.chg _ t k g (jE _) s);have v:=O f;have z:=O i;have B:=O j;have C:ji ((c.chg.any λx=>x.d==md)=fK c.chg ⟨md,a,d⟩):=O I;obtain⟨n,x⟩:=J c.chg.length;rw[<-x]at l o;clear r h s f g i j k u x
 go_enter func61,ntmps61
 go_upto_region 1 with fail
 rw[<-z,<-B]
 go_wp2_with fail
 refine(o).mono ?_;rintro e x1 ⟨rfl,f⟩;have g:=ai v f;clear f o v l
 go_wp2_with fail
 go_ret;exact⟨iy C,g⟩
theorem P2(c:Cmt)(q:CQ)(b:T)(a:jg)(d:dV a b c q)(e:EC.At a q.vc c.chg)(f:c.chg.length<=1000000):
 fT EM 61 #[jI (N ⟨b,0,je⟩)] a.heap.size (λW=>jo a a W) (fK c.chg) where
 enter _ _:=I
 keep w w' hn h hB:=h.trans hB
 call x w hn h:=MQ c q b x w (d.below h) (e.below h) f
theorem Ed:∀(xs:A jb) (k i:T) (a:js jb),k+i+xs.length<=a.size->((xs.zipIdx i).foldl (λa x=>a.setIfInBounds (k+x.2) x.1) a).toList=a.toList.take (k+i)++xs++a.toList.drop (k+i+xs.length)
 |[],k,i,a,h=>by simp
 |x::xs,k,i,a,h=>by
  rw[jP]at h;have b:k+i<a.toList.length:=by rw[qb];omega
  rw[sn,List.foldl_cons,Ed xs k (i+1) _ (by rw[Array.size_setIfInBounds];omega),qA,<-qn,List.take_add_one,List.take_set_of_le (jE _),xq b,List.drop_set_of_lt Y,jP];simp only[Option.toList_some,qL,List.singleton_append,List.cons_append,xr];rw[show k+i+1+xs.length=k+i+(xs.length+1) by omega]
theorem vS(X Z:js jb)(k n:T)(h:X.size=n)(d:k+n<=Z.size):qM (λa x=>a.setIfInBounds (k+x.2) x.1) Z X.zipIdx 0 n=(Z.toList.take k++X.toList++Z.toList.drop (k+n)).toArray:=by
 have b:X.zipIdx.size=n:=by simp[h]
 have c:qM (λa (x:jb×T)=>a.setIfInBounds (k+x.2) x.1) Z X.zipIdx 0 n=X.zipIdx.toList.foldl (λa x=>a.setIfInBounds (k+x.2) x.1) Z:=by
  rw[Array.foldl_toList,b]
 rw[c,Array.toList_zipIdx]
 apply qo
 rw[Ed _ _ _ _ (by rw[qb];omega)];simp[h]
theorem Lf(f e:ja)(a:js jb)(b:a.size=32)(w:jg):
 (Instr.build 51 #[(0,jc jd f),(1,jc jd e),(2,jm a)]).run jl w=.ok (jm (#[jc jd f,jc jd e]++a++ #[jf je 0 0,jf je 0 0])) w:=by
 unfold Instr.build;go_simp;rw[vS a _ 2 32 b ar];obtain⟨l⟩:=a;simp
theorem P3(w:jg):(Instr.build 51 #[]).run jl w=.ok (jm (aD ⟨0,0,qs 32 0#8,[],[]⟩ (jf je 0 0) (jf je 0 0)).toArray) w:=by
 unfold Instr.build;go_simp
 rfl
theorem bH.ints{v:jb}(h:bH w v t)(key:∀(g o:T) (x:ja),w.cell? ⟨g,o,je⟩=N (jc jd x)->w'.cell? ⟨g,o,je⟩=N (jc jd x)):bH w' v t:=by
 obtain⟨p,c,d,f,i,k,l⟩:=h;refine⟨p,c,d,f,i,λm=>?_,l⟩;obtain⟨g,o,e,a⟩:=k m;exact⟨g,o,e,λj b=>⟨key _ _ _ (a j b).1,key _ _ _ (a j b).2⟩⟩
theorem uF{b i:T}{X l:js jb}{t:jt}(m:w.heap[b]?=N (jh X t (0,0)))(q:w'.heap[b]?=N (jh l t (0,0)))(r:∀j,j≠i->l[j]?=X[j]?){p:jw jM}{n c:T}(j:X[i]?=N (jf p n c))
 (s:∀k,k<w.heap.size->k≠b->w'.heap[k]?=w.heap[k]?):∀(g o:T) (x:ja),w.cell? ⟨g,o,je⟩=N (jc jd x)->w'.cell? ⟨g,o,je⟩=N (jc jd x):=λg o x d=>by
 by_cases e:g=b
 ·subst e
  unfold World.cell? at d⊢;rw[m]at d;rw[q];simp only at d⊢;have f:X[o]?=N (jc jd x):=ak d;have k:o≠i:=λe=>by rw[e,j]at f;injection f with h;cases h
  have:=(r o k).trans f
  simpa using this
 rw[<-d];exact dX (a:=⟨g,o,je⟩) (s g (ge d) e)
theorem m0(g:Grp)(a b:jb)(h:g.last.length=32):(aD g a b).toArray[34]?=N a/\(aD g a b).toArray[35]?=N b/\(aD g a b).toArray.size=36:=by
 have c:=lN (vm:=a) (vt:=b) h;exact⟨by simpa using c.2.2.1,by simpa using c.2.2.2,by rw[jL,eX h]⟩
theorem Dl(g:Grp)(a b x:jb)(h:g.last.length=32):(aD g a b).toArray.setIfInBounds 34 x=(aD g x b).toArray:=by
 apply qo
 rw[qA];unfold aD;have c:(g.last.map v8).length=32:=by rw[ju];exact h
 show qN (_ ::_ ::(g.last.map v8++[a,b])) 34 x=_;rw[pz,pz,qt _ _ Y,c]
 rfl
theorem CX(g:Grp)(a b x:jb)(h:g.last.length=32):(aD g a b).toArray.setIfInBounds 35 x=(aD g a x).toArray:=by
 apply qo
 rw[qA];unfold aD;have c:(g.last.map v8).length=32:=by rw[ju];exact h
 show qN (_ ::_ ::(g.last.map v8++[a,b])) 35 x=_;rw[pz,pz,qt _ _ Y,c]
 rfl
theorem M5(g:Grp)(a c b:jb)(h:g.last.length=32)(j:T)(d:j≠34):(aD g c b).toArray[j]?=(aD g a b).toArray[j]?:=by
 rw[<-Dl g a b c h,q8 (Ne.symm d)]
theorem R9(g:Grp)(a b c:jb)(h:g.last.length=32)(j:T)(d:j≠35):(aD g a c).toArray[j]?=(aD g a b).toArray[j]?:=by
 rw[<-CX g a b c h,q8 (Ne.symm d)]
theorem fa{b i:T}{a:js jb}{t:jt}(v:jb)(h:w.heap[b]?=N (jh a t (0,0))):(w.setCell ⟨b,i,je⟩ v).heap[b]?=N (jh (a.setIfInBounds i v) t (0,0)):=by
 show(w.heap.modify b _)[b]?=_;rw[xt];simp[h]
theorem dB{b i k:T}(v:jb)(h:k≠b):(w.setCell ⟨b,i,je⟩ v).heap[k]?=w.heap[k]?:=Below.heap_setCell _ _ _ _ h
theorem sk{b o n:T}{a:js jb}{t:jt}(h:w.heap[b]?=N (jh a t (0,0)))(c:o+n<=a.size):w.there b o n:=by
 intro j d;refine⟨?_,by simp[xu,h]⟩;rw[ah h (Array.getElem?_eq_getElem (show o+j<a.size by omega))]
 rfl
theorem fR{b o:T}{a:js jb}{t:jt}(h:w.heap[b]?=N (jh a t (0,0))):w.frozen? ⟨b,o,je⟩=jr:=by simp[xu,h]
def fY(l:A aJ)(a:A ap)(ep:ja):A aJ:=(l.filter λm=> !fK a m)++(a.filter λx=> !(x.k==2)).map λx=>⟨x.d,ep,x.v⟩
theorem vY(h:dC b):(b.mem.map aJ.dev).Nodup:=by
 rw[h.dev];exact(pH b.tree).imp λh=>Int.ne_of_lt h
theorem G1{l:A aJ}{c:A ap}{ep:ja}(f:(l.map aJ.dev).Nodup)(g:(c.map ap.d).Nodup):((fY l c ep).map aJ.dev).Nodup:=by
 unfold fY;rw[j5,List.nodup_append];refine⟨f.sublist (sq.map _),?_,?_⟩
 ·rw[ob]
  exact g.sublist (sq.map _)
 intro a h b i e;obtain⟨m,j,rfl⟩:=jy.1 h;obtain⟨y,k,rfl⟩:=jy.1 i;obtain⟨x,n,rfl⟩:=jy.1 k;have d:=(qg.1 j).2;have o:fK c m=jk:=by
  unfold fK;exact qJ.2 ⟨x,(qg.1 n).1,by simpa using e.symm⟩
 rw[o]at d
 cases d
theorem Ts(l:A aJ)(a b:A ap)(x:ap)(ep:ja):(l.filter λm=> !fK a m)++((b++[x]).filter λx=> !(x.k==2)).map (λx=>(⟨x.d,ep,x.v⟩:aJ))=
 ((l.filter λm=> !fK a m)++(b.filter λx=> !(x.k==2)).map (λx=>(⟨x.d,ep,x.v⟩:aJ)))++(if x.k=2 then []else [⟨x.d,ep,x.v⟩]):=by
 rw[xw,j5,qL]
 congr 1
 by_cases h:x.k=2
 ·simp[h]
 simp[h]
noncomputable def lU(p r s:ja)(msg:LBy):jT:=by classical exact decide (mw p r s msg)
theorem An{s:ja}:lU d U s r=jk↔mw d U s r:=by unfold lU;simp
def onB(g:Grp)(c:Cmt):jT:=(c.folder==g.folder)&&(c.epoch==g.epoch+1)&&decide (c.parent=g.last)
noncomputable def kw(g:Grp)(c:Cmt):jT:=decide (c.box.map (λb:Bx=>(b.lev,b.node))=dT g c.author c.chg)&&decide (c.wel.map Wl.dev=(du c.author c.chg).map ap.d)
noncomputable def cQ(g:Grp)(c:Cmt):ja:=
 if fE g=jr then 1 else if gV c≠0 then 220 else if onB g c=jr then 220 else if dq g c.author c.chg≠0 then dq g c.author c.chg else if kw g c=jr then 220
 else if lU (dQ g c.author c.chg) c.r c.s (dp c)=jr then 222 else eZ (aW g.tree c.chg) c.author c.path
noncomputable def aC(g:Grp)(c:Cmt):Grp:=⟨g.folder,c.epoch,aG c,fI (fY g.mem c.chg c.epoch),gm (aW g.tree c.chg) c.author c.path⟩
def kr:Grp:=⟨0,0,qs 32 0#8,[],[]⟩
structure gt(M R:T)(t e:jt)(sz:T)(X:jb->js jb)(w0 wr:jg)(n:T)(a:jb)(xs:A jb):Prop where
 box:wr.heap[R]?=N (jh (X a) t (0,0))
 own:wr.ownsRow M e sz a n xs
 but:dy R M w0 wr
 sz':M<=wr.heap.size
theorem gt.later{z:jt}{o:jb->js jb}{F:jg}(h:gt M R e z m o w W y a i)(d:R<M)(c:jo W W F):gt M R e z m o w F y a i:=
 ⟨(c.block R (jB d h.sz')).trans h.box,cL h.own c,h.but.trans (dy.of_below (c.mono h.sz')) (jE _),jJ h.sz' c.size⟩
theorem m9{sz n:T}{v:jb}(h:w.ownsRow M e sz v n xs)(b:∀k,M<=k->w'.heap[k]?=w.heap[k]?):w'.ownsRow M e sz v n xs:=by
 refine⟨h.1,?_⟩
 rcases h.2 with a|⟨g,c,d,f,a,i,j⟩
 ·exact .inl a
 exact .inr ⟨g,c,d,f,a,(b g a).trans i,j⟩
theorem pC(w:jg)(a:jM)(v:jb):(w.setCell a v).heap.size=w.heap.size:=by simp[World.setCell]
theorem gt.push{i:T}{t:jt}{sz:T}{f d:jg}{n:T}{c b:jb}{ys:A jb}(h:gt M R t e sz X w0 f n c xs)(j:R<M)(a:cE M e sz f d c b m ys)(l:(X c).setIfInBounds i b=X b):
 gt M R t e sz X w0 (d.setCell ⟨R,i,je⟩ b) m b ys:=by
 have o:d.heap[R]?=N (jh (X c) t (0,0)):=k7 h.box a.grown (eV h.own (.inr j));refine⟨?_,m9 a.own (λk g=>dB _ Y),?_,?_⟩
 ·rw[<-l];exact fa b o
 ·refine h.but.trans ⟨a.grown.os,a.grown.tape,a.grown.output,by rw[pC];exact a.grown.size,λk g p=>(dB _ p).trans (a.grown.block k (jB g h.sz') (λe=>?_))⟩ (jE _)
  have:=(h.own.lt k e.symm).1;omega
 rw[pC];exact jJ h.sz' a.grown.size
theorem gt.first{i:T}{t:jt}{sz:T}{a:jg}{n:T}{b v:jb}(c:a.heap[R]?=N (jh (X b) t (0,0)))(d:a.ownsRow M e sz v n xs)(f:jo M w0 a)(g:M<=a.heap.size)(m:R<M)(h:(X b).setIfInBounds i v=X v):
 gt M R t e sz X w0 (a.setCell ⟨R,i,je⟩ v) n v xs:=by
 refine⟨?_,m9 d (λk j=>dB _ Y),?_,by rw[pC];exact g⟩
 ·rw[<-h];exact fa v c
 exact(dy.of_below f).trans ⟨I,I,I,qO (pC _ _ _).symm,λk j l=>dB _ l⟩ (jE _)
theorem Lr{w:jg}{P:jN}{B:Act}{K:Act->jg->Prop}{h:Exit->Act->jg->Prop}(s x:jX)
 (e:P.op=.call {callee:=.builtin .append,args:=#[s,x],argTypes:=#[46,46]})
 (a:T) (v:jb) (n:T) (xs:A jb) (f:B.eval s=v) (g:w.ownsRow a 82 3 v n xs) (b:jb) (m:T) (ys:A jb) (i:B.eval x=b) (j:cF w b 3 m ys) (k:∀b∈ys,b.oneCell'=jk)
 (D:n+m<=4000000) (l:a<=w.heap.size) (d:∀c w',cE a 82 3 w w' v c (n+m) (xs++ys)->K (B.put P.dst c) w'):P.wp jl B w K h:=by
 obtain⟨p,q,r,t,u⟩:=oq Cm;exact nP s x 46 e a 82 p _ 3 24 underlying46 q r t u I G v n xs f g b m ys i j k (by unfold jY;omega) Y l
  λc w' y z C=>d c w' (oo y z C)
theorem LB(l:A aJ)(a:A ap)(ep:ja){x:ap}{i:T}(h:a.take (i+1)=a.take i++[x]):((l.filter λm=> !fK a m)++((a.take (i+1)).filter λx=> !(x.k==2)).map λx=>(⟨x.d,ep,x.v⟩:aJ))=
 ((l.filter λm=> !fK a m)++((a.take i).filter λx=> !(x.k==2)).map λx=>(⟨x.d,ep,x.v⟩:aJ))++(if x.k=2 then []else [⟨x.d,ep,x.v⟩]):=by rw[h];exact Ts l a (a.take i) x ep
theorem J3(h:cS d=0):bJ d:=by
 rcases Classical.em (bJ d)with a|a
 ·exact a
 rw[kZ a]at h;exact jA h G
theorem AZ(z:ja×ja):∀l,z∈en z l
 |[]=>by simp[en]
 |x::r=>by
  unfold en
  split
  ·exact j0 ..
  exact j8 _ (AZ z r)
theorem vH{z e:ja×ja}:∀{l},e∈l->e∈en z l
 |[],h=>by cases h
 |x::r,h=>by
  unfold en
  split
  ·exact j8 _ h
  rcases jD.1 h with rfl|h
  ·exact j0 ..
  exact j8 _ (vH h)
theorem zj(a:0<=d)(b:d<512)(e:512<=U)(h:Und (512+d) U):U=512+d:=by
 obtain⟨k,c,rfl⟩:=JJ a b h
 rcases k with _|k
 ·simp
 have f:=(rS a b c).2 0 (Nat.succ_pos k);have g:(512+d)/2^(k+1)<=(512+d)/2:=by
  rw[Int.pow_succ,Int.mul_comm,<-Int.ediv_ediv_of_nonneg G];exact Int.ediv_le_self _ Y
 omega
theorem N5{e:ja×ja}(he:e∈t)(a:¬Und (512+d) e.1):e∈dJ t d:=by
 unfold dJ;exact qg.2 ⟨he,by rw[Eh a];rfl⟩
theorem O4(c:0<=d)(g:d<512){e:ja×ja}(i:og t e.1)(j:¬Und (512+d) e.1):og (dJ t d) e.1:=by
 obtain⟨f,k,a,b⟩:=i;refine⟨f,N5 k (λh=>j ?_),a,b⟩;rw[<-zj c g a h];exact b
theorem Ap(h:fV t)(a:0<=d)(b:d<512):fV (dJ t d):=by
 refine⟨su h.1 d,λe he=>?_⟩;obtain⟨c,f⟩:=Ho he;obtain⟨g,i,j,k⟩:=h.2 e c;exact⟨g,i,j,O4 a b k f⟩
theorem EO{s:A (ja×ja)}(h:og t d)(b:∀e∈t,e∈s):og s d:=by
 obtain⟨f,c,h⟩:=h;exact⟨f,b f c,h⟩
theorem Ns(h:fV t)(a:0<=d)(b:d<512)(c:bJ U):fV (en (512+d,U) (dJ t d)):=by
 refine⟨vF (su h.1 d) (sA (rM Y)),λe he=>?_⟩
 rcases pU he with rfl|he
 ·refine⟨?_,?_,c,(512+d,U),AZ _ _,?_,rM ?_⟩<;>show _ <=_ <;>omega
 obtain⟨g,i,j,k⟩:=(Ap h a b).2 e he;exact⟨g,i,j,EO k (λf l=>vH l)⟩
theorem GY{e:ja×ja}(he:e∈dJ t d):∀k,e∈eF t d x k
 |0=>he
 |k+1=>vH (GY he k)
theorem FG{l:A ja}{j:T}:∀{k},j<k->((512+d)/2^j,l.getD j 0)∈eF t d l k
 |0,h=>jA h (qP _)
 |k+1,h=>by
  unfold eF
  rcases Nat.lt_or_eq_of_le (Nat.le_of_lt_succ h)with a|rfl
  ·exact vH (FG a)
  exact AZ _ _
theorem IP{l:A ja}(h:fV t)(a:0<=d)(b:d<512)(q:l.length=10)(c:iu l):fV (eF t d l 10):=by
 refine⟨Bo h.1 a b (jE 10),λe he=>?_⟩;have g:(512+d,l.getD 0 0)∈eF t d l 10:=by
  have:=FG (t:=t) (d:=d) (l:=l) (j:=0) (k:=10) G
  simpa using this
 rcases Au he with he|⟨j,r,rfl⟩
 ·obtain⟨i,m,n,o⟩:=(Ap h a b).2 e he
  exact⟨i,m,n,EO o (λf p=>GY p 10)⟩
 have f:=Es (k:=j) a b;exact⟨(rS a b Y).1,f.2,J3 (c j Y),_,g,by show 512<=512+d;omega,AV a b Y⟩
theorem mem_iff(t:A (ja×ja))(d:ja):d∈cr t↔0<=d/\d<512/\(bG t (512+d)).isSome=jk:=by
 rw[oA,B4]
theorem ym{f:ja->jw ja}:∀{h n:T},d∈df f h n->(f d).isSome=jk
 |0,n,a=>by
  unfold df at a
  split at a
  ·rw[qh.1 a];assumption
  cases a
 |h+1,n,a=>by
  unfold df at a
  split at a
  ·rw[qh.1 a];assumption
  rcases jR.1 a with a|a
  ·exact ym a
  exact ym a
theorem Kl(h:U∈fc t d):(bG t U).isSome=jk:=by
 unfold fc at h
 split at h
 ·exact ym h
 cases h
theorem Gv(c:dc t=0)(h:d∈cr t)(b:jT):dG t d b=0:=by
 obtain⟨e,f,a⟩:=(mem_iff _ _).1 h;unfold dG;rw[jp c,jq];rintro(h|h|⟨-,h⟩)
 ·omega
 ·omega
 rw[h]at a;cases a
theorem Lg(g:0<=d)(h:d<512)(x:ja):x∈cr (dJ t d)↔x≠d/\x∈cr t:=by
 rw[mem_iff,mem_iff,Bu]
 constructor
 ·rintro⟨a,b,c⟩
  split at c
  ·cases c
  rename_i f;refine⟨λe=>f ?_,a,b,c⟩;rw[e];exact uc (rM Y)
 rintro⟨e,a,b,c⟩;refine⟨a,b,?_⟩;rw[jq]
 ·exact c
 intro f;have:=zj g h Y ((zU _ _).1 f);omega
theorem Ih(h:dC b)(d:ja):cA b.mem d=jk↔d∈cr b.tree:=by
 rw[<-h.dev];unfold cA;rw[qJ]
 constructor
 ·rintro⟨m,a,e⟩
  exact jy.2 ⟨m,a,by simpa using e⟩
 intro h;obtain⟨m,a,e⟩:=jy.1 h;exact⟨m,a,by simpa using e⟩
theorem Ad(h:d∈cr t):0<=d/\d<512:=by
 have:=(oA t d).1 h;exact⟨this.1,this.2.1⟩
structure Gk(t:A (ja×ja))(l:A ap):Prop where
 each:∀x∈l,oN x
 once:(l.map ap.d).Nodup
 mem:∀x∈l,(x.d∈cr t↔x.k≠1)
theorem ER(a:0<=d)(b:d<512)(x:ja):x∈cr (dJ t d)↔x≠d/\x∈cr t:=Lg a b x
theorem JZ(b:0<=d)(c:d<512)(x:ja):x∈cr (en (512+d,U) (dJ t d))↔x=d\/x∈cr t:=by
 rw[mem_iff];have e:=uS (z:=(512+d,U)) (sA (t:=t) (rM Y)) (512+x);rw[e]
 by_cases h:x=d
 ·subst h
  simp[b,c]
 rw[jq (by show ¬512+x=512+d;omega)];have f:=ER (t:=t) b c x;rw[mem_iff]at f;rw[f]
 constructor
 ·exact λh=>.inr h.2
 rintro(a|a)
 ·exact jA a h
 exact⟨h,a⟩
theorem OC{x:ap}(h:fV t)(j:oN x)(k:x.d∈cr t↔x.k≠1):fV (ie t x)/\∀d,d∈cr (ie t x)↔(d=x.d/\x.k≠2)\/(d≠x.d/\d∈cr t):=by
 have f:=tu h;obtain⟨⟨b,c⟩,l⟩:=j
 by_cases a:x.k=2
 ·have g:x.d∈cr t:=k.2 Y
  have e:ie t x=dJ t x.d:=by unfold ie kG;rw[jp a,jp (Gv f g jk)]
  rw[e];refine⟨Ap h b c,λd=>?_⟩;rw[ER b c]
  constructor
  ·exact λh=>.inr h
  rintro(⟨-,h⟩|h)
  ·exact jA a h
  exact h
 have g:bJ x.p:=by
  rcases l with⟨-,h,-⟩|⟨h,-⟩|⟨-,h,-⟩
  ·exact h
  ·exact jA h a
  exact h
 have m:dG t x.d jr=0:=by
  unfold dG;rw[jp f,jq (by rintro(h|h|⟨h,-⟩);omega;omega;cases h)]
 have n:gI t x.d x.p=0:=by unfold gI;rw[jp m,jp (gD g)]
 have e:ie t x=en (512+x.d,x.p) (dJ t x.d):=by unfold ie kR;rw[jq a,jp n]
 rw[e];refine⟨Ns h b c g,λd=>?_⟩;rw[JZ b c]
 by_cases i:d=x.d
 ·simp[i,a]
 simp[i]
theorem O8(t:A (ja×ja))(x:ap)(l:A ap):aW t (x::l)=aW (ie t x) l:=I
theorem oS:∀(l:A ap) (t:A (ja×ja)),fV t->Gk t l->fV (aW t l)/\∀d,d∈cr (aW t l)↔(∃x∈l,x.d=d/\x.k≠2)\/((∀x∈l,x.d≠d)/\d∈cr t)
 |[],t,h,b=>⟨h,λd=>by simp[aW]⟩
 |x::l,t,h,b=>by
  obtain⟨m,g⟩:=OC h (b.each x (j0 ..)) (b.mem x (j0 ..));have i:=sv.1 (show(x.d::l.map ap.d).Nodup from b.once);have j:∀y∈l,y.d≠x.d:=λy a e=>i.1 (by rw[<-e];exact sx a)
  obtain⟨n,o⟩:=oS l _ m ⟨λy a=>b.each y (j8 _ a),i.2,λy a=>by
   rw[g,<-b.mem y (j8 _ a)];have:=j y a;simp[this]⟩
  refine⟨n,λd=>?_⟩;rw[O8,o,g]
  constructor
  ·rintro(⟨y,a,e,k⟩|⟨c,⟨e,k⟩|⟨p,f⟩⟩)
   ·exact .inl ⟨y,j8 _ a,e,k⟩
   ·exact .inl ⟨x,j0 ..,e.symm,k⟩
   refine .inr ⟨λy a=>?_,f⟩
   rcases jD.1 a with rfl|a
   ·exact λe=>p e.symm
   exact c y a
  rintro(⟨y,a,e,k⟩|⟨c,f⟩)
  ·rcases jD.1 a with rfl|a
   ·refine .inr ⟨λz p=>?_,.inl ⟨e.symm,k⟩⟩
    rw[<-e];exact j z p
   exact .inl ⟨y,a,e,k⟩
  exact .inr ⟨λy a=>c y (j8 _ a),.inr ⟨λe=>c x (j0 ..) e.symm,f⟩⟩
theorem pZ(c:dC b)(g:eU u)(a:gL b d u):Gk b.tree u:=by
 refine⟨g.each,g.once,λx e=>?_⟩;rw[<-Ih c,(a.each x e).1];simp
theorem yC(g:dC b)(f:eU u)(c:gL b d u):d∈cr (aW b.tree u):=by
 rw[(oS u _ (lM g.tree) (pZ g f c)).2]
 rcases Int.lt_or_le 0 b.epoch with h|h
 ·have a:cA b.mem d=jk:=by rw[c.own];simpa using h
  exact .inr ⟨λx e=>(c.each x e).2 a,(Ih g d).1 a⟩
 have a:b.epoch=0:=by have:=g.ep.1;omega
 obtain⟨x,r,rfl,e⟩:=c.first a;have i:x.k=1:=by
  have:=(c.each x (j0 ..)).1;rw[(g.zero a).1]at this
  simpa [cA]using this
 exact .inl ⟨x,j0 ..,e,by omega⟩
theorem If{l:A ja}(a:0<=d)(b:d<512){k:T}:∀m,k<m->m<=10->bG (eF t d l m) ((512+d)/2^k)=N (l.getD k 0)
 |0,h,_=>jA h Y
 |m+1,h,c=>by
  rw[uf a b Y]
  by_cases e:k=m
  ·rw[jp (by rw[e]),e]
  rw[jq,If a b m Y Y];have:=(rS a b (k:=m) Y).2 k Y;omega
theorem GR(a:0<=d)(b:d<512){y:ja}(c:¬Und (512+d) y):∀m,m<=10->bG (eF t d x m) y=bG t y
 |0,_=>by
  unfold eF;rw[Bu,jq (λh=>c ((zU _ _).1 h))]
 |m+1,f=>by
  rw[uf a b Y,jq,GR a b c m Y];exact λe=>c (by rw[e];exact AV a b Y)
theorem Ot{l:A ja}(c:d∈cr t):cr (eF t d l 10)=cr t:=by
 obtain⟨a,b⟩:=Ad c;refine Az (pH _) (pH _) (λx=>?_);rw[mem_iff,mem_iff]
 by_cases f:Und (512+d) (512+x)
 ·by_cases h:0<=x
  ·have e:512+x=512+d:=zj a b Y f
   have i:x=d:=Y;subst i;have g:=If (t:=t) (l:=l) a b (k:=0) 10 Y Y;simp only[Int.pow_zero,Int.ediv_one]at g;rw[g];have j:=(mem_iff t x).1 c;simp[j]
  simp[h]
 rw[GR a b f 10 Y]
theorem SK(h:(u.map ap.d).Nodup):((fi u).map ap.d).Pairwise (·<·):=by
 have d:(fi u).Perm u:=mb _ _;have a:(fi u).Pairwise λx y=>decide (x.d<=y.d)=jk:=xx (λa b c e f=>by simp at*;omega) (λa b=>by simp;omega) u
 have b:((fi u).map ap.d).Nodup:=(d.map _).nodup_iff.2 h;have c:((fi u).map ap.d).Pairwise (·<=·):=xy.2 (a.imp λh=>by simpa using h);exact(c.and b).imp λh=>by have:=h.1;have:=h.2;omega
theorem Nx(h:(Q.map aJ.dev).Nodup):((fI Q).map aJ.dev).Pairwise (·<·):=by
 have d:(fI Q).Perm Q:=mb _ _;have a:(fI Q).Pairwise λx y=>decide (x.dev<=y.dev)=jk:=xx (λa b c e f=>by simp at*;omega) (λa b=>by simp;omega) Q
 have b:((fI Q).map aJ.dev).Nodup:=(d.map _).nodup_iff.2 h;have c:((fI Q).map aJ.dev).Pairwise (·<=·):=xy.2 (a.imp λh=>by simpa using h);exact(c.and b).imp λh=>by have:=h.1;have:=h.2;omega
theorem tg(m:aJ):m∈fY Q u d↔(m∈Q/\∀x∈u,x.d≠m.dev)\/∃x∈u,x.k≠2/\m=⟨x.d,d,x.v⟩:=by
 unfold fY;rw[jR,qg,jy]
 constructor
 ·rintro(⟨b,a⟩|⟨x,b,a⟩)
  ·refine .inl ⟨b,λx ep e=>?_⟩
   have:fK u m=jk:=by unfold fK;exact qJ.2 ⟨x,ep,by simpa using e⟩
   rw[this]at a;cases a
  obtain⟨e,f⟩:=qg.1 b;exact .inr ⟨x,e,by simpa using f,a.symm⟩
 rintro(⟨b,a⟩|⟨x,b,a,e⟩)
 ·refine .inl ⟨b,?_⟩
  have:fK u m=jr:=by
   unfold fK;rw[xo];intro x ep
   simpa using a x ep
  rw[this];rfl
 exact .inr ⟨x,qg.2 ⟨b,by simpa using a⟩,e.symm⟩
structure gQ(g:Grp)(c:Cmt):Prop where
 val:dC g
 chk:mC c
 fol:c.folder=g.folder
 ep:c.epoch=g.epoch+1
 par:c.parent=g.last
 form:eU c.chg
 poss:gL g c.author c.chg
 box:c.box.map (λb:Bx=>(b.lev,b.node))=eo (aW g.tree c.chg) c.author
 wel:c.wel.map Wl.dev=(du c.author c.chg).map ap.d
 ver:mw (dQ g c.author c.chg) c.r c.s (dp c)
 ren:eZ (aW g.tree c.chg) c.author c.path=0
theorem wZ(h:dq b d u=0):dT b d u=eo (aW b.tree u) d:=by unfold dT;rw[jp h]
theorem ET:fE b=jk↔dC b:=by unfold fE;simp
theorem QC:gV p=0↔mC p:=by
 constructor
 ·intro h
  exact Classical.byContradiction λa=>by rw[fj a]at h;cases h
 exact un
theorem iR:cQ b p=0↔gQ b p:=by
 unfold cQ
 constructor
 ·intro h
  by_cases i:fE b=jr
  ·rw[jp i]at h;cases h
  rw[jq i]at h
  by_cases j:gV p≠0
  ·rw[jp j]at h;cases h
  rw[jq j]at h
  by_cases g:onB b p=jr
  ·rw[jp g]at h;cases h
  rw[jq g]at h
  by_cases a:dq b p.author p.chg≠0
  ·rw[jp a]at h;exact jA h a
  rw[jq a]at h
  by_cases d:kw b p=jr
  ·rw[jp d]at h;cases h
  rw[jq d]at h
  by_cases k:lU (dQ b p.author p.chg) p.r p.s (dp p)=jr
  ·rw[jp k]at h;cases h
  rw[jq k]at h;have m:fE b=jk:=ak i;have e:onB b p=jk:=ak g;have l:dq b p.author p.chg=0:=Classical.byContradiction a;have f:kw b p=jk:=ak d;have n:lU (dQ b p.author p.chg) p.r p.s (dp p)=jk:=ak k;unfold onB at e;unfold kw at f;simp only[xz,beq_iff_eq,decide_eq_true_eq]at e f;obtain⟨-,o,c⟩:=lz.1 l;exact⟨ET.1 m,QC.1 (Classical.byContradiction j),e.1.1,e.1.2,e.2,o,c,by rw[<-wZ l];exact f.1,f.2,An.1 n,h⟩
 intro h;have a:dq b p.author p.chg=0:=lz.2 ⟨h.val,h.form,h.poss⟩;have g:onB b p=jk:=by unfold onB;simp[h.fol,h.ep,h.par]
 have d:kw b p=jk:=by unfold kw;rw[wZ a];simp[h.box,h.wel]
 rw[jq (by rw[ET.2 h.val];decide),jq (by rw[un h.chk];decide),jq (by rw[g];decide),jq (by rw[a];decide),jq (by rw[d];decide),jq (by rw[An.2 h.ver];decide)];exact h.ren
theorem Hd(g:dC b)(c:eU u)(a:gL b d u)(h:x.length=10)(i:∀p∈x,bJ p):eZ (aW b.tree u) d x=0/\iu x:=by
 have e:iu x:=λj f=>by rw[fp _ f];exact gD (i _ (q9 f))
 have k:=(oS u _ (lM g.tree) (pZ g c a)).1;refine⟨?_,e⟩;unfold eZ;rw[jp (Gv (tu k) (yC g c a) jk),jp ⟨h,e⟩]
theorem iz(h:gQ b p):dC (aC b p):=by
 have o:=pZ h.val h.form h.poss;obtain⟨c,q⟩:=oS p.chg _ (lM h.val.tree) o;have k:=yC h.val h.form h.poss;obtain⟨r,s⟩:=Ad k;have t:=(Hd h.val h.form h.poss h.chk.plen h.chk.path).2;have l:(aC b p).tree=eF (aW b.tree p.chg) p.author p.path 10:=by
  show gm _ _ _ =_;unfold gm;rw[jp h.ren]
 have u:=G1 (ep:=p.epoch) (vY h.val) h.form.once;have n:(fI (fY b.mem p.chg p.epoch)).Perm (fY b.mem p.chg p.epoch):=mb _ _;refine⟨h.val.fol,⟨by have:=h.chk.ep;show 0<=p.epoch;omega,h.chk.ep.2⟩,?_,λe=>?_,?_,λm j=>?_⟩
 ·rw[l];exact tu (IP c r s h.chk.plen t)
 ·have:=h.chk.ep.1
  have a:p.epoch=0:=e;omega
 ·rw[l,Ot k]
  refine Az (Nx u) (pH _) (λd=>?_);show d∈rk aJ.dev (fI (fY b.mem p.chg p.epoch))↔_;rw[(n.map aJ.dev).mem_iff,q]
  constructor
  ·intro a
   obtain⟨m,j,rfl⟩:=jy.1 a
   rcases(tg m).1 j with⟨f,i⟩|⟨x,f,i,rfl⟩
   ·refine .inr ⟨i,?_⟩
    rw[<-h.val.dev];exact sx f
   exact .inl ⟨x,f,I,i⟩
  rintro(⟨x,f,rfl,i⟩|⟨f,i⟩)
  ·exact jy.2 ⟨_,(tg _).2 (.inr ⟨x,f,i,I⟩),I⟩
  rw[<-h.val.dev]at i;obtain⟨m,j,rfl⟩:=jy.1 i;exact jy.2 ⟨m,(tg m).2 (.inl ⟨j,f⟩),I⟩
 show 1<=m.since/\m.since<=p.epoch/\_;have v:=h.ep;have w:=h.chk.ep.1
 rcases(tg m).1 (n.mem_iff.1 j)with⟨f,-⟩|⟨x,f,i,rfl⟩
 ·obtain⟨a,g,d⟩:=h.val.ok m f
  exact⟨a,by omega,d⟩
 refine⟨by show 1<=p.epoch;omega,by show p.epoch<=p.epoch;omega,?_⟩;obtain⟨-,a⟩:=h.form.each x f
 rcases a with⟨-,-,a,-⟩|⟨a,-⟩|⟨-,-,a,-⟩
 ·exact a
 ·exact jA a i
 exact a
theorem DO{x:H}:∀{l:A H} {k:T},(x,M)∈l.zipIdx k->k<=M/\M<k+l.length/\x∈l
 |[],k,h=>by simp at h
 |y::l,k,h=>by
  rw[sn]at h
  rcases jD.1 h with h|h
  ·injection h with a b
   subst a b;exact⟨jE _,by simp,j0 ..⟩
  obtain⟨a,b,c⟩:=DO h;exact⟨by omega,by rw[jP];omega,j8 _ c⟩
theorem FSo(f:fV t){a:ja}(g:0<=a)(j:a<512){k n:ja}(h:(k,n)∈eo t a):(1<=k/\k<=9)/\(1<=n/\n<1024)/\(bG t n).isSome=jk/\bJ ((bG t n).getD 0):=by
 unfold eo fw at h;obtain⟨⟨s,i⟩,l,o⟩:=List.mem_flatMap.1 h;obtain⟨w,p,-⟩:=DO l;rw[Aq g j]at p;obtain⟨m,q,e⟩:=jy.1 o;injection e with r u
 subst r u;have c:=Kl q;obtain⟨v,d⟩:=Option.isSome_iff_exists.1 c;have b:=f.2 _ (oF d);refine⟨⟨by show(1:ja)<=(i:ja);omega,by show(i:ja)<=9;omega⟩,⟨b.1,by have:=b.2.1;show m<1024;have:m<=1023:=b.2.1;omega⟩,c,?_⟩;rw[d];exact b.2.2.1
theorem PO(t:A (ja×ja))(x:ja):(fc t x).length<=2^hgt x.toNat:=by
 unfold fc
 split
 ·exact sX _ _ _
 simp
theorem P4(t:A (ja×ja)):∀(l:A ja) (k:T),(fw t l k).length<=(l.map λs=>2^hgt s.toNat).sum:=by
 intro l
 induction l with
 |nil=>intro k;simp[fw]
 |cons y l a=>
  intro k;have h:=a (k+1);unfold fw at h⊢;rw[sn,qB,jG,ju,jW,List.sum_cons];have b:(fc t (y,k).1).length<=2^hgt y.toNat:=PO t y;omega
theorem J7:∀n:Fin 512,((nI n.val).map λs=>2^hgt s).sum=511:=by decide+kernel
theorem Cw(t:A (ja×ja)){a:ja}(b:0<=a)(c:a<512):(eo t a).length<=511:=by
 unfold eo;refine jJ (P4 _ _ _) ?_;have e:((ia a).map λs=>2^hgt s.toNat)=(nI a.toNat).map λs=>2^hgt s:=by
  unfold ia;rw[ob]
  rfl
 rw[e];have:=J7 ⟨a.toNat,by omega⟩;exact qO this
def dj(l:A aJ)(d:ja):jw aJ:=l.find? λm=>m.dev==d
def mX(l:A ap)(d:ja):jw ap:=l.find? λx=>x.d==d
theorem zq(f:H->ja)(d:ja):∀(l:A H),(l.map f).Nodup->∀m,(l.find? λm=>f m==d)=N m↔m∈l/\f m=d
 |[],_,m=>by simp
 |x::l,h,m=>by
  rw[jW,sv]at h;rw[List.find?_cons]
  by_cases e:f x=d
  ·simp only[e,BEq.rfl,q7.injEq]
   constructor
   ·rintro rfl;exact⟨j0 ..,e⟩
   rintro⟨b,a⟩
   rcases jD.1 b with rfl|c
   ·rfl
   exact jA (jy.2 ⟨m,c,by rw[a,e]⟩) h.1
  rw[beq_eq_false_iff_ne.2 e,zq f d l h.2 m]
  constructor
  ·rintro⟨b,a⟩;exact⟨j8 _ b,a⟩
  rintro⟨b,a⟩
  rcases jD.1 b with rfl|c
  ·exact jA a e
  exact⟨c,a⟩
theorem sQ(h:(Q.map aJ.dev).Nodup)(d:ja)(m:aJ):dj Q d=N m↔m∈Q/\m.dev=d:=zq aJ.dev d Q h m
theorem uW(h:(u.map ap.d).Nodup)(d:ja)(x:ap):mX u d=N x↔x∈u/\x.d=d:=zq ap.d d u h x
theorem Me{a b:jw H}(h:∀x,a=N x↔b=N x):a=b:=by
 cases a with
 |none=>cases b with
  |none=>rfl
  |some y=>exact jA ((h y).2 I) ar
 |some x=>exact((h x).1 I).symm
theorem yM:(dj Q d).isSome=cA Q d:=by
 unfold dj cA;rw[xA,List.find?_isSome,qJ]
theorem pF(h:gQ b p)(m:aJ):m∈(aC b p).mem↔(m∈b.mem/\∀x∈p.chg,x.d≠m.dev)\/∃x∈p.chg,x.k≠2/\m=⟨x.d,p.epoch,x.v⟩:=by
 have a:(fI (fY b.mem p.chg p.epoch)).Perm (fY b.mem p.chg p.epoch):=mb _ _;exact a.mem_iff.trans (tg m)
theorem rX(h:gQ b p):((aC b p).mem.map aJ.dev).Nodup:=vY (iz h)
theorem zG{g:Grp}{c:Cmt}(h:gQ g c){d:ja}(j:mX c.chg d=je):dj (aC g c).mem d=dj g.mem d:=by
 have i:∀x∈c.chg,x.d≠d:=λx f e=>by
  have:=(uW h.form.once d x).2 ⟨f,e⟩;rw[j]at this;cases this
 refine Me λm=>?_
 rw[sQ (rX h),sQ (vY h.val),pF h]
 constructor
 ·rintro⟨a|⟨x,a,-,rfl⟩,b⟩
  ·exact⟨a.1,b⟩
  exact jA b (i x a)
 rintro⟨a,b⟩;exact⟨.inl ⟨a,λx f e=>i x f (e.trans b)⟩,b⟩
theorem Sd{g:Grp}{c:Cmt}(h:gQ g c){d:ja}{y:ap}(b:mX c.chg d=N y)(f:y.k=2):(dj g.mem d).isSome=jk/\dj (aC g c).mem d=je:=by
 obtain⟨i,rfl⟩:=(uW h.form.once d y).1 b;refine⟨by rw[yM,(h.poss.each y i).1,f];rfl,?_⟩
 cases e:dj (aC g c).mem y.d with
 |none=>rfl
 |some m=>
  obtain⟨k,j⟩:=(sQ (rX h) _ _).1 e
  rcases(pF h m).1 k with⟨-,a⟩|⟨x,a,l,rfl⟩
  ·exact jA j.symm (a y i)
  have:=(uW h.form.once _ x).2 ⟨a,j⟩;rw[b]at this;injection this with this
  exact jA (by rw[<-this];exact f) l
theorem EW{g:Grp}{c:Cmt}(h:gQ g c){d:ja}{y:ap}(b:mX c.chg d=N y)(f:y.k≠2):dj (aC g c).mem d=N ⟨d,c.epoch,y.v⟩/\(dj g.mem d).isSome= !(y.k==1):=by
 obtain⟨a,rfl⟩:=(uW h.form.once d y).1 b;refine⟨(sQ (rX h) _ _).2 ⟨(pF h _).2 (.inr ⟨y,a,f,I⟩),I⟩,?_⟩;rw[yM,(h.poss.each y a).1]
 by_cases e:y.k=1<;>simp[e]
theorem Ej(a n b P:T)(c:1%P=1)(h:a^b%P=1):a^(n%b)%P=a^n%P:=by
 have e:a^n=(a^b)^(n/b)*a^(n%b):=by rw[<-Nat.pow_mul,<-Nat.pow_add,xB]
 have d:(a^b)^(n/b)%P=1:=by rw[Nat.pow_mod,h,Nat.one_pow,c]
 rw[e,Nat.mul_mod,d,Nat.one_mul,Nat.mod_mod]
theorem Px(a k e x b P:T)(c:1%P=1)(h:a^b%P=1):a^((k+e*x%b)%b)%P=(a^k%P)*((a^x%P)^e%P)%P:=by
 rw[Ej a _ b P c h,Nat.pow_add,Nat.mul_mod,Ej a (e*x) b P c h,<-Nat.pow_mod,<-Nat.pow_mul,sy x e]
theorem NY:1%PN=1:=by decide
theorem Sy(h:d.toNat=M)(a:bJ d):M^QN%PN=1:=by rw[<-h];exact a.2.2
theorem Rk(x:T)(msg:LBy):mw (aX 4 x:T) (kj x msg:T) (kD x msg:T) msg:=by
 refine⟨o6 (a:=4) mS x,o6 (a:=4) mS _,⟨by omega,?_⟩,?_⟩
 ·have h:kD x msg<QN:=Nat.mod_lt _ G
  have b:QN=2305843009213688669:=I;omega
 simp only[Int.toNat_natCast];unfold kD;generalize rF (kj x msg) (aX 4 x) msg=e;unfold kj;generalize iS x msg=k;unfold aX;exact Px 4 k e x QN PN NY (Sy I mS)
def gO:ByteArray:=⟨#[98,111,120]⟩
def kq:ByteArray:=⟨#[119,101,108,99,111,109,101]⟩
def kL:ByteArray:=⟨#[99,111,109,109,105,116,32,98,111,100,121]⟩
def cG:LBy:=qs 32 0#8
def dA(a:LBy):A ja:=(qc 10).map λi=>((aX 4 (aS (aA a i)):T):ja)
def tB(t:A (ja×ja))(n:ja):T:=((bG t n).getD 0).toNat
def bV(g:Grp)(a:ja)(b:A ap)(c:LBy):Cmt:=⟨g.folder,g.epoch+1,g.last,a,b,dA c,[],[],cG,0,0⟩
noncomputable def eA(g:Grp)(a:ja)(b:A ap)(c seed:LBy)(x:ja×ja):Bx:=
 ⟨x.2,x.1,(aX 4 (gh (dZ seed gO [x.1,x.2])):T),gq (tB (aW g.tree b) x.2) (dZ seed gO [x.1,x.2]) (iV (bV g a b c) gO [x.1,x.2]) (aA c x.1.toNat)⟩
def dM(g:Grp)(a init:LBy):LBy:=wT (if g.epoch=0 then cG else init) (aA a 9)
def fA(g:Grp)(a:ja)(c:A ap)(b init seed:LBy)(y:ap):Wl:=
 ⟨y.d,(aX 4 (gh (dZ seed kq [y.d])):T),gq y.p.toNat (dZ seed kq [y.d]) (iV (bV g a c b) kq [y.d]) (dM g b init)⟩
noncomputable def mk1(g:Grp)(a:ja)(b:A ap)(c init seed:LBy):Cmt:=
 ⟨g.folder,g.epoch+1,g.last,a,b,dA c,(eo (aW g.tree b) a).map (eA g a b c seed),(du a b).map (fA g a b c init seed),cG,0,0⟩
noncomputable def mk2(g:Grp)(a:ja)(c:A ap)(b init seed:LBy):Cmt:=
 {mk1 g a c b init seed with confirm:=iY (dM g b init) (cW kL ((aR (mk1 g a c b init seed)).take 8))}
noncomputable def mkC(g:Grp)(a:ja)(x:T)(b:A ap)(c init seed:LBy):Cmt:=
 {mk2 g a b c init seed with r:=(kj x (dp (mk2 g a b c init seed)):T),s:=(kD x (dp (mk2 g a b c init seed)):T)}
theorem Mg(c:Cmt)(r s:ja):dp {c with r:=r,s:=s}=dp c:=by obtain⟨a,b,c,d,e,f,g,h,i,j,k⟩:=c;rfl
theorem QO(g:Grp)(a:ja)(x:T)(b:A ap)(c init seed:LBy):dp (mkC g a x b c init seed)=dp (mk2 g a b c init seed):=by unfold mkC;exact Mg _ _ _
theorem Lw(c:Cmt)(k:LBy)(r s:ja)(h:k.length=32):({({c with confirm:=k}:Cmt)with r:=r,s:=s}:Cmt).confirm.length=32:=h
theorem yB(g:Grp)(a:ja)(x:T)(b:A ap)(c init seed:LBy):(mkC g a x b c init seed).chg=b/\(mkC g a x b c init seed).parent=g.last/\(mkC g a x b c init seed).box=(eo (aW g.tree b) a).map (eA g a b c seed)/\
 (mkC g a x b c init seed).wel=(du a b).map (fA g a b c init seed)/\(mkC g a x b c init seed).confirm.length=32/\(mkC g a x b c init seed).path=dA c:=
 ⟨rfl,rfl,rfl,rfl,by unfold mkC mk2;exact Lw _ _ _ _ (sR _ _),I⟩
theorem Do:∀p∈dA r,bJ p:=λp c=>by
 obtain⟨i,-,rfl⟩:=jy.1 c;exact o6 (a:=4) mS _
theorem lK(a:LBy):(dA a).length=10:=by simp[dA]
theorem Ib{y:ap}:y∈du d u↔y∈u/\y.k≠2/\y.d≠d:=by
 unfold du fi;rw[(mb _ _).mem_iff,qg];simp[kW]
theorem Cv(a:ja)(l:A ap):(du a l).length<=l.length:=by
 unfold du fi;rw[(mb _ _).length_eq];exact qQ _ _
theorem nG(p seed hd b):(gq p seed hd b).length=b.length+16:=Sl _ _ _ _
theorem lD(g leaf init):(dM g leaf init).length=32:=B6 _ _
theorem KP(h:x.Pairwise (·<·)){i:T}(b:0<i)(a:i<x.length):x.getD (i-1) 0<x.getD i 0:=by
 rw[fp _ Y,fp _ a];exact(List.pairwise_iff_getElem.1 h) (i-1) i Y a Y
theorem rY{g:Grp}{a:ja}{x:T}{c:A ap}{d init seed:LBy}(p:dq g a c=0)(B:g.epoch<1099511627776)(q:dQ g a c=(aX 4 x:T))(r:d.length=32):gQ g (mkC g a x c d init seed):=by
 obtain⟨h,f,j⟩:=lz.1 p;have s:=(oS c _ (lM h.tree) (pZ h f j)).1;have t:=yC h f j;obtain⟨l,m⟩:=Ad t;have o:((du a c).map (fA g a c d init seed)).map Wl.dev=(du a c).map ap.d:=by rw[ob];rfl
 have u:((du a c).map ap.d).Pairwise (·<·):=SK (f.once.sublist (sq.map _));refine⟨h,?_,I,I,I,f,j,?_,o,?_,?_⟩
 ·refine⟨h.fol,⟨by have:=h.ep.1;show 1<=g.epoch+1;omega,by show g.epoch+1<=_;omega⟩,⟨l,m⟩,f,lK d,?_,?_,Do,?_,?_,?_⟩
  ·show((eo (aW g.tree c) a).map _).length<=1024
   rw[ju];have:=Cw (aW g.tree c) l m;omega
  ·show((du a c).map _).length<=512
   rw[ju];have:=Cv a c;have:=f.len;omega
  ·intro b e
   obtain⟨⟨k,n⟩,i,rfl⟩:=jy.1 e;obtain⟨⟨v,w⟩,⟨y,z⟩,-,-⟩:=FSo s l m i;refine⟨y,z,v,w,o6 (a:=4) mS _,?_,?_⟩
   ·show 16<=(gq _ _ _ _).length
    rw[nG];omega
   show(gq _ _ _ _).length<=65552;rw[nG,fJ d r];omega
  ·intro b e
   obtain⟨y,i,rfl⟩:=jy.1 e;have k:=(f.each y (Ib.1 i).1).1;refine⟨k,o6 (a:=4) mS _,?_,?_⟩
   ·show 16<=(gq _ _ _ _).length
    rw[nG];omega
   show(gq _ _ _ _).length<=65552;rw[nG,lD];omega
  intro i b k;have e:(mkC g a x c d init seed).wel.map Wl.dev=(du a c).map ap.d:=o;rw[e];refine KP u b ?_;rw[<-e,ju];exact k
 ·show((eo (aW g.tree c) a).map (eA g a c d seed)).map _ =_
  rw[ob];exact(List.map_congr_left (λy _=>rfl)).trans (List.map_id _)
 ·show mw (dQ g a c) _ _ _
  rw[q,QO];exact Rk x _
 exact(Hd h f j (lK d) Do).1
def IR(x:ja):Prop:=-9223372036854775808<=x/\x<9223372036854775808
theorem IR.of{x:ja}(h:aO x):IR x:=by
 have:=bounds_i64 h;unfold IR;omega
structure fH(c:Cmt):Prop where
 ints:IR c.folder/\IR c.epoch/\IR c.author/\IR c.r/\IR c.s
 plen:c.parent.length=32
 clen:c.confirm.length=32
 chg:c.chg.length<=64/\∀x∈c.chg,IR x.k/\IR x.d/\IR x.p/\IR x.v/\IR x.c
 path:c.path.length<=12/\∀x∈c.path,IR x
 box:c.box.length<=1024/\∀b∈c.box,IR b.node/\IR b.lev/\IR b.u/\b.body.length<=200
 wel:c.wel.length<=512/\∀b∈c.wel,IR b.dev/\IR b.u/\b.body.length<=200
theorem eN(h:IR d):wfV M (vI d):=by unfold vI;cases M<;>rw[wfV]<;>exact .inl ⟨I,h.1,h.2,I,I⟩
theorem Iw(b:LBy):(ofB b).size=b.length:=by rw[<-kQ,yL]
theorem tb(h:r.length<=1000000):wfV M (vT r):=by unfold vT;cases M<;>rw[wfV]<;>exact .inr (.inl ⟨I,I,by rw[Iw];omega,rfl⟩)
theorem lL(h:∀x∈S,wfV M x)(a:S.length<=1000000):wfV (M+1) (vL S):=by unfold vL;rw[wfV];exact .inr (.inr ⟨I,I,I,by omega,h⟩)
theorem eW(h:IR d):(enc (vI d)).length<=11:=by
 unfold vI;rw[enc,jp I,jP];have:=mc _ (zf d h.1 h.2);omega
theorem tG{b:LBy}(h:b.length<=1000000):(enc (vT b)).length<=11+b.length:=by
 unfold vT;rw[enc,jq G,jp I,jP,jG,yL,Iw];have:=mc b.length Y;omega
theorem lG{l:A Val}(h:l.length<=1000000):(enc (vL l)).length<=11+(encs l).length:=by
 rw[pE,jP,jG];have:=mc l.length Y;omega
theorem oZ:∀{l:A Val},(∀x∈l,(enc x).length<=m)->(encs l).length<=l.length*m
 |[],_=>by simp[encs]
 |x::l,h=>by
  rw[encs,jG,jP];have b:=h x (j0 ..);have c:=oZ (l:=l) λy a=>h y (j8 _ a)
  rw[Nat.succ_mul];omega
theorem pD(x:Val)(l:A Val):encs (x::l)=enc x++encs l:=by rw[encs]
theorem Ll{x:ap}(h:IR x.k/\IR x.d/\IR x.p/\IR x.v/\IR x.c)(f:T):wfV (f+1) x.val/\(enc x.val).length<=66:=by
 obtain⟨a,b,c,d,e⟩:=h;refine⟨lL (λy g=>?_) ar,?_⟩
 ·simp only[jD,qi,or_false]at g
  rcases g with rfl|rfl|rfl|rfl|rfl
  ·exact eN a
  ·exact eN b
  ·exact eN c
  ·exact eN d
  exact eN e
 refine jJ (lG ar) ?_;have:=eW a;have:=eW b;have:=eW c;have:=eW d;have:=eW e;simp only[pD,jG,encs,qu];omega
theorem Kh{x:Bx}(h:IR x.node/\IR x.lev/\IR x.u/\x.body.length<=200)(f:T):wfV (f+1) x.val/\(enc x.val).length<=300:=by
 obtain⟨a,b,c,d⟩:=h;refine⟨lL (λy e=>?_) ar,?_⟩
 ·simp only[jD,qi,or_false]at e
  rcases e with rfl|rfl|rfl|rfl
  ·exact eN a
  ·exact eN b
  ·exact eN c
  exact tb Y
 refine jJ (lG ar) ?_;have:=eW a;have:=eW b;have:=eW c;have:=tG (b:=x.body) Y;simp only[pD,jG,encs,qu];omega
theorem Qy{x:Wl}(h:IR x.dev/\IR x.u/\x.body.length<=200)(f:T):wfV (f+1) x.val/\(enc x.val).length<=300:=by
 obtain⟨a,b,d⟩:=h;refine⟨lL (λy c=>?_) ar,?_⟩
 ·simp only[jD,qi,or_false]at c
  rcases c with rfl|rfl|rfl
  ·exact eN a
  ·exact eN b
  exact tb Y
 refine jJ (lG ar) ?_;have:=eW a;have:=eW b;have:=tG (b:=x.body) Y;simp only[pD,jG,encs,qu];omega
theorem fH.encOk(h:fH p):da (aR p):=by
 obtain⟨e,f,g,i,j⟩:=h.ints;have k:∀x∈p.chg.map ap.val,wfV 14 x/\(enc x).length<=66:=λx a=>by
  obtain⟨y,d,rfl⟩:=jy.1 a;exact Ll (h.chg.2 y d) 13
 have m:∀x∈p.path.map vI,wfV 14 x/\(enc x).length<=11:=λx a=>by
  obtain⟨y,d,rfl⟩:=jy.1 a;exact⟨eN (h.path.2 y d),eW (h.path.2 y d)⟩
 have n:∀x∈p.box.map Bx.val,wfV 14 x/\(enc x).length<=300:=λx a=>by
  obtain⟨y,d,rfl⟩:=jy.1 a;exact Kh (h.box.2 y d) 13
 have o:∀x∈p.wel.map Wl.val,wfV 14 x/\(enc x).length<=300:=λx a=>by
  obtain⟨y,d,rfl⟩:=jy.1 a;exact Qy (h.wel.2 y d) 13
 have d:(p.chg.map ap.val).length<=64:=by rw[ju];exact h.chg.1
 have c:(p.path.map vI).length<=12:=by rw[ju];exact h.path.1
 have q:(p.box.map Bx.val).length<=1024:=by rw[ju];exact h.box.1
 have r:(p.wel.map Wl.val).length<=512:=by rw[ju];exact h.wel.1
 have s:=lG (l:=p.chg.map ap.val) Y;have t:=lG (l:=p.path.map vI) Y;have u:=lG (l:=p.box.map Bx.val) Y;have v:=lG (l:=p.wel.map Wl.val) Y;have w:=jJ (oZ λx a=>(k x a).2) (qC 66 d);have y:=jJ (oZ λx a=>(m x a).2) (qC 11 c);have z:=jJ (oZ λx a=>(n x a).2) (qC 300 q);have B:=jJ (oZ λx a=>(o x a).2) (qC 300 r);have C:=tG (b:=p.parent) (by rw[h.plen];decide);have D:=tG (b:=p.confirm) (by rw[h.clen];decide);have E:=eW e;have F:=eW f;have H:=eW g;have K:=eW i;have M:=eW j;have P:=h.plen;have Q:=h.clen;refine⟨lL (λx a=>?_) (by simp[aR]),?_⟩
 ·unfold aR at a
  simp only[jD,qi,or_false]at a
  rcases a with rfl|rfl|rfl|rfl|rfl|rfl|rfl|rfl|rfl|rfl|rfl
  ·exact eN e
  ·exact eN f
  ·exact tb Y
  ·exact eN g
  ·exact lL (λx a=>(k x a).1) Y
  ·exact lL (λx a=>(m x a).1) Y
  ·exact lL (λx a=>(n x a).1) Y
  ·exact lL (λx a=>(o x a).1) Y
  ·exact tb Y
  ·exact eN i
  exact eN j
 refine jJ (lG (by simp[aR])) ?_;unfold aR;simp only[pD,jG,encs,qu];omega
theorem Du{c:Cmt}{nums:A ja}(d:IR c.folder)(f:IR c.epoch)(g:IR c.author)(k:c.parent.length=32)(h:∀x∈nums,IR x)(l:nums.length<=2):da ((aR c).take 4++nums.map vI):=by
 have e:(aR c).take 4=[vI c.folder,vI c.epoch,vT c.parent,vI c.author]:=I;have m:=tG (b:=c.parent) (by rw[k];decide);have n:=eW d;have o:=eW f;have p:=eW g;have i:∀x∈nums.map vI,wfV 15 x/\(enc x).length<=11:=λx a=>by
  obtain⟨y,j,rfl⟩:=jy.1 a;exact⟨eN (h y j),eW (h y j)⟩
 have j:(nums.map vI).length<=2:=by rw[ju];exact l
 have q:=jJ (oZ λx a=>(i x a).2) (qC 11 j);rw[e];refine⟨lL (λx a=>?_) (by rw[jG];simp only[jP,qu];omega),?_⟩
 ·rw[jR]at a
  rcases a with a|a
  ·simp only[jD,qi,or_false]at a
   rcases a with rfl|rfl|rfl|rfl
   ·exact eN d
   ·exact eN f
   ·exact tb Y
   exact eN g
  exact(i x a).1
 refine jJ (lG (by rw[jG];simp only[jP,qu];omega)) ?_;rw[yY,jG];simp only[pD,jG,encs,qu];omega
theorem Gs{s:ByteArray}(f:s.size<=1000)(b:∀nums∈x,IR nums)(e:x.length<=2):AN s x:=by
 have c:∀nums∈x.map vI,wfV 15 nums/\(enc nums).length<=11:=λnums a=>by
  obtain⟨y,d,rfl⟩:=jy.1 a;exact⟨eN (b y d),eW (b y d)⟩
 have d:(x.map vI).length<=2:=by rw[ju];exact e
 have g:=jJ (oZ λnums a=>(c nums a).2) (qC 11 d);have h:(enc (.mk 2 0 s [])).length<=11+s.size:=by
  rw[enc,jq G,jp I,jP,jG,kQ];have:=mc s.size Y;omega
 refine⟨lL (λnums a=>?_) (by rw[jP];omega),?_,by omega⟩
 ·rcases jD.1 a with rfl|a
  ·rw[wfV];exact .inr (.inl ⟨I,I,by omega,rfl⟩)
  exact(c nums a).1
 unfold li;refine jJ (lG (by rw[jP];omega)) ?_;rw[pD,jG];omega
theorem mT(h:bJ d):IR d:=⟨by have:=h.1;omega,by have:=h.2.1;omega⟩
theorem Re{g:Grp}{a:ja}{x:T}{f:A ap}{i init seed:LBy}(m:dq g a f=0)(u:g.epoch<1099511627776)(k:dQ g a f=(aX 4 x:T))(n:i.length=32)(v:g.last.length=32):fH (mkC g a x f i init seed):=by
 have h:=rY (seed:=seed) (init:=init) m u k n;obtain⟨o,w,z,B,C,P⟩:=yB g a x f i init seed;have j:∀b∈(mkC g a x f i init seed).box,b.body.length<=200:=λb j=>by
  rw[z]at j;obtain⟨y,-,rfl⟩:=jy.1 j;unfold eA;show(gq _ _ _ _).length<=200;rw[nG,fJ i n];omega
 have D:∀b∈(mkC g a x f i init seed).wel,b.body.length<=200:=λb j=>by
  rw[B]at j;obtain⟨y,-,rfl⟩:=jy.1 j;unfold fA;show(gq _ _ _ _).length<=200;rw[nG,lD];omega
 generalize mkC g a x f i init seed=c at*;obtain⟨Q,q,r⟩:=lz.1 m;have E:∀x∈f,IR x.k/\IR x.d/\IR x.p/\IR x.v/\IR x.c:=λy F=>by
  obtain⟨⟨p,s⟩,k⟩:=q.each y F;have l:IR y.d:=⟨by omega,by omega⟩
  rcases k with⟨a,b,c,d⟩|⟨a,b,c,d,e⟩|⟨a,b,c,d,e⟩
  ·exact⟨by rw[a];exact⟨by omega,by omega⟩,l,mT b,mT c,by rw[d];exact⟨by omega,by omega⟩⟩
  ·exact⟨by rw[a];exact⟨by omega,by omega⟩,l,by rw[b];exact⟨by omega,by omega⟩,by rw[c];exact⟨by omega,by omega⟩,⟨by omega,by omega⟩⟩
  exact⟨by rw[a];exact⟨by omega,by omega⟩,l,mT b,mT c,⟨by omega,by omega⟩⟩
 have R:=h.chk.ep;have l:=h.chk.fol;have s:=h.chk.aut;have H:=h.ver.2.1;have t:=h.ver.2.2.1;refine⟨⟨⟨by have:=l.1;omega,by have:=l.2;omega⟩,⟨by omega,by omega⟩,⟨by have:=s.1;omega,by have:=s.2;omega⟩,mT H,⟨by have:=t.1;omega,by have:=t.2;omega⟩⟩,by rw[w];exact v,C,⟨by rw[o];exact q.len,by rw[o];exact E⟩,⟨by have:=h.chk.plen;omega,λp r=>mT (h.chk.path p r)⟩,⟨h.chk.blen,λb d=>?_⟩,⟨h.chk.wlen,λb d=>?_⟩⟩
 ·obtain⟨K,M,S,U,e⟩:=h.chk.box b d
  exact⟨⟨by omega,by omega⟩,⟨by omega,by omega⟩,mT e.1,j b d⟩
 obtain⟨⟨K,M⟩,e⟩:=h.chk.wel b d;exact⟨⟨by omega,by omega⟩,mT e.1,D b d⟩
theorem mq{B:Act}{x:jX}{X:js jb}{t:jt}{d:TypeDesc}(g:jl.underlying e=N d)(i:d.isRow=jk)(j:(jl.info? e).map (·.size)=N X.size)(k:o.op=.load e x)(m:B.eval x=jI (N ⟨M,0,je⟩))(n:w.heap[M]?=N (jh X t (0,0))):
 (oj B.eval o).run jl w=.ok (.value (jm X)) w:=by
 have h:=fx (P:=jl) o B e x k M 0 m X.toList _ (vM (t:=t) (l:=X.toList) (ak n)) g i (by rw[qb];exact j)
 simpa using h
theorem FO{P:qa}{fn:Func}{p q k:Tmp}{c f:jt}(h:fn.results= #[.cell p c,.cell q f,.tmp k])(tmps:js jb)(w:jg)(g l:T)(t t2:jt)(i j:js jb)(n o:T×T)(d m:TypeDesc)
 (r:tmps.getD p qd=jI (N ⟨g,0,je⟩)) (s:tmps.getD q qd=jI (N ⟨l,0,je⟩)) (u:w.heap[g]?=N (jh i t n)) (x:w.heap[l]?=N (jh j t2 o))
 (y:P.underlying c=N d) (z:(match d with| .struct _ | .array _ _=>jk|_=>jr)=jk) (B:(P.info? c).map (·.size)=N i.size)
 (C:P.underlying f=N m) (hd2:(match m with| .struct _ | .array _ _=>jk|_=>jr)=jk) (D:(P.info? f).map (·.size)=N j.size):
 (results fn tmps).run P w=.ok (jZ #[jm i,jm j,tmps.getD k qd]) w:=by
 have e:(results fn tmps).run P w=((asAddr (tmps.getD p qd)).run P w).andThen λa E=>((loadVar c a).run P E).andThen λv F=>((asAddr (tmps.getD q qd)).run P F).andThen λb H=>((loadVar f b).run P H).andThen λK M=>.ok (jZ #[v,K,tmps.getD k qd]) M:=by
  simp only[results,h];simp[Sem.run_bind,Result.andThen]
 rw[e,r];simp only[asAddr,Sem.run_pure,Result.andThen_ok,run_loadVar_row w g t c i n d u y z B,s,run_loadVar_row w l t2 f j o m x C hd2 D]
def mI:Cmt:=⟨0,0,cG,0,[],[],[],[],cG,0,0⟩
def nC:CQ:=⟨jf je 0 0,jf je 0 0,jf je 0 0,jf je 0 0⟩
theorem eG:cG.length=32:=by simp[cG]
theorem Lv(f e a:ja)(b:js jb)(d:b.size=32)(p:jw jM)(n c:T)(w:jg):
 (Instr.build 57 #[(0,jc jd f),(1,jc jd e),(2,jm b),(3,jc jd a),(4,jf p n c)]).run jl w=.ok (jm (#[jc jd f,jc jd e]++b++ #[jc jd a,jf p n c,jf je 0 0,jf je 0 0,jf je 0 0]++(cG.map v8).toArray++ #[jc jd 0,jc jd 0])) w:=by
 unfold Instr.build;go_simp;rw[vS b _ 2 32 d ar];obtain⟨l⟩:=b;simp[zeroCells57];have g:l.length=32:=d;rw[jq Y,jq Y,qt _ _ Y,qt _ _ Y,g]
 rfl
theorem Rx(c:Cmt)(a b d e x:jb)(f:c.parent.length=32):(aF c ⟨a,b,d,e⟩).toArray.setIfInBounds 36 x=(aF c ⟨a,x,d,e⟩).toArray:=by
 apply qo
 rw[qA];unfold aF;have g:(c.parent.map v8).length=32:=by rw[ju];exact f
 show qN (_ ::_ ::(c.parent.map v8++_)) 36 x=_;rw[pz,pz,qt _ _ Y,g]
 rfl
theorem Dk(c:Cmt)(a b d e x:jb)(f:c.parent.length=32):(aF c ⟨a,b,d,e⟩).toArray.setIfInBounds 37 x=(aF c ⟨a,b,x,e⟩).toArray:=by
 apply qo
 rw[qA];unfold aF;have g:(c.parent.map v8).length=32:=by rw[ju];exact f
 show qN (_ ::_ ::(c.parent.map v8++_)) 37 x=_;rw[pz,pz,qt _ _ Y,g]
 rfl
theorem Ef(c:Cmt)(a b d e x:jb)(f:c.parent.length=32):(aF c ⟨a,b,d,e⟩).toArray.setIfInBounds 38 x=(aF c ⟨a,b,d,x⟩).toArray:=by
 apply qo
 rw[qA];unfold aF;have g:(c.parent.map v8).length=32:=by rw[ju];exact f
 show qN (_ ::_ ::(c.parent.map v8++_)) 38 x=_;rw[pz,pz,qt _ _ Y,g]
 rfl
theorem RJ:(jl.info? 3).map (λi=>(i.zero,i.size,i.bytes))=N (N (jc jd 0),1,8):=by kernel_rfl
theorem SJ:(jl.info? 107).map (λi=>(i.zero,i.size,i.bytes))=N (N (jm #[jc jd 0,jc jd 0,jf je 0 0]),3,40):=by kernel_rfl
theorem Sr{w:jg}{P:jN}{B:Act}{K:Act->jg->Prop}{h:Exit->Act->jg->Prop}(s x:jX)
 (e:P.op=.call {callee:=.builtin .append,args:=#[s,x],argTypes:=#[38,38]})
 (a:T) (v:jb) (n:T) (xs:A jb) (f:B.eval s=v) (g:w.ownsRow a 3 1 v n xs) (b:jb) (m:T) (ys:A jb) (i:B.eval x=b) (j:cF w b 1 m ys) (k:∀b∈ys,b.oneCell'=jk)
 (D:n+m<=4000000) (l:a<=w.heap.size) (d:∀c w',cE a 3 1 w w' v c (n+m) (xs++ys)->K (B.put P.dst c) w'):P.wp jl B w K h:=by
 obtain⟨p,q,r,t,u⟩:=oq RJ;exact nP s x 38 e a 3 p _ 1 8 xi q r t u I G v n xs f g b m ys i j k (by unfold jY;omega) Y l
  λc w' y z C=>d c w' (oo y z C)
theorem Mx{w:jg}{P:jN}{B:Act}{K:Act->jg->Prop}{h:Exit->Act->jg->Prop}(s x:jX)
 (e:P.op=.call {callee:=.builtin .append,args:=#[s,x],argTypes:=#[54,54]})
 (a:T) (v:jb) (n:T) (xs:A jb) (f:B.eval s=v) (g:w.ownsRow a 105 4 v n xs) (b:jb) (m:T) (ys:A jb) (i:B.eval x=b) (j:cF w b 4 m ys) (k:∀b∈ys,b.oneCell'=jk)
 (D:n+m<=2900000) (l:a<=w.heap.size) (d:∀c w',cE a 105 4 w w' v c (n+m) (xs++ys)->K (B.put P.dst c) w'):P.wp jl B w K h:=by
 obtain⟨p,q,r,t,u⟩:=oq Hk;exact nP s x 54 e a 105 p _ 4 48 underlying54 q r t u I G v n xs f g b m ys i j k (by unfold jY;omega) Y l
  λc w' y z C=>d c w' (oo y z C)
theorem K9{w:jg}{P:jN}{B:Act}{K:Act->jg->Prop}{h:Exit->Act->jg->Prop}(s x:jX)
 (e:P.op=.call {callee:=.builtin .append,args:=#[s,x],argTypes:=#[55,55]})
 (a:T) (v:jb) (n:T) (xs:A jb) (f:B.eval s=v) (g:w.ownsRow a 107 3 v n xs) (b:jb) (m:T) (ys:A jb) (i:B.eval x=b) (j:cF w b 3 m ys) (k:∀b∈ys,b.oneCell'=jk)
 (D:n+m<=2900000) (l:a<=w.heap.size) (d:∀c w',cE a 107 3 w w' v c (n+m) (xs++ys)->K (B.put P.dst c) w'):P.wp jl B w K h:=by
 obtain⟨p,q,r,t,u⟩:=oq SJ;exact nP s x 55 e a 107 p _ 3 40 underlying55 q r t u I G v n xs f g b m ys i j k (by unfold jY;omega) Y l
  λc w' y z C=>d c w' (oo y z C)
theorem kK(h:w.ownsRow M e R a m i)(c:∀k,M<=k->k<w.heap.size->W.heap[k]?=w.heap[k]?):W.ownsRow M e R a m i:=by
 refine⟨h.1,?_⟩
 rcases h.2 with v|⟨g,d,f,xs,v,b,j⟩
 ·exact .inl v
 exact .inr ⟨g,d,f,xs,v,(c g v (jQ.1 b).1).trans b,j⟩
theorem SO(h:w.ownsRow M e R a m i)(p:0<m):∃g c d,a=jf (N ⟨g,0,je⟩) m c/\m<=c/\M<=g/\w.heap[g]?=N (jh d e (0,0))/\∀(j:T) b,i[j]?=N b->d[j]?=N b:=by
 rcases h.2 with⟨rfl,q⟩|⟨g,f,xs,rfl,k,l,n,r,s,o⟩
 ·omega
 refine⟨g,f,xs,I,n,k,l,λj b v=>?_⟩;rw[<-o,List.getElem?_take]at v
 split at v
 ·simpa using v
 cases v
theorem zI(c:Cmt)(d e f g:jw jM)(h i j k l m n o:T):(aF c ⟨jf d h l,jf e i m,jf f j n,jf g k o⟩).toArray.all (·.oneCell')=jk:=by
 rw[p6];intro b a;simp only[aF,vi,jD,jR,qi,or_false]at a
 rcases a with rfl|rfl|a|rfl|rfl|rfl|rfl|rfl|a|rfl|rfl
 ·rfl
 ·rfl
 ·exact iT _ b a
 ·rfl
 ·rfl
 ·rfl
 ·rfl
 ·rfl
 ·exact iT _ b a
 ·rfl
 rfl
theorem Pt(a:LBy)(i:T)(b:i<10):(dA a).take (i+1)=(dA a).take i++[((aX 4 (aS (aA a i)):T):ja)]:=by
 rw[wi (by rw[lK];exact b)];simp[dA]
theorem Ov(w:jg):(Instr.build 27 #[]).run jl w=.ok (jm (cG.map v8).toArray) w:=by
 unfold Instr.build;go_simp
 rfl
theorem Mi{v:jb}{b j:T}{X d:js jb}(h:bH w v t)(f:w.heap[b]?=N (jh X e (0,0)))(g:w'.heap[b]?=N (jh d e (0,0)))(l:∀k,k<w.heap.size->k≠b->w'.heap[k]?=w.heap[k]?)
 (k:∀i,i≠j->d[i]?=X[i]?) (a:∃p n c,X[j]?=N (jf p n c)):bH w' v t:=by
 obtain⟨p,n,c,a⟩:=a;exact h.ints (uF f g k a l)
theorem L1(c:Cmt)(a b d f e:jb)(g:c.parent.length=32)(j:T)(h:j≠37):(aF c ⟨a,b,f,e⟩).toArray[j]?=(aF c ⟨a,b,d,e⟩).toArray[j]?:=by
 rw[<-Dk c a b d e f g,q8 (Ne.symm h)]
theorem Jw(c:Cmt)(a b d e f:jb)(g:c.parent.length=32)(j:T)(h:j≠38):(aF c ⟨a,b,d,f⟩).toArray[j]?=(aF c ⟨a,b,d,e⟩).toArray[j]?:=by
 rw[<-Ef c a b d e f g,q8 (Ne.symm h)]
theorem rQ(c:Cmt)(a b d e:jb)(f:c.parent.length=32)(g:c.confirm.length=32):(aF c ⟨a,b,d,e⟩).toArray[36]?=N b/\(aF c ⟨a,b,d,e⟩).toArray[37]?=N d/\(aF c ⟨a,b,d,e⟩).toArray[38]?=N e/\(aF c ⟨a,b,d,e⟩).toArray.size=73:=by
 have h:=ku c ⟨a,b,d,e⟩ f g;exact⟨by simpa using h.2.2.2.2.1,by simpa using h.2.2.2.2.2.1,by simpa using h.2.2.2.2.2.2.1,by rw[jL,dz _ _ f g]⟩
structure eB{α:Type}(M R:T)(t e:jt)(k:T)(f:α->jb->A jb)(body:α->LBy)(X:jb->js jb)(w0 wr:jg)(n:T)(a:jb)(l:A α)(b:A jb):Prop where
 row:gt M R t e k X w0 wr n a (dR f l b)
 kids:ey (λg=>M<=g/\g<wr.heap.size/\a.ownBlock≠N g) wr (l.map body) b
theorem eB.later{z:jt}{f:H->jb->A jb}{body:H->LBy}{o:jb->js jb}{F:jg}{l:A H}(h:eB M R e z m f body o w W y a l i)(j:R<M)(b:jo W W F):eB M R e z m f body o w F y a l i:=
 ⟨h.row.later j b,(h.kids.keep (λg d=>b.block g d.2.1)).mono λg d=>⟨d.1,jB d.2.1 b.size,d.2.2⟩⟩
theorem eB.push{i:T}{t:jt}{k:T}{f:α->jb->A jb}{body:α->LBy}{b j:jg}{n m:T}{o a p:jb}{l:A α}{c:A jb}{x:α}(h:eB M R t e k f body X w0 b n o l c)(u:R<M)
 (v:aH (λg=>M<=g/\g<b.heap.size/\o.ownBlock≠N g) b p 1 (body x).length ((body x).map v8)) (q:cE M e k b j o a m (dR f l c++f x p)) (w:(X o).setIfInBounds i a=X a):
 eB M R t e k f body X w0 (j.setCell ⟨R,i,je⟩ a) m a (l++[x]) (c++[p]):=by
 have y:c.length=l.length:=by have:=h.kids.len;rwa [ju]at this
 have z:dR f (l++[x]) (c++[p])=dR f l c++f x p:=by rw[Df f l [x] c [p] y];simp[dR]
 have B:(j.setCell ⟨R,i,je⟩ a).heap.size=j.heap.size:=pC _ _ _;have r:∀g,(M<=g/\g<b.heap.size/\o.ownBlock≠N g)->(j.setCell ⟨R,i,je⟩ a).heap[g]?=b.heap[g]?:=λg d=>
  (dB _ Y).trans (q.grown.block g d.2.1 (λe=>d.2.2 e.symm))
 have s:∀g,(M<=g/\g<b.heap.size/\o.ownBlock≠N g)->(M<=g/\g<(j.setCell ⟨R,i,je⟩ a).heap.size/\a.ownBlock≠N g):=λg d=>
  ⟨d.1,by rw[B];exact jB d.2.1 q.grown.size,q.ne d.2.1 d.2.2⟩
 refine⟨?_,?_⟩
 ·rw[z];exact h.row.push u q w
 rw[j5];exact ey.snoc (aH.mono (aH.keep v r) s) ((h.kids.keep r).mono s)
theorem eB.start{t:jt}{k:T}{f:α->jb->A jb}{body:α->LBy}(a:w.heap[R]?=N (jh (X (jf je 0 0)) t (0,0)))(b:M<=w.heap.size):eB M R t e k f body X w w 0 (jf je 0 0) [] []:=
 ⟨⟨a,by simpa [dR]using qD w M e k,dy.refl _ _ _,b⟩,rfl⟩
theorem eB.slice{t:jt}{k:T}{f:α->jb->A jb}{body:α->LBy}{wr:jg}{n:T}{c:jb}{l:A α}{a:A jb}(h:eB M R t e k f body X w0 wr n c l a)(i:n=l.length){D:T->Prop}(d:∀g,M<=g->g<wr.heap.size->D g):
 ∃a,aH D wr c k l.length (dR f l a)/\ey D wr (l.map body) a:=
 ⟨a,aH.of_own (by rw[<-i];exact h.row.own) (λg b=>by have:=h.row.own.lt g b;exact d g this.1 this.2),h.kids.mono λg b=>d g b.1 b.2.1⟩
theorem Er{X:js jb}(c:w.heap[M]?=N (jh X e (0,0)))(d:∀(j:T) a,(r.map v8)[j]?=N a->X[R+j]?=N a)(t:r.length=m):bD w (jf (N ⟨M,R,je⟩) m m) r:=by
 subst t;exact aH.bytes (D:=λ_=>True) ⟨by simp,N ⟨M,R,je⟩,r.length,I,jE _,(λh=>by cases h),λ_=>⟨M,R,I,trivial,λj a f=>ah c (d j a f)⟩⟩
theorem FI{b i:T}{a:js jb}{t:jt}{x y:jb}(d:W.heap[b]?=N (jh a t (0,0))):
 (W.setCells b i [x,y]).heap[b]?=N (jh ((a.setIfInBounds i x).setIfInBounds (i+1) y) t (0,0))/\∀k,k≠b->(W.setCells b i [x,y]).heap[k]?=W.heap[k]?:=by
 have e:W.setCells b i [x,y]=(W.setCell ⟨b,i,je⟩ x).setCell ⟨b,i+1,je⟩ y:=I;rw[e];exact⟨fa y (fa x d),λk c=>(dB _ c).trans (dB _ c)⟩
noncomputable def gZ(g:Grp)(a x:ja)(b:A ap):ja:=
 if 1099511627776<=g.epoch then 1 else if dq g a b≠0 then dq g a b else if x<1\/2305843009213688669<=x then 50 else if((aX 4 x.toNat:T):ja)≠dQ g a b then 221 else 0
def O3(g:Grp)(a x:ja)(d:A ap)(b init seed:LBy)(c:ja)(w:jg)(e:Ending)(w':jg):Prop:=
 (c=0->∃q,e=jv (jZ #[jm (aF (mkC g a x.toNat d b init seed) q).toArray,jm ((dM g b init).map v8).toArray,jc jd 0])/\aZ (λk=>w.heap.size<=k/\k<w'.heap.size) w' (mkC g a x.toNat d b init seed) q)/\
 (c≠0->e=jv (jZ #[jm (aF mI nC).toArray,jm (cG.map v8).toArray,jc jd c]))/\jo w w w'
theorem GV{g o:T}{a:js jb}{t:jt}(b:w.heap[g]?=N (jh a t (0,0)))(c:∀(j:T) v,xs[j]?=N v->a[o+j]?=N v):w.rangeAt g o xs:=λj v d=>ah b (c j v d)
theorem Rp(k:LBy)(c:k.length=32)(n i j:T)(d:i<n)(v:jb)(h:((aA k i).map v8)[j]?=N v):(ik (gG k n))[i*32+j]?=N v:=by
 have f:j<32:=by
  have:=(jU.1 h).1;rw[ju,fJ k c]at this;exact this
 unfold ik gG;rw[ob,<-xC];have m:∀x∈qc n,((λk=>rk v8 k)∘aA k) x=(aA k x).map v8:=λ_ _=>rfl
 have e:∀(l:A T) (i:T) (x:T),l[i]?=N x->((l.map ((λk=>rk v8 k)∘aA k)).flatten)[i*32+j]?=((aA k x).map v8)[j]?:=by
  intro l
  induction l with
  |nil=>intro i x a;simp at a
  |cons y l g=>
   intro i x a;rw[jW,xD];have b:(((λk=>rk v8 k)∘aA k) y).length=32:=by simp[fJ k c]
   rcases i with _|i
   ·have:y=x:=ak a
    subst this;rw[sh,qS,qT (by rw[b];exact f)]
    rfl
   rw[qE (by rw[b];omega),b,show(i+1)*32+j-32=i*32+j by omega];exact g i x (ak a)
 rw[xC];exact(e (qc n) i i (by simp[d])).trans h
theorem rZ(f:H->A jb)(k:T):∀(l:A H),(∀x∈l,(f x).length=k)->∀(j i:T) (x:H),l[j]?=N x->i<k->(l.flatMap f)[j*k+i]?=(f x)[i]?
 |[],_,j,i,x,h,_=>by simp at h
 |y::l,a,0,i,x,h,b=>by
  have e:y=x:=ak h;subst e;rw[qB,sh,qS,qT (by rw[a y (j0 ..)];exact b)]
 |y::l,a,j+1,i,x,h,b=>by
  have c:=a y (j0 ..);rw[qB,qE (by rw[c,Nat.add_mul];omega),c];have d:=rZ f k l (λx e=>a x (j8 _ e)) j i x (ak h) b;rw[show(j+1)*k+i-k=j*k+i by rw[Nat.add_mul];omega];exact d
theorem aH.rowM{f:H->A jb}{v:A H}(h:aH D w a R M (v.flatMap f))(z:M=v.length)(d:∀x∈v,(f x).length=R){i:T}{x:H}(b:v[i]?=N x):
 ∃g o c,a=jf (N ⟨g,o,je⟩) M c/\D g/\M<=c/\i<M/\w.rangeAt g (o+i*R) (f x):=by
 obtain⟨B,p,c,q,r,C,s⟩:=h;have E:=(jU.1 b).1;obtain⟨g,o,e,t,u⟩:=s Y;subst e;refine⟨g,o,c,q,t,r,by omega,λj y l=>?_⟩;have m:=(jU.1 l).1;rw[d x (j1 b)]at m;rw[qn];exact u _ y ((rZ f R v d i j x b m).trans l)
abbrev CP:=Cmt×CQ
def sO(p:CP):A jb:=aF p.1 p.2
structure cC(w:jg)(v:jb)(a:A CP):Prop where
 row:aH (·<w.heap.size) w v 73 a.length (a.flatMap sO)
 all:∀p∈a,aZ (·<w.heap.size) w p.1 p.2
theorem cC.below{v:jb}{c:A CP}(h:cC w v c)(a:jo w w w'):cC w' v c:=
 ⟨(h.row.keep λg b=>a.block g b).mono λg b=>jB b a.size,λp d=>(h.all p d).below a⟩
theorem cC.form{v:A CP}(h:cC w a v):∃p c,a=jf p v.length c:=h.row.form
theorem cC.len{v:A CP}(h:cC w a v):∀p∈v,(sO p).length=73:=λp b=>dz _ _ (h.all p b).plen (h.all p b).clen
theorem cC.elem{v:A CP}(h:cC w a v){i:T}{p:CP}(b:v[i]?=N p):
 ∃g o c,a=jf (N ⟨g,o,je⟩) v.length c/\g<w.heap.size/\v.length<=c/\i<v.length/\w.rangeAt g (o+i*73) (aF p.1 p.2):=h.row.rowM I h.len b
structure CK where
 ix:T
 p:CP
 id:LBy
 since:ja
 g:Grp
 vm:jb
 vt:jb
def aL(k:CK):A jb:=jc jd k.ix::(aF k.p.1 k.p.2++(k.id.map v8++(jc jd k.since::aD k.g k.vm k.vt)))
structure KIn(w:jg)(k:CK):Prop where
 com:aZ (·<w.heap.size) w k.p.1 k.p.2
 leads:bW w k.g k.vm k.vt
 idl:k.id.length=32
theorem KIn.below{k:CK}(h:KIn w k)(a:jo w w w'):KIn w' k:=⟨h.com.below a,h.leads.below a,h.idl⟩
theorem KIn.len{k:CK}(h:KIn w k):(aL k).length=143:=by
 unfold aL;rw[jP,jG,jG,jP,ju,dz _ _ h.com.plen h.com.clen,h.idl,eX h.leads.llen]
theorem B2{k:CK}(h:KIn w k){i:T}(a:i<73):(aL k)[1+i]?=(aF k.p.1 k.p.2)[i]?:=by
 unfold aL;rw[show 1+i=i+1 by omega,qv,qT (by rw[dz _ _ h.com.plen h.com.clen];exact a)]
theorem Bz{k:CK}(h:KIn w k){i:T}(a:i<32):(aL k)[74+i]?=(k.id.map v8)[i]?:=by
 unfold aL;rw[show 74+i=73+i+1 by omega,qv,qE (by rw[dz _ _ h.com.plen h.com.clen];omega),dz _ _ h.com.plen h.com.clen,
  show 73+i-73=i by omega,qT (by rw[ju,h.idl];exact a)]
theorem nB{k:CK}(h:KIn w k)(i:T):(aL k)[106+i]?=(jj .i64 k.since::aD k.g k.vm k.vt)[i]?:=by
 unfold aL;rw[show 106+i=105+i+1 by omega,qv,qE (by rw[dz _ _ h.com.plen h.com.clen];omega),dz _ _ h.com.plen h.com.clen,
  qE (by rw[ju,h.idl];omega),ju,h.idl,show 105+i-73-32=i by omega]
theorem mG{k:CK}(h:KIn w k):(aL k)[0]?=N (jc jd k.ix)/\(aL k)[35]?=N (jc jd k.p.1.author)/\(aL k)[36]?=N k.p.2.vc/\(aL k)[106]?=N (jc jd k.since)/\(aL k)[141]?=N k.vm/\(aL k)[142]?=N k.vt:=by
 obtain⟨-,-,f,g,-⟩:=ku k.p.1 k.p.2 h.com.plen h.com.clen;obtain⟨-,-,i,j⟩:=lN (vm:=k.vm) (vt:=k.vt) h.leads.llen;have a:=B2 h (show 34<73 by decide);have b:=B2 h (show 35<73 by decide);have c:=nB h 0;have d:=nB h 35;have e:=nB h 36;exact⟨I,a.trans f,b.trans g,c,d.trans i,e.trans j⟩
structure od(w:jg)(v:jb)(a:A CK):Prop where
 row:aH (·<w.heap.size) w v 143 a.length (a.flatMap aL)
 all:∀k∈a,KIn w k
theorem od.below{v:jb}{c:A CK}(h:od w v c)(a:jo w w w'):od w' v c:=
 ⟨(h.row.keep λg b=>a.block g b).mono λg b=>jB b a.size,λk d=>(h.all k d).below a⟩
theorem od.form{v:A CK}(h:od w a v):∃p c,a=jf p v.length c:=h.row.form
theorem od.elem{v:A CK}(h:od w a v){i:T}{k:CK}(b:v[i]?=N k):
 ∃g o c,a=jf (N ⟨g,o,je⟩) v.length c/\g<w.heap.size/\v.length<=c/\i<v.length/\w.rangeAt g (o+i*143) (aL k):=h.row.rowM I (λx d=>(h.all x d).len) b
def nx(k:ja):A Val->jw (Val×A Val)
 |[]=>je
 |x::l=>if x.k=k then N (x,l)else je


theorem put_defers(a:Act)(d:jw Tmp)(v:jb):(Act.put a d v).defers=a.defers:=by cases d<;>rfl
structure Vld(M c:T)(wr:jg)(l:A Val)(a:jb)(b:A jb):Prop where
 box:wr.heap[c]?=N (jh #[jc jd 3,jc jd 0,.string ⟨#[]⟩,a] 152 (0,0))
 own:wr.ownsRow M 152 4 a l.length (cR l b)
 kids:aM (λg=>M<=g/\g<wr.heap.size/\a.ownBlock≠N g) wr l b
 sz:M<=wr.heap.size
theorem Vld.start{a:T}(b:w.heap[a]?=N (jh #[jc jd 3,jc jd 0,.string ⟨#[]⟩,dH] 152 (0,0)))(c:M<=w.heap.size):Vld M a w [] dH []:=
 ⟨b,by simpa [cR]using qD w M 152 4,by rw[aM],c⟩
theorem FX(h:w.ownsRow M e R a m i)(c:∀k,M<=k->k<w.heap.size->W.heap[k]?=w.heap[k]?):W.ownsRow M e R a m i:=by
 refine⟨h.1,?_⟩
 rcases h.2 with v|⟨g,d,f,xs,v,b,j⟩
 ·exact .inl v
 exact .inr ⟨g,d,f,xs,v,(c g v (jQ.1 b).1).trans b,j⟩
theorem Vld.later(h:Vld M R w S a i)(j:R<M)(c:w.heap.size<=W.heap.size)(e:∀k,R<=k->k<w.heap.size->W.heap[k]?=w.heap[k]?):Vld M R W S a i:=
 ⟨(e R (jE _) (jB j h.sz)).trans h.box,FX h.own (λk g b=>e k Y b),aM.mono (λg b=>⟨b.1,jB b.2.1 c,b.2.2⟩) S i (aM.keep (λg b=>e g Y b.2.1) S i h.kids),jJ h.sz c⟩
theorem Vld.push{f:T}{a p i:jg}{l:A Val}{j n:jb}{c:A jb}(h:Vld M f a l j c)(v:f<M){x:Val}{d:jb}
 (s:aU (λg=>M<=g/\g<a.heap.size/\j.ownBlock≠N g) a x d) (m:cE M 152 4 a p j n (l.length+1) (cR l c++gT x d))
 (t:i.heap[f]?=N (jh #[jc jd 3,jc jd 0,.string ⟨#[]⟩,n] 152 (0,0))) (o:pQ f p i):Vld M f i (l++[x]) n (c++[d]):=by
 have u:=h.kids.len;have q:∀g,(M<=g/\g<a.heap.size/\j.ownBlock≠N g)->i.heap[g]?=a.heap[g]?:=λg b=>
  (o.block g Y).trans (m.grown.block g b.2.1 (λe=>b.2.2 e.symm))
 have r:∀g,(M<=g/\g<a.heap.size/\j.ownBlock≠N g)->(M<=g/\g<i.heap.size/\n.ownBlock≠N g):=λg b=>
  ⟨b.1,by rw[o.size];exact jB b.2.1 m.grown.size,m.ne b.2.1 b.2.2⟩
 refine⟨t,?_,aM.append (aM.mono r _ _ (aM.keep q _ _ h.kids)) (aM.one (aU.mono r _ _ (aU.keep q _ _ s))),?_⟩
 ·have e:cR (l++[x]) (c++[d])=cR l c++gT x d:=by
   rw[sK l [x] c [d] u];simp[cR]
  rw[e,jG];exact FX m.own (λk w _=>o.block k Y)
 rw[o.size];exact jJ h.sz m.grown.size
@[simp] theorem TZ (n):(vI n).k=1:=I
@[simp] theorem T9 (b):(vT b).k=2:=I
@[simp] theorem Ua (l):(vL l).k=3:=I
@[simp] theorem Ub (n):(vI n).n=n:=I
@[simp] theorem TX (b):(vT b).s=ofB b:=I
@[simp] theorem TY (l):(vL l).l=l:=I
structure tk(c:Cmt):Prop where
 box:∀b∈c.box,b.body.length<=200
 wel:∀b∈c.wel,b.body.length<=200
 nchg:c.chg.length<=10
 npath:c.path.length<=12
 nbox:c.box.length<=40
 nwel:c.wel.length<=10
structure Is(c:Cmt):Prop where
 ints:IR c.folder/\IR c.epoch/\IR c.author/\IR c.r/\IR c.s
 chg:∀x∈c.chg,IR x.k/\IR x.d/\IR x.p/\IR x.v/\IR x.c
 path:∀x∈c.path,IR x
 box:∀b∈c.box,IR b.node/\IR b.lev/\IR b.u
 wel:∀b∈c.wel,IR b.dev/\IR b.u
theorem Og(h:tk p)(a:Is p)(e:p.parent.length=32)(f:p.confirm.length=32):fH p where
 ints:=a.ints
 plen:=e
 clen:=f
 chg:=⟨by have:=h.nchg;omega,a.chg⟩
 path:=⟨h.npath,a.path⟩
 box:=⟨by have:=h.nbox;omega,λb d=>⟨(a.box b d).1,(a.box b d).2.1,(a.box b d).2.2,h.box b d⟩⟩
 wel:=⟨by have:=h.nwel;omega,λb d=>⟨(a.wel b d).1,(a.wel b d).2,h.wel b d⟩⟩
section
open Go.RowKit Go.ChangeShapes Go.WideShapes Go.Deep
theorem Sg(g o j:T):(⟨g,o,je⟩:jM).add j=⟨g,o+j,je⟩:=by unfold Addr.add;split<;>simp_all
instance:Inhabited ap:=⟨D8⟩
instance:Inhabited aJ:=⟨c8⟩
instance:Inhabited Bx:=⟨⟨0,0,0,[]⟩⟩
instance:Inhabited Wl:=⟨⟨0,0,[]⟩⟩
theorem Fq(h:(Lit.int .u8 d).wf=jk):jj .u8 d=v8 (rn 8 d.toNat):=by
 have a:=bounds_u8 h;show _ =jj .u8 ((rn 8 d.toNat).toNat:ja);rw[BitVec.toNat_ofNat]
 congr 1
 omega
theorem rp[Inhabited α]{enc:jt×jb->H}{W:jg}{k:T}(u:0<k){t e:jt}(S:jl.underlying t=N (.slice e))(U:jl.cellsOf e=k)(F:α->A jb)(p:∀x,(F x).length=k)(w:α->Prop)
 (he:∀(fuel:T) (a:A jb) (x:ms H×A mz),DataW.trod enc jl W 0 (λ_=>jk) jk fuel e a=N x->∃E,a=F E/\w E)
 {fuel:T} {v:jb} {x:ms H×A mz} (h:DataW.trod enc jl W 0 (λ_=>jk) jk fuel t [v]=N x):
 ∃l:A α,aH (·<W.heap.size) W v k l.length (l.flatMap F)/\(∀E∈l,w E)/\l.length<=jY:=by
 rcases open_slice S h with⟨y,-⟩|⟨a,b,z,m,n,D,P0,y,-,V,hm,X,-,B⟩
 ·obtain rfl:v=.slice je 0 0:=ak y
  exact⟨[],⟨by simp,je,0,I,jE _,λ_=>rfl,λh=>jA h ar⟩,λE h=>by simp at h,n0 _⟩
 obtain rfl:v=.slice (N a) b z:=ak y;have Yy:m=z:=ak X;have aa:∀i,i<b->∃E:α,(∀j,j<k->W.cell? (a.add (i*k+j))=(F E)[j]?)/\w E:=λi c=>by
  obtain⟨o,d,q⟩:=B i Y;rw[U]at d;obtain⟨E,rfl,f⟩:=he _ _ _ q;obtain⟨-,-,g⟩:=World.cells?_some d;refine⟨E,λj r=>?_,f⟩;have:=g j r
  rwa [add_add]at this
 obtain⟨E,C⟩:=choose_lt aa;have f:((qc b).map E).length=b:=by simp
 refine⟨(qc b).map E,⟨flat_length F k p _,N a,z,by rw[f],by rw[f];exact V,(λe=>by cases e),λK=>?_⟩,λx B=>?_,by rw[f];omega⟩
 ·rw[f]at K
  obtain⟨g,o,ac⟩:=a;have ad:∃M,(F (E 0))[0]?=N M:=⟨_,j7 (by rw[p];exact u)⟩;obtain⟨u0,au⟩:=ad;have s:=(C 0 K).1 0 u;rw[au]at s;have ax:ac=je:=by
   simp[Addr.add]at s;exact World.cell?_spot s
  subst ax;have hg:g<W.heap.size:=ge (by simpa [Addr.add]using s);refine⟨g,o,I,hg,λj M r=>?_⟩;have P:=(jU.1 r).1;rw[flat_length F k p,f]at P;have c:j/k<b:=Nat.div_lt_of_lt_mul (by rw[sy];exact P);have Q:j%k<k:=Nat.mod_lt _ u;have d:=flat_get F k p ((qc b).map E) (j/k) (j%k) (E (j/k)) (by simp[c]) Q;have R:j/k*k+j%k=j:=by rw[sy];exact xB j k
  rw[R]at d;have q:=(C (j/k) c).1 (j%k) Q;rw[R,Sg]at q;rw[q,<-d];exact r
 obtain⟨i,c,rfl⟩:=jy.1 B;exact(C i (wq.1 c)).2
theorem sY{enc:jt×jb->H}(j:jl.underlying e=N (.array 32 5))(k:jl.cellsOf e=32){fuel:T}{d:A jb}{x:ms H×A mz}(h:DataW.trod enc jl w 0 (λ_=>jk) jk fuel e d=N x):
 ∃g:LBy,d=g.map v8/\g.length=32:=by
 obtain⟨xs,m,-,-,l,r,n⟩:=DataW.trod_array j h;rw[k]at l;have o:jl.cellsOf 5=1:=by kernel_rfl
 have p:∀i,i<32->∃b:BitVec 8,d[i]?=N (v8 b):=λi c=>by
  have t:=n i c;rw[o,Nat.mul_one,qw Y,j7 Y]at t;simp only[xE,wt]at t;obtain⟨a,f,-,q⟩:=DataW.trod_int xj t;injection f with f _
  exact⟨rn 8 a.toNat,by rw[j7 Y,f,Fq q]⟩
 obtain⟨E,a⟩:=choose_lt p;refine⟨(qc 32).map E,?_,by simp⟩
 apply wv
 intro i
 by_cases c:i<32
 ·rw[a i c];simp[c]
 rw[wx Y];symm;simp;omega
theorem Pe{enc:jt×jb->H}{x:ms H×A mz}(h:DataW.trod enc jl w 0 (λ_=>jk) jk M 61 i=N x):
 ∃e:ap,i=e.cells/\(IR e.k/\IR e.d/\IR e.p/\IR e.v/\IR e.c):=by
 obtain⟨xs,n,-,-,p,q,a⟩:=DataW.trod_struct underlying61 h;have r:i.length=5:=p.trans af;have s:jl.cellsOf 3=1:=by kernel_rfl
 match i,r,xs,q with
 |[v0,v1,v2,v3,v4],_,[y0,y1,y2,y3,y4],_=>
  have c:=a 0 _ I;have d:=a 1 _ I;have f:=a 2 _ I;have g:=a 3 _ I;have b:=a 4 _ I;simp only[qF,qG,qH,s]at c d f g b;obtain⟨t,j,-,w0⟩:=DataW.trod_int j3 c;obtain⟨u,k,-,v⟩:=DataW.trod_int j3 d;obtain⟨W,l,-,y⟩:=DataW.trod_int j3 f;obtain⟨z,m,-,B⟩:=DataW.trod_int j3 g;obtain⟨C,o,-,D⟩:=DataW.trod_int j3 b;simp at j k l m o;exact⟨⟨t,u,W,z,C⟩,by rw[j,k,l,m,o];rfl,IR.of w0,IR.of v,IR.of y,IR.of B,IR.of D⟩
theorem Nv{enc:jt×jb->H}{x:ms H×A mz}(h:DataW.trod enc jl w 0 (λ_=>jk) jk M 53 [a]=N x):
 ∃l:A ap,aH (·<w.heap.size) w a 5 l.length (l.flatMap ap.cells)/\(∀x∈l,IR x.k/\IR x.d/\IR x.p/\IR x.v/\IR x.c)/\l.length<=jY:=
 rp G underlying53 af ap.cells (λ_=>rfl) _ (λ_ _ _ h=>Pe h) h
theorem BE{enc:jt×jb->H}{fuel:T}{v:jb}{x:ms H×A mz}(h:DataW.trod enc jl W 0 (λ_=>jk) jk fuel 30 [v]=N x):
 ∃l:LBy,aH (·<W.heap.size) W v 1 l.length (l.map v8)/\l.length<=jY:=by
 obtain⟨l,c,-,d⟩:=rp (α:=BitVec 8) G underlying30 af (λb=>[v8 b]) (λ_=>rfl) (λ_=>True) (λ_ _ _ h=>by
  obtain⟨a,rfl,-,e⟩:=DataW.trod_int xj h;exact⟨rn 8 a.toNat,by rw[Fq e],trivial⟩) h
 have e:∀l:LBy,(l.flatMap λb=>[v8 b])=l.map v8:=λl=>by
  induction l with
  |nil=>rfl
  |cons b l a=>rw[qB,a];rfl
 rw[e]at c;exact⟨l,c,d⟩
theorem Kx{enc:jt×jb->H}{x:ms H×A mz}(h:DataW.trod enc jl w 0 (λ_=>jk) jk M 38 [a]=N x):
 ∃l:A ja,aH (·<w.heap.size) w a 1 l.length (l.map (jj .i64))/\(∀x∈l,IR x)/\l.length<=jY:=by
 obtain⟨l,c,d,f⟩:=rp (α:=ja) G xi af (λb=>[jj .i64 b]) (λ_=>rfl) (λx=>IR x) (λ_ _ _ h=>by
  obtain⟨v,rfl,-,e⟩:=DataW.trod_int j3 h;exact⟨v,I,IR.of e⟩) h
 have e:∀l:A ja,(l.flatMap λb=>[jj .i64 b])=l.map (jj .i64):=λl=>by
  induction l with
  |nil=>rfl
  |cons b l v=>rw[qB,v];rfl
 rw[e]at c;exact⟨l,c,d,f⟩
theorem II{enc:jt×jb->H}{x:ms H×A mz}(h:DataW.trod enc jl w 0 (λ_=>jk) jk M 103 i=N x):
 ∃(n:ja) (b:jb) (l:LBy),i=[.int .i64 n,b]/\IR n/\aH (·<w.heap.size) w b 1 l.length (l.map v8):=by
 obtain⟨xs,n,-,-,g,a,c⟩:=DataW.trod_struct underlying103 h;have j:i.length=2:=g.trans af;have k:jl.cellsOf 3=1:=by kernel_rfl
 have m:jl.cellsOf 30=1:=by kernel_rfl
 match i,j,xs,a with
 |[v0,v1],_,[y0,y1],_=>
  have d:=c 0 _ I;have e:=c 1 _ I;simp only[qF,qG,qH,k,m]at d e;obtain⟨o,f,-,w0⟩:=DataW.trod_int j3 d;obtain⟨l,p,-⟩:=BE (v:=v1) (ak e);simp at f;exact⟨o,v1,l,by rw[f],IR.of w0,p⟩
theorem Rl{enc:jt×jb->H}{x:ms H×A mz}(h:DataW.trod enc jl w 0 (λ_=>jk) jk M 105 i=N x):
 ∃e:Bx×jb,i=e.1.cells e.2/\(IR e.1.node/\IR e.1.lev/\IR e.1.u)/\aH (·<w.heap.size) w e.2 1 e.1.body.length (e.1.body.map v8):=by
 obtain⟨xs,n,-,-,k,m,b⟩:=DataW.trod_struct underlying105 h;have o:i.length=4:=k.trans af;have p:jl.cellsOf 3=1:=by kernel_rfl
 have q:jl.cellsOf 103=2:=by kernel_rfl
 match i,o,xs,m with
 |[v0,v1,v2,v3],_,[y0,y1,y2],_=>
  have d:=b 0 _ I;have f:=b 1 _ I;have g:=b 2 _ I;simp only[qF,qG,qH,p,q]at d f g;obtain⟨r,a,-,w0⟩:=DataW.trod_int j3 d;obtain⟨s,j,-,t⟩:=DataW.trod_int j3 f;obtain⟨u,v,l,c,W,y⟩:=II g;simp at a j c;exact⟨(⟨r,s,u,l⟩,v),by rw[a,j,c.1,c.2];rfl,⟨IR.of w0,IR.of t,W⟩,y⟩
theorem Ni{enc:jt×jb->H}{x:ms H×A mz}(h:DataW.trod enc jl w 0 (λ_=>jk) jk M 107 i=N x):
 ∃e:Wl×jb,i=e.1.cells e.2/\(IR e.1.dev/\IR e.1.u)/\aH (·<w.heap.size) w e.2 1 e.1.body.length (e.1.body.map v8):=by
 obtain⟨xs,n,-,-,a,j,c⟩:=DataW.trod_struct underlying107 h;have k:i.length=3:=a.trans af;have m:jl.cellsOf 3=1:=by kernel_rfl
 have o:jl.cellsOf 103=2:=by kernel_rfl
 match i,k,xs,j with
 |[v0,v2,v3],_,[y0,y2],_=>
  have d:=c 0 _ I;have f:=c 1 _ I;simp only[qF,qG,qH,m,o]at d f;obtain⟨p,g,-,w0⟩:=DataW.trod_int j3 d;obtain⟨q,r,l,b,s,t⟩:=II f;simp at g b;exact⟨(⟨p,q,l⟩,r),by rw[g,b.1,b.2];rfl,⟨IR.of w0,s⟩,t⟩
theorem yu(f:H->jb->A jb):∀(l:A (H×jb)),dR f (l.map (·.1)) (l.map (·.2))=l.flatMap λe=>f e.1 e.2
 |[]=>rfl
 |e::l=>by simp only[jW,dR,qB,yu f l]
theorem Bb(f:H->LBy):∀(l:A (H×jb)),(∀e∈l,aH D w e.2 1 (f e.1).length ((f e.1).map v8))->ey D w ((l.map (·.1)).map f) (l.map (·.2))
 |[],_=>rfl
 |e::l,h=>⟨e.2,l.map (·.2),rfl,h e (j0 ..),Bb f l λx a=>h x (j8 _ a)⟩
theorem eL{cl:A jb}{o n:T}(h:o+n=m):cl.drop o=(cl.drop o).take n++cl.drop m:=by
 have:=(xG n (cl.drop o)).symm
 rwa [List.drop_drop,h]at this
theorem J1{enc:jt×jb->H}{cl:A jb}{x:ms H×A mz}(X:DataW.trod enc jl w 0 (λ_=>jk) jk M 57 cl=N x):
 ∃(c:Cmt) (q:CQ),cl=aF c q/\aZ (·<w.heap.size) w c q/\(IR c.folder/\IR c.epoch/\IR c.author/\IR c.r/\IR c.s)/\(c.chg.length<=jY/\∀x∈c.chg,IR x.k/\IR x.d/\IR x.p/\IR x.v/\IR x.c)/\
  (c.path.length<=jY/\∀x∈c.path,IR x)/\(c.box.length<=jY/\∀b∈c.box,IR b.node/\IR b.lev/\IR b.u)/\(c.wel.length<=jY/\∀b∈c.wel,IR b.dev/\IR b.u):=by
 obtain⟨xs,n,-,-,hl,aa,a⟩:=DataW.trod_struct qW X;have bg:cl.length=73:=hl.trans af;have u:jl.cellsOf 3=1:=by kernel_rfl
 have g:jl.cellsOf 23=32:=by kernel_rfl
 have i3:jl.cellsOf 53=1:=by kernel_rfl
 have i4:jl.cellsOf 38=1:=by kernel_rfl
 have i5:jl.cellsOf 54=1:=by kernel_rfl
 have i6:jl.cellsOf 55=1:=by kernel_rfl
 have i7:jl.cellsOf 32=2:=by kernel_rfl
 match xs,aa with
 |[y0,y1,y2,y3,y4,y5,y6,y7,y8,y9],_=>
  have v:=a 0 _ I;have W:=a 1 _ I;have z:=a 2 _ I;have B:=a 3 _ I;have i:=a 4 _ I;have j:=a 5 _ I;have l:=a 6 _ I;have p:=a 7 _ I;have C:=a 8 _ I;have D:=a 9 _ I;simp only[qF,qG,qH,u,g,i3,i4,i5,i6,i7]at v W z B i j l p C D;obtain⟨a0,e0,-,w0⟩:=DataW.trod_int j3 v;obtain⟨a1,e1,-,w1⟩:=DataW.trod_int j3 W;obtain⟨kb,e2,ac⟩:=sY qe g z;obtain⟨a3,e3,-,w3⟩:=DataW.trod_int j3 B;have d:∀o (h:o<cl.length),(cl.drop o).take 1=[cl[o]]:=λo h=>by rw[qw h];rfl
  rw[d 35 Y]at i;rw[d 36 Y]at j;rw[d 37 Y]at l;rw[d 38 Y]at p;obtain⟨lc,VU,ad,au⟩:=Nv i;obtain⟨lp,ax,ay,a2⟩:=Kx j;obtain⟨lb,a4,E,UJ⟩:=rp (α:=Bx×jb) (k:=4) G underlying54 af (λe=>e.1.cells e.2) (λ_=>rfl) _ (λ_ _ _ h=>Rl h) l;obtain⟨f,a5,F,a6⟩:=rp (α:=Wl×jb) (k:=3) G underlying55 af (λe=>e.1.cells e.2) (λ_=>rfl) _ (λ_ _ _ h=>Ni h) p;obtain⟨kc,e8,ba⟩:=sY qe g C;obtain⟨zs,n9,-,-,bh,bb,r⟩:=DataW.trod_struct underlying32 D;have bc:(cl.drop 71).take 2=[cl[71],cl[72]]:=by rw[qw Y,qw Y];rfl
  rw[bc]at r
  match zs,bb with
  |[z0,z1],_=>
   have K:=r 0 _ I;have s1:=r 1 _ I;simp only[qF,qG,qH,u]at K s1;obtain⟨fuel,er,-,wr⟩:=DataW.trod_int j3 K;obtain⟨r1,es,-,ws⟩:=DataW.trod_int j3 s1;have bd:cl[71]=.int .i64 fuel:=ak er;have bf:cl[72]=.int .i64 r1:=ak es;have e:cl=aF ⟨a0,a1,kb,a3,lc,lp,lb.map (·.1),f.map (·.1),kc,fuel,r1⟩ ⟨cl[35],cl[36],cl[37],cl[38]⟩:=by
    have s:=eL (cl:=cl) (o:=0) (n:=1) (m:=1) I;have t:=eL (cl:=cl) (o:=1) (n:=1) (m:=2) I;have y:=eL (cl:=cl) (o:=2) (n:=32) (m:=34) I;have P:=eL (cl:=cl) (o:=34) (n:=1) (m:=35) I;have Q:=eL (cl:=cl) (o:=35) (n:=1) (m:=36) I;have R:=eL (cl:=cl) (o:=36) (n:=1) (m:=37) I;have S:=eL (cl:=cl) (o:=37) (n:=1) (m:=38) I;have U:=eL (cl:=cl) (o:=38) (n:=1) (m:=39) I;have V:=eL (cl:=cl) (o:=39) (n:=32) (m:=71) I;have b9:cl.drop 71=[cl[71],cl[72]]:=by
     rw[qw Y,qw Y,xH Y]
    rw[e0]at s;rw[e1]at t;rw[e2]at y;rw[e3]at P;rw[d 35 Y]at Q;rw[d 36 Y]at R;rw[d 37 Y]at S;rw[d 38 Y]at U;rw[e8,b9,bd,bf]at V;rw[List.drop_zero]at s;refine s.trans ?_;rw[t,y,P,Q,R,S,U,V]
    rfl
   refine⟨_,_,e,⟨VU,ax,⟨lb.map (·.2),?_,?_⟩,⟨f.map (·.2),?_,?_⟩,ac,ba⟩,⟨IR.of w0,IR.of w1,IR.of w3,IR.of wr,IR.of ws⟩,⟨au,ad⟩,⟨a2,ay⟩,⟨?_,?_⟩,⟨?_,?_⟩⟩
   ·show aH _ _ _ 4 (lb.map (·.1)).length (dR Bx.cells (lb.map (·.1)) _)
    rw[yu,ju];exact a4
   ·exact Bb Bx.body lb λx s=>(E x s).2
   ·show aH _ _ _ 3 (f.map (·.1)).length (dR Wl.cells (f.map (·.1)) _)
    rw[yu,ju];exact a5
   ·exact Bb Wl.body f λx s=>(F x s).2
   ·show(lb.map (·.1)).length<=_
    rw[ju];exact UJ
   ·intro b s
    obtain⟨y,t,rfl⟩:=jy.1 s;exact(E y t).1
   ·show(f.map (·.1)).length<=_
    rw[ju];exact a6
   intro b s;obtain⟨y,t,rfl⟩:=jy.1 s;exact(F y t).1
end
abbrev Ia:={p:CP//p.1.parent.length=32/\p.1.confirm.length=32}
instance:Inhabited Ia:=⟨⟨(mI,nC),by decide,by decide⟩⟩
structure uL(c:Cmt):Prop where
 ints:Is c
 nbox:c.box.length<=jY
 nwel:c.wel.length<=jY
theorem NH{enc:jt×jb->H}{t:jt}(j:jl.underlying t=N (.slice 57)){fuel:T}{v:jb}{x:ms H×A mz}(h:DataW.trod enc jl W 0 (λ_=>jk) jk fuel t [v]=N x):
 ∃b:A CP,cC W v b/\b.length<=jY/\∀p∈b,uL p.1:=by
 obtain⟨l,m,f,n⟩:=rp (α:=Ia) (k:=73) G j af (λp=>sO p.1) (λp=>dz _ _ p.2.1 p.2.2) (λp=>aZ (·<W.heap.size) W p.1.1 p.1.2/\uL p.1.1)
  (λfuel s x h=>by
   obtain⟨c,q,e,d,o,r,a,g,i⟩:=J1 h;exact⟨⟨(c,q),d.plen,d.clen⟩,e,d,⟨o,r.2,a.2,g.2,i.2⟩,g.1,i.1⟩) h
 refine⟨l.map (·.1),⟨?_,λp a=>?_⟩,by rw[ju];exact n,λp a=>?_⟩
 ·rw[ju,xI];exact m
 ·obtain⟨y,c,rfl⟩:=jy.1 a
  exact(f y c).1
 obtain⟨y,c,rfl⟩:=jy.1 a;exact(f y c).2
def aQ(l:A Cmt)(i:T):Cmt:=l.getD i mI
def bU(l:A Cmt)(n:T):A T:=(qc n).filter λi=>decide (∀j,j<i->aG (aQ l j)≠aG (aQ l i))
theorem oW(l:A Cmt)(n:T):bU l (n+1)=bU l n++if∀j,j<n->aG (aQ l j)≠aG (aQ l n)then [n]else []:=by
 unfold bU;rw[List.range_succ,xw,List.filter_cons,List.filter_nil]
 congr 1
 by_cases h:∀j,j<n->aG (aQ l j)≠aG (aQ l n)
 ·rw[jp h,jp (xk h)]
 rw[jq h,jq (by rw[decide_eq_false h];decide)]
theorem oR:R∈bU j M↔R<M/\∀l,l<R->aG (aQ j l)≠aG (aQ j R):=by
 unfold bU;rw[qg,wq,decide_eq_true_eq]
structure aN where
 ix:T
 com:Cmt
 id:LBy
 since:ja
 leads:Grp
def eS(g:Grp)(d:ja):ja:=((dj g.mem d).map aJ.since).getD 0
noncomputable def eT(g:Grp)(l:A Cmt)(i:T):jw aN:=by
 classical exact if(aQ l i).parent=g.last/\cQ g (aQ l i)=0 then N ⟨i,aQ l i,aG (aQ l i),eS g (aQ l i).author,aC g (aQ l i)⟩else je
noncomputable def eP(g:Grp)(l:A Cmt):A aN:=(bU l l.length).filterMap (eT g l)
def dE:LBy->LBy->ja
 |[],[]=>0
 |[],_ ::_=> -1
 |_ ::_,[]=>1
 |a::l,b::m=>if a=b then dE l m else if a<b then -1 else 1
def kP(a b:aN):ja:=if cD a.since b.since≠0 then cD a.since b.since else if cD a.com.author b.com.author≠0 then cD a.com.author b.com.author else dE a.id b.id
def leC(a b:aN):jT:= !decide (kP b a<0)
noncomputable def ff(g:Grp)(l:A Cmt):A aN:=(eP g l).mergeSort leC
def oX(c:Cmt)(d:ja):jT:=c.chg.any λx=>x.k==2&&x.d==d
def nz(c:Cmt):T:=c.chg.countP λx=>x.k==2
def rL(left:A aN)(c:aN):jT:=left.any λx=>x.com.author !=c.com.author&&oX x.com c.com.author
def wg(w:jw aN)(c:aN):jT:=match w with|none=>jk|some w=>decide (nz w.com<nz c.com)
def gr(s:A aN×jw aN)(c:aN):A aN×jw aN:=
 if rL s.1 c=jk then s else(s.1++[c],if wg s.2 c=jk then N c else s.2)
noncomputable def dY(g:Grp)(l:A Cmt):jw aN:=((ff g l).foldl gr ([],je)).2
def aK(a:ja):Grp:=⟨a,0,qs 32 0#8,[],[]⟩
noncomputable def ft(a:ja)(b:LBy)(l:A Cmt):jw aN:=
 ((bU l l.length).find? λi=>decide (aG (aQ l i)=b)).bind λi=>
  if cQ (aK a) (aQ l i)=0 then N ⟨i,aQ l i,b,0,aC (aK a) (aQ l i)⟩else je
noncomputable def kS(l:A Cmt):T->jw aN->A aN
 |0,_=>[]
 |_ +1,je=>[]
 |n+1,N c=>c::kS l n (dY c.leads l)
def iE(l:A Cmt)(g:Grp):T:=l.countP λc=>decide (g.epoch<c.epoch)
noncomputable def dU(a:ja)(b:LBy)(l:A Cmt):A aN:=kS l (l.length+1) (ft a b l)
theorem Oj(h:M<j.length):aQ j M∈j:=by
 unfold aQ;rw[List.getD_eq_getElem?_getD,j7 h];exact q9 h
structure gB(g:Grp)(l:A Cmt)(c:aN):Prop where
 lt:c.ix<l.length
 com:c.com=aQ l c.ix
 id:c.id=aG c.com
 next:cQ g c.com=0
 leads:c.leads=aC g c.com
theorem tO{c:aN}(h:eT b j M=N c):c.ix=M/\c.com=aQ j M/\c.id=aG c.com/\c.com.parent=b.last/\cQ b c.com=0/\c.since=eS b c.com.author/\c.leads=aC b c.com:=by
 unfold eT at h
 split at h
 ·rename_i a
  injection h with h
  subst h;exact⟨by dsimp only,by dsimp only,by dsimp only,a.1,a.2,by dsimp only,by dsimp only⟩
 cases h
theorem ov{c:aN}(h:c∈eP b j):gB b j c/\c.com.parent=b.last/\c.since=eS b c.com.author/\∀l,l<c.ix->aG (aQ j l)≠c.id:=by
 unfold eP at h;obtain⟨i,e,f⟩:=List.mem_filterMap.1 h;obtain⟨a,g,d,k,m,n,o⟩:=tO f;obtain⟨p,q⟩:=oR.1 e;refine⟨⟨by rw[a];exact p,by rw[a];exact g,d,m,o⟩,k,n,λl r=>?_⟩;rw[d,g];exact q l (by rw[<-a];exact r)
theorem sC{c:aN}:c∈ff b j↔c∈eP b j:=(mb _ _).mem_iff
theorem Ik:∀(b:A aN) (s:A aN×jw aN) (w:aN),(b.foldl gr s).2=N w->w∈b\/s.2=N w
 |[],s,w,h=>.inr h
 |c::b,s,w,h=>by
  rcases Ik b (gr s c) w h with a|a
  ·exact .inl (j8 _ a)
  unfold gr at a
  split at a
  ·exact .inr a
  dsimp only at a
  split at a
  ·injection a with a
   rw[<-a];exact .inl (j0 ..)
  exact .inr a
theorem rC{w:aN}(h:dY b j=N w):w∈eP b j:=by
 rcases Ik _ _ _ h with a|a
 ·exact sC.1 a
 cases a
theorem rP{c:aN}(h:gB b j c):gQ b c.com:=iR.1 h.next
theorem iC(g:Grp)(c:Cmt):(aC g c).epoch=c.epoch:=by unfold aC;dsimp only
theorem AB(g:Grp)(c:Cmt):(aC g c).last=aG c:=by unfold aC;dsimp only
theorem G4{p q:H->jT}:∀{l:A H},(∀x,p x=jk->q x=jk)->∀x∈l,q x=jk->p x=jr->l.countP p<l.countP q
 |y::l,h,x,a,b,c=>by
  rw[xJ,xJ]
  rcases jD.1 a with rfl|a
  ·have:=List.countP_mono_left (l:=l) (p:=p) (q:=q) (λx _=>h x)
   rw[b,c,jp I,jq G];omega
  have d:=G4 h x a b c
  by_cases e:p y=jk
  ·rw[jp e,jp (h y e)];omega
  rw[jq e];omega
theorem sM{c:aN}(h:gB b j c):iE j c.leads<iE j b:=by
 have a:=rP h;have he:c.leads.epoch=b.epoch+1:=by rw[h.leads,iC];exact a.ep
 have g:c.com∈j:=by rw[h.com];exact Oj h.lt
 unfold iE;refine G4 (λx d=>?_) c.com g ?_ ?_
 ·rw[decide_eq_true_eq]at d⊢
  omega
 ·rw[decide_eq_true_eq,a.ep];omega
 rw[decide_eq_false_iff_not,he,a.ep];omega
theorem NN(l:A Cmt)(g:Grp):iE l g<=l.length:=xK
theorem uG(l:A Cmt)(n:T):kS l n je=[]:=by cases n<;>rw[kS]
theorem zQ(l:A Cmt):∀(n m:T) (c:aN),iE l c.leads<n->iE l c.leads<m->kS l n (N c)=kS l m (N c)
 |0,_,_,h,_=>jA h (qP _)
 |_,0,_,_,h=>jA h (qP _)
 |n+1,m+1,c,a,b=>by
  rw[kS,kS]
  cases hw:dY c.leads l with
  |none=>rw[uG,uG]
  |some w=>
   have d:=sM (ov (rC hw)).1;rw[zQ l n m w Y Y]
noncomputable def gW(l:A Cmt)(c:aN):A aN:=kS l (iE l c.leads+1) (N c)
theorem rA(l:A Cmt)(c:aN):gW l c=c::match dY c.leads l with|none=>[]|some w=>gW l w:=by
 unfold gW;rw[kS]
 cases hw:dY c.leads l with
 |none=>rw[uG]
 |some w=>
  have a:=sM (ov (rC hw)).1;dsimp only;rw[zQ l (iE l c.leads) (iE l w.leads+1) w a Y]
theorem uK(a:ja)(b:LBy)(l:A Cmt):dU a b l=match ft a b l with|none=>[]|some c=>gW l c:=by
 unfold dU gW
 cases hf:ft a b l with
 |none=>rw[uG]
 |some c=>
  dsimp only;have:=NN l c.leads;exact zQ l _ _ c Y Y
theorem Ag{c:aN}(h:ft d r j=N c):gB (aK d) j c/\c.id=r/\∀l,l<c.ix->aG (aQ j l)≠r:=by
 unfold ft at h
 cases hf:(bU j j.length).find? λi=>decide (aG (aQ j i)=r)with
 |none=>rw[hf]at h;cases h
 |some i=>
  rw[hf,Option.bind_some]at h
  split at h
  ·rename_i e
   injection h with h
   have b:aG (aQ j i)=r:=by
    have h:=xn hf
    simpa using h
   obtain⟨f,g⟩:=oR.1 (xm hf);subst h;refine⟨⟨f,by dsimp only,?_,e,by dsimp only⟩,by dsimp only,λl k=>?_⟩
   ·dsimp only;exact b.symm
   rw[<-b];exact g l k
  cases h
def mJ(g:Grp):A aN->T->Grp
 |_,0=>g
 |[],_=>g
 |c::a,n+1=>mJ c.leads a n
def kT(D:T->Prop)(v:jb):Prop:=∀p k c,v=jf p k c->0<k->∀a,p=N a->D a.block
theorem kT.mono{v:jb}(h:kT D v)(b:∀g,D g->E g):kT E v:=λp k c e d a f=>b _ (h p k c e d a f)
theorem cF.keepD{v:jb}(h:cF w v M R i)(d:kT D v)(e:∀g,D g->W.heap[g]?=w.heap[g]?):cF W v M R i:=by
 obtain⟨f,p,c,rfl,xs,k,l⟩:=h;refine⟨f,p,c,I,xs,k,λb=>?_⟩;obtain⟨g,o,rfl,m⟩:=l b;exact⟨g,o,I,λj q r=>(dX (a:=⟨g,o+j,je⟩) (e g (d _ _ _ I b _ I))).trans (m j q r)⟩
theorem bH.keepD{v:jb}(h:bH w v t)(i:kT D v)(k:∀g,D g->W.heap[g]?=w.heap[g]?):bH W v t:=by
 obtain⟨p,c,rfl,l,m,n,q⟩:=h;refine⟨p,c,I,l,m,λb=>?_,q⟩;obtain⟨g,o,rfl,d⟩:=n b;have e:=k g (i _ _ _ I b _ I);exact⟨g,o,I,λj f=>⟨(dX (a:=⟨g,o+j*2,je⟩) e).trans (d j f).1,(dX (a:=⟨g,o+j*2+1,je⟩) e).trans (d j f).2⟩⟩
theorem cF.lt(h:cF w a M R i)(f:0<M):kT (·<w.heap.size) a:=by
 obtain⟨xs,p,c,rfl,-,-,j⟩:=h;rintro r k s e d v rfl;injection e with b l t
 subst l;obtain⟨g,o,rfl,m⟩:=j d;injection b with b
 subst b;have q:0<i.length:=by rw[xs];exact Nat.mul_pos d f
 exact ge (m 0 _ (j7 q))
theorem bH.lt(h:bH w a t):kT (·<w.heap.size) a:=by
 obtain⟨p,c,rfl,-,-,f,-⟩:=h;rintro l k m e d v rfl;injection e with b i n
 subst i;obtain⟨g,o,rfl,j⟩:=f d;injection b with b
 subst b;exact ge (j 0 d).1
structure dO(D:T->Prop)(w:jg)(g:Grp)(vm vt:jb):Prop where
 grp:bW w g vm vt
 bm:kT D vm
 bt:kT D vt
theorem dO.keep{g:Grp}(h:dO D w g vm vt)(a:∀k,D k->w'.heap[k]?=w.heap[k]?):dO D w' g vm vt:=
 ⟨⟨cF.keepD h.grp.mem h.bm a,h.grp.tree.keepD h.bt a,h.grp.llen⟩,h.bm,h.bt⟩
theorem dO.mono{g:Grp}(h:dO D w g vm vt)(a:∀k,D k->E k):dO E w g vm vt:=⟨h.grp,h.bm.mono a,h.bt.mono a⟩
theorem dO.of{n:T}{g:Grp}(h:bW w g vm vt)(f:Fr n vm)(i:Fr n vt):dO (λk=>n<=k/\k<w.heap.size) w g vm vt:=
 ⟨h,λp k c e d a b=>⟨f p k c e a b,cF.lt h.mem G p k c e d a b⟩,λp k c e d a b=>⟨i p k c e a b,h.tree.lt p k c e d a b⟩⟩
theorem dO.below{n:T}{g:Grp}(h:dO (λk=>n<=k/\k<w.heap.size) w g vm vt)(b:jo w w w'):dO (λk=>n<=k/\k<w'.heap.size) w' g vm vt:=
 (h.keep λk a=>b.block k a.2).mono λk a=>⟨a.1,jB a.2 b.size⟩
def CK.cand(k:CK):aN:=⟨k.ix,k.p.1,k.id,k.since,k.g⟩
structure KD(D:T->Prop)(a:A CP)(w:jg)(k:CK):Prop where
 at_:a[k.ix]?=N k.p
 grp:dO D w k.g k.vm k.vt
 idl:k.id.length=32
theorem KD.keep{a:A CP}{k:CK}(h:KD D a w k)(b:∀k,D k->w'.heap[k]?=w.heap[k]?):KD D a w' k:=⟨h.at_,h.grp.keep b,h.idl⟩
theorem KD.mono{a:A CP}{k:CK}(h:KD D a w k)(b:∀k,D k->E k):KD E a w k:=⟨h.at_,h.grp.mono b,h.idl⟩
theorem KD.below{n:T}{a:A CP}{k:CK}(h:KD (λk=>n<=k/\k<w.heap.size) a w k)(b:jo w w w'):KD (λk=>n<=k/\k<w'.heap.size) a w' k:=⟨h.at_,h.grp.below b,h.idl⟩
theorem KD.kin{v:A CP}{k:CK}(h:KD D v w k)(b:cC w a v):KIn w k:=⟨b.all _ (j1 h.at_),h.grp.grp,h.idl⟩
theorem KD.len{v:A CP}{k:CK}(h:KD D v w k)(c:cC W a v):(aL k).length=143:=by
 have b:=c.all _ (j1 h.at_);unfold aL;rw[jP,jG,jG,jP,ju,dz _ _ b.plen b.clen,h.idl,eX h.grp.grp.llen]
section
variable{b f:T}{e:jt}
section
variable {P:qa} {ops:js jN} {Q:Exit->Act->jg->Prop}
theorem MF(t e:jt)(k:T)(x z:jb)(c:P.underlying t=N (.slice e))(d:∀w,(sizeOf e).run P w=.ok k w)(f:∀w,(zeroValue e).run P w=.ok z w)(j:z.cells.size=k)(b:x.cells.size=k)(l:0<k)(m:k<=1000)(w:jg):
 (Instr.buildSlice t 1 #[(0,x)]).run P w=.ok (jf (N ⟨w,0,je⟩) 1 1) (w.alloc (jh x.cells e)):=by
 have g:qM (λa y=>a.setIfInBounds (0+y.2) y.1) ((Array.range k).map (z.cells[·%z.cells.size]!)) x.cells.zipIdx 0 k=x.cells:=by
  rw[vS x.cells _ 0 k b ar,wt,xr,xH ar,qx,xL]
 unfold Instr.buildSlice;simp[qI c,d,f,Result.andThen,show ¬(2^24<k) by omega,show k≠0 by omega,Instr.fill,b];have i:qM (fun(a:js jb) (x:jb×T)=>a.setIfInBounds x.snd x.fst) ((Array.range k).map (z.cells[·%z.cells.size]!)) x.cells.zipIdx 0 k=x.cells:=by
  have h:=g;simp only[qS]at h;exact h
 have a:(newRow e x.cells).run P w=.ok ⟨w,0,je⟩ (w.alloc (jh x.cells e)):=by simp[newRow,go_sem]
 rw[i,a]
theorem fb{S:jg->Prop}{a:Act}{w:jg}(h:Q .normal a w):cX P ops (NoPanic Q) S f .done a w:=qj h
structure eI(P:qa) where
 t:jt
 e:jt
 k:T
 b:T
 i:TypeInfo
 z:jb
 ht:P.underlying t=N (.slice e)
 hi:P.info? e=N i
 hz:i.zero=N z
 hs:i.size=k
 hb:i.bytes=b
 hzs:z.cells.size=k
 h0:0<k
 hk:k<=1000
 hbb:b<=8000
theorem ry{z:jb}(h:(P.info? e).map (λi=>(i.zero,i.size,i.bytes))=N (N z,f,b)):(P.info? e).isSome=jk:=by
 cases hq:P.info? e with
 |none=>rw[hq]at h;cases h
 |some i=>rfl
theorem Bd{z:jb}(h:(P.info? e).map (λi=>(i.zero,i.size,i.bytes))=N (N z,f,b)):((P.info? e).get (ry h)).zero=N z/\((P.info? e).get (ry h)).size=f/\((P.info? e).get (ry h)).bytes=b:=by
 have a:P.info? e=N ((P.info? e).get (ry h)):=(xM _).symm;generalize(P.info? e).get (ry h)=i at a⊢;rw[a]at h
 simpa using h
def eI.of(t e:jt)(k b:T)(z:jb)(a:P.underlying t=N (.slice e))(h:(P.info? e).map (λi=>(i.zero,i.size,i.bytes))=N (N z,k,b))(c:z.cells.size=k)(d:0<k)(f:k<=1000)(g:b<=8000):eI P:=
 ⟨t,e,k,b,(P.info? e).get (ry h),z,a,(xM _).symm,(Bd h).1,(Bd h).2.1,(Bd h).2.2,c,d,f,g⟩
theorem eI.size(R:eI P)(w:jg):(sizeOf R.e).run P w=.ok R.k w:=by simp[sizeOf,typeInfo,R.hi,R.hs]
theorem eI.zero(R:eI P)(w:jg):(zeroValue R.e).run P w=.ok R.z w:=by simp[zeroValue,typeInfo,R.hi,R.hz]
theorem eI.wp_build(R:eI P){o:jN}{a:Act}{w:jg}{K:Act->jg->Prop}(x:jX)(b:o.op=.buildSlice R.t 1 #[(0,x)])(v:jb)(c:a.eval x=v)(d:v.cells.size=R.k)
 (h:K (a.put o.dst (jf (N ⟨w,0,je⟩) 1 1)) (w.alloc (jh v.cells R.e))):o.wp P a w K Q:=by
 refine Ir (v:=jf (N ⟨w,0,je⟩) 1 1) (w':=w.alloc (jh v.cells R.e)) ?_ h;unfold oj;simp only[b,xN,jW,ql,c,Sem.run_bind,MF R.t R.e R.k v R.z R.ht R.size R.zero R.hzs d R.h0 R.hk w,Result.andThen_ok,Sem.run_pure]
theorem Mt{w:jg}{a:js jb}(h:w.heap[f]?=N (jh a e (0,0)))(k:a.size=b):cF w (jf (N ⟨f,0,je⟩) 1 1) b 1 a.toList:=by
 refine⟨by rw[qb,k,Nat.one_mul],_,1,I,jE _,(λe=>by cases e),λ_=>⟨f,0,I,λj d c=>?_⟩⟩;rw[qS];exact ah h (ak c)
theorem eI.wp_append(R:eI P){o:jN}{a:Act}{w:jg}{K:Act->jg->Prop}(s x:jX)(d:o.op=.call {callee:=.builtin .append,args:=#[s,x],argTypes:=#[R.t,R.t]})
 (base:T) (v:jb) (n:T) (xs:A jb) (e:a.eval s=v) (f:w.ownsRow base R.e R.k v n xs) (g:T) (b:js jb) (i:a.eval x=jf (N ⟨g,0,je⟩) 1 1) (j:w.heap[g]?=N (jh b R.e (0,0))) (k:b.size=R.k) (l:∀c∈b.toList,c.oneCell'=jk)
 (p:n<=1000000) (m:base<=w.heap.size)
 (h:∀c w',w'.ownsRow base R.e R.k c (n+1) (xs++b.toList)->w.grownBy w' v.ownBlock->(c.ownBlock=v.ownBlock\/c.ownBlock=N w.heap.size)->K (a.put o.dst c) w'):o.wp P a w K Q:=
 nP s x R.t d base R.e R.i R.z R.k R.b R.ht R.hi R.hz R.hs R.hb R.hzs R.h0 v n xs e f _ 1 b.toList i (Mt j k) l (by unfold jY;omega) (by
  have:=R.hbb;have c:(n+1)*R.b<=1000001*8000:=Nat.mul_le_mul Y this
  omega) m h
structure zM(c d:eI P)(base:T)(w w':jg)(u1 u2 a b:jb)(e f:T)(g h:A jb):Prop where
 own1:w'.ownsRow base c.e c.k a e g
 own2:w'.ownsRow base d.e d.k b f h
 sep:∀k,a.ownBlock=N k->b.ownBlock≠N k
 lie1:a.ownBlock=u1.ownBlock\/∀k,a.ownBlock=N k->w.heap.size<=k
 lie2:b.ownBlock=u2.ownBlock\/∀k,b.ownBlock=N k->w.heap.size<=k
 heap:∀k,k<w.heap.size->u1.ownBlock≠N k->u2.ownBlock≠N k->w'.heap[k]?=w.heap[k]?
 bel:jo 0 w w'
theorem iB{w w':jg}{n:T}{z:jb}{xs:A jb}(h:w.ownsRow f e b z n xs)(c:∀g,z.ownBlock=N g->w'.heap[g]?=w.heap[g]?):w'.ownsRow f e b z n xs:=by
 refine⟨h.1,?_⟩
 rcases h.2 with a|⟨g,d,B,sz,a,i,j⟩
 ·exact .inl a
 exact .inr ⟨g,d,B,sz,a,(c g (by rw[sz];rfl)).trans i,j⟩
theorem Gx{w w':jg}(h:jo f w w'):jo 0 w w':=h.mono (n0 _)
theorem GE{w w':jg}{a:jw T}(h:w.grownBy w' a):jo 0 w w':=⟨h.os,h.tape,h.output,h.size,λk b=>jA b (qP k)⟩
theorem Rr{S:jg->Prop}{f m i:T}{o:jN}{l:bE->bE}{E:Act->Act}{r:bE}{a:Act}{w:jg}(s:ops[b]?=N o)(t:Region.noSelect ops=jk)(u:∀c a e w,Q (.panic c) a w->Q (.panic c) e w)
 (K:nS ops b m=jk) (M:nS ops b i=jk) (c:T->Act->jg->jw jb->Prop) (x:c 0 a w je) (n:∀j a w d,c j a w d->S w)
 (y:∀a w d,c 0 a w d->wpOp P ops Q m (λe w'=>c 1 e w' d) a w) (z:∀a w d,c 1 a w d->wpOp P ops Q i (λe w'=>c 2 e w' d) a w)
 (U:∀j a w,c j a w je->wpOp P ops Q b (λe w'=>∃v,e=a.put o.dst v/\c j a w' (N v)) a w)
 (p:∀a w d,c 2 a w d->c 3 (E a) w d/\(∀R,cX P ops Q S f R (E a) w->cX P ops Q S f (l R) a w)/\∀v R,cX P ops Q S f R ((E a).put o.dst v) w->cX P ops Q S f (l R) (a.put o.dst v) w)
 (B:∀a w v,c 3 a w (N v)->cX P ops Q S f r (a.put o.dst v) w):
 cX P ops Q S f (.two m b (.two i b (l (.one b r)) (.one i (l r))) (.one m (.one i (l r)))) a w:=by
 obtain⟨V,C,W⟩:=z6 s K;obtain⟨X,D,q2⟩:=z6 s M;have F:∀a w v,c 1 a w (N v)->cX P ops Q S f (.one i (l r)) (a.put o.dst v) w:=λa w v h=>by
  refine qX (λH w' g=>?_) (zu (v:=v) D q2 (λk b=>Region.noSelect_spec t i X k b D) u (z a w (N v) h));obtain⟨e,rfl,d⟩:=g;exact .inr ⟨n _ _ _ _ d,λ_=>(p e w' _ d).2.2 v r (B _ _ _ (p e w' _ d).1)⟩
 have e1:∀a w v,c 0 a w (N v)->cX P ops Q S f (.one m (.one i (l r))) (a.put o.dst v) w:=λa w v h=>by
  refine qX (λH w' g=>?_) (zu (v:=v) C W (λk b=>Region.noSelect_spec t m V k b C) u (y a w (N v) h));obtain⟨e,rfl,d⟩:=g;exact .inr ⟨n _ _ _ _ d,λ_=>F _ _ _ d⟩
 have q:∀(j:T) (R:bE) a w,c j a w je->(∀w' v,c j a w' (N v)->cX P ops Q S f R (a.put o.dst v) w')->cX P ops Q S f (.one b R) a w:=λj R a w h hr=>by
  refine qX (λH w' g=>?_) (U j a w h);obtain⟨v,rfl,d⟩:=g;exact .inr ⟨n _ _ _ _ d,λ_=>hr w' v d⟩
 refine⟨qX (λe w' g=>.inr ⟨n _ _ _ _ g,λ_=>?_⟩) (y a w je x),q 0 _ a w x λw' v d=>e1 _ _ _ d⟩;refine⟨qX (λa2 w2 H=>.inr ⟨n _ _ _ _ H,λ_=>?_⟩) (z e w' je g),q 1 _ e w' g λw' v d=>F _ _ _ d⟩;obtain⟨k,h3,-⟩:=p a2 w2 je H;exact h3 _ (q 3 _ _ _ k λw' v d=>B _ _ _ d)
def rT(a:bE->bE)(r:bE):bE:=.two 3 8 (.two 4 8 (a (.one 8 (.one 9 r))) (.one 4 (a (.one 9 r)))) (.one 3 (.one 4 (a (.one 9 r))))
theorem z7(i n:eI P){S:jg->Prop}{f:T}{a:Act}{w:jg}{r:bE}{T0:bE->bE}{E:Act->Act}{o3 o4 U o9:jN}{r1 r2 rb r3 s1 s2 t1 t2:T}(hs:Region.noSelect ops=jk)(a2:∀c a b w,Q (.panic c) a w->Q (.panic c) b w)
 (a3:nS ops 8 3=jk) (a4:nS ops 8 4=jk) (h3:ops[3]?=N o3) (h4:ops[4]?=N o4) (h8:ops[8]?=N U) (h9:ops[9]?=N o9)
 (g3:o3.guard=je) (g4:o4.guard=je) (g8:U.guard=je) (g9:o9.guard=je) (d3:o3.dst=N r1) (d4:o4.dst=N r2) (d8:U.dst=N rb) (d9:o9.dst=N r3)
 (p3:o3.op=.buildSlice i.t 1 #[(0,.tmp s1)]) (p4:o4.op=.call {callee:=.builtin .append,args:=#[.tmp t1,.tmp r1],argTypes:=#[i.t,i.t]})
 (p8:U.op=.buildSlice n.t 1 #[(0,.tmp s2)]) (p9:o9.op=.call {callee:=.builtin .append,args:=#[.tmp t2,.tmp rb],argTypes:=#[n.t,n.t]})
 (l1:r1<a.tmps.size) (lb:rb<a.tmps.size) (q1:r1≠t1) (q2:r1≠s2) (q3:r2≠s2) (q4:r1≠t2) (q5:r2≠t2) (q6:rb≠t2)
 (hE:∀(b:Act) v,E (b.put (N rb) v)=(E b).put (N rb) v) (a5:∀b:Act,(E b).eval (.tmp s2)=b.eval (.tmp s2)) (a6:∀b:Act,(E b).eval (.tmp t2)=b.eval (.tmp t2)) (ba:∀b:Act,(E b).tmps.size=b.tmps.size)
 (hT:∀(b:Act) (w':jg) R,(∀s,s≠r1->s≠r2->s≠rb->b.eval (.tmp s)=a.eval (.tmp s))->cX P ops Q S f R (E b) w'->cX P ops Q S f (T0 R) b w')
 {x1 x2 u1 u2:jb} (e1:a.eval (.tmp s1)=x1) (q:a.eval (.tmp s2)=x2) (f1:a.eval (.tmp t1)=u1) (f2:a.eval (.tmp t2)=u2) (c1:x1.cells.size=i.k) (c2:x2.cells.size=n.k) (y1:∀c∈x1.cells.toList,c.oneCell'=jk) (y2:∀c∈x2.cells.toList,c.oneCell'=jk)
 {base l o:T} {K aa:A jb} (ad:w.ownsRow base i.e i.k u1 l K) (au:w.ownsRow base n.e n.k u2 o aa) (ax:∀k,u1.ownBlock=N k->u2.ownBlock≠N k) (m1:l<=1000000) (m2:o<=1000000) (WJ:base<=w.heap.size)
 (ay:∀w',(∀k,k<w.heap.size->u1.ownBlock≠N k->u2.ownBlock≠N k->w'.heap[k]?=w.heap[k]?)->w.heap.size<=w'.heap.size->S w')
 (hQ:∀z1 z2 d c w',zM i n base w w' u1 u2 d c (l+1) (o+1) (K++x1.cells.toList) (aa++x2.cells.toList)->cX P ops Q S f r (((E ((a.put (N r1) z1).put (N r2) d)).put (N rb) z2).put (N r3) c) w'):
 cX P ops Q S f (rT T0 r) a w:=by
 have z1:∀k,u1.ownBlock=N k->k<w.heap.size:=λk c=>(ad.lt k c).2
 have z2:∀k,u2.ownBlock=N k->k<w.heap.size:=λk c=>(au.lt k c).2
 have bb:∀k,w.heap.size<=k->u1.ownBlock≠N k:=λk c e=>by have:=z1 k e;omega
 unfold rT;refine Rr h8 hs a2 a3 a4 (E:=E) (λj b w' V=>jo 0 w w'/\(∀k,k<w.heap.size->u1.ownBlock≠N k->w'.heap[k]?=w.heap[k]?)/\
  (∀v,V=N v->∃g,v=jf (N ⟨g,0,je⟩) 1 1/\w.heap.size<=g/\w'.heap[g]?=N (jh x2.cells n.e (0,0)))/\
  match j with
  |0=>b=a/\w'.ownsRow base i.e i.k u1 l K
  |1=>∃g,b=a.put (N r1) (jf (N ⟨g,0,je⟩) 1 1)/\w'.ownsRow base i.e i.k u1 l K/\w.heap.size<=g/\w'.heap[g]?=N (jh x1.cells i.e (0,0))
  |j+2=>∃z d,b=(if j=0 then id else E) ((a.put (N r1) z).put (N r2) d)/\w'.ownsRow base i.e i.k d (l+1) (K++x1.cells.toList)/\(d.ownBlock=u1.ownBlock\/∀k,d.ownBlock=N k->w.heap.size<=k)/\
   ∀g,V=N (jf (N ⟨g,0,je⟩) 1 1)->∀k,d.ownBlock=N k->k≠g)
  ⟨lw _ _,λ_ _ _=>rfl,(λv e=>by cases e),rfl,ad⟩ (λ_ _ _ _ H=>ay _ (λk c l _=>H.2.1 k c l) H.1.size) ?_ ?_ ?_ ?_ ?_
 ·rintro W p V ⟨b,t,B,rfl,m⟩
  refine Ar h3 g3 (i.wp_build _ p3 x1 e1 c1 ?_);rw[d3];have u:=ao p (jh x1.cells i.e);refine⟨b.trans (Gx u),λk c x=>(u.block k (jB c b.size)).trans (t k c x),λv e=>?_,_,I,cL m u,b.size,jC p _⟩;obtain⟨g,rfl,D,y⟩:=B v e;exact⟨g,I,D,av y u⟩
 ·rintro W p V ⟨b,t,B,g,rfl,m,bc,WW⟩
  refine Ar h4 g4 (i.wp_append _ _ p4 base u1 l K ((io q1).trans f1) m g x1.cells (BX l1) WW c1 y1 m1 (jJ WJ b.size) ?_);intro v' w' ac C X;rw[d4];have F:v'.ownBlock=u1.ownBlock\/∀k,v'.ownBlock=N k->w.heap.size<=k:=by
   rcases X with h|h
   ·exact .inl h
   exact .inr λk e=>by rw[h]at e;cases e;exact b.size
  refine⟨b.trans (GE C),λk c x=>(C.block k (jB c b.size) (λe=>x e.symm)).trans (t k c x),λv e=>?_,_,_,I,ac,F,λgb e k M=>?_⟩
  ·obtain⟨gb,rfl,D,y⟩:=B v e
   exact⟨gb,I,D,(C.block gb (jQ.1 y).1 (λe=>bb gb D e.symm)).trans y⟩
  obtain⟨a1,e',D,y⟩:=B _ e;obtain rfl:gb=a1:=ak e';have bd:=(jQ.1 y).1
  rcases X with h|h
  ·rw[h]at M
   have:=z1 k M;omega
  rw[h]at M
  cases M
  omega
 ·intro j W p H
  obtain⟨b,t,B,H⟩:=H;have bc:W.eval (.tmp s2)=x2:=by
   match j,H with
   |0,⟨h,_⟩=>rw[h];exact q
   |1,⟨g,h,_⟩=>rw[h];exact(io q2).trans q
   |j+2,⟨z,d,h,_⟩=>
    rw[h];have h0:((a.put (N r1) z).put (N r2) d).eval (.tmp s2)=x2:=(io q3).trans ((io q2).trans q)
    by_cases a1:j=0
    ·rw[jp a1];exact h0
    rw[jq a1];exact(a5 _).trans h0
  refine Ar h8 g8 (n.wp_build _ p8 x2 bc c2 ?_);have u:=ao p (jh x2.cells n.e);refine⟨_,I,b.trans (Gx u),λk c x=>(u.block k (jB c b.size)).trans (t k c x),λv e=>?_,?_⟩
  ·injection e with e
   exact⟨_,e.symm,b.size,jC p _⟩
  match j,H with
  |0,⟨h,m⟩=>exact⟨h,cL m u⟩
  |1,⟨g,h,m,D,y⟩=>exact⟨g,h,cL m u,D,av y u⟩
  |j+2,⟨z,d,h,m,F,_⟩=>
   refine⟨z,d,h,cL m u,F,λg e k M=>?_⟩;have h1:p.heap.size=g:=ak e;have:=(m.lt k M).2;omega
 ·rintro W p V ⟨b,t,B,z,d,rfl,m,F,x⟩
  refine⟨⟨b,t,B,z,d,I,m,F,x⟩,λR h=>?_,λv R h=>?_⟩
  ·exact hT _ p R (λs l o j=>(io (Ne.symm o)).trans (io (Ne.symm l))) h
  rw[d8]at h⊢;exact hT _ p R (λs l o j=>(io (Ne.symm j)).trans ((io (Ne.symm o)).trans (io (Ne.symm l)))) (by rw[hE];exact h)
 rintro W p v ⟨b,t,B,z,d,rfl,m,F,x⟩;obtain⟨gb,rfl,D,y⟩:=B v I;replace x:=x gb I;obtain⟨u,s⟩:=J (E ((a.put (N r1) z).put (N r2) d));have H:u.eval (.tmp t2)=u2/\u.tmps.size=a.tmps.size:=by
  rw[s];exact⟨(a6 _).trans ((io q5).trans ((io q4).trans f2)),(ba _).trans (by rw[yN,yN])⟩
 show cX P ops Q S f (.one 9 r) (Act.put (E ((a.put (N r1) z).put (N r2) d)) U.dst _) p;rw[<-s,d8];have R:p.ownsRow base n.e n.k u2 o aa:=iB au λg j=>t g (z2 g j) (λe=>ax g e j)
 refine cV h9 λK' V=>?_
 rw[jp (by unfold Region.wanted;simp[g9])];refine n.wp_append _ _ p9 base u2 o aa ((io q6).trans H.1) R gb x2.cells (BX (by rw[H.2];exact lb)) y c2 y2 m2 (jJ WJ b.size) λv' w' ac C X=>V _ _ (ay _ (λk c l o=>(C.block k (jB c b.size) (λe=>o e.symm)).trans (t k c l)) (jJ b.size C.size)) λ_=>?_
 rw[d9,s];have M:∀k,d.ownBlock=N k->u2.ownBlock≠N k:=λk e q=>by
  rcases F with h|h
  ·rw[h]at e;exact ax k e q
  have:=h k e;have:=z2 k q;omega
 refine hQ z _ d v' w' ⟨iB m λg j=>C.block g (m.lt g j).2 (λe=>M g j e.symm),ac,λk e q=>?_,F,?_,λk c l o=>(C.block k (jB c b.size) (λe=>o e.symm)).trans (t k c l),b.trans (GE C)⟩
 ·rcases X with h|h
  ·rw[h]at q;exact M k e q
  rw[h]at q
  cases q
  have:=(m.lt _ e).2;omega
 rcases X with h|h
 ·exact .inl h
 exact .inr λk e=>by rw[h]at e;cases e;exact b.size
end
end
section
theorem ya(w:jg)(Z C:js jb)(t:jt):(w.alloc (jh Z t)).setRow w.heap.size C=w.alloc (jh C t):=by
 have h:∀k:T,((w.alloc (jh Z t)).setRow w.heap.size C).heap[k]?=(w.alloc (jh C t)).heap[k]?:=by
  intro k
  by_cases a:k=w.heap.size
  ·subst a;exact(j4 _ _ _ _ _ _ (jC w _)).trans (jC w _).symm
  rw[qk _ _ _ _ a];show(w.heap.push _)[k]?=(w.heap.push _)[k]?;rw[xO,xO,jq a,jq a]
 have a:((w.alloc (jh Z t)).setRow w.heap.size C).heap=(w.alloc (jh C t)).heap:=Array.ext_getElem? h;show({w with heap:=_}:jg)={w with heap:=_};exact jS (λH=>({w with heap:=H}:jg)) a
section
variable {P:qa} {ops:js jN} {Q:Exit->Act->jg->Prop}
structure VarT(P:qa) where
 t:jt
 n:T
 Z:js jb
 d:TypeDesc
 hu:P.underlying t=N d
 hd:d.isRow=jk
 hi:(P.info? t).map (·.size)=N n
 hZ:Z.size=n
 hal:∀w,(Instr.alloc t jk (jZ #[])).run P w=.ok (jI (N ⟨w,0,je⟩)) (w.alloc (jh Z t))
variable (V:VarT P) {o:jN} {rest:A jN} {a:Act} {w:jg}
theorem VarT.made(b:o.guard=je)(c:o.op=.alloc V.t)(h:j6 P ops Q rest (a.put o.dst (jI (N ⟨w,0,je⟩))) (w.alloc (jh V.Z V.t))):j6 P ops Q (o::rest) a w:=
 jO b λ_ d=>gK V.t c V.Z V.hal (d _ _ h)
theorem VarT.store(d:o.guard=je){x y:jX}(e:o.op=.store V.t x y){g:T}(f:a.eval x=jI (N ⟨g,0,je⟩))(C:js jb)(i:a.eval y=jm C)(c:C.size=V.n)(j:C.all (·.oneCell')=jk)
 {b:js jb} (k:w.heap[g]?=N (jh b V.t (0,0))) (l:b.size=V.n) (h:j6 P ops Q rest (a.put o.dst qd) (w.setRow g C)):j6 P ops Q (o::rest) a w:=
 jO d λ_ m=>j9 V.t x y e g C f i V.t b k (by rw[c];exact V.hi) (l.trans c.symm) j (m _ _ h)
theorem VarT.first(b:o.guard=je){x y:jX}(c:o.op=.store V.t x y)(d:a.eval x=jI (N ⟨w,0,je⟩))(C:js jb)(e:a.eval y=jm C)(f:C.size=V.n)(g:C.all (·.oneCell')=jk)
 (h:j6 P ops Q rest (a.put o.dst qd) (w.alloc (jh C V.t))):j6 P ops Q (o::rest) a (w.alloc (jh V.Z V.t)):=
 V.store b c d C e f g (jC w _) V.hZ (by rw[ya];exact h)
theorem VarT.load(c:Region.wanted o (yielded ops a.tmps)=jk){x:jX}(d:o.op=.load V.t x){g f:T}(e:a.eval x=jI (N ⟨g,f,je⟩))(b:A jb)(i:b.length=V.n)(j:w.rangeAt g f b)
 (h:j6 P ops Q rest (a.put o.dst (jm b.toArray)) w):j6 P ops Q (o::rest) a w:=
 ez c (fx o a V.t x d g f e b V.d j V.hu V.hd (by rw[i];exact V.hi)) h
theorem VarT.loadA(b:Region.wanted o (yielded ops a.tmps)=jk){x:jX}(c:o.op=.load V.t x){g:T}(d:a.eval x=jI (N ⟨g,0,je⟩))(C:js jb)(e:C.size=V.n){t:jt}(f:w.heap[g]?=N (jh C t (0,0)))
 (h:j6 P ops Q rest (a.put o.dst (jm C)) w):j6 P ops Q (o::rest) a w:=by
 refine V.load b c d C.toList (by rw[qb];exact e) (λj v i=>?_) (by rw[xL];exact h);rw[qS];exact ah f (ak i)
end
end
section
open Go.RowKit Go.Maps Go.Sort Go.Shelf
structure fq{α β:Type}(p:α->β)(c:α->α->ja):Prop where
 eq:∀x y,c x y=0↔p x=p y
 anti:∀x y,c x y<0↔0<c y x
 trans:∀x y z,c x y<0->c y z<0->c x z<0
 depl:∀x y z,p x=p y->c x z=c y z
 depr:∀x y z,p x=p y->c z x=c z y
theorem fq.lex{i:Type}{p:H->C}{q:H->i}{c d:H->H->ja}(a:fq p c)(f:fq q d):fq (λx=>(p x,q x)) (λx y=>if c x y≠0 then c x y else d x y) where
 eq x y:=by
  by_cases h:c x y=0
  ·rw[jq Y,f.eq]
   have:=(a.eq x y).1 h;simp[this]
  rw[jp h];have:¬p x=p y:=λe=>h ((a.eq x y).2 e)
  simp[h,this]
 anti x y:=by
  by_cases h:c x y=0
  ·have b:c y x=0:=(a.eq y x).2 ((a.eq x y).1 h).symm
   rw[jq Y,jq Y];exact f.anti x y
  have b:¬c y x=0:=λe=>h ((a.eq x y).2 ((a.eq y x).1 e).symm)
  rw[jp h,jp b];exact a.anti x y
 trans x y z hxy hyz:=by
  by_cases h:c x y=0
  ·have e:=(a.eq x y).1 h
   rw[jq Y]at hxy
   by_cases b:c y z=0
   ·rw[jq Y]at hyz
    rw[jq (by rw[a.depl x y z e];omega)];exact f.trans x y z hxy hyz
   rw[jp b]at hyz;rw[jp (by rw[a.depl x y z e];exact b),a.depl x y z e];exact hyz
  rw[jp h]at hxy
  by_cases b:c y z=0
  ·have e:=(a.eq y z).1 b
   rw[jp (by rw[<-a.depr y z x e];exact h),<-a.depr y z x e];exact hxy
  rw[jp b]at hyz;have g:=a.trans x y z hxy hyz;rw[jp Y];exact g
 depl x y z e:=by
  have b:=jS Prod.fst e;have g:=jS Prod.snd e;simp only at b g;rw[a.depl x y z b,f.depl x y z g]
 depr x y z e:=by
  have b:=jS Prod.fst e;have g:=jS Prod.snd e;simp only at b g;rw[a.depr x y z b,f.depr x y z g]
theorem fq.int(p:α->ja):fq p (λx y=>cD (p x) (p y)) where
 eq x y:=by unfold cD;split<;>(try split)<;>omega
 anti x y:=by unfold cD;split<;>(try split)<;>(try split)<;>omega
 trans x y z:=by
  intro c d;unfold cD at*
  by_cases a:p x<p y
  ·by_cases b:p y<p z
   ·rw[jp Y];decide
   rw[jq b]at d;split at d<;>omega
  rw[jq a]at c;split at c<;>omega
 depl x y z e:=by simp only[e]
 depr x y z e:=by simp only[e]
theorem Cp:∀(a b:LBy),dE a b=0↔a=b
 |[],[]=>by simp[dE]
 |[],_ ::_=>by simp[dE]
 |_ ::_,[]=>by simp[dE]
 |a::c,b::d=>by
  unfold dE
  by_cases h:a=b
  ·rw[jp h,Cp c d,h];simp
  rw[jq h];have:¬(a::c=b::d):=λe=>h (by injection e)
  split<;>simp[this]
theorem IF{a b:BitVec 8}(h:a≠b):a<b↔¬b<a:=by
 have:a.toNat≠b.toNat:=λe=>h (xa e)
 rw[rv,rv];omega
theorem FW:∀(a b:LBy),dE a b<0↔0<dE b a
 |[],[]=>by simp[dE]
 |[],_ ::_=>by simp[dE]
 |_ ::_,[]=>by simp[dE]
 |a::d,b::e=>by
  unfold dE
  by_cases h:a=b
  ·rw[jp h,jp h.symm];exact FW d e
  rw[jq h,jq (Ne.symm h)]
  by_cases c:a<b
  ·rw[jp c,jq ((IF h).1 c)];decide
  rw[jq c,jp ((IF (Ne.symm h)).2 c)];decide
theorem I6{a b:BitVec 8}{V:LBy}:dE (a::r) (b::V)<0↔a<b\/a=b/\dE r V<0:=by
 rw[dE]
 by_cases h:a=b
 ·rw[jp h]
  subst h;have:¬a<a:=by rw[rv];omega
  simp[this]
 rw[jq h]
 by_cases c:a<b
 ·rw[jp c];simp[c]
 rw[jq c];simp[h,c]
theorem Co:∀(a b c:LBy),dE a b<0->dE b c<0->dE a c<0
 |[],[],c,h,_=>by simp[dE]at h
 |[],_ ::_,[],_,h=>by simp[dE]at h
 |[],_ ::_,_ ::_,_,_=>by simp[dE]
 |_ ::_,[],_,h,_=>by simp[dE]at h
 |_ ::_,_ ::_,[],_,h=>by simp[dE]at h
 |a::f,b::g,c::i,e,d=>by
  rw[I6]at*
  rcases e with e|⟨rfl,e⟩
  ·rcases d with d|⟨rfl,d⟩
   ·exact .inl (by rw[rv]at*;omega)
   exact .inl e
  rcases d with d|⟨rfl,d⟩
  ·exact .inl d
  exact .inr ⟨I,Co f g i e d⟩
theorem fq.bytes(p:α->LBy):fq p (λx y=>dE (p x) (p y)) where
 eq x y:=Cp _ _
 anti x y:=FW _ _
 trans x y z:=Co _ _ _
 depl x y z e:=by simp only[e]
 depr x y z e:=by simp only[e]
theorem S7:fq (λx:aN=>(x.since,x.com.author,x.id)) kP:=
 (fq.int aN.since).lex ((fq.int λx:aN=>x.com.author).lex (fq.bytes aN.id))
theorem fq.on{a:Type}{p:H->C}{c:H->H->ja}(h:fq p c)(f:a->H):fq (λx=>p (f x)) (λx y=>c (f x) (f y)) where
 eq x y:=h.eq _ _
 anti x y:=h.anti _ _
 trans x y z:=h.trans _ _ _
 depl x y z e:=h.depl _ _ _ e
 depr x y z e:=h.depr _ _ _ e
theorem fq.swo{p:H->C}{c:H->H->ja}(h:fq p c):SWO (ltOf c) where
 irrefl x:=by
  have:=(h.eq x x).2 I;simp only[ltOf,decide_eq_false_iff_not];omega
 trans x y z h1 h2:=by
  simp only[ltOf,decide_eq_true_eq]at*;exact h.trans x y z h1 h2
 ntrans x y z h1 h2:=by
  simp only[ltOf,decide_eq_false_iff_not]at*;intro a
  by_cases b:c x y=0
  ·rw[h.depl x y z ((h.eq x y).1 b)]at a;exact h2 a
  exact h2 (h.trans y x z ((h.anti y x).2 Y) a)
theorem fq.tot{p:H->C}{c:H->H->ja}(h:fq p c){x y:H}(b:ltOf c x y=jr)(a:ltOf c y x=jr):p x=p y:=by
 simp only[ltOf,decide_eq_false_iff_not]at b a
 by_cases e:c x y=0
 ·exact(h.eq x y).1 e
 exact jA ((h.anti y x).2 Y) a
theorem Fw{f:H->C}:∀{l:A H},(l.map f).Nodup->∀x∈l,∀y∈l,f x=f y->x=y
 |[],_,x,g,_,_,_=>by cases g
 |a::l,d,x,g,y,h,e=>by
  rw[jW,sv]at d
  rcases jD.1 g with c|c
  ·rcases jD.1 h with b|b
   ·rw[c,b]
   exact jA (jy.2 ⟨y,b,by rw[<-e,c]⟩) d.1
  rcases jD.1 h with b|b
  ·exact jA (jy.2 ⟨x,c,by rw[e,b]⟩) d.1
  exact Fw d.2 x c y b e
end
section
open Go.RowKit Go.Maps Go.Sort Go.Shelf
def Grw(w w':jg):Prop:=∃q os,w'=grow (w.drewN q) os
theorem Grw.refl(w:jg):Grw w w:=⟨0,#[],(grow_empty (w.drewN 0)).symm⟩
theorem Grw.trans{a b c:jg}(h:Grw a b)(k:Grw b c):Grw a c:=by
 obtain⟨q,os,rfl⟩:=h;obtain⟨d,e,rfl⟩:=k;refine⟨q+d,os++e,?_⟩;show({a with heap:=a.heap++os++e,drawn:=a.drawn+q+d}:jg)={a with heap:=a.heap++(os++e),drawn:=a.drawn+(q+d)};rw[Array.append_assoc,qn]
theorem Grw.alloc(w:jg)(o:Obj):Grw w (w.alloc o):=⟨0,#[o],by
 show({w with heap:=w.heap.push o}:jg)={w with heap:=w.heap++ #[o]}
 congr 1⟩
theorem Grw.drew(w:jg):Grw w w.drew:=⟨1,#[],(grow_empty (w.drewN 1)).symm⟩
theorem Grw.drewN(w:jg)(n:T):Grw w (w.drewN n):=⟨n,#[],(grow_empty (w.drewN n)).symm⟩
theorem Grw.size(h:Grw w w'):w.heap.size<=w'.heap.size:=by
 obtain⟨q,os,rfl⟩:=h;simp[grow,World.drewN]
theorem Grw.heap(h:Grw w w'){k:T}(a:k<w.heap.size):w'.heap[k]?=w.heap[k]?:=by
 obtain⟨q,os,rfl⟩:=h;show(w.heap++os)[k]?=_;rw[xP a]
theorem Grw.below(h:Grw w w'):jo w w w':=by
 refine⟨?_,?_,?_,h.size,λk a=>h.heap a⟩<;>(obtain⟨q,os,rfl⟩:=h;rfl)
theorem Grw.keep(h:Grw w w'){g:T}{o:Obj}(a:w.heap[g]?=N o):w'.heap[g]?=N o:=
 (h.heap (jQ.1 a).1).trans a
theorem zP[Inhabited H]{enc:H->A jb}{k m off:T}{w:jg}{a:T}{d:js H}{os:js Obj}{g:T}(c:g<w.heap.size)(b:g≠a):(sortWorldK enc k w a off m d os).heap[g]?=w.heap[g]?:=by
 unfold sortWorldK putRowK putRow mapBlock Go.Sort.ahead Go.Sort.grow;simp only;rw[xP (by simp;omega),xt,jq (Ne.symm b)]
theorem Oh[Inhabited H]{enc:H->A jb}{k m off:T}{w:jg}{a:T}{d:js H}{os:js Obj}:w.heap.size<=(sortWorldK enc k w a off m d os).heap.size:=by
 unfold sortWorldK putRowK putRow mapBlock Go.Sort.ahead Go.Sort.grow;simp
end
section
open Go.RowKit Go.Maps Go.Sort Go.Shelf
theorem DF:∀(a b:LBy),Lib.compareBytes (Lib.bytesOf (a.map λx=>(x.toNat:ja))) (Lib.bytesOf (b.map λx=>(x.toNat:ja)))=dE a b
 |[],[]=>rfl
 |[],_ ::_=>rfl
 |_ ::_,[]=>rfl
 |x::a,y::b=>by
  have g:=DF a b;unfold Lib.bytesOf at g⊢;rw[jW,jW,jW,jW,Lib.compareBytes,g,dE];have i:=x.isLt;have j:=y.isLt;have c:∀z:BitVec 8,((z.toNat:ja).toNat.toUInt8).toNat=z.toNat:=λz=>by have:=z.isLt;simp
  by_cases h:x=y
  ·subst h
   rw[jq (UInt8.lt_irrefl _),jq (UInt8.lt_irrefl _),jp I]
  have k:x.toNat≠y.toNat:=λe=>h (xa e)
  rw[jq h]
  by_cases d:x<y
  ·have f:x.toNat<y.toNat:=d
   rw[jp d,jp (by rw[UInt8.lt_iff_toNat_lt,c,c];exact f)]
  have f:¬x.toNat<y.toNat:=d;rw[jq d,jq (by rw[UInt8.lt_iff_toNat_lt,c,c];exact f),jp (by rw[UInt8.lt_iff_toNat_lt,c,c];omega)]
theorem Cy(h:w.rangeAt M R (r.map v8))(c:T):(Extern.Bytes.bytesOf (jf (N ⟨M,R,je⟩) r.length c)).run jl w=.ok ⟨(Lib.bytesOf (r.map λx=>(x.toNat:ja))).toArray⟩ w:=by
 have d:=Lib.run_loadBytesX (P:=jl) w (r.map λx=>(x.toNat:ja)) ⟨M,R,je⟩ .empty (λj x a=>by
  have e:(⟨M,R,je⟩:jM).add j=⟨M,R+j,je⟩:=by unfold Addr.add;split<;>simp_all
  rw[e];refine h j _ ?_;rw[o8]at a⊢
  cases hq:r[j]? with
  |none=>rw[hq]at a;cases a
  |some z=>rw[hq]at a;injection a with a;rw[<-a];rfl)
 rw[ju]at d;simp only[Extern.Bytes.bytesOf];rw[d];simp
theorem JH{V:LBy}(g:w.rangeAt M R (r.map v8))(h:w.rangeAt m y (V.map v8))(e f:T):
 (Extern.BytealgCompare.compare #[jf (N ⟨M,R,je⟩) r.length e,jf (N ⟨m,y,je⟩) V.length f]).run jl w=.ok (jc jd (dE r V)) w:=by
 show(do pure (goInt (Extern.BytealgCompare.cmp (<-Extern.Bytes.bytesOf (jf (N ⟨M,R,je⟩) r.length e)) (<-Extern.Bytes.bytesOf (jf (N ⟨m,y,je⟩) V.length f)))):Sem jb).run jl w=_;simp only[Sem.run_bind,Cy g,Cy h,Sem.run_pure,Result.andThen];rw[Lib.cmp_eq,<-DF]
 rfl
theorem PP{b c d f:T}{l m:LBy}(g:w.rangeAt b c (l.map v8))(h:w.rangeAt d f (m.map v8))(i j k n:T)(o:k=l.length)(p:n=m.length):
 jz jl 141 #[jf (N ⟨b,c,je⟩) k i,jf (N ⟨d,f,je⟩) n j] w λe w'=>e=jv (jc jd (dE l m))/\w'=w:=by
 have a:=JH g h i j;rw[<-o,<-p]at a;generalize dE l m=r at a⊢;clear g h o p
 go_enter func141,ntmps141
 go_wp2_with fail
 rw[run_callFunc_extern func199 af af af (e:=Extern.BytealgCompare.compare) af,a];simp only[Result.andThen];rw[Oper.upon_value]
 go_wp2_with fail
 go_ret;exact⟨I,I⟩
end
theorem Bt(g:Grp)(a:ja)(l:A ap):(dT g a l).length<=1000000:=by
 unfold dT
 split
 ·rename_i h
  obtain⟨b,c,d⟩:=lz.1 h;obtain⟨e,f⟩:=vO b c d;have i:=B5 (aW g.tree l) (ia a) 1;rw[Aq e f]at i;show(fw (aW g.tree l) (ia a) 1).length<=_;omega
 simp
theorem Dv(a:ja)(l:A ap):(du a l).length<=l.length:=by
 unfold du fi;rw[(mb _ _).length_eq];exact qQ _ _
theorem dh{B:Act}{x:jX}{X:js jb}{t:jt}{d:TypeDesc}(g:jl.underlying e=N d)(i:d.isRow=jk)(j:(jl.info? e).map (·.size)=N X.size)(k:o.op=.load e x)(m:B.eval x=jI (N ⟨M,0,je⟩))(n:w.heap[M]?=N (jh X t (0,0))):
 (oj B.eval o).run jl w=.ok (.value (jm X)) w:=by
 have h:=fx (P:=jl) o B e x k M 0 m X.toList _ (vM (t:=t) (l:=X.toList) (ak n)) g i (by rw[qb];exact j)
 simpa using h
theorem PI{a:Act}{parts:js (T×jX)}{f e:ja}{b:js jb}(c:b.size=32)(d:o.op=.build 51 parts)(g:(parts.map fun(i,x)=>(i,a.eval x))= #[(0,jc jd f),(1,jc jd e),(2,jm b)])(W:jg):
 (oj a.eval o).run jl W=.ok (.value (jm (#[jc jd f,jc jd e]++b++ #[jf je 0 0,jf je 0 0]))) W:=by
 simp only[oj,d,g,Sem.run_bind,Lf f e b c,Result.andThen_ok,Sem.run_pure]
theorem zX{B:Act}{P:jN}(b:P.op=.build 51 #[])(W:jg):
 (oj B.eval P).run jl W=.ok (.value (jm (aD ⟨0,0,qs 32 0#8,[],[]⟩ (jf je 0 0) (jf je 0 0)).toArray)) W:=by
 simp only[oj,b,xN,ql,Sem.run_bind,P3,Result.andThen_ok,Sem.run_pure]
theorem Q5(f e:ja)(d:LBy)(g:d.length=32):∃X c:js jb,c=(d.map v8).toArray/\c.size=32/\X= #[jc jd f,jc jd e]++c++ #[jf je 0 0,jf je 0 0]/\
 X=(aD ⟨f,e,d,[],[]⟩ (jf je 0 0) (jf je 0 0)).toArray/\(jl.info? 51).map (·.size)=N X.size/\X.all (·.oneCell')=jk/\X.size=36:=by
 have h:(aD ⟨f,e,d,[],[]⟩ (jf je 0 0) (jf je 0 0)).toArray.size=36:=by rw[jL,eX g]
 have a: #[jc jd f,jc jd e]++(d.map v8).toArray++ #[jf je 0 0,jf je 0 0]=(aD ⟨f,e,d,[],[]⟩ (jf je 0 0) (jf je 0 0)).toArray:=by unfold aD;simp
 refine⟨_,_,I,by rw[jL,ju];exact g,I,a,?_,?_,?_⟩
 ·rw[a,h];kernel_rfl
 ·rw[a,p6]
  intro i b;simp only[aD,vi,jD,jR,qi,or_false]at b
  rcases b with rfl|rfl|b|rfl|rfl
  ·rfl
  ·rfl
  ·exact iT _ i b
  ·rfl
  rfl
 rw[a];exact h
theorem Jp(g:Grp)(c:Cmt):∀a,a=aG c->∀b v:jb,aD ⟨g.folder,c.epoch,a,[],[]⟩ b v=aD (aC g c) b v:=by
 intro a h b v;rw[h];clear h;unfold aC;generalize aG c=i;dsimp only[aD]
theorem LU(g:Grp)(c:Cmt):(aC g c).last.length=32:=by
 have h:=dS c;unfold aC
 revert h
 generalize aG c=i;exact λh=>h
theorem RX(g:Grp)(c:Cmt)(W:jg)(a v:jb)(b:EM.At W a (fI (fY g.mem c.chg c.epoch)))(d:bH W v (gm (aW g.tree c.chg) c.author c.path)):bW W (aC g c) a v:=by
 have h:=LU g c
 revert h
 unfold aC;generalize aG c=i;exact λh=>⟨b,d,h⟩
def Cc(g:Grp)(c:Cmt)(w:jg)(e:Ending)(w':jg):Prop:=
 (cQ g c=0->∃vm vt,e=jv (jZ #[jm (aD (aC g c) vm vt).toArray,jc jd 0])/\bW w' (aC g c) vm vt/\Fr w.heap.size vm/\Fr w.heap.size vt)/\
 (cQ g c≠0->e=jv (jZ #[jm (aD kr (jf je 0 0) (jf je 0 0)).toArray,jc jd (cQ g c)]))/\jo w w w'
theorem Dr(g:Grp)(vm vt:jb)(c:Cmt)(q:CQ)(w:jg)(h:bW w g vm vt)(hC:aZ (·<w.heap.size) w c q)(i:da (aR c))(hT:bP w)(bi:g.mem.length<=900000)(bk:g.tree.length<=600000):
 jz jl 26 #[jm (aD g vm vt).toArray,jm (aF c q).toArray] w (Cc g c w):=by
 obtain⟨er,V⟩:=J (cQ g c);obtain⟨NG,b⟩:=J (aC g c);obtain⟨P,d⟩:=J (Cc g c w);have HP:ji (∀e w',((er=0->∃vm vt,e=jv (jZ #[jm (aD NG vm vt).toArray,jc jd 0])/\bW w' NG vm vt/\Fr w.heap.size vm/\Fr w.heap.size vt)/\(er≠0->e=jv (jZ #[jm (aD kr (jf je 0 0) (jf je 0 0)).toArray,jc jd er]))/\jo w w w')->P e w'):=O (by
  rw[d,V,b];exact λe w' h=>h)
 rw[<-d];clear d;have cq:ji (∀F,F=aG c->∀ac v:jb,aD ⟨g.folder,c.epoch,F,[],[]⟩ ac v=aD NG ac v):=O (by rw[b];exact Jp g c);have cs:ji (∀(W:jg) (ac v:jb),EM.At W ac (fI (fY g.mem c.chg c.epoch))->bH W v (gm (aW g.tree c.chg) c.author c.path)->bW W NG ac v):=O (by rw[b];exact RX g c);clear b;have a1:=O V;have ad:=rx (vm:=vm) (vt:=vt) h.llen;have au:(jl.info? 57).map (·.size)=N (aF c q).toArray.size:=by rw[jL,dz c q hC.plen hC.clen];exact mM
 have VB:=lN (vm:=vm) (vt:=vt) h.llen;have bl:=ku c q hC.plen hC.clen;have ay:∀(w:jg) (b:T),w.heap[b]?=N (jh (aD g vm vt).toArray 51 (0,0))->w.rangeAt b 2 (g.last.map v8):=λw b hb=>dF.last ⟨hb,h.llen⟩
 have a3:∀(w:jg) (b:T),w.heap[b]?=N (jh (aF c q).toArray 57 (0,0))->w.rangeAt b 2 (c.parent.map v8):=λw b hb j v hj=>by
  have d:=(jU.1 hj).1;rw[ju,hC.plen]at d;have h1:=CV c q hC.plen d;refine(ah hb (ak h1)).trans ?_;rw[<-hj,o8,j7 (by rw[hC.plen];exact d)];simp[qy,hC.plen,d]
 have HV:ji (∀W,bW W g vm vt->jz jl 53 #[jm (aD g vm vt).toArray] W λe w'=>e=jv (.bool (fE g))/\jo W W w'):=O (λW d=>BM g vm vt W d Y Y);have HK:ji (∀W,aZ (·<W.heap.size) W c q->jz jl 54 #[jm (aF c q).toArray] W λe w'=>e=jv (jc jd (gV c))/\jo W W w'):=O (λW d=>Mo c q W d i);have HN:ji (∀W,bW W g vm vt->EC.At W q.vc c.chg->jz jl 38 #[jm (aD g vm vt).toArray,jc jd c.author,q.vc] W λe w'=>∃ac,e=jv (jZ #[ac,jc jd (dq g c.author c.chg)])/\w'.ownsRow W 105 4 ac (dT g c.author c.chg).length (EB0.flat (dT g c.author c.chg))/\jo W W w'):=O (λW d f=>Gf g vm vt _ _ _ W d f Y Y i.lens.1);have bg:ji (∀W,dC g->eU c.chg->gL g c.author c.chg->bW W g vm vt->EC.At W q.vc c.chg->jz jl 39 #[jm (aD g vm vt).toArray,jc jd c.author,q.vc] W λe w'=>e=jv (jc jd (dQ g c.author c.chg))/\jo W W w'):=O (λW hv hf hp d f=>F3 g vm vt _ _ _ W d (uw hv) Y f (λhn=>by
  have h0:=hp.own;rw[hn]at h0;obtain⟨x,r,h1,-⟩:=hp.first (by have:=hv.ep.1;have h2:=of_decide_eq_false h0.symm;omega);rw[h1];simp))
 have bC:ji (∀W,aZ (·<W.heap.size) W c q->bP W->jz jl 52 #[jm (aF c q).toArray] W λe w'=>∃D,e=jv (jf (N ⟨D,0,je⟩) 32 32)/\bD w' (jf (N ⟨D,0,je⟩) 32 32) (dp c)/\jo W W w'):=O (λW d hT=>Hb c q W d i hT);have bI:ji (∀W,aZ (·<W.heap.size) W c q->bP W->jz jl 13 #[jm (aF c q).toArray] W λe w'=>e=jv (jm ((aG c).map v8).toArray)/\jo W W w'):=O (λW d hT=>sZ c q W d i hT);have bm:ji (∀W,eU c.chg->bW W g vm vt->EC.At W q.vc c.chg->jz jl 44 #[jm (aD g vm vt).toArray,q.vc] W λe w'=>∃ac,e=jv (jm #[ac])/\bH w' ac (aW g.tree c.chg)/\jo W W w'):=O (λW hf d f=>yz g vm vt _ _ W d hf Y f);obtain⟨aa,hA⟩:=J ((aD g vm vt).toArray);obtain⟨C,B⟩:=J ((aF c q).toArray);rw[<-hA]at ad HV HN bg bm ay⊢;rw[<-B]at au HK bC bI a3⊢;obtain⟨x0,k⟩:=J ((((w.alloc (jh aa 51)).alloc (jh C 57)).alloc (jh #[jc jd 0,jc jd 0,jj jn 0,jj jn 0,jj jn 0,jj jn 0,jj jn 0,jj jn 0,jj jn 0,jj jn 0,jj jn 0,jj jn 0,jj jn 0,jj jn 0,jj jn 0,jj jn 0,jj jn 0,jj jn 0,jj jn 0,jj jn 0,jj jn 0,jj jn 0,jj jn 0,jj jn 0,jj jn 0,jj jn 0,jj jn 0,jj jn 0,jj jn 0,jj jn 0,jj jn 0,jj jn 0,jj jn 0,jj jn 0,jf je 0 0,jf je 0 0] 51)));obtain⟨s,r⟩:=J w.heap.size;have d:=jC w (jh aa 51);have u:=ao w (jh aa 51);have a4:=jC (w.alloc (jh aa 51)) (jh C 57);have H:=ao (w.alloc (jh aa 51)) (jh C 57);have M:=jC ((w.alloc (jh aa 51)).alloc (jh C 57)) (jh #[jc jd 0,jc jd 0,jj jn 0,jj jn 0,jj jn 0,jj jn 0,jj jn 0,jj jn 0,jj jn 0,jj jn 0,jj jn 0,jj jn 0,jj jn 0,jj jn 0,jj jn 0,jj jn 0,jj jn 0,jj jn 0,jj jn 0,jj jn 0,jj jn 0,jj jn 0,jj jn 0,jj jn 0,jj jn 0,jj jn 0,jj jn 0,jj jn 0,jj jn 0,jj jn 0,jj jn 0,jj jn 0,jj jn 0,jj jn 0,jf je 0 0,jf je 0 0] 51);have Q:=ao ((w.alloc (jh aa 51)).alloc (jh C 57)) (jh #[jc jd 0,jc jd 0,jj jn 0,jj jn 0,jj jn 0,jj jn 0,jj jn 0,jj jn 0,jj jn 0,jj jn 0,jj jn 0,jj jn 0,jj jn 0,jj jn 0,jj jn 0,jj jn 0,jj jn 0,jj jn 0,jj jn 0,jj jn 0,jj jn 0,jj jn 0,jj jn 0,jj jn 0,jj jn 0,jj jn 0,jj jn 0,jj jn 0,jj jn 0,jj jn 0,jj jn 0,jj jn 0,jj jn 0,jj jn 0,jf je 0 0,jf je 0 0] 51);replace d:=av d H;replace d:=av d Q;rw[jK]at a4;replace a4:=av a4 Q;rw[jK,jK]at M;have z:=((u).trans (H.mono (u).size)).trans (Q.mono ((u).trans (H.mono (u).size)).size);rw[<-k]at z;rw[<-k,<-r]at d;rw[<-k,<-r]at a4;rw[<-k,<-r]at M;have U:=O d;have UK:=O a4;have S:=O M;have o:=O z;have HW:=O k;have HG:=O r;have bn:=O h;have Z6:=O hC;have br:=h.below z;have bs:=hC.below z;obtain⟨Z,m⟩:∃y:js jb,y= #[jc jd 0,jc jd 0,jj jn 0,jj jn 0,jj jn 0,jj jn 0,jj jn 0,jj jn 0,jj jn 0,jj jn 0,jj jn 0,jj jn 0,jj jn 0,jj jn 0,jj jn 0,jj jn 0,jj jn 0,jj jn 0,jj jn 0,jj jn 0,jj jn 0,jj jn 0,jj jn 0,jj jn 0,jj jn 0,jj jn 0,jj jn 0,jj jn 0,jj jn 0,jj jn 0,jj jn 0,jj jn 0,jj jn 0,jj jn 0,jf je 0 0,jf je 0 0]:=⟨_,I⟩;have bu:(aD kr (jf je 0 0) (jf je 0 0)).toArray=Z:=by rw[m];rfl
 have bv:(jl.info? 51).map (·.size)=N Z.size:=by rw[m];kernel_rfl
 have bw:Z.all (·.oneCell')=jk:=by rw[m];kernel_rfl
 replace S:ji (x0.heap[s+1+1]?=N (jh Z 51 (0,0))):=O (by rw[m];exact S);have YC:=O ad;have Z3:=O au;have K:=O bv;have a2:=O bw;have bK:ji (Z.size=36):=O (by rw[m];rfl);have ax:=O bu;have YH:=O br;have X:=O bs;have ct:=O ay;have cu:=O a3;have bo:=O hT;have cv:=O i;have Vn:=O h.llen;have We:=O hC.plen;have cw:=O hC.clen;have VW:=O bi;have Wn:=O bk;have bb:ji (aa[0]?=N (jc jd g.folder)/\aa[1]?=N (jc jd g.epoch)/\aa[34]?=N vm/\aa[35]?=N vt):=O (by rw[hA];simpa using VB);have t:ji (C[0]?=N (jc jd c.folder)/\C[1]?=N (jc jd c.epoch)/\C[34]?=N (jc jd c.author)/\C[35]?=N q.vc/\C[36]?=N q.vp/\C[37]?=N q.vb/\C[38]?=N q.vw/\C[71]?=N (jc jd c.r)/\C[72]?=N (jc jd c.s)):=O (by rw[B];simpa using bl);have Yj:=O hA;have WS:=O B;have VM:=O (Tk c);have bp:=O (yA g c.author c.chg);obtain⟨vb,a5⟩:=J (fE g);obtain⟨ed,f⟩:=J (gV c);rw[<-a5]at HV bp;rw[<-f]at HK VM;have bh:=O a5;have bM:=O f;obtain⟨pc,nc,eg,a6⟩:∃p n c',q.vc=jf p n c':=by obtain⟨p,c',h⟩:=hC.chg.form;exact⟨p,_,c',h⟩
 obtain⟨pp,np,cp,ba⟩:∃p n c',q.vp=jf p n c':=by obtain⟨p,c',h⟩:=hC.path.form;exact⟨p,_,c',h⟩
 obtain⟨pb,nb,ej,bd⟩:∃p n c',q.vb=jf p n c':=by obtain⟨us,h,-⟩:=hC.box;obtain⟨p,c',h⟩:=h.form;exact⟨p,_,c',h⟩
 obtain⟨pw,nw,ek,bf⟩:∃p n c',q.vw=jf p n c':=by obtain⟨us,h,-⟩:=hC.wel;obtain⟨p,c',h⟩:=h.form;exact⟨p,_,c',h⟩
 obtain⟨pm,nm,cx,cy⟩:∃p n c',vm=jf p n c':=by obtain⟨p,c',h,-⟩:=h.mem.form;exact⟨p,_,c',h⟩
 obtain⟨pt,nt,em,cz⟩:=gN h.tree;rw[a6]at t HN bg bm;rw[ba,bd,bf]at t;have bc:=O a6;have c5:=O ba;have bq:=O bd;have bN:=O bf;subst cy;subst cz;clear br bs m bu bv bw ad au ay a3 hT i bi bk hA B VB bl h hC a5 f a6 ba bd bf V;clear z k r d u a4 H M Q
 go_enter func26,ntmps26
 go_upto_region 1 with fail
 rw[<-HW,<-HG];refine jV ?_;refine r6 I 51 _ I s I 51 aa (0,0) _ U.out jH I YC ?_
 go_wp2_with fail
 refine(HV x0 YH).mono ?_;rintro e x1 ⟨rfl,d⟩;have UI:=ae U d;have Q:=ae UK d;have V:=ae S d;have Ww:=O (YH.below d);have WG:=O (aZ.below X d);have Uf:=ai o d;clear U UK S YH X o;clear d
 cases vb with
 |false=>
  have m:ji (er=1):=O (by rw[a1];unfold cQ;rw[jp bh.symm])
  go_upto_region 2 with fail
  refine jV ?_;refine ez (v:=jm Z) aj (dh jH I K I I V) (L ?_);refine jO I λ_ r=>j9 51 _ _ I (s+1+1) Z I I 51 _ V.out K I a2 (r _ _ ?_)
  clear r;refine L ?_;refine eh ?_;rename_i KR Zg XR;refine Zg _ _ ?_;refine wp_ret ?_;show ow _ _ P .ret _ _;exact nn (fO I _ _ (s+1+1) 51 Z (0,0) _ I (j4 _ _ _ _ _ _ V.out) jH I K) I (HP _ _ ⟨λh=>jA (m.symm.trans h) G,λ_=>by rw[ax,m];kernel_rfl,nv Uf.out (by rw[HG];omega) _⟩)
 |true=>
 go_upto_region 3 with fail
 refine jV ?_;refine r6 I 57 _ I (s+1) I 57 C (0,0) _ Q.out qW I Z3 ?_
 go_wp2_with fail
 refine(HK x1 WG).mono ?_;rintro e x2 ⟨rfl,d⟩;have U7:=ae UI d;have M:=ae Q d;have H:=ae V d;have WH:=O (Ww.below d);have Vw:=O (aZ.below WG d);have Ug:=ai Uf d;clear UI Q V Ww WG Uf;clear d
 rcases VM.out with⟨f,rfl⟩|⟨f,rfl⟩
 case inr=>
  have m:ji (er=220):=O (by rw[a1];unfold cQ;rw[jq (by rw[<-bh];decide),jp (by rw[<-bM];decide)])
  go_upto_region 5 with fail
  refine jV ?_;refine ez (v:=jm Z) aj (dh jH I K I I H) (L ?_);refine eh ?_;refine jO I λ_ r=>j9 51 _ _ I (s+1+1) Z I I 51 _ H.out K I a2 (r _ _ ?_)
  clear r;refine L ?_;refine eh ?_;rename_i KR Zg XR;refine Zg _ _ ?_;refine wp_ret ?_;show ow _ _ P .ret _ _;exact nn (fO I _ _ (s+1+1) 51 Z (0,0) _ I (j4 _ _ _ _ _ _ H.out) jH I K) I (HP _ _ ⟨λh=>jA (m.symm.trans h) G,λ_=>by rw[ax,m];kernel_rfl,nv Ug.out (by rw[HG];omega) _⟩)
 have Vo:=O f;clear f;have f:ji (cQ g c=if onB g c=jr then 220 else if dq g c.author c.chg≠0 then dq g c.author c.chg else if kw g c=jr then 220
  else if lU (dQ g c.author c.chg) c.r c.s (dp c)=jr then 222 else eZ (aW g.tree c.chg) c.author c.path):=O (by unfold cQ;rw[jq (by rw[<-bh];decide),jq (by rw[<-bM];decide)])
 obtain⟨B,z⟩:=J g.folder;obtain⟨ep,i⟩:=J g.epoch;obtain⟨cf,ad⟩:=J c.folder;obtain⟨u,au⟩:=J c.epoch;rw[<-z,<-i]at bb;rw[<-ad,<-au]at t;have br:=O z;have WO:=O i;have bO:=O ad;have bi:=O au;have k:dC g:=by
  by_cases hx:dC g
  ·exact hx
  have h2:=bh.out;rw[kh hx]at h2;cases h2
 have bs:=O k;have eq:0<=ep:=by rw[i];exact k.ep.1
 have ev:ep<=1099511627776:=by rw[i];exact k.ep.2
 clear z i ad au k;have c0:=ah M t.1;have c1:=ah M t.2.1;have a0:=ah U7 bb.1;have bf:=ah U7 bb.2.1;have WE:=O (ct _ _ U7.out);have ay:=O (cu _ _ M.out);obtain⟨TL,i⟩:=J ((g.last.map v8).toArray);obtain⟨TP,k⟩:=J ((c.parent.map v8).toArray);obtain⟨bT,ad⟩:=J (decide (c.parent=g.last));have a5:=O i;have a6:=O k;have b4:=O ad;have bl:∀z,(Op.equalIn 10000 23 (jm TP) (jm TL)).run jl z=.ok bT z:=by
  rw[i,k,ad];exact λz=>nQ c.parent g.last We Vn z
 clear i k ad
 by_cases h1:cf=B
 case neg=>
  have bd:(cf==B)=jr:=ak h1;have b5:(cf !=B)=jk:=ak h1;have m:ji (er=220):=O (by rw[a1,f,jp (by unfold onB;rw[<-bO,<-br,bd];rfl)]);clear h1
  go_upto_region 7 with fail
  refine jV ?_;refine ez (v:=jm Z) aj (dh jH I K I I H) (L ?_);refine jO I λ_ r=>j9 51 _ _ I (s+1+1) Z I I 51 _ H.out K I a2 (r _ _ ?_)
  clear r;refine L ?_;refine eh ?_;rename_i KR Zg XR;refine Zg _ _ ?_;refine wp_ret ?_;show ow _ _ P .ret _ _;exact nn (fO I _ _ (s+1+1) 51 Z (0,0) _ I (j4 _ _ _ _ _ _ H.out) jH I K) I (HP _ _ ⟨λh=>jA (m.symm.trans h) G,λ_=>by rw[ax,m];kernel_rfl,nv Ug.out (by rw[HG];omega) _⟩)
 have bd:(cf==B)=jk:=ak h1;have b5:(cf !=B)=jr:=ak h1;clear h1
 by_cases h2:u=ep+1
 case neg=>
  have hd2:(u==ep+1)=jr:=ak h2;have b6:(u !=ep+1)=jk:=ak h2;have m:ji (er=220):=O (by rw[a1,f,jp (by unfold onB;rw[<-bi,<-WO,hd2];simp)]);clear h2
  go_upto_region 7 with fail
  refine jV ?_;refine ez (v:=jm Z) aj (dh jH I K I I H) (L ?_);refine jO I λ_ r=>j9 51 _ _ I (s+1+1) Z I I 51 _ H.out K I a2 (r _ _ ?_)
  clear r;refine L ?_;refine eh ?_;rename_i KR Zg XR;refine Zg _ _ ?_;refine wp_ret ?_;show ow _ _ P .ret _ _;exact nn (fO I _ _ (s+1+1) 51 Z (0,0) _ I (j4 _ _ _ _ _ _ H.out) jH I K) I (HP _ _ ⟨λh=>jA (m.symm.trans h) G,λ_=>by rw[ax,m];kernel_rfl,nv Ug.out (by rw[HG];omega) _⟩)
 have hd2:(u==ep+1)=jk:=ak h2;have b6:(u !=ep+1)=jr:=ak h2;have e2:=O h2;clear h2;have ba:(jl.info? 23).map (·.size)=N (c.parent.map v8).length:=by rw[ju,We];kernel_rfl
 have i:(jl.info? 23).map (·.size)=N (g.last.map v8).length:=by rw[ju,Vn];kernel_rfl
 have bk:=O ba;have ad:=O i;clear ba i;have i:IntKind.i64.wrap (ep+1)=ep+1:=IntWalk.i64_in _ Y
 go_upto_region 6 with fail
 refine jV ?_;iterate 15 refine eh ?_
 refine uO aj λ_ r=>wp_load_mid 23 _ I (s+1) 2 I (c.parent.map v8) _ ay.out qe I bk (r _ _ ?_)
 rw[<-a6];refine L ?_;refine eh ?_;refine uO aj λ_ r=>wp_load_mid 23 _ I s 2 I (g.last.map v8) _ WE.out qe I ad (r _ _ ?_)
 rw[<-a5];refine L ?_;clear i
 cases bT with
 |false=>
  have m:ji (er=220):=O (by rw[a1,f,jp (by unfold onB;rw[<-b4];simp)])
  go_upto_region 7 with fail
  refine jV ?_;refine ez (v:=jm Z) aj (dh jH I K I I H) (L ?_);refine jO I λ_ r=>j9 51 _ _ I (s+1+1) Z I I 51 _ H.out K I a2 (r _ _ ?_)
  clear r;refine L ?_;refine eh ?_;rename_i KR Zg XR;refine Zg _ _ ?_;refine wp_ret ?_;show ow _ _ P .ret _ _;exact nn (fO I _ _ (s+1+1) 51 Z (0,0) _ I (j4 _ _ _ _ _ _ H.out) jH I K) I (HP _ _ ⟨λh=>jA (m.symm.trans h) G,λ_=>by rw[ax,m];kernel_rfl,nv Ug.out (by rw[HG];omega) _⟩)
 |true=>
 have i:ji (cQ g c=if dq g c.author c.chg≠0 then dq g c.author c.chg else if kw g c=jr then 220
  else if lU (dQ g c.author c.chg) c.r c.s (dp c)=jr then 222 else eZ (aW g.tree c.chg) c.author c.path):=O (by rw[f,jq (by unfold onB;rw[<-bO,<-br,<-bi,<-WO,bd,hd2,<-b4];decide)])
 obtain⟨au,k⟩:=J c.author;rw[<-k]at t HN bg bp;have a3:=O k;clear k;have k:=ah M t.2.2.1;have YO:=ah M t.2.2.2.1
 go_upto_region 8 with fail
 clear c0 c1 a0 bf WE ay bl bd b5 hd2 b6 a5 a6 bk ad f;refine jV ?_;refine r6 I 51 _ I s I 51 aa (0,0) _ U7.out jH I YC ?_
 go_wp2_with fail
 refine(HN x2 WH.out (by rw[<-bc];exact EK.At.of_sl (E:=EC) Vw.chg)).mono ?_;rintro e x3 ⟨ac,rfl,hu,d⟩;have Z7:=O (EK.At.of_own (E:=EB0) hu);clear hu k YO;have WK:=ae U7 d;have UQ:=ae M d;have f:=ae H d;have ay:=O (WH.below d);have Wp:=O (aZ.below Vw d);have Uj:=ai Ug d;clear U7 M H WH Vw Ug;clear d;obtain⟨pu,e4,rfl,-,-⟩:=Z7.form;obtain⟨nu,k⟩:=J ((dT g au c.chg).length);rw[<-k]at Z7⊢;have e5:=O k;clear k
 rcases bp.out with⟨hx,-⟩|⟨-,-,hx⟩|⟨-,hf,hp,hx⟩
 case inl=>cases hx
 case inr.inl=>
  have m:ji (er=221):=O (by rw[a1,i,<-a3,hx];rfl);rw[hx];clear hx
  go_upto_region 10 with fail
  refine jV ?_;refine ez (v:=jm Z) aj (dh jH I K I I f) (L ?_);refine eh ?_;refine jO I λ_ r=>j9 51 _ _ I (s+1+1) Z I I 51 _ f.out K I a2 (r _ _ ?_)
  clear r;refine L ?_;refine eh ?_;rename_i KR Zg XR;refine Zg _ _ ?_;refine wp_ret ?_;show ow _ _ P .ret _ _;exact nn (fO I _ _ (s+1+1) 51 Z (0,0) _ I (j4 _ _ _ _ _ _ f.out) jH I K) I (HP _ _ ⟨λh=>jA (m.symm.trans h) G,λ_=>by rw[ax,m];kernel_rfl,nv Uj.out (by rw[HG];omega) _⟩)
 rw[hx];have bu:ji (cQ g c=if kw g c=jr then 220 else if lU (dQ g c.author c.chg) c.r c.s (dp c)=jr then 222 else eZ (aW g.tree c.chg) c.author c.path):=O (by rw[i,<-a3,hx];rfl);have Ya:=O (oy.1 hf);have b7:=O (tF.1 hp);clear hf hp hx i;have Zl:=O cv.lens;obtain⟨eb,i⟩:=J (decide (c.box.map (λb:Bx=>(b.lev,b.node))=(dT g au c.chg).map (λx:ja×ja=>x)));have bf:=O i;obtain⟨ew,k⟩:=J (decide (c.wel.map Wl.dev=(du au c.chg).map ap.d));have bl:=O k;clear i k
 go_upto_region 13 with fail
 cases eb with
 |false=>
  have m:ji (er=220):=O (by rw[a1,bu,jp (by unfold kw;rw[<-a3];have h:=bf.out;rw[List.map_id']at h;rw[<-h];rfl)]);refine o1 ?_;refine dm (λk=>k.heap[s+1]?=N (jh C 57 (0,0))) (.take 0 (.take 1 (.take 2 (.take 3 (.one 4 (.take 5 (.take 6 (.take 7 (.take 8 (.take 9 (.take 10 (.take 11 (.take 12 (.take 14 (.one 13 (.one 15 (.take 16 (.take 17 .done)))))))))))))))))) af af af G (λ_ _ _ _ h=>h) UQ ?_;obtain⟨z0,UA⟩:=J x3.drew;have d:=bX x3;rw[<-UA]at d⊢;have U:=ae WK d;have UK:=ae UQ d;have S:=ae f d;have YH:=O (ay.below d);have X:=O (aZ.below Wp d);have o:=ai Uj d;have ad:=O (Z7.below d);clear d UA WK UQ f ay Wp Uj Z7;refine aP ?_
  (refine aV (v:=?_) I aj (λk i=>?_) ?_;rotate_left;(have b0:=ah i t.2.2.1;have b1:=ah i t.2.2.2.1;have b2:=ah i t.2.2.2.2.2.1;have b3:=ah i t.2.2.2.2.2.2.1;go_simp;with_reducible rfl);refine L ?_)
  iterate 2 refine aP ?_
  refine aE I (λK' r=>?_);go_simp;refine(zW c.box (dT g au c.chg) _ _ z0 (by rw[<-bq];exact X.box) ad Zl.2.2.1 (Bt g au c.chg)).mono ?_;rintro e z1 ⟨rfl,d⟩;rw[<-bf];have UI:=ae U d;have Q:=ae UK d;have V:=ae S d;have Ww:=O (YH.below d);have WG:=O (aZ.below X d);have Uf:=ai o d;have YG:=O (ad.below d);clear U UK S YH X o ad;clear d;refine r _ _ Q.out λ_=>?_
  clear r;refine L ?_;iterate 2 refine aP ?_
  iterate 7 refine il ?_
  refine aE I (λK' r=>?_);rw[jq (xQ.1 aj)];refine r _ _ Q.out λ_=>?_
  clear r;refine L ?_;refine aE I (λK' r=>?_);rw[jq (xQ.1 aj)];refine r _ _ Q.out λ_=>?_
  clear r;refine L ?_;refine il ?_;refine aP ?_;refine qj ?_
  go_upto_region 14 with fail
  refine jV ?_;refine ez (v:=jm Z) aj (dh jH I K I I V) (L ?_);refine jO I λ_ r=>j9 51 _ _ I (s+1+1) Z I I 51 _ V.out K I a2 (r _ _ ?_)
  clear r;refine L ?_;refine eh ?_;rename_i KR Zg XR;refine Zg _ _ ?_;refine wp_ret ?_;show ow _ _ P .ret _ _;exact nn (fO I _ _ (s+1+1) 51 Z (0,0) _ I (j4 _ _ _ _ _ _ V.out) jH I K) I (HP _ _ ⟨λh=>jA (m.symm.trans h) G,λ_=>by rw[ax,m];kernel_rfl,nv Uf.out (by rw[HG];omega) _⟩)
 |true=>
 cases ew with
 |false=>
  have m:ji (er=220):=O (by rw[a1,bu,jp (by unfold kw;rw[<-a3,<-bl];simp)]);refine o1 ?_;refine dm (λk=>k.heap[s+1]?=N (jh C 57 (0,0))) (.take 0 (.take 1 (.take 2 (.take 3 (.one 4 (.take 5 (.take 6 (.take 7 (.take 8 (.take 9 (.take 10 (.take 11 (.take 12 (.take 14 (.one 13 (.one 15 (.take 16 (.take 17 .done)))))))))))))))))) af af af G (λ_ _ _ _ h=>h) UQ ?_;obtain⟨z0,UA⟩:=J x3.drew;have d:=bX x3;rw[<-UA]at d⊢;have U:=ae WK d;have UK:=ae UQ d;have S:=ae f d;have YH:=O (ay.below d);have X:=O (aZ.below Wp d);have o:=ai Uj d;have ad:=O (Z7.below d);clear d UA WK UQ f ay Wp Uj Z7;refine aP ?_
  (refine aV (v:=?_) I aj (λk i=>?_) ?_;rotate_left;(have b0:=ah i t.2.2.1;have b1:=ah i t.2.2.2.1;have b2:=ah i t.2.2.2.2.2.1;have b3:=ah i t.2.2.2.2.2.2.1;go_simp;with_reducible rfl);refine L ?_)
  iterate 2 refine aP ?_
  refine aE I (λK' r=>?_);go_simp;refine(zW c.box (dT g au c.chg) _ _ z0 (by rw[<-bq];exact X.box) ad Zl.2.2.1 (Bt g au c.chg)).mono ?_;rintro e z1 ⟨rfl,d⟩;rw[<-bf];have UI:=ae U d;have Q:=ae UK d;have V:=ae S d;have Ww:=O (YH.below d);have WG:=O (aZ.below X d);have Uf:=ai o d;have YG:=O (ad.below d);clear U UK S YH X o ad;clear d;refine r _ _ Q.out λ_=>?_
  clear r;refine L ?_;iterate 3 refine aP ?_
  (refine aV (v:=?_) I aj (λk i=>?_) ?_;rotate_left;(have b0:=ah i t.2.2.1;have b1:=ah i t.2.2.2.1;have b2:=ah i t.2.2.2.2.2.1;have b3:=ah i t.2.2.2.2.2.2.1;go_simp;with_reducible rfl);refine L ?_)
  refine aP ?_
  (refine aV (v:=?_) I aj (λk i=>?_) ?_;rotate_left;(have b0:=ah i t.2.2.1;have b1:=ah i t.2.2.2.1;have b2:=ah i t.2.2.2.2.2.1;have b3:=ah i t.2.2.2.2.2.2.1;go_simp;with_reducible rfl);refine L ?_)
  refine aP ?_
  (refine aV (v:=?_) I aj (λk i=>?_) ?_;rotate_left;(have b0:=ah i t.2.2.1;have b1:=ah i t.2.2.2.1;have b2:=ah i t.2.2.2.2.2.1;have b3:=ah i t.2.2.2.2.2.2.1;go_simp;with_reducible rfl);refine L ?_)
  refine aP ?_;refine aE I (λK' r=>?_);rw[jp aj];go_simp;refine(zr au c.chg _ z1 (by rw[<-bc];exact EK.At.of_sl (E:=EC) WG.chg) Ya.once Zl.1).mono ?_;rintro e z2 ⟨ac,rfl,hu,d⟩;have a5:=O hu;clear hu;obtain⟨py,c6,rfl,-,-⟩:=a5.form;have U7:=ae UI d;have M:=ae Q d;have H:=ae V d;have WH:=O (Ww.below d);have Vw:=O (aZ.below WG d);have Ug:=ai Uf d;have a6:=O (YG.below d);clear UI Q V Ww WG Uf YG;clear d;refine r _ _ M.out λ_=>?_
  clear r;refine L ?_;refine aE I (λK' r=>?_);rw[jp aj];go_simp;refine(Fh c.wel (du au c.chg) _ _ z2 (by rw[<-bN];exact Vw.wel) a5 Zl.2.2.2 (by have:=Dv au c.chg;have:=Zl.1;omega)).mono ?_;rintro e z3 ⟨rfl,d⟩;rw[<-bl];have WK:=ae U7 d;have UQ:=ae M d;have f:=ae H d;have ay:=O (WH.below d);have Wp:=O (aZ.below Vw d);have Uj:=ai Ug d;have Z7:=O (a6.below d);clear U7 M H WH Vw Ug a6 a5;clear d;refine r _ _ UQ.out λ_=>?_
  clear r;refine L ?_;iterate 2 refine aP ?_
  refine qj ?_
  go_upto_region 14 with fail
  refine jV ?_;refine ez (v:=jm Z) aj (dh jH I K I I f) (L ?_);refine jO I λ_ r=>j9 51 _ _ I (s+1+1) Z I I 51 _ f.out K I a2 (r _ _ ?_)
  clear r;refine L ?_;refine eh ?_;rename_i KR Zg XR;refine Zg _ _ ?_;refine wp_ret ?_;show ow _ _ P .ret _ _;exact nn (fO I _ _ (s+1+1) 51 Z (0,0) _ I (j4 _ _ _ _ _ _ f.out) jH I K) I (HP _ _ ⟨λh=>jA (m.symm.trans h) G,λ_=>by rw[ax,m];kernel_rfl,nv Uj.out (by rw[HG];omega) _⟩)
 |true=>
 have b8:ji (cQ g c=if lU (dQ g c.author c.chg) c.r c.s (dp c)=jr then 222 else eZ (aW g.tree c.chg) c.author c.path):=O (by rw[bu,jq (by unfold kw;rw[<-a3,<-bl];have h:=bf.out;rw[List.map_id']at h;rw[<-h];decide)]);refine o1 ?_;refine dm (λk=>k.heap[s+1]?=N (jh C 57 (0,0))) (.take 0 (.take 1 (.take 2 (.take 3 (.one 4 (.take 5 (.take 6 (.take 7 (.take 8 (.take 9 (.take 10 (.take 11 (.take 12 (.take 14 (.one 13 (.one 15 (.take 16 (.take 17 .done)))))))))))))))))) af af af G (λ_ _ _ _ h=>h) UQ ?_;obtain⟨z0,UA⟩:=J x3.drew;have d:=bX x3;rw[<-UA]at d⊢;have U:=ae WK d;have UK:=ae UQ d;have S:=ae f d;have YH:=O (ay.below d);have X:=O (aZ.below Wp d);have o:=ai Uj d;have ad:=O (Z7.below d);clear d UA WK UQ f ay Wp Uj Z7;refine aP ?_
 (refine aV (v:=?_) I aj (λk i=>?_) ?_;rotate_left;(have b0:=ah i t.2.2.1;have b1:=ah i t.2.2.2.1;have b2:=ah i t.2.2.2.2.2.1;have b3:=ah i t.2.2.2.2.2.2.1;go_simp;with_reducible rfl);refine L ?_)
 iterate 2 refine aP ?_
 refine aE I (λK' r=>?_);go_simp;refine(zW c.box (dT g au c.chg) _ _ z0 (by rw[<-bq];exact X.box) ad Zl.2.2.1 (Bt g au c.chg)).mono ?_;rintro e z1 ⟨rfl,d⟩;rw[<-bf];have UI:=ae U d;have Q:=ae UK d;have V:=ae S d;have Ww:=O (YH.below d);have WG:=O (aZ.below X d);have Uf:=ai o d;have YG:=O (ad.below d);clear U UK S YH X o ad;clear d;refine r _ _ Q.out λ_=>?_
 clear r;refine L ?_;iterate 3 refine aP ?_
 (refine aV (v:=?_) I aj (λk i=>?_) ?_;rotate_left;(have b0:=ah i t.2.2.1;have b1:=ah i t.2.2.2.1;have b2:=ah i t.2.2.2.2.2.1;have b3:=ah i t.2.2.2.2.2.2.1;go_simp;with_reducible rfl);refine L ?_)
 refine aP ?_
 (refine aV (v:=?_) I aj (λk i=>?_) ?_;rotate_left;(have b0:=ah i t.2.2.1;have b1:=ah i t.2.2.2.1;have b2:=ah i t.2.2.2.2.2.1;have b3:=ah i t.2.2.2.2.2.2.1;go_simp;with_reducible rfl);refine L ?_)
 refine aP ?_
 (refine aV (v:=?_) I aj (λk i=>?_) ?_;rotate_left;(have b0:=ah i t.2.2.1;have b1:=ah i t.2.2.2.1;have b2:=ah i t.2.2.2.2.2.1;have b3:=ah i t.2.2.2.2.2.2.1;go_simp;with_reducible rfl);refine L ?_)
 refine aP ?_;refine aE I (λK' r=>?_);rw[jp aj];go_simp;refine(zr au c.chg _ z1 (by rw[<-bc];exact EK.At.of_sl (E:=EC) WG.chg) Ya.once Zl.1).mono ?_;rintro e z2 ⟨ac,rfl,hu,d⟩;have a5:=O hu;clear hu;obtain⟨py,c6,rfl,-,-⟩:=a5.form;have U7:=ae UI d;have M:=ae Q d;have H:=ae V d;have WH:=O (Ww.below d);have Vw:=O (aZ.below WG d);have Ug:=ai Uf d;have a6:=O (YG.below d);clear UI Q V Ww WG Uf YG;clear d;refine r _ _ M.out λ_=>?_
 clear r;refine L ?_;refine aE I (λK' r=>?_);rw[jp aj];go_simp;refine(Fh c.wel (du au c.chg) _ _ z2 (by rw[<-bN];exact Vw.wel) a5 Zl.2.2.2 (by have:=Dv au c.chg;have:=Zl.1;omega)).mono ?_;rintro e z3 ⟨rfl,d⟩;rw[<-bl];have WK:=ae U7 d;have UQ:=ae M d;have f:=ae H d;have ay:=O (WH.below d);have Wp:=O (aZ.below Vw d);have Uj:=ai Ug d;have Z7:=O (a6.below d);clear U7 M H WH Vw Ug a6 a5;clear d;refine r _ _ UQ.out λ_=>?_
 clear r;refine L ?_;iterate 2 refine aP ?_
 refine qj ?_;clear ay Wp Z7
 go_upto_region 15 with fail
 refine o1 ?_;refine dm (λk=>k.heap[s]?=N (jh aa 51 (0,0))/\k.heap[s+1]?=N (jh C 57 (0,0))) (.take 0 (.take 1 (.take 2 (.take 3 (.take 4 (.take 6 (.take 8 (.take 9 (.one 5 (.one 7 (.one 10 (.take 11 .done)))))))))))) af af af G (λ_ _ _ _ h=>h) ⟨WK,UQ⟩ ?_;obtain⟨y0,UA⟩:=J z3.drew;have d:=bX z3;rw[<-UA]at d⊢;have ay:=ae WK d;have a5:=ae UQ d;have a6:=ae f d;have Zn:=ai Uj d;clear d UA WK UQ f Uj;have U:=ay;clear ay;have UK:=a5;clear a5;have S:=a6;clear a6;have o:=Zn;clear Zn
 (refine aV (v:=jm aa) I aj (λk i=>dh jH I YC I I i.1) (L ?_))
 refine aP ?_
 (refine aV (v:=?_) I aj (λk i=>?_) ?_;rotate_left;(have b0:=ah i.2 t.2.2.1;have b1:=ah i.2 t.2.2.2.1;have b2:=ah i.2 t.2.2.2.2.2.2.2.1;have b3:=ah i.2 t.2.2.2.2.2.2.2.2;go_simp;with_reducible rfl);refine L ?_)
 refine aP ?_
 (refine aV (v:=?_) I aj (λk i=>?_) ?_;rotate_left;(have b0:=ah i.2 t.2.2.1;have b1:=ah i.2 t.2.2.2.1;have b2:=ah i.2 t.2.2.2.2.2.2.2.1;have b3:=ah i.2 t.2.2.2.2.2.2.2.2;go_simp;with_reducible rfl);refine L ?_)
 (refine aV (v:=jm C) I aj (λk i=>dh qW I Z3 I I i.2) (L ?_))
 refine aP ?_
 (refine aV (v:=?_) I aj (λk i=>?_) ?_;rotate_left;(have b0:=ah i.2 t.2.2.1;have b1:=ah i.2 t.2.2.2.1;have b2:=ah i.2 t.2.2.2.2.2.2.2.1;have b3:=ah i.2 t.2.2.2.2.2.2.2.2;go_simp;with_reducible rfl);refine L ?_)
 refine aE I (λK' r=>?_);go_simp;refine(bg y0 bs Ya b7 (bn.below o) (by rw[<-bc];exact(EK.At.of_sl (E:=EC) Z6.chg).below o)).mono ?_;rintro e y1 ⟨rfl,d⟩;have UI:=ae U d;have Q:=ae UK d;have V:=ae S d;have Uf:=ai o d;clear U UK S o;clear d;refine r _ _ ⟨UI,Q⟩ λ_=>?_
 clear r;refine L ?_;refine aE I (λK' r=>?_);go_simp;refine(bC y1 (Z6.below Uf) (bo.below Uf)).mono ?_;rintro e y2 ⟨D,rfl,X,d⟩;have ad:=O X;clear X;have U7:=ae UI d;have M:=ae Q d;have H:=ae V d;have Ug:=ai Uf d;clear UI Q V Uf;clear d;refine r _ _ ⟨U7,M⟩ λ_=>?_
 clear r;refine L ?_;refine aE I (λK' r=>?_);go_simp;refine(NP (dQ g au c.chg) c.r c.s (dp c) _ (by rw[Mn];decide) y2 ad (bo.below Ug)).mono ?_;rintro e y3 ⟨vr,rfl,X,d⟩;have bv:=O X;clear X;have WK:=ae U7 d;have UQ:=ae M d;have f:=ae H d;have Uj:=ai Ug d;clear U7 M H Ug ad;clear d;refine r _ _ ⟨WK,UQ⟩ λ_=>?_
 clear r;refine L ?_;refine aP ?_;refine qj ?_;have X:vr=lU (dQ g au c.chg) c.r c.s (dp c):=by rw[xA,An];exact bv
 have Zu:=O X;clear X bv
 cases vr with
 |false=>
  have m:ji (er=222):=O (by rw[a1,b8,jp (by rw[<-a3];exact Zu.symm)])
  go_upto_region 16 with fail
  refine jV ?_;refine ez (v:=jm Z) aj (dh jH I K I I f) (L ?_);refine jO I λ_ r=>j9 51 _ _ I (s+1+1) Z I I 51 _ f.out K I a2 (r _ _ ?_)
  clear r;refine L ?_;refine eh ?_;rename_i KR Zg XR;refine Zg _ _ ?_;refine wp_ret ?_;show ow _ _ P .ret _ _;exact nn (fO I _ _ (s+1+1) 51 Z (0,0) _ I (j4 _ _ _ _ _ _ f.out) jH I K) I (HP _ _ ⟨λh=>jA (m.symm.trans h) G,λ_=>by rw[ax,m];kernel_rfl,nv Uj.out (by rw[HG];omega) _⟩)
 |true=>
 have b9:ji (er=eZ (aW g.tree c.chg) au c.path):=O (by rw[a1,b8,jq (by rw[<-a3,<-Zu];decide),<-a3]);obtain⟨F,ba⟩:=J (aG c);have bv:F.length=32:=by rw[ba];exact dS c
 have bk:=O ba;have ad:=O bv;obtain⟨X,c7,hT,ca,hX,cb,cc,cd,bw⟩:=Q5 B u F bv;have ce:Z.size=X.size:=by rw[bw];exact bK
 have YD:=O ca;have c9:ji (∀W,aZ (·<W.heap.size) W c q->bP W->jz jl 13 #[jm C] W λe w'=>e=jv (jm c7)/\jo W W w'):=O (by rw[hT,ba];exact bI);have bA:=O cb;have Z4:=O cc;have db:=O cd;have V8:=O hX;have dd:=O ce;have bB:=O bw;clear hT hX cb cc cd ca ce bw ba bv
 go_upto_region 17 with fail
 refine o1 ?_;refine dm (λk=>k.heap[s]?=N (jh aa 51 (0,0))/\k.heap[s+1]?=N (jh C 57 (0,0))) (.take 0 (.take 1 (.take 2 (.take 3 (.take 4 (.one 5 (.take 6 (.one 7 .done)))))))) af af af G (λ_ _ _ _ h=>h) ⟨WK,UQ⟩ ?_;obtain⟨u0,UA⟩:=J y3.drew;have d:=bX y3;rw[<-UA]at d⊢;have ay:=ae WK d;have a5:=ae UQ d;have a6:=ae f d;have Zn:=ai Uj d;clear d UA WK UQ f Uj;have U:=ay;clear ay;have UK:=a5;clear a5;have S:=a6;clear a6;have o:=Zn;clear Zn;refine aP ?_
 (refine aV (v:=?_) I aj (λk i=>?_) ?_;rotate_left;(have b0:=ah i.1 bb.1;have b1:=ah i.2 t.2.1;go_simp;with_reducible rfl);refine L ?_)
 refine aP ?_
 (refine aV (v:=?_) I aj (λk i=>?_) ?_;rotate_left;(have b0:=ah i.1 bb.1;have b1:=ah i.2 t.2.1;go_simp;with_reducible rfl);refine L ?_)
 (refine aV (v:=jm C) I aj (λk i=>dh qW I Z3 I I i.2) (L ?_))
 refine aE I (λK' r=>?_);go_simp;refine(c9 u0 (Z6.below o) (bo.below o)).mono ?_;rintro e u1 ⟨rfl,d⟩;have UI:=ae U d;have Q:=ae UK d;have V:=ae S d;have Uf:=ai o d;clear U UK S o;clear d;refine r _ _ ⟨UI,Q⟩ λ_=>?_
 clear r;refine L ?_
 (refine aV (v:=jm X) I aj (λk i=>by rw[V8];exact PI (f:=B) (e:=u) YD I af k) ?_;refine L ?_)
 refine aE I (λK' r=>?_);rw[jp aj];refine j9 51 _ _ I (s+1+1) X I I 51 _ V.out Z4 dd db (r _ _ ⟨(qk _ _ _ _ Y).trans UI,(qk _ _ _ _ Y).trans Q⟩ λ_=>?_);clear r;have ZH:ji ((u1.setRow (s+1+1) X).heap[s]?=N (jh aa 51 (0,0))):=O ((qk _ _ _ _ Y).trans UI);have Y8:ji ((u1.setRow (s+1+1) X).heap[s+1]?=N (jh C 57 (0,0))):=O ((qk _ _ _ _ Y).trans Q);have ZQ:ji ((u1.setRow (s+1+1) X).heap[s+1+1]?=N (jh X 51 (0,0))):=O (j4 _ _ _ _ _ _ V.out);have Vv:=O (nv Uf (show w.heap.size<=s+1+1 by rw[HG];omega) X);generalize u1.setRow (s+1+1) X=u9 at ZH Y8 ZQ Vv⊢;clear UI Q V Uf;refine L ?_;refine qj ?_;obtain⟨re,ba⟩:=J (eZ (aW g.tree c.chg) au c.path);have bv:(aW g.tree c.chg).length<=800000:=by have:=wK g.tree c.chg;have:=Wn.out;have:=Ya.len;omega
 have bw:aO au:=by
  obtain⟨h1,h2⟩:=vO bs Ya b7;exact aO.of Y
 have ca:∀j,aO (c.path.getD j 0):=λj=>by
  rcases Nat.lt_or_ge j c.path.length with h1|h1
  ·rw[fp _ h1];exact z8 (Vo.path _ (q9 h1))
  rw[show c.path.getD j 0=0 by simp[qy,h1]];exact aO.of Y
 have ZZ:ji (∀W v,bH W v (aW g.tree c.chg)->de W (jf pp np cp) c.path->jz jl 60 #[jm #[v],jc jd au,jf pp np cp] W λe w'=>∃x,e=jv (jZ #[jm #[x],jc jd re])/\(bH w' x (gm (aW g.tree c.chg) au c.path)/\Fr W.heap.size x)/\jo W W w'):=O (by
  rw[ba];exact λW v hv hp=>OV _ v au c.path _ W hv bv bw hp Zl.2.1 ca)
 have cb:=O ba;have dk:ji (de w (jf pp np cp) c.path):=O (by rw[<-c5];exact aH.ints Z6.path);clear ba bv bw ca
 go_upto_region 18 with fail
 refine o1 ?_;refine dm (λk=>k.heap[s]?=N (jh aa 51 (0,0))/\k.heap[s+1]?=N (jh C 57 (0,0))) (.take 0 (.take 1 (.take 2 (.take 4 (.take 5 (.take 6 (.take 7 (.one 3 (.one 8 (.take 9 (.take 10 (.take 11 (.take 12 (.one 13 (.take 14 .done))))))))))))))) af af af G (λ_ _ _ _ h=>h) ⟨ZH,Y8⟩ ?_;obtain⟨v0,UA⟩:=J u9.drew;have d:=bX u9;rw[<-UA]at d⊢;have ay:=ae ZH d;have a5:=ae Y8 d;have a6:=ae ZQ d;have Zn:=ai Vv d;clear d UA ZH Y8 ZQ Vv;have U:=ay;clear ay;have UK:=a5;clear a5;have S:=a6;clear a6;have o:=Zn;clear Zn
 (refine aV (v:=jm aa) I aj (λk i=>dh jH I YC I I i.1) (L ?_))
 refine aP ?_
 (refine aV (v:=?_) I aj (λk i=>?_) ?_;rotate_left;(have b0:=ah i.2 t.2.2.1;have b1:=ah i.2 t.2.2.2.1;have b2:=ah i.2 t.2.2.2.2.1;go_simp;with_reducible rfl);refine L ?_)
 refine aP ?_
 (refine aV (v:=?_) I aj (λk i=>?_) ?_;rotate_left;(have b0:=ah i.2 t.2.2.1;have b1:=ah i.2 t.2.2.2.1;have b2:=ah i.2 t.2.2.2.2.1;go_simp;with_reducible rfl);refine L ?_)
 refine aP ?_
 (refine aV (v:=?_) I aj (λk i=>?_) ?_;rotate_left;(have b0:=ah i.2 t.2.2.1;have b1:=ah i.2 t.2.2.2.1;have b2:=ah i.2 t.2.2.2.2.1;go_simp;with_reducible rfl);refine L ?_)
 refine aE I (λK' r=>?_);go_simp;refine(bm v0 Ya (bn.below o) (by rw[<-bc];exact(EK.At.of_sl (E:=EC) Z6.chg).below o)).mono ?_;rintro e v1 ⟨u1,rfl,hu,d⟩;have i:=O hu;clear hu;obtain⟨p2,n2,c2,rfl⟩:=gN i;have UI:=ae U d;have Q:=ae UK d;have V:=ae S d;have Uf:=ai o d;clear U UK S o;clear d;refine r _ _ ⟨UI,Q⟩ λ_=>?_
 clear r;refine L ?_;refine aE I (λK' r=>?_);go_simp;refine(ZZ v1 _ i.out (et dk Uf)).mono ?_;rintro e v2 ⟨x9,rfl,hx,d⟩;have o:=O hx.1;have dr:=O (hx.2.mono Uf.size);clear hx;obtain⟨S,nx,U,rfl⟩:=gN o;have U7:=ae UI d;have M:=ae Q d;have H:=ae V d;have Ug:=ai Uf d;clear UI Q V Uf i;clear d;refine r _ _ ⟨U7,M⟩ λ_=>?_
 clear r;refine L ?_;iterate 4 refine aP ?_
 refine aE I (λK' r=>?_);rw[jp aj];refine wp_store_mid 49 _ _ I (s+1+1) 35 #[jf S nx U] I I (sk H.out (by rw[bB];exact jE _)) rc (by simp[r4]) (r _ _ ⟨(dB _ Y).trans U7,(dB _ Y).trans M⟩ λ_=>?_);clear r;have W:v2.setCells (s+1+1) 35 (#[jf S nx U]:js jb).toList=v2.setCell ⟨s+1+1,35,je⟩ (jf S nx U):=I;rw[W];have ZH:ji ((v2.setCell ⟨s+1+1,35,je⟩ (jf S nx U)).heap[s]?=N (jh aa 51 (0,0))):=O ((dB _ Y).trans U7);have Y8:ji ((v2.setCell ⟨s+1+1,35,je⟩ (jf S nx U)).heap[s+1]?=N (jh C 57 (0,0))):=O ((dB _ Y).trans M);have ZQ:ji ((v2.setCell ⟨s+1+1,35,je⟩ (jf S nx U)).heap[s+1+1]?=N (jh (aD ⟨B,u,F,[],[]⟩ (jf je 0 0) (jf S nx U)).toArray 51 (0,0))):=O (by
  have h:=fa (i:=35) (jf S nx U) H;rw[bA,CX ⟨B,u,F,[],[]⟩ _ _ _ ad.out]at h;exact h)
 have bw:ji (bH (v2.setCell ⟨s+1+1,35,je⟩ (jf S nx U)) (jf S nx U) (gm (aW g.tree c.chg) au c.path)):=O (o.ints (uF (i:=35) (X:=X) H ZQ (λj hj=>by rw[bA];exact R9 ⟨B,u,F,[],[]⟩ _ _ _ ad.out j hj) (by rw[bA];exact(m0 ⟨B,u,F,[],[]⟩ _ _ ad.out).2.1) (λk _ hk=>dB _ hk)));have Vv:ji (jo w w (v2.setCell ⟨s+1+1,35,je⟩ (jf S nx U))):=O (Ug.setCell (p:=⟨s+1+1,35,je⟩) (by show w.heap.size<=s+1+1;rw[HG];omega) _);generalize v2.setCell ⟨s+1+1,35,je⟩ (jf S nx U)=s9 at ZH Y8 ZQ Vv bw⊢;clear W U7 M H Ug o;refine L ?_;refine aP ?_;refine qj ?_
 by_cases h0:re=0
 case neg=>
  have bd:(re !=0)=jk:=ak h0;have hd2:(re==0)=jr:=ak h0;have m:ji (er=re):=O (by rw[b9,cb]);have o:=O h0;clear h0
  go_upto_region 20 with fail
  refine jV ?_;refine ez (v:=jm Z) aj (by rw[<-ax];exact zX I _) ?_;refine L ?_;refine eh ?_;refine jO I λ_ r=>j9 51 _ _ I (s+1+1) Z I I 51 _ ZQ.out K.out (by rw[bK];exact(m0 ⟨B,u,F,[],[]⟩ _ _ ad.out).2.2) a2 (r _ _ ?_)
  clear r;refine L ?_;refine eh ?_;rename_i KR Zg XR;refine Zg _ _ ?_;refine wp_ret ?_;show ow _ _ P .ret _ _;exact nn (fO I _ _ (s+1+1) 51 Z (0,0) _ I (j4 _ _ _ _ _ _ ZQ.out) jH I K) I (HP _ _ ⟨λh=>jA (m.symm.trans h) o,λ_=>by rw[ax,m];kernel_rfl,nv Vv.out (by rw[HG];omega) _⟩)
 subst h0;have dv:ji (er=0):=O (b9.trans cb.symm);have W:=ah ZH bb.2.2.1;have m:dV s9 (s+1) c q:=⟨by rw[Y8,WS],We,cw⟩;have Vu:=O m;clear m
 go_upto_region 22 with fail
 go_wp2_with fail
 refine(Pn g.mem (jf pm nm cx) s9 (bn.below Vv).mem (aI VW)).mono ?_;rintro e t1 ⟨u1,rfl,hu,d⟩;have M:=O hu;have o:=O d;clear hu d W
 go_wp2_with fail
 refine(Jt (P2 c q (s+1) s9 Vu ((EK.At.of_sl (E:=EC) Z6.chg).below Vv) Zl.1) g.mem u1 t1 M o o.size (aI VW)).mono ?_;rintro e t2 ⟨u2,rfl,hu,ay⟩;have Va:=O hu;have a5:=O (o.trans ay);obtain⟨p3,c3,VX⟩:=cK hu;obtain⟨n3,W⟩:=J ((g.mem.filter λm=> !fK c.chg m).length);rw[<-W]at VX;subst VX;have ca:=O W;clear hu ay o M W;have ba:s+1+1<s9.heap.size:=(jQ.1 ZQ).1;have M:=(a5.block (s+1+1) ba).trans ZQ;have cc:=ah M (m0 ⟨B,u,F,[],[]⟩ _ _ ad.out).1;have e6:=fR (o:=34) M;have H:=O M;clear M
 go_upto_region 23 with fail
 obtain⟨mL,a6⟩:∃f:T->A aJ,f=λi=>(g.mem.filter λm=> !fK c.chg m)++((c.chg.take i).filter λx=> !(x.k==2)).map λx=>(⟨x.d,u,x.v⟩:aJ):=⟨_,I⟩
 have YL:=O a6;have cd:mL 0=g.mem.filter λm=> !fK c.chg m:=by rw[a6];simp
 have ce:∀i,(mL i).length<=900100:=λi=>by
  rw[a6];have h1:=qQ (λm=> !fK c.chg m) g.mem;have h2:=qQ (λx:ap=> !(x.k==2)) (c.chg.take i);have h3:=List.length_take_le i c.chg;have M:=Ya.len;have h5:=VW.out;simp only[jG,ju];have h6:(c.chg.take i).length<=c.chg.length:=List.length_take_le' _ _;omega
 have cg:=O ce;obtain⟨M,hM⟩:=J s9.heap.size;have Yb:ji (s+1+1<M):=O (by rw[hM];exact ba);have bv:∀ac v,((λv=>(aD ⟨B,u,F,[],[]⟩ v (jf S nx U)).toArray) ac).setIfInBounds 34 v=(λv=>(aD ⟨B,u,F,[],[]⟩ v (jf S nx U)).toArray) v:=λac v=>Dl ⟨B,u,F,[],[]⟩ ac _ v ad
 have U1:=O bv;have Zm:=O hM;have ay:=gt.first (M:=M) (R:=s+1+1) (i:=34) (X:=(λv=>(aD ⟨B,u,F,[],[]⟩ v (jf S nx U)).toArray)) (e:=82) (sz:=3) (w0:=s9) H.out (by rw[hM];exact Va) (by rw[hM];exact a5) (by rw[hM];exact a5.size) Yb (bv _ (jf p3 n3 c3));rw[<-ca,<-cd]at ay;clear a6 cd ce hM bv H Va a5 ba;have W:n3=(mL 0).length:=by rw[YL,ca];simp
 generalize t2.setCell ⟨s+1+1,34,je⟩ (jf p3 n3 c3)=W9 at ay⊢;have Yn:=O ay;have a5:=O W;clear W ay;have hA:W9.heap[s]?=N (jh aa 51 (0,0)):=(Yn.but.block s (aI Yb) Y).trans ZH;have hC:W9.heap[s+1]?=N (jh C 57 (0,0)):=(Yn.but.block (s+1) (aI Yb) Y).trans Y8;have cd:=Z6.chg;rw[bc]at cd;obtain⟨ba,p1,q1,ea,ec,a4,H⟩:=cd;injection ea with e1 W e3
 subst e1;subst e3;have a6:=O W;rw[<-W]at ec H;have ce:=O H;clear ba a4 H W;have YO:=ah hC t.2.2.2.1;have WL:ji (nc<=64):=O (by rw[a6];exact Ya.len);clear hA hC
 go_wp2_with fail
 go_loopw [123] (λv wr=>∃(i m:T) (H:jw jM) (W:T),v=jc jd i/\i<=nc/\ji (m=(mL i).length)/\ji (gt M (s+1+1) 51 82 3 (λv=>(aD ⟨B,u,F,[],[]⟩ v (jf S nx U)).toArray) s9 wr m (jf H m W) (EM.flat (mL i)))) (λv _=>nc-(jF v).toNat)
 case atStart=>exact⟨0,n3,p3,c3,I,n0 _,a5,Yn⟩
 clear Yn a5 YO;obtain⟨i,m,H,W,rfl,hi,HM,HR⟩:=hrel;have e7:=WL.out
 by_cases ci:i<nc
 ·have hd:=az ((i:ja)<(nc:ja))
  have UC:=az (i<nc);obtain⟨g0,o,rfl,a4,a5⟩:=ce Y;obtain⟨x,hx,ba⟩:=wP (l:=c.chg) (j:=i) (by rw[<-a6];exact ci);have bv:g0<M:=by have:=Yb.out;have:=HG.out;omega
  have cj:g0≠s+1+1:=aI HG;have U9:=(HR.but.block g0 bv cj).trans (Vv.block g0 a4);have ay:=λk hk=>(dX (a:=⟨g0,o+(i*5+k),je⟩) U9).trans (a5 (i*5+k) _ ((flat_get ap.cells 5 (λ_=>rfl) c.chg i k x hx hk).trans (show x.cells[k]?=N (x.cells.getD k (jc jd 0)) by have:x.cells.length=5:=I;simp[qy,j7 (show k<x.cells.length by omega)])))
  have d0:wr.cell? ⟨g0,o+i*5,je⟩=N (jc jd x.k):=ay 0 G;have d1:wr.cell? ⟨g0,o+i*5+1,je⟩=N (jc jd x.d):=ay 1 G;have d2:wr.cell? ⟨g0,o+i*5+2,je⟩=N (jc jd x.p):=ay 2 G;have d3:wr.cell? ⟨g0,o+i*5+3,je⟩=N (jc jd x.v):=ay 3 G;have d4:wr.cell? ⟨g0,o+i*5+4,je⟩=N (jc jd x.c):=ay 4 G;have ck:=LB g.mem c.chg u ba;have VR:ji (mL (i+1)=mL i++(if x.k=2 then []else [⟨x.d,u,x.v⟩])):=O (by rw[YL];exact ck);have cm:ji (wr.heap[s+1]?=N (jh C 57 (0,0))):=O ((HR.but.block (s+1) (aI Yb) Y).trans Y8);clear bv cj U9 ay a5 hx ba ck a4
  go_upto_region 26 with fail
  obtain⟨bx,ba⟩:=J wr.heap.size;have a4:=jC wr (jh #[jc jd x.k,jc jd x.d,jc jd x.p,jc jd x.v,jc jd x.c] 61);have d:=ao wr (jh #[jc jd x.k,jc jd x.d,jc jd x.p,jc jd x.v,jc jd x.c] 61);have ZK:ji ((qz H m W).ownBlock≠N bx):=O (eV HR.own (.inl (qO ba.symm)));rw[<-ba]at a4⊢;obtain⟨k0,Y6⟩:=J (wr.alloc (jh #[jc jd x.k,jc jd x.d,jc jd x.p,jc jd x.v,jc jd x.c] 61));rw[<-Y6]at a4 d⊢;have a5:=O (HR.later Yb d);have bv:=ae cm d;have Z9:=O a4;clear a4 d Y6 ba HR cm d0 d1 d2 d3 d4
  by_cases a4:x.k=2
  ·have hd2:(x.k !=2)=jr:=ak a4
   have e0:k0.cell? ⟨bx,0,je⟩=N (jc jd x.k):=ah Z9 I;have Vs:=O a4;clear a4
   go_wp2_with fail
   refine⟨⟨i+1,m,H,W,by go_num,by omega,O ?_,O ?_⟩,?_⟩
   ·rw[VR,jp Vs.out,qx];exact HM
   ·rw[VR,jp Vs.out,qx];exact a5
   simp only[jF];omega
  have hd2:(x.k !=2)=jk:=ak a4;have e0:k0.cell? ⟨bx,0,je⟩=N (jc jd x.k):=ah Z9 I;have Vs:=O a4;clear a4;have ba:=O a5.box;have cj:ji (((λv=>(aD ⟨B,u,F,[],[]⟩ v (jf S nx U)).toArray) (jf H m W))[34]?=N (jf H m W)):=O (m0 ⟨B,u,F,[],[]⟩ _ _ ad.out).1;have bB:ji (((λv=>(aD ⟨B,u,F,[],[]⟩ v (jf S nx U)).toArray) (jf H m W)).size=36):=O (m0 ⟨B,u,F,[],[]⟩ _ _ ad.out).2.2
  go_upto_region 27 with fail
  clear e0;refine jV ?_;have b0:=ah ba cj;have b1:=ah (i:=1) Z9 I;have b2:=ah bv t.2.1;have b3:=ah (i:=3) Z9 I;iterate 9 refine eh ?_
  clear b0 b1 b2 b3;refine jO I λ_ r=>?_
  go_simp;have d:=ao k0 (jh #[jc jd x.d,jc jd u,jc jd x.v] 82);have Ul:=jC k0 (jh #[jc jd x.d,jc jd u,jc jd x.v] 82);obtain⟨k1,hx⟩:=J (k0.alloc (jh #[jc jd x.d,jc jd u,jc jd x.v] 82));have WE:=lx k0 [jc jd x.d,jc jd u,jc jd x.v] 82 (0,0) 3 1 1 I (jE _);replace WE:cF (k0.alloc (jh #[jc jd x.d,jc jd u,jc jd x.v] 82)) (jf (N ⟨k0,0,je⟩) 1 1) 3 1 [jc jd x.d,jc jd u,jc jd x.v]:=WE;rw[<-hx]at WE;have ZZ:=O WE;clear WE;rw[<-hx]at d Ul⊢;have a4:=O (a5.later Yb d);have ck:=ae ba d;have cm:=ae Z9 d;have ce:=ae bv d;clear a5 ba Z9 bv;have e8:=O Ul;clear Ul hx d;refine r _ _ ?_;clear r;refine L ?_;refine jO I λ_ r=>?_
  refine Lr _ _ I M (jf H m W) m _ I a4.own _ 1 _ I ZZ (by simp[r4]) (by have h1:=cg i;rw[<-HM]at h1;omega) a4.sz' λv' m2 Yp=>?_
  have Ut:=Yp.own;obtain⟨pn,cn,rfl⟩:=cK Ut;have a5:=k7 ck Yp.grown (eV a4.own (.inr Yb));refine r _ _ ?_;replace Yp:=O Yp;have ba:ji (gt M (s+1+1) 51 82 3 (λv=>(aD ⟨B,u,F,[],[]⟩ v (jf S nx U)).toArray) s9 (m2.setCell ⟨s+1+1,34,je⟩ (jf pn (m+1) cn)) (m+1) (jf pn (m+1) cn) (EM.flat (mL (i+1)))):=O (by
   have h:=a4.push (i:=34) Yb Yp (U1 _ _);rw[VR,jq Vs.out,EK.flat_append,EK.flat_one];exact h)
  clear r Ut;refine L ?_;refine eh ?_;refine jO I λ_ r=>?_
  obtain⟨⟨vo,bv⟩,f3,-,-⟩:=ko (i:=34) (jf pn (m+1) cn) a5 (by rw[bB];decide);go_simp;refine r _ _ ?_;clear r bv f3 a5
  go_wp2_with fail
  refine⟨⟨i+1,m+1,pn,cn,by go_num,by omega,O ?_,ba⟩,?_⟩
  ·rw[VR,jq Vs.out,jG,<-HM];rfl
  simp only[jF];omega
 have hd:=aw ((i:ja)<(nc:ja));have UC:=aw (i<nc);have a4:mL i=fY g.mem c.chg c.epoch:=by
  rw[YL,bi];dsimp only;unfold fY;rw[qf (by rw[<-a6];omega)]
 have e0:=O a4;have b2:ji (Fr w.heap.size (jf H m W)):=O ((Fr.of_own HR.own).mono (by rw[Zm];exact Vv.size));have Ut:=HR.own;have Zh:=HM.out;rw[a4]at Ut Zh;rw[Zh]at Ut;have YV:=O Ut;have b3:=O Zh;have cc:=ah HR.box (m0 ⟨B,u,F,[],[]⟩ (jf H m W) (jf S nx U) ad).1;have cj:=O (G1 (ep:=c.epoch) (vY bs) Ya.once);have ck:ji ((fY g.mem c.chg c.epoch).length<=1000000):=O (by rw[<-a4];have:=cg i;omega);clear a4 Ut Zh
 go_upto_region 29 with fail
 go_wp2_with fail
 refine(Jk (fY g.mem c.chg c.epoch) cj M (jf H m W) wr (by rw[b3];exact YV) HR.sz' ck).mono ?_;rintro e f1 ⟨rfl,VB,d⟩;have Ve:=O VB;have e8:=O d;have a5:ji (f1.heap[s+1+1]?=N (jh ((λv=>(aD ⟨B,u,F,[],[]⟩ v (jf S nx U)).toArray) (jf H m W)) 51 (0,0))):=O ((d.block (s+1+1) Yb).trans HR.box);have cm:ji (jo w w f1):=O (Vv.trans ((HR.but.below (n:=w.heap.size) (by rw[HG];omega) (ee Yb HG)).trans (d.mono (ee Yb HG))));have cn:ji (∀k,k<s9.heap.size->k≠s+1+1->f1.heap[k]?=s9.heap[k]?):=O (λk hk hn=>(d.block k (by rw[Zm];exact hk)).trans (HR.but.block k (by rw[Zm];exact hk) hn));clear VB d HR cc hd UC ci;obtain⟨d,hY⟩:=J ((λv=>(aD ⟨B,u,F,[],[]⟩ v (jf S nx U)).toArray) (jf H m W));have ba:d.size=36:=by rw[hY];exact(m0 ⟨B,u,F,[],[]⟩ _ _ ad.out).2.2
 have bv:(jl.info? 51).map (·.size)=N d.size:=by rw[ba];kernel_rfl
 have b0:d.all (·.oneCell')=jk:=by
  rw[hY,p6];intro ac hu;simp only[aD,vi,jD,jR,qi,or_false]at hu
  rcases hu with rfl|rfl|hu|rfl|rfl
  ·rfl
  ·rfl
  ·exact iT _ ac hu
  ·rfl
  rfl
 have a4:ji (f1.heap[s+1+1]?=N (jh d 51 (0,0))):=O (by rw[hY];exact a5);have b1:=O hY;have Yc:=O bv;have ci:=O b0;clear hY ba bv b0 a5
 go_upto_region 30 with fail
 refine jV ?_;refine ez (v:=jm d) aj (dh jH I Yc I I a4) (L ?_);refine jO I λ_ r=>j9 51 _ _ I (s+1+1) d I I 51 _ a4.out Yc I ci (r _ _ ?_)
 clear r;refine L ?_;refine eh ?_;rename_i KR Zg XR;refine Zg _ _ ?_;refine wp_ret ?_;show ow _ _ P .ret _ _;refine nn (fO I _ _ (s+1+1) 51 d (0,0) _ I (j4 _ _ _ _ _ _ a4.out) jH I Yc) I (HP _ _ ⟨λ_=>⟨jf H m W,jf S nx U,?_,cs _ _ _ ?_ ?_,b2,dr⟩,λh=>jA dv h,nv cm.out (by rw[HG];omega) _⟩)
 ·rw[b1]
  have h1:(λv=>(aD ⟨B,u,F,[],[]⟩ v (jf S nx U)).toArray) (jf H m W)=(aD NG (jf H m W) (jf S nx U)).toArray:=by
   show(aD ⟨B,u,F,[],[]⟩ _ _).toArray=_;rw[br,bi];exact jS List.toArray (cq F bk _ _)
  exact jS (λz=>Ending.returned (jZ #[jm z,jc jd 0])) h1
 ·rw[ri a4]
  exact Ve
 have h2:(f1.setRow (s+1+1) d).heap[s+1+1]?=N (jh ((λv=>(aD ⟨B,u,F,[],[]⟩ v (jf S nx U)).toArray) (jf H m W)) 51 (0,0)):=(j4 f1 (s+1+1) d _ _ _ a4.out).trans (jS (λz=>N (Obj.cells z 51 (0,0))) b1);have h3:bH (f1.setRow (s+1+1) d) (jf S nx U) (gm (aW g.tree c.chg) au c.path):=bw.ints (uF (i:=34) (X:=(λv=>(aD ⟨B,u,F,[],[]⟩ v (jf S nx U)).toArray) (jf je 0 0)) ZQ h2 (λj hj=>M5 ⟨B,u,F,[],[]⟩ _ _ _ ad.out j hj) (m0 ⟨B,u,F,[],[]⟩ _ _ ad.out).1 (λk hk hn=>(qk _ _ _ _ hn).trans (cn k hk hn)));rw[a3]at h3;exact h3
section
open Go.RowKit Go.Maps Go.Sort Go.Shelf
theorem RS(c B:js jb)(a b:ja)(f:c[106]?=N (jc jd a))(g:B[106]?=N (jc jd b))(w:jg):
 jz jl 138 #[jm c,jm B] w λe w'=>e=jv (jc jd (cD a b))/\w'=(w.alloc (jh c 79)).alloc (jh B 79):=by
 have d:=O (tJ a b)
 go_enter func138,ntmps138
 go_wp2_with fail
 refine(d _).mono ?_;rintro e h ⟨rfl,rfl⟩
 go_wp2_with fail
 go_ret;exact⟨I,I⟩
theorem Jd(c B:js jb)(a b:ja)(f:c[35]?=N (jc jd a))(g:B[35]?=N (jc jd b))(w:jg):
 jz jl 139 #[jm c,jm B] w λe w'=>e=jv (jc jd (cD a b))/\w'=(w.alloc (jh c 79)).alloc (jh B 79):=by
 have d:=O (tJ a b)
 go_enter func139,ntmps139
 go_wp2_with fail
 refine(d _).mono ?_;rintro e h ⟨rfl,rfl⟩
 go_wp2_with fail
 go_ret;exact⟨I,I⟩
theorem KS(c B:js jb)(a b:LBy)(k:a.length=32)(lb:b.length=32)(h:∀(j:T) v,(a.map v8)[j]?=N v->c[74+j]?=N v)(i:∀(j:T) v,(b.map v8)[j]?=N v->B[74+j]?=N v)(w:jg):
 jz jl 140 #[jm c,jm B] w λe w'=>e=jv (jc jd (dE a b))/\∃q,w'=((w.alloc (jh c 79)).alloc (jh B 79)).drewN q:=by
 obtain⟨d,f⟩:=J ((w.alloc (jh c 79)).alloc (jh B 79));have n:=O h;have o:=O i;have g:=O f;rw[<-f];clear h i f;have p:ji (∀W,W=d.drew->W.rangeAt w.heap.size 74 (a.map v8)):=O (by
  rintro W rfl j v f;rw[g];exact(World.cell?_alloc2_first c _ _ _).trans (n j v f))
 have r:ji (∀W,W=d.drew->W.rangeAt (w.heap.size+1) 74 (b.map v8)):=O (by
  rintro W rfl j v f;rw[g];exact(World.cell?_alloc2_new _ B _ _).trans (o j v f))
 go_enter func140,ntmps140
 go_upto_region 1 with fail
 rw[<-g];refine o1 ?_;refine dm (λ_=>True) (.take 0 (.take 1 (.take 2 (.take 3 (.one 4 (.take 5 .done)))))) af af af G (λ_ _ _ _ h=>h) trivial ?_;obtain⟨i,f⟩:=J d.drew;rw[<-f];have h:=O f;clear f;iterate 4 refine aP ?_
 refine aE I (λj f=>?_);go_simp;refine(PP (l:=a) (m:=b) (p i h) (r i h) 32 32 32 32 k.symm lb.symm).mono ?_;rintro e j ⟨rfl,rfl⟩;refine f _ _ trivial λ_=>?_
 clear f;refine L ?_;refine aP ?_;refine qj ?_
 go_wp2_with fail
 go_ret;exact⟨I,1,h⟩
def pr(r:T->ja):ja:=if r 0≠0 then r 0 else if r 1≠0 then r 1 else r 2
theorem OE{r:T->ja}(b:M<3)(h:∀j,j<M->r j=0)(a:r M≠0):pr r=r M:=by
 unfold pr
 rcases(by omega:M=0\/M=1\/M=2)with rfl|rfl|rfl
 ·rw[jp a]
 ·rw[jq (by rw[h 0 G];decide),jp a]
 rw[jq (by rw[h 0 G];decide),jq (by rw[h 1 G];decide)]
theorem Tb{r:T->ja}(h:∀j,j<3->r j=0):pr r=0:=by
 unfold pr;rw[jq (by rw[h 0 G];decide),jq (by rw[h 1 G];decide),h 2 G]
theorem Grw.cell(h:Grw w w'){a:jM}{v:jb}(b:w.cell? a=N v):w'.cell? a=N v:=(dX (h.heap (ge b))).trans b
theorem Ki(a B:js jb)(j:a.size=143)(m:B.size=143)(F:T->T)(r:T->ja)(n:∀k,k<3->∀args w,(r7 (F k) args).run jl w=.ok (.enter (F k) args) w)
 (o:∀k,k<3->∀W,jz jl (F k) #[jm a,jm B] W λe w'=>e=jv (jc jd (r k))/\Grw W w') (w:jg) (p l:T)
 (q:w.cell? ⟨p,0,je⟩=N (jf (N ⟨l,0,je⟩) 3 3)) (s:∀k,k<3->w.cell? ⟨l,k,je⟩=N (.func (.func (F k)) #[] #[])):
 jz jl 198 #[jm a,jm B,jI (N ⟨p,0,je⟩)] w λe w'=>e=jv (jc jd (pr r))/\Grw w w':=by
 have i:(jl.info? 79).map (·.size)=N 143:=by kernel_rfl
 have E:ji ((jl.info? 79).map (·.size)=N a.size):=O (by rw[j];exact i);have H:ji ((jl.info? 79).map (·.size)=N B.size):=O (by rw[m];exact i);obtain⟨c,b⟩:=J ((w.alloc (jh a 79)).alloc (jh B 79));obtain⟨g,d⟩:=J w.heap.size;have f:Grw w c:=by rw[b];exact(Grw.alloc _ _).trans (Grw.alloc _ _)
 have t:c.heap[g]?=N (jh a 79 (0,0)):=by rw[b,d];exact av (jC w _) (ao _ _)
 have u:c.heap[g+1]?=N (jh B 79 (0,0)):=by
  have h:=jC (w.alloc (jh a 79)) (jh B 79);rw[jK]at h;rw[b,d];exact h
 have z:=f.cell q;have K:ji (∀k,k<3->c.cell? ⟨l,k,je⟩=N (.func (.func (F k)) #[] #[])):=O λk v=>f.cell (s k v)
 have x:=O f;have M:=O t;have P:=O u;have y:=O (And.intro b d);have Q:=O n;have R:=O o;clear j m i b d f t u n o q s
 go_enter func198,ntmps198
 go_upto_region 1 with fail
 rw[<-y.1,<-y.2]
 go_wp2_with fail
 clear z
 go_loopw [11] (λi wr=>∃k:T,i=jc jd k/\k<=3/\ji (∀j,j<k->r j=0)/\ji (Grw c wr)) (λi _=>3-(jF i).toNat)
 case atStart=>exact⟨0,I,by omega,O (λj q=>jA q (qP j)),O (Grw.refl _)⟩
 obtain⟨k,rfl,v,m,d⟩:=hrel
 by_cases i:k<3
 case neg=>
  have S:=aw ((k:ja)<3);have U:=aw (k<3);obtain rfl:k=3:=Y;have b:=O (Tb m)
  go_wp2_with fail
  go_ret;exact⟨by rw[b];rfl,x.trans d⟩
 have S:=az ((k:ja)<3);have U:=az (k<3);have s:=d.cell (K k i);have t:=Q k i;have b:=O (R k i);have u:ji (wr.heap[g]?=N (jh a 79 (0,0))):=O (d.keep M);have z:ji (wr.heap[g+1]?=N (jh B 79 (0,0))):=O (d.keep P);have C:ji (r k≠0->pr r=r k):=O (OE i m);obtain⟨n,o⟩:=J (r k);obtain⟨f,D⟩:=J (F k);rw[<-D]at s t b;rw[<-o]at b C;have V:=O o;clear D o
 go_wp2_with (first|(refine ez aj (dh qY I E I I u) (L ?_))|(refine ez aj (dh qY I H I I z) (L ?_)))
 refine(b wr).mono ?_;rintro e W ⟨rfl,o⟩;have D:=O (d.trans o);clear o s t b u z
 by_cases b:n=0
 case neg=>
  have o:(n !=0)=jk:=ak b;have s:=O (C b);clear b
  go_wp2_with fail
  go_ret;exact⟨by rw[s];rfl,x.trans D⟩
 have o:(n !=0)=jr:=ak b;have s:ji (∀j,j<k+1->r j=0):=O λj q=>by
  rcases(by omega:j<k\/j=k)with h|rfl
  ·exact m j h
  rw[<-V];exact b
 clear b
 go_wp2_with fail
 exact⟨⟨k+1,by go_num,by omega,s,D⟩,by simp only[jF];omega⟩
end
section
open Go.RowKit Go.Maps Go.Sort Go.Shelf
def C8:T->T
 |0=>138
 |1=>139
 |_=>140
structure lu(w:jg)(b a:T):Prop where
 var:w.cell? ⟨b,0,je⟩=N (jf (N ⟨a,0,je⟩) 3 3)
 fns:∀k,k<3->w.cell? ⟨a,k,je⟩=N (.func (.func (C8 k)) #[] #[])
theorem lu.below{a b:T}(h:lu w a b)(c:jo w w w'):lu w' a b:=⟨aB h.var c,λk d=>aB (h.fns k d) c⟩
theorem lu.lt(h:lu w M R):M<w.heap.size/\R<w.heap.size:=⟨ge h.var,ge (h.fns 0 G)⟩
theorem R7(p:jw jM)(n c:T)(w:jg):jz jl 137 #[jf p n c] w λe w'=>e=jv (.func (.func 198) #[] #[jI (N ⟨w,0,je⟩)])/\w'=w.alloc (jh #[jf p n c] 297):=by
 go_enter func137,ntmps137
 go_wp2_with fail
 go_ret;exact⟨I,I⟩
theorem MM(w:jg):jz jl 80 #[] w λe w'=>∃d h,e=jv (.func (.func 198) #[] #[jI (N ⟨d,0,je⟩)])/\lu w' d h/\w.heap.size<=d/\w.heap.size<=h/\jo w w w':=by
 go_enter func80,ntmps80
 go_wp2_with fail
 refine(R7 _ _ _ _).mono ?_;rintro e m ⟨rfl,rfl⟩;obtain⟨a,f⟩:∃a:Obj,a=(jh #[.func (.func 138) #[] #[],.func (.func 139) #[] #[],.func (.func 140) #[] #[]] 161):=⟨_,I⟩;have b:=av (jC w a) (ao _ (jh #[jf (N ⟨w,0,je⟩) 3 3] 297));have c:=jC (w.alloc a) (jh #[jf (N ⟨w,0,je⟩) 3 3] 297);have g:=(ao w a).trans ((ao (w.alloc a) (jh #[jf (N ⟨w,0,je⟩) 3 3] 297)).mono ar);rw[<-f];generalize i:(w.alloc a).alloc (jh #[jf (N ⟨w,0,je⟩) 3 3] 297)=W at b c g⊢;rw[f]at b;rw[jK]at c;have j:ji (lu W (w.heap.size+1) w.heap.size):=O ⟨ah c I,λk n=>ah b (by rcases(by omega:k=0\/k=1\/k=2)with rfl|rfl|rfl<;>rfl)⟩;have l:=O g;clear b c g i f
 go_wp2_with fail
 go_ret;exact⟨_,_,I,j,by omega,jE _,l⟩
def DG(x y:aN):T->ja
 |0=>cD x.since y.since
 |1=>cD x.com.author y.com.author
 |_=>dE x.id y.id
theorem Kb(x y:aN):pr (DG x y)=kP x y:=I
theorem Ou{x y:CK}{c:A CP}(d:KD D c w x)(f:KD D c w y)(m:cC w a c){g n:T}(o:lu W g n):
 jz jl 198 (#[jm (aL x).toArray,jm (aL y).toArray]++ #[jI (N ⟨g,0,je⟩)]) W λe w'=>e=jv (jc jd (kP x.cand y.cand))/\∃q os,w'=grow (W.drewN q) os:=by
 have i:=d.kin m;have l:=f.kin m;obtain⟨-,p,-,r,-,-⟩:=mG i;obtain⟨-,s,-,t,-,-⟩:=mG l;rw[<-Kb];refine Ki (aL x).toArray (aL y).toArray (by rw[jL,i.len]) (by rw[jL,l.len]) C8 (DG x.cand y.cand) (λk v=>?_) (λk v w0=>?_) W g n o.var o.fns
 ·rcases(by omega:k=0\/k=1\/k=2)with rfl|rfl|rfl
  ·exact r8 func138 af I
  ·exact r8 func139 af I
  exact r8 func140 af I
 rcases(by omega:k=0\/k=1\/k=2)with rfl|rfl|rfl
 ·refine(RS _ _ x.since y.since (ak r) (ak t) w0).mono ?_
  rintro e w' ⟨rfl,rfl⟩;exact⟨I,(Grw.alloc _ _).trans (Grw.alloc _ _)⟩
 ·refine(Jd _ _ x.p.1.author y.p.1.author (ak p) (ak s) w0).mono ?_
  rintro e w' ⟨rfl,rfl⟩;exact⟨I,(Grw.alloc _ _).trans (Grw.alloc _ _)⟩
 refine(KS _ _ x.id y.id d.idl f.idl (λj b v=>?_) (λj b v=>?_) w0).mono ?_
 ·have b:=(jU.1 v).1
  rw[ju,d.idl]at b;have h:=Bz i b
  simpa using h.trans v
 ·have b:=(jU.1 v).1
  rw[ju,f.idl]at b;have h:=Bz l b
  simpa using h.trans v
 rintro e w' ⟨rfl,q,rfl⟩;exact⟨I,((Grw.alloc _ _).trans (Grw.alloc _ _)).trans (Grw.drewN _ _)⟩
end
section
open Go.RowKit Go.Maps Go.Sort Go.Shelf
theorem nj{q:CQ}(h:aZ D w p q):∀v∈aF p q,v.oneCell'=jk:=by
 obtain⟨f,g,a⟩:=h.chg.form;obtain⟨i,j,b⟩:=h.path.form;obtain⟨s,k,-⟩:=h.box;obtain⟨l,m,d⟩:=k.form;obtain⟨t,n,-⟩:=h.wel;obtain⟨o,c,e⟩:=n.form;obtain⟨u,x,y,z⟩:=q;dsimp only at a b d e;subst a b d e;have h:=zI p f i l o p.chg.length p.path.length p.box.length p.wel.length g j m c;rw[p6]at h;exact λv r=>h v (ak r)
theorem KD.ones{d:A CP}{k:CK}(h:KD D d w k)(e:cC W a d):∀b∈aL k,b.oneCell'=jk:=by
 intro b v;unfold aL at v;rw[jD,jR,jR,jD]at v
 rcases v with rfl|v|v|rfl|v
 ·rfl
 ·exact nj (e.all _ (j1 h.at_)) b v
 ·exact gS _ b v
 ·rfl
 obtain⟨p,c,f,-,-⟩:=h.grp.grp.mem.form;obtain⟨i,n',j,g⟩:=gN h.grp.grp.tree;rw[f,g]at v;unfold aD at v;rw[jD,jD,jR]at v
 rcases v with rfl|rfl|v|v
 ·rfl
 ·rfl
 ·exact gS _ b v
 simp only[jD,xR,or_false]at v
 rcases v with rfl|rfl<;>rfl
abbrev CW:={k:CK//(aL k).length=143/\∀a∈aL k,a.oneCell'=jk}
def EKK:EK CW:=⟨λk=>aL k.1,143,79,by decide,λk=>k.2.1,λk v a=>k.2.2 v a⟩
theorem FY(l:A CW):EKK.flat l=(l.map (·.1)).flatMap aL:=by rw[xI];rfl
def KD.cw{D:T->Prop}{a:A CP}{w w0:jg}{v:jb}{k:CK}(h:KD D a w k)(b:cC w0 v a):CW:=⟨k,h.len b,h.ones b⟩
def mg(l:A CW):A CW:=l.mergeSort λx y=>leC x.1.cand y.1.cand
theorem S2(l:A CW):(mg l).map (λk=>k.1.cand)=(l.map λk=>k.1.cand).mergeSort leC:=
 xS λ_ _ _ _=>rfl
theorem M0{l:A CW}{x:CW}:x∈mg l↔x∈l:=(mb _ _).mem_iff
theorem Tp(l:A CW):(mg l).length=l.length:=(mb _ _).length_eq
theorem OU(l:A CW)(F:(l.map λk=>k.1.id).Nodup)(p g n c:T)(w W:jg)(h:dw EKK p w W g n c l)(P:n<=1000000){w0:jg}{D:T->Prop}{q:A CP}{v:jb}(d:∀x∈l,KD D q w0 x.1)(H:cC w0 v q)
 {i t:T} (j:lu W i t) (K:i≠g) (M:t≠g):
 jz jl 79 #[jf (N ⟨g,0,je⟩) n c,.func (.func 198) #[] #[jI (N ⟨i,0,je⟩)]] W λe w'=>
  e=jv (jZ #[])/\EKK.At w' (jf (N ⟨g,0,je⟩) n c) (mg l)/\jo p W w'/\W.heap.size<=w'.heap.size/\∀k,k<W.heap.size->k≠g->w'.heap[k]?=W.heap[k]?:=by
 rcases Nat.eq_zero_or_pos n with u|u
 ·subst u
  obtain rfl:l=[]:=xT h.len.symm;refine(Tryzx.sortFunc_noneK _ c _ W).mono ?_;rintro e w' ⟨rfl,rfl⟩;have e:mg []=[]:=by unfold mg;simp
  rw[e];exact⟨I,h.at,lw _ _,jE _,λ_ _ _=>rfl⟩
 have o:l≠[]:=λe=>by have:=h.len;rw[e]at this;simp at this;omega
 haveI:Inhabited {x//x∈l}:=⟨⟨l.head o,List.head_mem o⟩⟩
 have B:=S7.on (λx:{x//x∈l}=>x.1.1.cand);have C:=AnyQ.slices_SortFunc_total (α:={x//x∈l}) Tryzx.laysK 143 isAgg79 sizeOf79 (λx=>EKK.cells x.1) (λx=>EKK.len x.1) (λx v a=>EKK.one x.1 v a) (λx y=>kP x.1.1.cand y.1.1.cand) B.swo 198 #[jI (N ⟨i,0,je⟩)] g 0 c l.attach.toArray W
  (r8 func198 af rfl)
  (λm os a _ x y=>Ou (d x.1 x.2) (d y.1 y.2) H ⟨(dX (zP j.lt.1 K)).trans j.var,λk d=>(dX (zP j.lt.2 M)).trans (j.fns k d)⟩)
  h.holds h.lt.2 (by rw[jL,xd,<-h.len];omega)
  (λx y a b=>Subtype.ext (Fw F x.1 x.2 y.1 y.2 (by
   have e:=B.tot a b;exact jS (λz=>z.2.2) e)))
 rw[jL,xd,<-h.len]at C;refine C.mono ?_;rintro e w' ⟨rfl,m,os,rfl⟩;have z:((l.attach.mergeSort λx y=> !ltOf (λx y:{x//x∈l}=>kP x.1.1.cand y.1.1.cand) y x).map Subtype.val)=mg l:=by
  refine(xS (r:=λx y:{x//x∈l}=> !ltOf (λx y:{x//x∈l}=>kP x.1.1.cand y.1.1.cand) y x) (s:=λx y:CW=>leC x.1.cand y.1.cand) (f:=Subtype.val) (λa _ b _=>rfl)).trans ?_;rw[xU]
  rfl
 have a:=holdsK_sortWorldK (λx:{x//x∈l}=>EKK.cells x.1) 143 W g 0 m l.attach.toArray (l.attach.mergeSort λx y=> !ltOf (λx y:{x//x∈l}=>kP x.1.1.cand y.1.1.cand) y x).toArray os h.lt.2 h.holds (by simp[(mb _ _).length_eq]);refine⟨I,?_,AK h.lt.1 (cT h.lt),Oh,λk d o=>zP d o⟩;rw[<-z];exact Be (E:=EKK) a (by rw[ju,(mb _ _).length_eq,xd];exact h.len) h.cap
end
section
open Go Go.RowKit Go.Maps
def dgV(d:LBy):jb:=jm (d.map v8).toArray
theorem Ft{a b:LBy}(h:dgV a=dgV b):a=b:=by
 unfold dgV at h;injection h with h
 have c:=jS Array.toList h;rw[r5,r5]at c;refine(List.map_inj_right (λx y e=>?_)).1 c;injection e with _ e
 exact xa Y
def ei(w:jg)(b:T)(S:A (LBy)):Prop:=
 ∃a c,w.heap[b]?=N (.map a c)/\a.toList.map MapEntry.key=S.map dgV/\(∀x∈a.toList,x.val=.bool jk)/\∀d∈S,d.length=32
theorem ei.made(w:jg):ei (w.alloc (.map #[] 0)) w.heap.size []:=⟨#[],0,jC _ _,I,ar,ar⟩
theorem ei.keep{w w':jg}{b:T}{S:A (LBy)}(h:ei w b S)(a:w'.heap[b]?=w.heap[b]?):ei w' b S:=by
 obtain⟨c,d,e,f⟩:=h;exact⟨c,d,a.trans e,f⟩
theorem ei.lt{w:jg}{b:T}{S:A (LBy)}(h:ei w b S):b<w.heap.size:=by
 obtain⟨c,d,a,-⟩:=h;exact(jQ.1 a).1
theorem ei.below{w w':jg}{b:T}{S:A (LBy)}(h:ei w b S)(a:jo w w w'):ei w' b S:=h.keep (a.block b h.lt)
section
variable {P:qa} {k e t:jt} {w:jg} {b:T} {S:A (LBy)}
structure pX(P:qa)(k:jt):Prop where
 law:WideMaps.KeyLaw P k
 key:∀d:LBy,d.length=32->∃l,keyOf P k (dgV d)=N l
theorem ei.keys(K:pX P k){a:js MapEntry}(c:a.toList.map MapEntry.key=S.map dgV)(f:∀d∈S,d.length=32):∀x∈a.toList,∃l,keyOf P k x.key=N l:=λx d=>by
 have h:x.key∈a.toList.map MapEntry.key:=jy.2 ⟨x,d,I⟩;rw[c]at h;obtain⟨b,g,e⟩:=jy.1 h;rw[<-e];exact K.key b (f b g)
theorem ei.look(h:ei w b S)(K:pX P k)(m:P.underlying t=N (.map k e))(q:(zeroValue e).run P w=.ok (.bool jr) w){d:LBy}(r:d.length=32):
 (Instr.lookup t (.map (N b)) (jm (d.map v8).toArray) jr).run P w=.ok (.bool (decide (d∈S))) w:=by
 show(Instr.lookup t (.map (N b)) (dgV d) jr).run P w=_;obtain⟨n,B,o,a,s,u⟩:=h;obtain⟨l,c⟩:=K.key d r
 rcases K.law.find w c n.toList (ei.keys K a u)with⟨f,g⟩|⟨j,i,f,g,v⟩
 ·have p:d∉S:=λy=>by
   have h:dgV d∈n.toList.map MapEntry.key:=by rw[a];exact jy.2 ⟨d,y,I⟩
   obtain⟨x,z,e⟩:=jy.1 h;exact g x z e
  rw[decide_eq_false p];simp[Instr.lookup,qI m,MapKept.run_getObj_map o,K.law.check w _ c,f,q,Result.andThen]
 have p:=j1 g;have x:d∈S:=by
  have h:i.key∈S.map dgV:=by rw[<-a];exact jy.2 ⟨i,p,I⟩
  obtain⟨z,y,e⟩:=jy.1 h;rw[v]at e;rw[<-Ft e];exact y
 rw[xk x];simp[Instr.lookup,qI m,MapKept.run_getObj_map o,K.law.check w _ c,f,s i p,Result.andThen]
theorem ei.put(h:ei w b S)(K:pX P k)(z:P.underlying t=N (.map k e)){d:LBy}(B:d.length=32):
 ∃n,(Instr.mapUpdate t (.map (N b)) (jm (d.map v8).toArray) (.bool jk)).run P w=.ok () n/\ei n b (if d∈S then S else S++[d])/\dy b w.heap.size w n:=by
 show∃n,(Instr.mapUpdate t (.map (N b)) (dgV d) (.bool jk)).run P w=.ok () n/\_;obtain⟨c,s,f,p,C,u⟩:=h;obtain⟨l,q⟩:=K.key d B;have D:∀o,dy b w.heap.size w (ChangeMaps.setBlock w b o):=λo=>⟨I,I,I,by simp[ChangeMaps.setBlock],λg _ H=>ChangeMaps.heap_setBlock_other f o H⟩
 rcases K.law.find w q c.toList (ei.keys K p u)with⟨v,m⟩|⟨j,r,v,m,y⟩
 ·have F:d∉S:=λM=>by
   have h:dgV d∈c.toList.map MapEntry.key:=by rw[p];exact jy.2 ⟨d,M,I⟩
   obtain⟨x,a,e⟩:=jy.1 h;exact m x a e
  refine⟨ChangeMaps.setBlock w b (.map (c.push ⟨dgV d,.bool jk,s⟩) (s+1)),?_,?_,D _⟩
  ·simp[Instr.mapUpdate,qI z,MapKept.run_getObj_map f,K.law.check w jr q,v,MapKept.run_setObj_map _ f,Result.andThen,ChangeMaps.setBlock]
  rw[jq F];refine⟨_,_,ChangeMaps.heap_setBlock_same f _,?_,?_,?_⟩
  ·rw[xV,j5,j5,p];rfl
  ·intro x a
   rw[xV,jR,qh]at a
   rcases a with a|rfl
   ·exact C x a
   rfl
  intro E i;rw[jR,qh]at i
  rcases i with i|rfl
  ·exact u E i
  exact B
 have M:=j1 m;have Q:c[j]?=N r:=ak m;have R:d∈S:=by
  have h:r.key∈S.map dgV:=by rw[<-p];exact jy.2 ⟨r,M,I⟩
  obtain⟨E,i,e⟩:=jy.1 h;rw[y]at e;rw[<-Ft e];exact i
 have E:(c.modify j (λi=>{i with key:=dgV d,val:=.bool jk})).toList=c.toList.set j {r with key:=dgV d,val:=.bool jk}:=by rw[Array.toList_modify,ChangeMaps.modify_eq_set _ _ _ _ m]
 refine⟨ChangeMaps.setBlock w b (.map (c.modify j (λi=>{i with key:=dgV d,val:=.bool jk})) s),?_,?_,D _⟩
 ·simp[Instr.mapUpdate,qI z,MapKept.run_getObj_map f,K.law.check w jr q,v,Q,y,K.law.stays w q,MapKept.run_setObj_map _ f,Result.andThen,ChangeMaps.setBlock]
 rw[jp R];refine⟨_,_,ChangeMaps.heap_setBlock_same f _,?_,?_,u⟩
 ·rw[E,List.map_set,<-p]
  refine wv λi=>?_
  by_cases F:i=j
  ·subst F
   have U:=(jU.1 m).1;rw[xq (ak U),o8,m,qZ,y]
  rw[List.getElem?_set_ne (Ne.symm F)]
 intro x a;rw[E]at a
 rcases List.mem_or_eq_of_mem_set a with a|rfl
 ·exact C x a
 rfl
end
end
section
open Go Go.RowKit Go.Maps
theorem NR{P:qa}{t:jt}{n:T}{k:IntKind}(f:P.underlying t=N (.array n e))(he:P.underlying e=N (.int k))(h:P.cellsOf t=n)(j:P.cellsOf e=1)(m:T)(b:A ja)(d:b.length=n)(o:∀c∈b,(Lit.int k c).wf=jk):
 P.keyLits (m+2) t (b.map (jj k))=N (b.map (Lit.int k)):=by
 have p:∀i∈qc n,P.keyLits (m+1) e (((b.map (jj k)).drop (i*1)).take 1)=N [Lit.int k (b.getD i 0)]:=λi c=>by
  have a:i<b.length:=by rw[d];exact wq.1 c
  have l:((b.map (jj k)).drop (i*1)).take 1=[jj k b[i]]:=by
   rw[Nat.mul_one,<-List.map_drop,<-List.map_take,qw a,xE,wt,jW,ql]
  have q:b.getD i 0=b[i]:=by simp[qy,a]
  rw[l,q];unfold Program.keyLits;rw[he];simp[o _ (q9 a)]
 unfold Program.keyLits;rw[f];simp only[ju,d,h,j,if_true];rw[AY (g:=λi=>[Lit.int k (b.getD i 0)]) _ p];simp only[qZ,q7.injEq];have q:∀(l:A T),(l.map λi=>[Lit.int k (b.getD i 0)]).flatten=l.map λi=>Lit.int k (b.getD i 0):=λl=>by
  induction l with
  |nil=>rfl
  |cons a l r=>rw[jW,xD,r];rfl
 rw[q]
 apply wv
 intro i;rw[o8,o8]
 by_cases c:i<n
 ·rw[List.getElem?_range c,j7 Y]
  have:i<b.length:=Y;simp[qy,this]
 rw[wx (by simp;omega),wx Y]
 rfl
theorem vd:pX jl 23 where
 law:=deep_law (m:=2) G af af af
 key:=λd a=>by
  have f:=NR (P:=jl) (t:=23) (e:=5) (n:=32) (k:=.u8) qe xj af af (jl.types.size-1) (d.map λb=>(b.toNat:ja)) (by rw[ju];exact a) (by
   intro c g;obtain⟨y,-,rfl⟩:=jy.1 g;have:=y.isLt;exact WalkArith.wf_u8 Y)
  have c:jl.types.size-1+2=jl.types.size+1:=by kernel_rfl
  have e:(d.map λb=>(b.toNat:ja)).map (jj .u8)=d.map v8:=by rw[ob];rfl
  rw[c,e]at f;have g:(jl.keyType 23&&(dgV d).formed jl 23)=jk:=by
   rw[xz];refine⟨by kernel_rfl,?_⟩;unfold Value.formed dgV;rw[qe];simp[a]
   kernel_rfl
  refine⟨.string (keyBytes ((d.map λb=>(b.toNat:ja)).map (Lit.int .u8))),?_⟩;unfold keyOf;rw[qe];dsimp only;rw[jp g];show((jl.keyLits (jl.types.size+1) 23 (d.map v8).toArray.toList).map λb=>Lit.string (keyBytes b))=_;rw[r5,f]
  rfl
end
section
variable{f:jb}
noncomputable def VC:VarT jl:=⟨57,73,(aF mI nC).toArray,_,qW,I,mM,by rw[jL];exact dz _ _ G G,λ_=>by kernel_rfl⟩
noncomputable def VD:VarT jl:=⟨23,32,(qs 32 (jj .u8 0)).toArray,_,qe,I,vu,by simp,λ_=>by kernel_rfl⟩
noncomputable def VP:VarT jl:=⟨75,3,#[jf je 0 0,jf je 0 0,jf je 0 0],_,underlying75,I,by kernel_rfl,rfl,λ_=>by kernel_rfl⟩
noncomputable def RI:eI jl:=.of 38 3 1 8 (jc jd 0) xi af I G G G
noncomputable def RD:eI jl:=.of 42 23 32 32 (jm (qs 32 (jj .u8 0)).toArray) underlying42 af (by simp[qU]) G G G
theorem dt(W:jg)(C:js jb)(t:jt):∃x b,x=W.alloc (jh C t)/\b=W.heap.size/\ji (x.heap[b]?=N (jh C t (0,0)))/\jo W W x:=⟨_,_,I,I,jC W _,ao W _⟩
def gj(l:A Cmt)(n:T):A (LBy):=(bU l n).map λi=>aG (aQ l i)
theorem AH{l:A Cmt}{d:LBy}:∀{n:T},d∈gj l n↔∃i,i<n/\aG (aQ l i)=d
 |0=>by
  unfold gj bU;simp
 |n+1=>by
  have a:=AH (l:=l) (d:=d) (n:=n);unfold gj at a⊢;rw[oW,j5,jR,a]
  constructor
  ·rintro(⟨i,b,e⟩|h)
   ·exact⟨i,by omega,e⟩
   split at h
   ·rw[jW,ql,qh]at h
    exact⟨n,by omega,h.symm⟩
   cases h
  rintro⟨i,b,e⟩
  by_cases c:i<n
  ·exact .inl ⟨i,c,e⟩
  obtain rfl:i=n:=Y
  by_cases h:∀j,j<i->aG (aQ l j)≠aG (aQ l i)
  ·right
   rw[jp h];simp[e]
  left
  have⟨j,hj⟩:=Classical.not_forall.1 h;have⟨h1,h2⟩:=Classical.not_imp.1 hj;exact⟨j,h1,(Classical.not_not.1 h2).trans e⟩
theorem Cn{l:A Cmt}{n:T}(h:aG (aQ l n)∉gj l n):bU l (n+1)=bU l n++[n]:=by
 rw[oW,jp λj a e=>h (AH.2 ⟨j,a,e⟩)]
theorem Ha{l:A Cmt}{n:T}(h:aG (aQ l n)∈gj l n):bU l (n+1)=bU l n:=by
 rw[oW,jq,qx];intro a;obtain⟨j,b,e⟩:=AH.1 h;exact a j b e
theorem BD(l:A Cmt)(n:T):(if aG (aQ l n)∈gj l n then gj l n else gj l n++[aG (aQ l n)])=gj l (n+1):=by
 by_cases h:aG (aQ l n)∈gj l n
 ·rw[jp h];unfold gj;rw[Ha h]
 rw[jq h];unfold gj;rw[Cn h,j5];rfl
theorem rU(l:A Cmt)(n:T):(bU l n).length<=n:=by
 unfold bU;exact jJ (qQ _ _) ar
def eJ(l:A Cmt)(P:A T):A jb:=P.flatMap λi=>(aG (aQ l i)).map v8
def fQ(P:A T):A jb:=P.map λi=>jc jd (i:T)
structure iq(D:T->Prop)(w:jg)(b c d:jb)(a:A CP):Prop where
 list:cC w b a
 ids:aH D w c 32 (bU (a.map (·.1)) a.length).length (eJ (a.map (·.1)) (bU (a.map (·.1)) a.length))
 at_:aH D w d 1 (bU (a.map (·.1)) a.length).length (fQ (bU (a.map (·.1)) a.length))
structure PSt(M b m:T)(f:jb)(l:A Cmt)(i j:T)(k:T)(a c:jw jM)(d e:T)(W:jg):Prop where
 box:W.heap[b]?=N (jh #[f,jf a k d,jf c k e] 75 (0,0))
 ids:W.ownsRow M RD.e RD.k (jf a k d) k (eJ l (bU l i))
 at_:W.ownsRow M RI.e RI.k (jf c k e) k (fQ (bU l i))
 map:ei W m (gj l j)
 len:k=(bU l i).length
 lb:M<=b
 lm:M<=m
theorem PSt.below{M b m:T}{c:jb}{l:A Cmt}{i j k:T}{d e:jw jM}{f g:T}{W n:jg}(h:PSt M b m c l i j k d e f g W)(a:jo W W n):PSt M b m c l i j k d e f g n:=
 ⟨av h.box a,cL h.ids a,cL h.at_ a,h.map.below a,h.len,h.lb,h.lm⟩
theorem A6{W:jg}{M:T}{e:jt}{sz n:T}{xs:A jb}(h:W.ownsRow M e sz f n xs){g:T}(a:f.ownBlock=N g):∃b,W.heap[g]?=N (jh b e (0,0)):=by
 rcases h.2 with⟨c,-⟩|⟨g',v,b,c,i,d,-⟩
 ·rw[c]at a;cases a
 rw[c]at a;cases a;exact⟨b,d⟩
theorem cO{W:jg}{M:T}{e t:jt}{sz n:T}{xs:A jb}(h:W.ownsRow M e sz f n xs){b:T}{c:js jb}{d:T×T}(v:W.heap[b]?=N (jh c t d))(g:e≠t):f.ownBlock≠N b:=λi=>by
 obtain⟨j,a⟩:=A6 h i;rw[v]at a;injection a with a
 injection a with _ a
 exact g a.symm
theorem AJ{W:jg}{M b:T}{e t:jt}{sz n c n':T}{a:jb}{xs ys:A jb}(h:W.ownsRow M e sz f n xs)(d:W.ownsRow b t c a n' ys)(v:e≠t):∀k,f.ownBlock=N k->a.ownBlock≠N k:=λk g i=>by
 obtain⟨l,j⟩:=A6 d i;exact cO h j v g
theorem uz{W:jg}{M:T}{e:jt}{sz n:T}{xs:A jb}(h:W.ownsRow M e sz f n xs){b:T}{S:A (LBy)}(c:ei W b S):f.ownBlock≠N b:=λd=>by
 obtain⟨g,a⟩:=A6 h d;obtain⟨i,j,v,-⟩:=c;rw[v]at a
 cases a
theorem PSt.put{M b m:T}{l:A Cmt}{i j k:T}{n o:jw jM}{p q:T}{W c:jg}(h:PSt M b m f l i j k n o p q W){r:T}(s:ei c m (gj l r))(d:dy m W.heap.size W c):PSt M b m f l i r k n o p q c:=by
 have t:b≠m:=λe=>by
  obtain⟨u,v,g,-⟩:=h.map;have a:=h.box;rw[e,g]at a
  cases a
 exact⟨(d.block b (jQ.1 h.box).1 t).trans h.box,iB h.ids (λg a=>d.block g (h.ids.lt g a).2 λe=>uz h.ids h.map (e▸a)),
  iB h.at_ (λg a=>d.block g (h.at_.lt g a).2 λe=>uz h.at_ h.map (e▸a)),s,h.len,h.lb,h.lm⟩
theorem PSt.old{M b m:T}{l:A Cmt}{i k:T}{d h:jw jM}{a g:T}{W:jg}(c:PSt M b m f l i i k d h a g W)(j:aG (aQ l i)∈gj l i):PSt M b m f l (i+1) i k d h a g W:=by
 have e:=Ha j;exact⟨c.box,by rw[e];exact c.ids,by rw[e];exact c.at_,c.map,by rw[e];exact c.len,c.lb,c.lm⟩
section
variable {P:qa} {ops:js jN} {Q:Exit->Act->jg->Prop} {k e t:jt} {w:jg} {b:T} {S:A (LBy)} {o:jN} {rest:A jN} {a:Act}
theorem Hh(h:ei w b S)(K:pX P k)(f:P.underlying t=N (.map k e))(g:(zeroValue e).run P w=.ok (.bool jr) w){d:LBy}(i:d.length=32){c:js jb}(j:c=(d.map v8).toArray)
 (l:o.guard=je) (m x:jX) (n:o.op=Op.lookup t m x jr) (p:a.eval m=.map (N b)) (q:a.eval x=jm c) (r:j6 P ops Q rest (a.put o.dst (.bool (decide (d∈S)))) w):j6 P ops Q (o::rest) a w:=by
 subst j;refine jO l λv s=>?_
 have u:=h.look K f g i;unfold Oper.wp;simp[oj,n,p,q,u,Result.andThen];exact s _ _ r
theorem CO(h:ei w b S)(K:pX P k)(f:P.underlying t=N (.map k e)){d:LBy}(g:d.length=32){c:js jb}(i:c=(d.map v8).toArray)
 (j:o.guard=je) (m x v:jX) (l:o.op=Op.mapUpdate t m x v) (n:a.eval m=.map (N b)) (p:a.eval x=jm c) (q:a.eval v=.bool jk)
 (r:∀w',ei w' b (if d∈S then S else S++[d])->dy b w.heap.size w w'->j6 P ops Q rest (a.put o.dst qd) w'):j6 P ops Q (o::rest) a w:=by
 subst i;refine jO j λB s=>?_
 obtain⟨w',u,y,z⟩:=h.put K f g;unfold Oper.wp;simp[oj,l,n,p,q,u,Result.andThen];exact s _ _ (r w' y z)
end
theorem pS(s:A CP)(X:jb)(w:jg)(a:cC w X s)(c:∀p∈s,da (aR p.1))(h:bP w)(hn:s.length<=1000):
 jz jl 20 #[X] w λe w'=>∃v2 v3,e=jv (jm #[X,v2,v3])/\iq (λg=>w.heap.size<=g/\g<w'.heap.size) w' X v2 v3 s/\jo w w w':=by
 obtain⟨t,f,rfl⟩:=a.form;obtain⟨l,hl⟩:∃l:A Cmt,l=s.map (·.1):=⟨_,I⟩;obtain⟨n,b⟩:=J s.length;have HL:=O a;have HE:=O c;have HT:=O h;have YW:=O hl;have Zo:=O b;obtain⟨M,d⟩:=J w.heap.size;have u:=O d;rw[<-b]at hn⊢;have k:=ao w (jh #[jf je 0 0,jf je 0 0,jf je 0 0] 75);clear a c h hl b;have m:=@run_makeMap jl;have i:ji (∀W,W=((w.alloc (jh #[jf t n f,jf je 0 0,jf je 0 0] 75)).alloc (.map #[] 0))->PSt M M (M+1) (jf t n f) l 0 0 0 je je 0 0 W/\jo w w W):=O (by
  rintro W rfl;have a:=jC w (jh #[jf t n f,jf je 0 0,jf je 0 0] 75);have b:=ao w (jh #[jf t n f,jf je 0 0,jf je 0 0] 75);have c:=ao (w.alloc (jh #[jf t n f,jf je 0 0,jf je 0 0] 75)) (.map #[] 0);have j:=ei.made (w.alloc (jh #[jf t n f,jf je 0 0,jf je 0 0] 75));rw[jK]at j;rw[u];refine⟨⟨av a c,qD _ _ _ _,qD _ _ _ _,j,I,jE _,Nat.le_succ _⟩,b.trans (c.mono b.size)⟩)
 go_enter func20,ntmps20
 go_wp2_with fail
 obtain⟨b,c⟩:=i _ I;rw[<-u];clear d;generalize((w.alloc (jh #[jf t n f,jf je 0 0,jf je 0 0] 75)).alloc (.map #[] 0))=W0 at b c⊢;have VQ:=O b;have Uh:=O c;clear b c i m k
 go_loopw [12] (λv wr=>∃(i k:T) (x z:jw jM) (y B:T),v=jc jd i/\i<=n/\ji (PSt M M (M+1) (jf t n f) l i i k x z y B wr)/\ji (jo w w wr)) (λv _=>n-(jF v).toNat)
 case atStart=>exact⟨0,0,je,je,0,0,I,n0 _,VQ,Uh⟩
 obtain⟨i,k,x,z,y,B,rfl,hi,b,d⟩:=hrel
 by_cases a4:i<n
 case neg=>
  have hd:=aw ((i:ja)<(n:ja));have UC:=aw (i<n);obtain rfl:i=n:=Y;have c:=O b.box;have j:k=(bU (s.map (·.1)) s.length).length:=by rw[b.len,YW,Zo]
  have o:ji (iq (λg=>w.heap.size<=g/\g<wr.heap.size) wr (jf t i f) (jf x k y) (jf z k B) s):=O (by
   have a:=aH.of_own b.ids (λg S=>b.ids.lt g S);have m:=aH.of_own b.at_ (λg S=>b.at_.lt g S);rw[YW,Zo,u,j]at a m;refine⟨?_,?_,?_⟩
   ·rw[Zo];exact HL.below d
   ·rw[j];exact a
   rw[j];exact m)
  clear j
  go_wp2_with (first|(refine VP.loadA aj I I _ I c (L ?_))|(refine VP.store I I I #[jf t i f,jf x k y,jf z k B] I I (by simp[r4]) c I ?_;rw[setRow_self _ _ _ _ _ c.out];refine L ?_))
  refine bodyPost_ret (results_cell_row I _ _ M 75 _ (0,0) _ I c underlying75 I af) I ?_;exact⟨_,_,I,o,d⟩
 have hd:=az ((i:ja)<(n:ja));have UC:=az (i<n);obtain⟨⟨c,q⟩,a⟩:∃p,s[i]?=N p:=⟨_,j7 (by rw[<-Zo];exact a4)⟩;obtain⟨g,o,ba,e1,S,-,-,D⟩:=HL.elem a;injection e1 with e1 _ e3
 subst e1;subst e3;have r:=j1 a;have HQ:=O (HL.all _ r);have a5:=O (HE _ r);have W:ji (aQ l i=c):=O (by unfold aQ;rw[YW];simp[qy,a]);have K:ji (wr.rangeAt g (o+i*73) (aF c q)):=O λj aa hj=>aB (D j aa hj) d
 have Vh:ji ((aF c q).length=VC.n):=O (dz c q HQ.plen HQ.clen);obtain⟨C,m⟩:=J ((aF c q).toArray);have WS:=O m;have Wo:ji (C.size=VC.n):=O (by rw[m,jL];exact Vh);have UB:ji (C.all (·.oneCell')=jk):=O (by
  rw[m,p6];exact λaa H=>nj HQ aa (ak H))
 clear m r a D S
 go_upto_region 6 with(first|(refine VC.load aj I I (aF c q) Vh K ?_;rw[<-WS];refine L ?_)|(refine VC.made I I (L ?_))|(refine VC.first I I I C I Wo UB (L ?_)))
 obtain⟨x1,bc,D,F,P,a⟩:=dt wr C VC.t;rw[<-D,<-F];replace b:=O (b.below a);replace d:=ai d a;obtain⟨r,h⟩:=J (((aG c).map v8).toArray);have m:=sZ c q x1 ((HQ.below d)) a5 (HT.below d);rw[<-h,<-WS]at m;replace m:=O m;have Zk:=O h;have V:ji (r.size=VD.n):=O (by rw[h,jL,ju,dS];rfl);have Vf:ji (r.all (·.oneCell')=jk):=O (by rw[h];exact eR _);clear D F a h K
 go_upto_region 7 with(first|(refine VC.loadA aj I I C Wo P (L ?_)))
 refine m.mono ?_;rintro e x2 ⟨rfl,a⟩;replace b:=O (b.below a);replace d:=ai d a;clear a P m
 go_upto_region 7 with(first|(refine VD.made I I (L ?_))|(refine VD.first I I I r I V Vf (L ?_)))
 obtain⟨x3,P,D,F,m,a⟩:=dt x2 r VD.t;rw[<-D,<-F];have ZN:ji (∀g,(qz x k y).ownBlock=N g->g<P):=O λg S=>by rw[F];exact(b.ids.lt g S).2
 replace b:=O (b.below a);replace d:=ai d a;clear D F a;obtain⟨a6,h⟩:=J (decide (aG c∈gj l i));have ad:=O h;clear h;have WF:=O (dS c)
 cases a6 with
 |true=>
  have F:=O (b.old (by rw[W];exact of_decide_eq_true ad.symm));clear b
  go_upto_region 10 with(first|(refine VD.loadA aj I I r V m (L ?_))|(refine Hh F.map vd r9 (zeroValue4 _) WF Zk I _ _ I I I ?_;rw[<-ad];refine L ?_)|
   (refine CO F.map vd r9 WF Zk I _ _ _ I I I I ?_;intro x9 ac U;refine L ?_))
  have Zm:ji (PSt M M (M+1) (jf (N ⟨g,o,je⟩) n f) l (i+1) (i+1) k x z y B x9):=O (F.put (by have h:=BD l i;rw[W]at h;rw[<-h];exact ac) U);have Vv:ji (jo w w x9):=O (d.trans (U.below (by rw[u];omega) d.size));clear ac U
  go_wp2_with fail
  exact⟨⟨i+1,k,x,z,y,B,by go_num,by omega,Zm,Vv⟩,by simp only[jF];omega⟩
 |false=>
  go_upto_region 8 with(first|(refine VD.loadA aj I I r V m (L ?_))|(refine Hh b.map vd r9 (zeroValue4 _) WF Zk I _ _ I I I ?_;rw[<-ad];refine L ?_))
  have ax:ji (bU l (i+1)=bU l i++[i]):=O (Cn (by rw[W];exact of_decide_eq_false ad.symm));have F:k<=1000:=by rw[b.len];have:=rU l i;omega
  have a1:=O F;clear F;refine o1 ?_;refine fM (λF=>F.heap[M]?=N (jh #[jf (N ⟨g,o,je⟩) n f,jf x k y,jf z k B] 75 (0,0))/\F.heap[P]?=N (jh r VD.t (0,0))) 11
   (.take 0 (.take 1 (.take 2 (.take 5 (.take 6 (.take 7 (rT (.take 10) (.one 11 (.one 12 (.one 13 .done)))))))))) af af af af G (λ_ _ _ _ h=>h) ⟨b.box,m⟩ ?_
  obtain⟨x4,D⟩:=J x3.drew;have a:=bX x3;rw[<-D]at a⊢;replace b:=O (b.below a);replace d:=ai d a;replace m:=ae m a;clear D a;refine co ?_
  (refine cJ (v:=?_) I aj (λF a=>?_) ?_;rotate_left;(have D:=ah (i:=1) a.1 I;clear a;go_simp;with_reducible rfl);refine L ?_)
  (refine cJ (v:=jm r) I aj (λF a=>dh qe I (by rw[V];exact vu) I I a.2) ?_;refine L ?_)
  refine co ?_
  (refine cJ (v:=?_) I aj (λF a=>?_) ?_;rotate_left;(have D:=ah (i:=2) a.1 I;clear a;go_simp;with_reducible rfl);refine L ?_)
  refine co ?_;refine z7 RD RI (T0:=.take 10) (E:=λa=>a.put (N 33) (jI (N ⟨M,1,je⟩))) (r1:=26) (r2:=27) (rb:=31) (r3:=32) (s1:=25) (s2:=30) (t1:=24) (t2:=29) af (λ_ _ _ _ h=>h) af af
   rfl rfl rfl rfl rfl rfl rfl rfl rfl rfl rfl rfl rfl rfl rfl rfl (show 26<39 by decide) (show 31<39 by decide) G G G G G G
   (λa v=>Act.put_comm a _ _ G) (λa=>io G) (λa=>io G) (λa=>yN) (λa w' R h D=>cJ rfl rfl (λF _=>?_) D)
   (x1:=jm r) (x2:=jc jd (i:T)) (u1:=jf x k y) (u2:=jf z k B) rfl rfl rfl rfl V rfl (λaa H=>(p6.1 Vf) aa (by simpa [qU]using H)) (by simp[qU,r4]) b.ids b.at_ (AJ b.ids b.at_ G) (aI a1) (aI a1) (by rw[u];exact d.size) (λw' F H=>?_) ?_
  ·have H:a.eval (.tmp 2)=jI (N ⟨M,0,je⟩):=h 2 G G G
   clear h D;generalize a.eval=D at H⊢;go_simp
  ·have hl:=(jQ.1 b.box).1
   exact⟨(F M hl (cO b.ids b.box G) (cO b.at_ b.box G)).trans b.box,
    (F P (jQ.1 m).1 (λe=>by have:=ZN P e;omega) (cO b.at_ m G)).trans m⟩
  rintro z1 z2 X v2 Q a;obtain⟨D,F,rfl⟩:=cK a.own1;obtain⟨H,K,rfl⟩:=cK a.own2;have R:Q.heap[M]?=N (jh #[jf (N ⟨g,o,je⟩) n f,jf x k y,jf z k B] 75 (0,0)):=(a.heap M (jQ.1 b.box).1 (cO b.ids b.box G) (cO b.at_ b.box G)).trans b.box;have a2:=fa (i:=1) (jf D (k+1) F) R;have a3:=fa (i:=2) (jf H (k+1) K) a2;have Z1:ji (PSt M M (M+1) (jf (N ⟨g,o,je⟩) n f) l (i+1) i (k+1) D H F K ((Q.setCell ⟨M,1,je⟩ (jf D (k+1) F)).setCell ⟨M,2,je⟩ (jf H (k+1) K))):=O (by
   have ay:∀g',g'≠M->((Q.setCell ⟨M,1,je⟩ (jf D (k+1) F)).setCell ⟨M,2,je⟩ (jf H (k+1) K)).heap[g']?=Q.heap[g']?:=λg' h=>(dB _ h).trans (dB _ h)
   refine⟨a3,?_,?_,?_,?_,b.lb,b.lm⟩
   ·have h:=iB a.own1 λg' ZP=>ay g' λe=>cO a.own1 R G (e▸ZP)
    have e:eJ l (bU l (i+1))=eJ l (bU l i)++(qV r).cells.toList:=by
     unfold eJ;rw[ax,xe];simp[qU,Zk.out,W.out]
    rw[e];exact h
   ·have h:=iB a.own2 λg' ZP=>ay g' λe=>cO a.own2 R G (e▸ZP)
    have e:fQ (bU l (i+1))=fQ (bU l i)++(jj .i64 (i:T)).cells.toList:=by
     unfold fQ;rw[ax,j5]
     rfl
    rw[e];exact h
   ·have au:M+1≠M:=Y
    exact b.map.keep ((ay _ au).trans (a.heap _ b.map.lt (uz b.ids b.map) (uz b.at_ b.map)))
   rw[ax,jG,<-b.len];rfl)
  have Uw:ji (jo w w ((Q.setCell ⟨M,1,je⟩ (jf D (k+1) F)).setCell ⟨M,2,je⟩ (jf H (k+1) K))):=O (by
   have h5:jo w x4 Q:=⟨a.bel.os,a.bel.tape,a.bel.output,a.bel.size,λk' Zy=>a.heap k' (jB Zy d.size) (λe=>by have:=(b.ids.lt k' e).1;rw[u]at this;omega) (λe=>by have:=(b.at_.lt k' e).1;rw[u]at this;omega)⟩;exact((d.trans h5).setCell (p:=⟨M,1,je⟩) (qO u.symm) _).setCell (p:=⟨M,2,je⟩) (qO u.symm) _)
  have ay:ji (((Q.setCell ⟨M,1,je⟩ (jf D (k+1) F)).setCell ⟨M,2,je⟩ (jf H (k+1) K)).heap[P]?=N (jh r VD.t (0,0))):=O (by
   have au:P≠M:=λe=>by have h:=m.out;rw[e,b.box]at h;injection h with h;injection h with _ h;exact jA h G
   exact((dB _ au).trans (dB _ au)).trans ((a.heap P (jQ.1 m).1 (λe=>by have:=ZN P e;omega) (cO b.at_ m G)).trans m))
  have m1:=ah (i:=1) R I;have m2:=ah (i:=2) R I;have f1:=fR (o:=1) R;have f2:=fR (o:=2) R;clear a2 a3 R a b d m;refine L ?_;refine nA I G af (λb a=>?_);go_simp;refine a _ _ ?_;clear a;refine L ?_;refine nA I G af (λb a=>?_);go_simp;refine a _ _ ?_;clear a;refine L ?_;refine nA I G af (λb a=>?_);go_simp;refine a _ _ ?_;clear a m1 m2 f1 f2;refine L ?_;refine fb ?_;generalize((Q.setCell ⟨M,1,je⟩ (jf D (k+1) F)).setCell ⟨M,2,je⟩ (jf H (k+1) K))=a at Z1 Uw ay⊢
  go_upto_region 10 with(first|(refine VD.loadA aj I I r V ay (L ?_))|
   (refine CO Z1.map vd r9 WF Zk I _ _ _ I I I I ?_;intro x9 ac U;refine L ?_))
  have Zm:ji (PSt M M (M+1) (jf (N ⟨g,o,je⟩) n f) l (i+1) (i+1) (k+1) D H F K x9):=O (Z1.put (by have h:=BD l i;rw[W]at h;rw[<-h];exact ac) U);have Vv:ji (jo w w x9):=O (Uw.trans (U.below (by rw[u];omega) Uw.size));clear ac U
  go_wp2_with fail
  exact⟨⟨i+1,k+1,D,H,F,K,by go_num,by omega,Zm,Vv⟩,by simp only[jF];omega⟩
end
theorem Lh{v:jM}(h:w.cell? v=N a):∀W,jo w w W->W.cell? v=N a:=λ_ b=>aB h b
theorem Jl(w:jg):∀W o,jo w w W->jo w w (W.alloc o):=λ_ o h=>h.trans ((ao _ o).mono h.size)
theorem TU(h:M<w.heap.size):∀W,jo w w W->M<W.heap.size:=λ_ a=>jB h a.size
theorem O0(h:bW w b vm vt):∃(d:js jb) (a:jg) (g:T) (p:jw jM) (c:T),d=(aD b vm vt).toArray/\a=w.alloc (jh d 51)/\g=w.heap.size/\
 vm=jf p b.mem.length c/\jo w w a/\g<a.heap.size/\a.cell? ⟨g,34,je⟩=N (jf p b.mem.length c)/\EM.At a (jf p b.mem.length c) b.mem:=by
 have e:=dF.new w (vm:=vm) (vt:=vt) h.llen;obtain⟨p,c,rfl,-,-⟩:=h.mem.form;exact⟨_,_,_,p,c,I,I,I,I,ao _ _,by simp,e.at.2.2.1,h.mem.below (ao _ _)⟩
theorem Sb{p:H->jT}{l:A H}{x:H}(h:l.find? p=je)(a:p x=jr):(l++[x]).find? p=je:=by
 rw[xf,h];simp[a]
theorem OG{p:α->jT}{l m:A α}{x:α}{k:T}(h:(l.take k).find? p=je)(a:l.take (k+1)=l.take k++[x])(b:p x=jk):l.find? p=N x:=by
 rw[<-xG (k+1) l,xf,a,xf,h];simp[b]
theorem Sz(a:Grp)(vm vt:jb)(d:ja)(w:jg)(h:bW w a vm vt)(K:a.mem.length<=900000):
 jz jl 78 #[jm (aD a vm vt).toArray,jc jd d] w λe w'=>e=jv (jc jd (eS a d))/\jo w w w':=by
 obtain⟨V,q,b,p,c,g,i,k,rfl,o,t,r,u⟩:=O0 h;rw[<-g];have x:=O u.cells;obtain⟨n,f⟩:=J a.mem.length;rw[<-f]at r K x;have z:=O f;have s:=O o;have B:=O (And.intro i k);have W:=Lh r;have C:=Jl q;have X:=TU t;have D:=O (lw q.heap.size q);clear g i f r k t o u h
 go_enter func78,ntmps78
 go_upto_region 1 with fail
 rw[<-B.1,<-B.2];have f:=D.out
 go_wp2_with fail
 clear f
 go_loopw [10] (λi wr=>∃k:T,i=jc jd k/\k<=n/\ji (dj (a.mem.take k) d=je)/\jo q q wr) (λi _=>n-(jF i).toNat)
 case atStart=>exact⟨0,I,n0 _,O I,D⟩
 obtain⟨k,rfl,hk,u,f⟩:=hrel
 by_cases M:k<n
 case neg=>
  have P:=aw ((k:ja)<(n:ja));have Q:=aw (k<n);obtain rfl:k=n:=Y;have v:ji (eS a d=0):=O (by
   have h:=u.out;rw[z,xW]at h;unfold eS;rw[h];rfl)
  go_wp2_with fail
  go_ret;exact⟨by rw[v];rfl,s.trans (f.mono s.size)⟩
 have P:=az ((k:ja)<(n:ja));have Q:=az (k<n);obtain⟨g,o,rfl,i⟩:=x.2.2 Y;obtain⟨y,t,E⟩:=dL (l:=a.mem) (j:=k) (by rw[<-z];exact M);have R:wr.cell? ⟨g,o+k*3,je⟩=N (jc jd y.dev):=aB (i k y t 0 _ I) f;have S:wr.cell? ⟨g,o+k*3+1,je⟩=N (jc jd y.since):=aB (i k y t 1 _ I) f;have r:wr.cell? ⟨g,o+k*3+2,je⟩=N (jc jd y.ver):=aB (i k y t 2 _ I) f;obtain⟨md,F,U⟩:=y;dsimp only at R S r;have H:=O E;clear i E t
 by_cases i:md=d
 case neg=>
  have he:(md==d)=jr:=ak i;have t:decide (md=d)=jr:=ak i;have E:ji (dj (a.mem.take (k+1)) d=je):=O (by rw[H];exact Sb u (ak i));clear i
  go_wp2_with fail
  exact⟨⟨k+1,by go_num,by omega,E,C _ _ f⟩,by simp only[jF];omega⟩
 have v:ji (eS a d=F):=O (by
  unfold eS;rw[show dj a.mem d=N ⟨md,F,U⟩from OG (m:=[]) u H (ak i)];rfl)
 have he:(md==d)=jk:=ak i;have t:decide (md=d)=jk:=ak i;clear i
 go_wp2_with fail
 go_ret;exact⟨by rw[v];rfl,s.trans ((C _ _ f).mono s.size)⟩
noncomputable def VG:VarT jl:=⟨51,36,(aD kr (jf je 0 0) (jf je 0 0)).toArray,_,jH,I,by kernel_rfl,rfl,λ_=>by kernel_rfl⟩
def ck0:CK:=⟨0,(mI,nC),cG,0,kr,jf je 0 0,jf je 0 0⟩
noncomputable def VK:VarT jl:=⟨79,143,(aL ck0).toArray,_,qY,I,by kernel_rfl,rfl,λ_=>by kernel_rfl⟩
noncomputable def RK:eI jl:=.of 97 79 143 344 (jm (aL ck0).toArray) underlying97 af I G G G
theorem mx{a:T->jw (T×T)}{i off size:T}(k:a i=N (off,size)){A0 B D:A jb}(d:A0.length=off)(f:B.length=size){v:jb}(g:v.cells.size=size)(j:A (T×jb)):
 Instr.fill a (A0++(B++D)).toArray ((i,v)::j)=Instr.fill a (A0++(v.cells.toList++D)).toArray j:=by
 rw[Instr.fill,k];dsimp only;rw[jq (by simp[d,f,g])];have h:=vS v.cells (A0++(B++D)).toArray off size g (by simp[d,f]);have e:v.cells.zipIdx.size=size:=by simp[g]
 refine jS (λc=>Instr.fill a c j) ?_;refine Eq.trans (b:=qM (λc x=>c.setIfInBounds (off+x.2) x.1) (A0++(B++D)).toArray v.cells.zipIdx 0 size) ?_ (h.trans ?_)
 ·rw[<-e]
 rw[r5,List.take_left' d,<-qL A0 B D,List.drop_left' (by rw[jG,d,f]),qL]
theorem uy{P:qa}{t:jt}{a:js Field}{zero:jb}{places:js (T×T)}(b:∀w,(zeroValue t).run P w=.ok zero w)(c:P.underlying t=N (.struct a))(d:∀w,(a.mapM (λf=>Functor.map (Prod.mk f.offset) (sizeOf f.type)):Sem (js (T×T))).run P w=.ok places w)
 {parts:js (T×jb)} {X:js jb} (e:Instr.fill (places[·]?) zero.cells parts.toList=N X) (w:jg):(Instr.build t parts).run P w=.ok (jm X) w:=by
 unfold Instr.build;simp[b,qI c,d,e,Result.andThen]
theorem zt{a:Act}{parts:js (T×jX)}{i s:ja}{C I0 G0:js jb}(c:C.size=73)(d:I0.size=32)(f:G0.size=36)(g:o.op=.build 79 parts)
 (h:(parts.map fun(i,x)=>(i,a.eval x))= #[(0,jc jd i),(1,jm C),(2,jm I0),(3,jc jd s),(4,jm G0)]) (W:jg):
 (oj a.eval o).run jl W=.ok (.value (jm (#[jc jd i]++C++I0++ #[jc jd s]++G0))) W:=by
 have j:(aL ck0).toArray=([]++([jj .i64 0]++(aF mI nC++(cG.map v8++([jj .i64 0]++(aD kr (jf je 0 0) (jf je 0 0)++[])))))).toArray:=by kernel_rfl
 have k:=uy (P:=jl) (t:=79) (zero:=jm (aL ck0).toArray) (places:=#[(0,1),(1,73),(74,32),(106,1),(107,36)]) (λw=>by kernel_rfl) qY (λw=>by kernel_rfl)
  (parts:=#[(0,jc jd i),(1,jm C),(2,jm I0),(3,jc jd s),(4,jm G0)]) (X:=(#[jc jd i]++C++I0++ #[jc jd s]++G0)) (by
   show Instr.fill _ (aL ck0).toArray [(0,jj .i64 i),(1,qV C),(2,qV I0),(3,jj .i64 s),(4,qV G0)]=_;have m:∀l:A jb,[jj .i64 i]++(C.toList++l)=([jj .i64 i]++C.toList)++l:=λl=>by simp
   have n:∀l:A jb,([jj .i64 i]++C.toList)++(I0.toList++l)=([jj .i64 i]++C.toList++I0.toList)++l:=λl=>by simp
   have p:∀l:A jb,([jj .i64 i]++C.toList++I0.toList)++([jj .i64 s]++l)=([jj .i64 i]++C.toList++I0.toList++[jj .i64 s])++l:=λl=>by simp
   have b:C.toList.length=73:=by rw[qb];exact c
   have e:I0.toList.length=32:=by rw[qb];exact d
   rw[j,mx (A0:=[]) (off:=0) (size:=1) I I I I];show Instr.fill _ ([jj .i64 i]++_).toArray _ =_;rw[mx (A0:=[jj .i64 i]) (off:=1) (size:=73) I I (dz _ _ G G) (v:=jm C) c];show Instr.fill _ ([jj .i64 i]++(C.toList++_)).toArray _ =_;rw[m,mx (A0:=[jj .i64 i]++C.toList) (off:=74) (size:=32) I (by simp[b]) I (v:=jm I0) d];show Instr.fill _ (([jj .i64 i]++C.toList)++(I0.toList++_)).toArray _ =_;rw[n,mx (A0:=[jj .i64 i]++C.toList++I0.toList) (off:=106) (size:=1) I (by simp[b,e]) I (v:=jc jd s) I];show Instr.fill _ (([jj .i64 i]++C.toList++I0.toList)++([jj .i64 s]++_)).toArray _ =_;rw[p,mx (A0:=[jj .i64 i]++C.toList++I0.toList++[jj .i64 s]) (off:=107) (size:=36) I (by simp[b,e]) I (v:=jm G0) f];rw[Instr.fill,qx]
   congr 1
   apply qo
   simp[qU]) W
 simp only[oj,g,h,Sem.run_bind,k,Result.andThen_ok,Sem.run_pure]
structure KSt(M:T)(c:A CP)(a:jb)(m:T)(Ks:A CK)(W:jg):Prop where
 own:W.ownsRow M RK.e RK.k a m (Ks.flatMap aL)
 len:m=Ks.length
 all:∀k∈Ks,KD (λb=>M<=b/\b<W.heap.size/\a.ownBlock≠N b) c W k
theorem KSt.below{d:A CP}{e:jb}{Ks:A CK}{f:jg}(h:KSt M d e m Ks W)(c:jo W W f):KSt M d e m Ks f:=
 ⟨cL h.own c,h.len,λk g=>((h.all k g).keep λb a=>c.block b a.2.1).mono λb a=>⟨a.1,jB a.2.1 c.size,a.2.2⟩⟩
theorem KSt.push{s:T}{j:A CP}{c f:jb}{Ks:A CK}{l:jg}{k:CK}(h:KSt M j c m Ks W)(o:KD (λb=>s<=b/\b<W.heap.size) j W k)(p:M<=s)(q:∀b,c.ownBlock=N b->b<s)
 (r:l.ownsRow M RK.e RK.k f (m+1) (Ks.flatMap aL++aL k)) (g:W.grownBy l c.ownBlock) (t:f.ownBlock=c.ownBlock\/f.ownBlock=N W.heap.size):KSt M j f (m+1) (Ks++[k]) l:=by
 have n:∀b,b<W.heap.size->c.ownBlock≠N b->f.ownBlock≠N b:=λb a i e=>by
  rcases t with d|d
  ·exact i (d▸e)
  rw[d]at e;cases e;omega
 refine⟨by rw[xe];simpa using r,by rw[jG,<-h.len];rfl,λx d=>?_⟩
 rcases jR.1 d with d|d
 ·exact((h.all x d).keep λb a=>g.block b a.2.1 λe=>a.2.2 e.symm).mono λb a=>⟨a.1,jB a.2.1 g.size,n b a.2.1 a.2.2⟩
 rw[qh]at d;subst d;have i:∀b,s<=b->c.ownBlock≠N b:=λb a e=>by have:=q b e;omega
 exact(o.keep λb a=>g.block b a.2 λe=>i b a.1 e.symm).mono λb a=>⟨jJ p a.1,jB a.2 g.size,n b a.2 (i b a.1)⟩
theorem DR(h:¬((aQ j M).parent=b.last/\cQ b (aQ j M)=0)):eT b j M=je:=by
 unfold eT;rw[jq h]
theorem Mj(a:(aQ j M).parent=b.last)(g:cQ b (aQ j M)=0):eT b j M=N ⟨M,aQ j M,aG (aQ j M),eS b (aQ j M).author,aC b (aQ j M)⟩:=by
 unfold eT;rw[jp ⟨a,g⟩]
theorem NM(f:H->jw C){l:A H}{j:T}{x:H}(h:l[j]?=N x):(l.take (j+1)).filterMap f=(l.take j).filterMap f++(f x).toList:=by
 have a:=(jU.1 h).1;rw[wi a,List.filterMap_append,(jU.1 h).2]
 cases hx:f x<;>simp[hx]
theorem J6(l:A Cmt)(n:T):(bU l n).Pairwise λi j=>aG (aQ l i)≠aG (aQ l j):=by
 have h:(bU l n).Pairwise (·<·):=(List.pairwise_lt_range).filter _;refine List.Pairwise.imp_of_mem (λ{i j} c a b=>?_) h;exact(oR.1 a).2 i b
theorem Kt(g:Grp)(l:A Cmt):((eP g l).map aN.id).Nodup:=by
 unfold eP;rw[List.map_filterMap,List.nodup_iff_pairwise_ne];refine(J6 l l.length).filterMap _ λi j e b a c d=>?_
 rw[Option.map_eq_some_iff]at a d;obtain⟨x,f,rfl⟩:=a;obtain⟨y,h,rfl⟩:=d;obtain⟨-,x2,k,-⟩:=tO f;obtain⟨-,y2,m,-⟩:=tO h;rw[k,m,x2,y2];exact e
structure KsD(D:T->Prop)(a:A CP)(w:jg)(v:jb)(Ks:A CK):Prop where
 row:aH D w v 143 Ks.length (Ks.flatMap aL)
 all:∀k∈Ks,KD D a w k
theorem aH.at1(h:aH D w a M R i)(b:0<R):∃g o c,a=jf (N ⟨g,o,je⟩) R c/\D g/\R<=c/\∀(j:T) v,i[j]?=N v->w.cell? ⟨g,o+j,je⟩=N v:=by
 obtain⟨-,p,c,d,e,-,f⟩:=h;obtain⟨g,o,rfl,xs,k⟩:=f b;exact⟨g,o,c,d,xs,e,k⟩
theorem Bs{P:A T}(d:P[M]?=N R){t:T}{a:jb}(b:((aG (aQ j R)).map v8)[t]?=N a):(eJ j P)[M*32+t]?=N a:=by
 have c:=(jU.1 b).1;rw[ju,dS]at c;exact(rZ (λR=>(aG (aQ j R)).map v8) 32 P (λx _=>by rw[ju,dS]) M t R d c).trans b
theorem Ry{q:CQ}(b:(p.parent.map v8)[M]?=N a):(aF p q)[2+M]?=N a:=by
 unfold aF;rw[show 2+M=M+1+1 by omega,qv,qv,qT (jU.1 b).1];exact b
theorem mQ(h:bW w b a f):∀g∈aD b a f,g.oneCell'=jk:=by
 intro g vm;obtain⟨p,c,d,-,-⟩:=h.mem.form;obtain⟨vt,n',i,e⟩:=gN h.tree;rw[d,e]at vm;unfold aD at vm;rw[jD,jD,jR]at vm
 rcases vm with rfl|rfl|vm|vm
 ·rfl
 ·rfl
 ·exact gS _ g vm
 simp only[jD,xR,or_false]at vm
 rcases vm with rfl|rfl<;>rfl
structure Sq(g:Grp)(c:Cmt)(w w':jg)(X:js jb)(a:ja):Prop where
 sz:X.size=36
 one:X.all (·.oneCell')=jk
 eq:a=cQ g c
 new:a=0->∃vm vt,X=(aD (aC g c) vm vt).toArray/\dO (λk=>w.heap.size<=k/\k<w'.heap.size) w' (aC g c) vm vt
 bel:jo w w w'
theorem AQ(g:Grp)(vm vt:jb)(c:Cmt)(q:CQ)(w:jg)(h:bW w g vm vt)(i:aZ (·<w.heap.size) w c q)(j:da (aR c))(k:bP w)(l:g.mem.length<=900000)(m:g.tree.length<=600000):
 jz jl 26 #[jm (aD g vm vt).toArray,jm (aF c q).toArray] w λe w'=>∃X d,e=jv (jZ #[jm X,jc jd d])/\Sq g c w w' X d:=by
 refine(Dr g vm vt c q w h i j k l m).mono ?_;rintro e w' ⟨n,o,f⟩
 by_cases a:cQ g c=0
 ·obtain⟨p,r,rfl,b,s,t⟩:=n a
  refine⟨_,0,I,by rw[jL,eX b.llen],?_,a.symm,λ_=>⟨p,r,I,dO.of b s t⟩,f⟩;rw[p6];exact λu v=>mQ b u (ak v)
 obtain rfl:=o a;exact⟨_,_,I,I,by kernel_rfl,rfl,λh=>jA h a,f⟩
theorem KD.of{a:A CP}{i:T}{s:ja}{p:CP}{d:LBy}{g:Grp}{b c:jb}(e:a[i]?=N p)(f:dO D w g b c)(h:d.length=32):KD D a w ⟨i,p,d,s,g,b,c⟩:=⟨e,f,h⟩
theorem CK.cand_of{q:CQ}:(⟨M,(p,q),r,d,b,a,f⟩:CK).cand=⟨M,p,r,d,b⟩:=I
theorem Aj(i:T)(s:ja)(c:Cmt)(q:CQ)(d:LBy)(g:Grp)(a b:jb):
 (#[jj .i64 (i:T)]++(aF c q).toArray++(d.map v8).toArray++ #[jj .i64 s]++(aD g a b).toArray).toList=aL ⟨i,(c,q),d,s,g,a,b⟩:=by
 simp only[Array.toList_append,qL,aL]
 rfl
theorem KsD.mono{a:A CP}{v:jb}{Ks:A CK}(h:KsD D a w v Ks)(c:∀b,D b->E b):KsD E a w v Ks:=⟨h.row.mono c,λk b=>(h.all k b).mono c⟩
theorem Qz{n:A CP}{q:jw jM}{Ks:A CK}(t:cC w a n)(v:KSt M n (jf q R m) R Ks w)(D:R<=1000000)(E:M<=w.heap.size)(F:(Ks.map λk=>k.id).Nodup)
 {o u:T} (H:lu w o u) (K:(qz q R m).ownBlock≠N o) (P:(qz q R m).ownBlock≠N u):
 jz jl 79 #[jf q R m,.func (.func 198) #[] #[jI (N ⟨o,0,je⟩)]] w λe w'=>
  e=jv (jZ #[])/\∃d,KsD (λb=>M<=b/\b<w'.heap.size) n w' (jf q R m) d/\d.map CK.cand=(Ks.map CK.cand).mergeSort leC/\jo M w w':=by
 rcases v.own.2 with⟨i,W⟩|⟨g,aa,Um,i,h2,h3,h4⟩
 ·injection i with i y r
  subst i;subst y;subst r;obtain rfl:Ks=[]:=xT v.len.symm;refine(Tryzx.sortFunc_noneK _ _ _ w).mono ?_;rintro e w' ⟨rfl,rfl⟩;exact⟨I,[],⟨aH.of_own v.own (λg d=>v.own.lt g d),λk s=>by cases s⟩,by simp,lw _ _⟩
 injection i with i y r
 subst i;subst r;obtain⟨d,j⟩:∃d:A CW,d.map (·.1)=Ks:=⟨Ks.attach.map λk=>(v.all k.1 k.2).cw t,by rw[ob];exact xU Ks⟩;have z:d.length=R:=by rw[v.len,<-j,ju]
 have Q:dw EKK M w w g R m d:=⟨by rw[FY,j];exact v.own,z.symm,lw _ _,E⟩;have B:∀x∈d,x.1∈Ks:=λx l=>by rw[<-j];exact sx l
 refine(OU d (by have h:=F;rw[<-j,ob]at h;exact h) M g R m w w Q D (λx l=>v.all x.1 (B x l)) t H (λe=>K (e▸I)) (λe=>P (e▸I))).mono ?_;rintro e w' ⟨rfl,c,S,C,U⟩;have hs:(mg d).length=R:=(Tp d).trans z;refine⟨I,(mg d).map (·.1),⟨?_,?_⟩,?_,S⟩
 ·have h:=c
  unfold EK.At at h;rw[FY]at h;obtain⟨V,p,X,f,h6,h7,h8⟩:=h;rw[ju];refine⟨V,p,X,f,h6,h7,λW=>?_⟩;obtain⟨g',o',rfl,h9⟩:=h8 W;injection f with f _ _
  injection f with f
  injection f with f e6
  subst f;exact⟨_,_,I,⟨(v.own.lt _ I).1,jB (v.own.lt _ I).2 C⟩,h9⟩
 ·intro k s
  obtain⟨x,l,rfl⟩:=jy.1 s;refine((v.all _ (B x (M0.1 l))).keep λb f=>U b f.2.1 λe=>f.2.2 (e▸I)).mono λb f=>⟨f.1,jB f.2.1 C⟩
 have h:=S2 d;rw[ob];refine Eq.trans h ?_;rw[<-j,ob]
 rfl
theorem ED(B:A CP)(v1 v2 v3:jb)(g:Grp)(vm vt:jb)(w:jg)(f:iq (·<w.heap.size) w v1 v2 v3 B)(a:bW w g vm vt)(C:∀p∈B,da (aR p.1))(hT:bP w)(hn:B.length<=1000)(K:g.mem.length<=900000)(E:g.tree.length<=600000):
 jz jl 31 #[jm #[v1,v2,v3],jm (aD g vm vt).toArray] w λe w'=>∃v Ks,e=jv v/\KsD (λb=>w.heap.size<=b/\b<w'.heap.size) B w' v Ks/\Ks.map CK.cand=ff g (B.map (·.1))/\jo w w w':=by
 obtain⟨l,u⟩:∃l:A Cmt,l=B.map (·.1):=⟨_,I⟩;obtain⟨W,r⟩:=J (bU l B.length);have bk:W.length<=1000:=by rw[r];have:=rU l B.length;omega
 have h2:=f.ids;have t:=f.at_;rw[<-u,<-r]at h2 t;obtain⟨p1,k1,rfl⟩:=f.list.form;obtain⟨p2,k2,rfl⟩:=h2.form;obtain⟨p3,k3,rfl⟩:=t.form;obtain⟨pm,d,Q,-,-⟩:=a.mem.form;obtain⟨pt,nt,ct,S⟩:=gN a.tree;have HL:=O f.list;have HI:=O h2;have HA:=O t;have HE:=O C;have HT:=O hT;have HG:=O a;have VW:=O K;have Wn:=O E;have YW:=O u;have We:=O r;obtain⟨n,x⟩:=J B.length;obtain⟨D,y⟩:=J W.length;have Zo:=O x;have a3:=O y;rw[<-x]at hn⊢;rw[<-y]at bk HI HA⊢;obtain⟨ac,m⟩:=J ((aD g vm vt).toArray);have Yj:=O m;have a4:ji (ac.size=VG.n):=O (by rw[m,jL,eX a.llen];rfl);have bl:ji (∀(j:T) o,(g.last.map v8)[j]?=N o->ac[2+j]?=N o):=O λj o hj=>by
  have h:=(dF.last (vm:=vm) (vt:=vt) (dF.new w a.llen)) j o hj;rw[World.cell?_alloc_new]at h;rw[m];exact h
 have Vn:=O a.llen;rw[<-m];obtain⟨M,q⟩:=J w.heap.size;have HM:=O q;obtain⟨R,c⟩:=J ((w.alloc (jh #[jf p1 n k1,jf p2 D k2,jf p3 D k3] 75)).alloc (jh ac 51));have z:R.heap[M]?=N (jh #[jf p1 n k1,jf p2 D k2,jf p3 D k3] 75 (0,0)):=by rw[c,q];exact av (jC w _) (ao _ _)
 have F:R.heap[M+1]?=N (jh ac 51 (0,0)):=by
  have h:=jC (w.alloc (jh #[jf p1 n k1,jf p2 D k2,jf p3 D k3] 75)) (jh ac 51);rw[jK]at h;rw[c,q];exact h
 have H:jo w w R:=by rw[c];exact(ao _ _).trans ((ao _ _).mono ar)
 have ax:ji (R.heap.size=M+2):=O (by rw[c,q,jK,jK]);have YR:=O z;have a5:=O F;have Uh:=O H;have P:=O c;have U:=ah (i:=2) z I;have UP:=O (lw R.heap.size R);have Yi:ji (KSt (M+2) B (jf je 0 0) 0 [] R):=O ⟨qD _ _ _ _,I,λk hk=>by cases hk⟩;clear c z F H q m x y u r h2 t f a C hT K E Q S
 go_enter func31,ntmps31
 go_upto_region 1 with fail
 rw[<-P,<-HM];clear P
 go_wp2_with fail
 clear U
 go_loopw [4,13] (λa v wr=>∃(j m:T) (q:jw jM) (c:T) (Ks:A CK),v=jc jd j/\a=jf q m c/\j<=D/\ji (KSt (M+2) B (jf q m c) m Ks wr)/\ji (Ks.map CK.cand=(W.take j).filterMap (eT g l))/\ji (jo R R wr)) (λ_ v _=>D-(jF v).toNat)
 case atStart=>exact⟨0,0,je,0,[],I,I,n0 _,Yi,O I,UP⟩
 obtain⟨j,m,q,c,Ks,rfl,rfl,hj,f,F,r⟩:=hrel
 by_cases bm:j<D
 case neg=>
  have hd:=aw ((j:ja)<(D:ja));have UC:=aw (j<D);obtain rfl:j=D:=Y;have t:ji (Ks.map CK.cand=eP g (B.map (·.1))):=O (by
   have h:=F.out;rw[a3,xW,We,YW]at h;unfold eP;rw[ju];exact h)
  have Q:ji ((Ks.map λk=>k.id).Nodup):=O (by
   have h:=Kt g (B.map (·.1));rw[<-t,ob]at h;exact h)
  have a1:ji (m<=1000):=O (by have h:=jS qK F;have h2:=xg (eT g l) (W.take j);rw[ju,<-f.len]at h;rw[xh]at h2;omega);have U:ji (M+2<=wr.heap.size):=O (by rw[<-ax];exact r.size);have E:jo w w wr:=Uh.trans (r.mono Uh.size);have u:=O E;clear E
  go_wp2_with fail
  refine(MM wr).mono ?_;rintro e y ⟨V,X,rfl,x,z,H,a⟩;have aa:=O (f.below a);replace u:=ai u a;have C:=O (Qz (HL.below u) aa (aI a1) (jJ U a.size) Q x (λe=>by have:=(f.own.lt V e).2;omega) (λe=>by have:=(f.own.lt X e).2;omega));clear x z H a
  go_wp2_with fail
  refine C.mono ?_;rintro e z ⟨rfl,ad,x,H,P⟩;have HD:=O x;have ZR:=O H;have Ug:ji (jo w w z):=O (u.trans (P.mono (by rw[HM];omega)));clear x H P C
  go_wp2_with fail
  go_ret;refine⟨_,ad,I,HD.mono λb S=>⟨by rw[<-HM];omega,S.2⟩,?_,Ug⟩;rw[ZR,t]
  rfl
 have hd:=az ((j:ja)<(D:ja));have UC:=az (j<D);obtain⟨i,y⟩:∃i,W[j]?=N i:=⟨_,j7 (by rw[<-a3];exact bm)⟩;have bn:i<n:=by
  have h:=j1 y;rw[We,<-Zo]at h;exact(oR.1 h).1
 obtain⟨ga,oa,ka,e3,au,-,X⟩:=HA.at1 Y;injection e3 with e1 _ e2
 subst e1;subst e2;obtain⟨U,oi,ki,e4,aa,-,Q⟩:=HI.at1 Y;injection e4 with e1 _ e2
 subst e1;subst e2;obtain⟨⟨d,qm⟩,H⟩:∃p,B[i]?=N p:=⟨_,j7 (by rw[<-Zo];exact bn)⟩;obtain⟨gl,ol,kl,e5,K,-,-,ad⟩:=HL.elem H;injection e5 with e1 _ e2
 subst e1;subst e2;have V:=j1 H;have E:jo w w wr:=Uh.trans (r.mono Uh.size);have u:=O E;have ca:wr.cell? ⟨ga,oa+j,je⟩=N (jc jd (i:T)):=aB (X j _ (by unfold fQ;rw[o8,y];rfl)) E;have bo:ji (w.rangeAt U (oi+j*32) ((aG (aQ l i)).map v8)):=O λt o x=>by
  rw[qn];exact Q _ o (Bs y x)
 have bI:ji (wr.rangeAt U (oi+j*32) ((aG (aQ l i)).map v8)):=O λt o x=>by
  rw[qn];exact aB (Q _ o (Bs y x)) E
 have UZ:ji (wr.rangeAt gl (ol+i*73) (aF d qm)):=O λj o hj=>aB (ad j o hj) E
 have HQ:=O (HL.all _ V);have bp:=O (HE _ V);have bq:=O H;have ZR:ji (aQ l i=d):=O (by unfold aQ;rw[YW];simp[qy,H]);have Vh:ji ((aF d qm).length=VC.n):=O (dz d qm HQ.plen HQ.clen);have br:=O y;have a6:ji (U<w.heap.size):=O aa;have c0:=aB (ah (i:=0) YR I) r;obtain⟨C,P⟩:=J ((aF d qm).toArray);have WS:=O P;have Wo:ji (C.size=VC.n):=O (by rw[P,jL];exact Vh);have UB:ji (C.all (·.oneCell')=jk):=O (by
  rw[P,p6];exact λo hu=>nj HQ o (ak hu))
 clear P V H ad X Q au aa K y E
 go_upto_region 5 with(first|(refine VC.load aj I I (aF d qm) Vh UZ ?_;rw[<-WS];refine L ?_)|(refine VC.made I I (L ?_))|(refine VC.first I I I C I Wo UB (L ?_)))
 obtain⟨x1,bc,E,S,y,a⟩:=dt wr C VC.t;rw[<-E,<-S];replace f:=O (f.below a);replace r:=ai r a;replace u:=ai u a;have Z6:ji (M+2<=x1.heap.size):=O (by rw[<-ax];exact r.size);have U5:ji (∀b,(qz q m c).ownBlock=N b->b<x1.heap.size):=O λb S=>(f.own.lt b S).2
 have V:ji (x1.rangeAt bc 2 (d.parent.map v8)):=O λt o x=>ah y.out (by rw[WS];simpa using Ry x)
 have ay:ji (x1.heap[M+1]?=N (jh ac VG.t (0,0))):=O (av a5 r);have a2:ji (x1.rangeAt (M+1) 2 (g.last.map v8)):=O λt o x=>ah ay (bl t o x)
 have ba:ji ((d.parent.map v8).length=VD.n):=O (by rw[ju,HQ.plen];rfl);have bb:ji ((g.last.map v8).length=VD.n):=O (by rw[ju,Vn];rfl);obtain⟨TL,H⟩:=J ((g.last.map v8).toArray);obtain⟨TP,K⟩:=J ((d.parent.map v8).toArray);obtain⟨bd,P⟩:=J (decide (d.parent=g.last));have bf:=O H;have bg:=O K;have bh:=O P;have Q:∀z,(Op.equalIn 10000 23 (jm TP) (jm TL)).run jl z=.ok bd z:=by
  rw[H,K,P];exact λz=>nQ d.parent g.last HQ.plen Vn z
 have Yu:=O (NM (eT g l) br);clear E S a H K P ca c0 UZ
 rcases bd with _|_
 ·have ad:ji (Ks.map CK.cand=(W.take (j+1)).filterMap (eT g l)):=O (by
   rw[Yu,DR (λh=>by have e:=bh.out;rw[<-ZR,xk h.1]at e;cases e)];rw[xX,qx];exact F)
  go_wp2_with (first|(refine VD.load aj I I (d.parent.map v8) ba V ?_;rw[<-bg];refine L ?_)|(refine VD.load aj I I (g.last.map v8) bb a2 ?_;rw[<-bf];refine L ?_))
  exact⟨⟨j+1,m,q,c,Ks,by go_num,rfl,by omega,f,ad,r⟩,by simp only[jF];omega⟩
 go_upto_region 6 with(first|(refine VD.load aj I I (d.parent.map v8) ba V ?_;rw[<-bg];refine L ?_)|(refine VD.load aj I I (g.last.map v8) bb a2 ?_;rw[<-bf];refine L ?_))
 have bs:ji (d.parent=g.last):=O (of_decide_eq_true bh.symm);clear Q
 go_upto_region 7 with(first|(refine VG.loadA aj I I ac a4 ay (L ?_))|(refine VC.loadA aj I I C Wo y (L ?_)))
 have H:=AQ g vm vt d qm x1 (HG.below u) (HQ.below u) bp (HT.below u) VW Wn;rw[<-Yj,<-WS]at H;refine H.mono ?_;clear H;rintro e x2 ⟨X,er,rfl,H⟩;have a:=H.bel;have HN:=O H;have YI:=ae y a;replace f:=O (f.below a);replace r:=ai r a;replace u:=ai u a;have bK:ji (x1.heap.size<=x2.heap.size):=O a.size;clear H a
 go_upto_region 7 with(first|(refine VG.made I I (L ?_))|(refine VG.first I I I X I HN.sz HN.one (L ?_)))
 obtain⟨x3,bx,E,S,H,a⟩:=dt x2 X VG.t;rw[<-E,<-S];have UD:ji (bx=x2.heap.size):=O S;have K:=ae YI a;replace f:=O (f.below a);replace r:=ai r a;replace u:=ai u a;have au:=O a;clear E S a
 by_cases Z8:er=0
 case neg=>
  have bu:(er==0)=jr:=by simp[Z8]
  have bv:decide (er=0)=jr:=by simp[Z8]
  have ad:ji (Ks.map CK.cand=(W.take (j+1)).filterMap (eT g l)):=O (by
   rw[Yu,DR (λh=>Z8 (by rw[HN.eq,<-ZR];exact h.2))];rw[xX,qx];exact F)
  go_wp2_with fail
  exact⟨⟨j+1,m,q,c,Ks,by go_num,rfl,by omega,f,ad,r⟩,by simp only[jF];omega⟩
 have bu:(er==0)=jk:=by simp[Z8]
 have bv:decide (er=0)=jk:=by simp[Z8]
 obtain⟨um,ut,P,Q⟩:=HN.new Z8;have ad:ji ((W.take (j+1)).filterMap (eT g l)=Ks.map CK.cand++[⟨i,d,aG d,eS g d.author,aC g d⟩]):=O (by
  rw[Yu,Mj (by rw[ZR];exact bs) (by rw[ZR,<-HN.eq];exact Z8),ZR,<-F]
  rfl)
 have V9:=O P;have Vj:ji (dO (λk=>x1.heap.size<=k/\k<x2.heap.size) x2 (aC g d) um ut):=O Q;clear P Q
 go_upto_region 8 with fail
 have bi:ji (((aG d).map v8).length=VD.n):=O (by rw[ju,dS];rfl);have bw:ji (C[34]?=N (jc jd d.author)):=O (by
  have h:(aF d qm)[2+32]?=N (jc jd d.author):=by
   unfold aF;rw[show 2+32=32+1+1 by rfl,qv,qv,qE (by rw[ju,HQ.plen];exact jE _),ju,HQ.plen]
   rfl
  rw[WS];simpa using h)
 have aa:ji (x3.rangeAt U (oi+j*32) ((aG d).map v8)):=O (by
  have h:=bo.out;rw[ZR]at h;exact λt o x=>aB (h t o x) u)
 have bA:ji (∀b,b<M->(qz q m c).ownBlock≠N b):=O λb S e=>by have:=(f.own.lt b e).1;omega
 have a1:ji (m<=1000):=O (by have h:=jS qK F;have h2:=xg (eT g l) (W.take j);rw[ju,<-f.len]at h;rw[xh]at h2;omega);have P:=O (av YR r);have Q:=O (av a5 r);clear YI V ay a2 F y;refine o1 ?_;refine fM (λF=>F.heap[bc]?=N (jh C VC.t (0,0))/\F.heap[M]?=N (jh #[jf (N ⟨gl,ol,je⟩) n k1,jf (N ⟨U,oi,je⟩) D k2,jf (N ⟨ga,oa,je⟩) D k3] 75 (0,0))/\F.heap[M+1]?=N (jh ac VG.t (0,0))/\F.heap[bx]?=N (jh X VG.t (0,0))/\F.rangeAt U (oi+j*32) ((aG d).map v8)) 17
  (.take 0 (.take 1 (.take 2 (.take 3 (.take 4 (.take 5 (.take 6 (.take 7 (.take 8 (.take 9 (.take 10 (.take 12 (.one 11 (.take 13 (.one 14 (.one 15 (.take 16 .done))))))))))))))))) af af af af G (λ_ _ _ _ h=>h) ⟨K,P,Q,H,aa⟩ ?_
 obtain⟨x4,E⟩:=J x3.drew;have a:=bX x3;rw[<-E]at a⊢;replace f:=O (f.below a);replace r:=ai r a;replace u:=ai u a;replace K:=ae K a;replace P:=ae P a;replace Q:=ae Q a;replace H:=ae H a;replace au:=ai au a;replace aa:ji (x4.rangeAt U (oi+j*32) ((aG d).map v8)):=O (λt o x=>aB (aa t o x) a);clear E a;iterate 2 refine co ?_
 (refine cJ (v:=jm C) I aj (λF y=>dh VC.hu VC.hd (by rw[Wo];exact VC.hi) I I y.1) ?_;refine L ?_)
 refine co ?_
 (refine cJ (v:=?_) I aj (λF y=>?_) ?_;rotate_left;(have V:=ah (i:=1) y.2.1 I;clear y;go_simp;with_reducible rfl);refine L ?_)
 iterate 2 refine co ?_
 (refine cJ (v:=jm ((aG d).map v8).toArray) I aj (λF y=>fx _ _ VD.t _ I _ _ I _ VD.d y.2.2.2.2 VD.hu VD.hd (by rw[bi];exact VD.hi)) ?_;refine L ?_)
 (refine cJ (v:=jm ac) I aj (λF y=>dh VG.hu VG.hd (by rw[a4];exact VG.hi) I I y.2.2.1) ?_;refine L ?_)
 refine co ?_
 (refine cJ (v:=?_) I aj (λF y=>?_) ?_;rotate_left;(have V:=ah (i:=34) y.1 bw;clear y;go_simp;with_reducible rfl);refine L ?_)
 (refine cJ (v:=jm X) I aj (λF y=>dh VG.hu VG.hd (by rw[HN.sz];exact VG.hi) I I y.2.2.2.1) ?_;refine L ?_)
 refine cV I (λK' hK=>?_);go_simp;have V:=Sz g vm vt d.author x4 (HG.below u) VW;rw[<-Yj]at V;refine V.mono ?_;clear V;rintro e x5 ⟨rfl,a⟩;replace f:=O (f.below a);replace r:=ai r a;replace u:=ai u a;replace K:=ae K a;replace P:=ae P a;replace Q:=ae Q a;replace H:=ae H a;replace au:=ai au a;replace aa:ji (x5.rangeAt U (oi+j*32) ((aG d).map v8)):=O (λt o x=>aB (aa t o x) a);refine hK _ _ ⟨K,P,Q,H,aa⟩ λ_=>?_
 clear hK a;refine L ?_;obtain⟨V,hT⟩:=J ((#[jj .i64 (i:T)]++C++((aG d).map v8).toArray++ #[jj .i64 (eS g d.author)]++X))
 (refine cJ (v:=jm V) I aj (λF y=>by rw[hT];exact zt (i:=(i:T)) (s:=eS g d.author) (C:=C) (I0:=((aG d).map v8).toArray) (G0:=X) Wo.out (by rw[jL];exact bi) HN.sz I af F) ?_;refine L ?_)
 obtain⟨k,hk⟩:∃k:CK,k=⟨i,(d,qm),aG d,eS g d.author,aC g d,um,ut⟩:=⟨_,I⟩;have Wn:ji (V.toList=aL k):=O (by rw[hT,hk,WS,V9];exact Aj _ _ _ _ _ _ _ _);have y:ji (KD (λb=>x1.heap.size<=b/\b<x5.heap.size) B x5 k):=O (by
  rw[hk];exact KD.of bq (Vj.below au) (dS d))
 have YD:ji (V.size=143):=O (by rw[<-qb,Wn];exact y.len HL);have Vf:ji (∀o∈V.toList,o.oneCell'=jk):=O (by rw[Wn];exact y.ones HL);have a2:ji (k.cand=⟨i,d,aG d,eS g d.author,aC g d⟩):=O (by rw[hk];exact CK.cand_of);clear hT hk;refine cV I (λK' hK=>?_);rw[jp aj];refine RK.wp_build (.tmp 49) I (jm V) I YD ?_;have a:=ao x5 (jh V RK.e);have F:=jC x5 (jh V RK.e);obtain⟨x6,E⟩:=J (x5.alloc (jh V RK.e));obtain⟨bt,ay⟩:=J x5.heap.size;have bB:x6.heap.size=bt+1:=by rw[E,jK,ay]
 have e0:(qV V).cells=V:=I;rw[e0,<-E,<-ay];rw[<-E]at a F;rw[<-ay]at F;have bC:=O F;replace f:=O (f.below a);replace r:=ai r a;replace u:=ai u a;replace K:=ae K a;replace P:=ae P a;replace Q:=ae Q a;replace H:=ae H a;replace aa:ji (x6.rangeAt U (oi+j*32) ((aG d).map v8)):=O (λt o x=>aB (aa t o x) a);replace y:=O (y.below a);refine hK _ _ ⟨K,P,Q,H,aa⟩ λ_=>?_
 clear hK a E F ay bB e0;refine L ?_;refine cV I (λK' hK=>?_);rw[jp aj];refine RK.wp_append (.tmp 36) (.tmp 50) I (M+2) (jf q m c) m (Ks.flatMap aL) I f.own bt V I bC YD Vf (aI a1) (by rw[<-ax];exact r.size) ?_;intro v' F E a hv;obtain⟨q',c',rfl⟩:=cK E;have ay:ji (KSt (M+2) B (jf q' (m+1) c') (m+1) (Ks++[k]) F):=O (by
  rw[Wn]at E;exact f.push y Z6 U5 E a hv)
 have ZJ:ji (jo R R F):=O (r.trans ⟨a.os,a.tape,a.output,a.size,λk' Zy=>a.block k' (jB Zy r.size) λe=>by have:=(f.own.lt k' e.symm).1;rw[<-ax]at this;omega⟩);refine hK _ _ ⟨?_,?_,?_,?_,?_⟩ λ_=>?_
 ·exact(a.block _ (jQ.1 K).1 λe=>cO f.own K G e.symm).trans K
 ·exact(a.block _ (jQ.1 P).1 λe=>cO f.own P G e.symm).trans P
 ·exact(a.block _ (jQ.1 Q).1 λe=>cO f.own Q G e.symm).trans Q
 ·exact(a.block _ (jQ.1 H).1 λe=>cO f.own H G e.symm).trans H
 ·intro t o x
  have e1:=a.block U (jB a6 u.size) λe=>bA U (by rw[HM];exact a6) e.symm
  have h:=aa t o x;unfold World.cell? at h⊢;dsimp only at h⊢;rw[e1];exact h
 clear hK E a hv;refine L ?_;refine co ?_;refine fb ?_;have a:ji ((Ks++[k]).map CK.cand=(W.take (j+1)).filterMap (eT g l)):=O (by
  rw[j5,ad,jW,ql,a2])
 go_wp2_with fail
 exact⟨⟨j+1,m+1,q',c',Ks++[k],by go_num,rfl,by omega,ay,a,ZJ⟩,by simp only[jF];omega⟩
structure D4(Ks:A CK)(F:T)(caps:js jb)(w:jg)(p:CK->jT):Prop where
 enter:∀args w,(r7 F args).run jl w=.ok (.enter F args) w
 call:∀x∈Ks,∀w',jo w w w'->jz jl F (#[jm (aL x).toArray]++caps) w' λe a=>e=jv (.bool (p x))/\jo w' w' a
theorem RZ{Ks:A CK}{X:js jb}{p:CK->jT}(a:D4 Ks M X w p)(v:jb)(h:cF w v 143 Ks.length (Ks.flatMap aL))(d:∀k∈Ks,(aL k).length=143)(H:Ks.length<=1000000):
 jz jl 142 #[v,.func (.func M) #[] X] w λe w'=>∃r,e=jv (jc jd r)/\mU p Ks r/\jo w w w':=by
 obtain⟨-,q,c,rfl,K,-,g⟩:=h;have EG:=a.enter;have F:=O a;have u:=O g;have f:=O d;obtain⟨n,b⟩:=J Ks.length;have z:=O b;rw[<-b]at H K u⊢;clear b a g d
 go_enter func142,ntmps142
 go_wp2_with fail
 go_loopw [8] (λi wr=>∃k:T,i=jc jd k/\k<=n/\ji (∀y∈Ks.take k,p y=jr)/\ji (jo w w wr)) (λi _=>n-(jF i).toNat)
 case atStart=>exact⟨0,I,n0 _,O ar,O (lw _ _)⟩
 obtain⟨k,rfl,hk,i,b⟩:=hrel
 by_cases P:k<n
 ·have Q:=az ((k:ja)<(n:ja))
  have R:=az (k<n);obtain⟨e,he,x⟩:=dL (l:=Ks) (j:=k) (by rw[<-z];exact P);have a:=j1 he;obtain⟨g,o,rfl,B⟩:=u Y;have d:=O (F.call e a wr b);obtain⟨r,m⟩:=J (p e);rw[<-m]at d;have C:=O m;have S:=O x;have U:=O he;have V:ji ((aL e).length=VK.n):=O (f e a);have D:ji (wr.rangeAt g (o+k*143) (aL e)):=O λt W E=>by
   rw[qn];exact aB (B _ W ((rZ aL 143 Ks f k t e he (by rw[<-f e a];exact(jU.1 E).1)).trans E)) b
  obtain⟨caps,s⟩:=J ((aL e).toArray);rw[<-s]at d;have HX:=O s;clear B he x m a s
  go_wp2_with (first|(refine VK.load aj I I (aL e) V D ?_;rw[<-HX];refine L ?_))
  refine(d).mono ?_;rintro x s ⟨rfl,a⟩;have m:=ai b a;clear a d D
  rcases r with _|_
  ·go_wp2_with fail
   exact⟨⟨k+1,by go_num,by omega,O (by
    rw[S];intro y a
    rcases jR.1 a with a|a
    ·exact i y a
    rw[qh]at a;rw[a];exact C.symm),m⟩,by simp only[jF];omega⟩
  go_wp2_with fail
  go_ret;exact⟨_,I,.inr ⟨k,_,I,U,C.symm,i⟩,m⟩
 have Q:=aw ((k:ja)<(n:ja));have R:=aw (k<n);obtain rfl:k=n:=Y
 go_wp2_with fail
 go_ret;exact⟨_,I,.inl ⟨I,by have h:=i.out;rw[qf (by rw[<-z];exact jE _)]at h;exact h⟩,b⟩
theorem NS{Ks:A CK}{F:T}{caps:js jb}{p:CK->jT}(d:D4 Ks F caps w p)(v:jb)(h:cF w v 143 Ks.length (Ks.flatMap aL))(a:∀k∈Ks,(aL k).length=143)(b:Ks.length<=1000000):
 jz jl 81 #[v,.func (.func F) #[] caps] w λe w'=>e=jv (.bool (Ks.any p))/\jo w w w':=by
 have c:=O (RZ d v h a b);clear h a b
 go_enter func81,ntmps81
 go_wp2_with fail
 refine(c).mono ?_;rintro x h ⟨r,rfl,a,b⟩;have f:=O a.any;have g:=O b;clear a b c
 go_wp2_with fail
 go_ret;exact⟨iy f,g⟩
theorem JY(d:ja)(b:T)(x:ap)(w:jg)(h:Boxed w b 3 (jc jd d)):
 jz jl 143 #[jm x.cells.toArray,jI (N ⟨b,0,je⟩)] w λe w'=>e=jv (.bool (x.k==2&&x.d==d))/\jo w w w':=by
 obtain⟨a,f,i,j,k⟩:=x;obtain⟨r,c⟩:=J ((a==2&&f==d));show jz _ _ _ _ λe w'=>e=jv (.bool (a==2&&f==d))/\_
 rw[<-c];have l:=O c;unfold ap.cells;have g:=ao w (jh #[jc jd a,jc jd f,jc jd i,jc jd j,jc jd k] 61);have o:(w.alloc (jh #[jc jd a,jc jd f,jc jd i,jc jd j,jc jd k] 61)).cell? ⟨b,0,je⟩=N (jc jd d):=aB h.cell g;have m:=O g;clear c g h
 by_cases c:a=2
 ·have g:(a==2)=jk:=ak c
  have h:decide (a=2)=jk:=ak c;have n:ji (r=(f==d)):=O (by rw[l];simp[c]);clear c
  go_enter func143,ntmps143
  go_wp2_with fail
  go_ret;exact⟨iy n.symm,m⟩
 have g:(a==2)=jr:=ak c;have h:decide (a=2)=jr:=ak c;obtain rfl:r=jr:=by rw[l,g];rfl
 clear c
 go_enter func143,ntmps143
 go_wp2_with fail
 go_ret;exact⟨I,m⟩
theorem Lz(d:ja)(b a:T)(c:b<a):fT EC 143 #[jI (N ⟨b,0,je⟩)] a (λW=>Boxed W b 3 (jc jd d)) (λx=>x.k==2&&x.d==d) where
 enter _ _:=I
 keep w w' hn h hB:=(hB.block b c).trans h
 call x w hn h:=JY d b x w h
theorem NX(k:CK)(d:ja)(w:jg)(h:KIn w k)(g:k.p.1.chg.length<=1000000):
 jz jl 83 #[jm (aL k).toArray,jc jd d] w λe w'=>e=jv (.bool (oX k.p.1 d))/\jo w w w':=by
 have b:=ao w (jh (aL k).toArray 79);have c:=b.trans ((ao (w.alloc (jh (aL k).toArray 79)) (jh #[jc jd d] 3)).mono b.size);have j:((w.alloc (jh (aL k).toArray 79)).alloc (jh #[jc jd d] 3)).heap[w.heap.size]?=N (jh (aL k).toArray 79 (0,0)):=av (jC w _) (ao _ _);have l:Boxed ((w.alloc (jh (aL k).toArray 79)).alloc (jh #[jc jd d] 3)) (w.heap.size+1) 3 (jc jd d):=by
  have h:=jC (w.alloc (jh (aL k).toArray 79)) (jh #[jc jd d] 3);rw[jK]at h;exact h
 have f:=ah (i:=36) (v:=k.p.2.vc) j (by simpa using(mG h).2.2.1);have a:=O (Bg (Lz d (w.heap.size+1) (w.heap.size+2) Y) k.p.1.chg k.p.2.vc _ (EK.At.of_sl (h.com.below c).chg) l (by rw[jK,jK];exact jE _) g);have m:=O c;obtain⟨r,s,o⟩:=h.com.chg.form;rw[o]at f a;obtain⟨n,p⟩:=J k.p.1.chg.length;rw[<-p]at f a;obtain⟨X,q⟩:=J ((aL k).toArray);rw[<-q]at f a m⊢;clear b c j l h q o p g
 go_enter func83,ntmps83
 go_wp2_with fail
 refine a.mono ?_;rintro e x1 ⟨rfl,b⟩;have c:=ai m b;clear b a
 go_wp2_with fail
 go_ret;exact⟨I,c⟩
theorem GT(k:CK)(w:jg)(h:KIn w k)(D:k.p.1.chg.length<=1000000):
 jz jl 84 #[jm (aL k).toArray] w λe w'=>e=jv (jc jd (nz k.p.1:T))/\jo w w w':=by
 have b:=ao w (jh (aL k).toArray 79);have d:=ah (i:=36) (v:=k.p.2.vc) (jC w (jh (aL k).toArray 79)) (by simpa using(mG h).2.2.1);have a:=EK.At.of_sl (E:=EC) (h.com.below b).chg;obtain⟨l,g⟩:=J k.p.1.chg;have m:nz k.p.1=l.countP λx=>x.k==2:=by rw[g];rfl
 rw[<-g]at a D;obtain⟨q,c,f,M,-⟩:=a.form;rw[f]at d a;rw[m];have s:=O a;have t:=O b;obtain⟨n,j⟩:=J l.length;have F:=O j;rw[<-j]at d s D M;obtain⟨X,o⟩:=J ((aL k).toArray);rw[<-o]at d s t⊢;clear b h o g m a f j
 go_enter func84,ntmps84
 go_wp2_with fail
 obtain⟨H,a⟩:=J (w.alloc (jh X 79));rw[<-a]at d s t⊢;clear d a
 go_loopw [2,9] (λm i wr=>∃j:T,i=jc jd j/\m=jc jd ((l.take j).countP λx=>x.k==2:T)/\j<=n/\ji (jo w w wr)/\ji (jo H H wr)) (λ_ i _=>n-(jF i).toNat)
 case atStart=>exact⟨0,I,I,n0 _,t,O (lw _ _)⟩
 obtain⟨j,rfl,rfl,U,h,a⟩:=hrel
 by_cases P:j<n
 case neg=>
  have Q:=aw ((j:ja)<(n:ja));have R:=aw (j<n);obtain rfl:j=n:=Y;have e:l.take j=l:=qf (by rw[<-F];exact jE _);rw[e];clear e
  go_wp2_with fail
  go_ret;exact⟨I,h⟩
 have Q:=az ((j:ja)<(n:ja));have R:=az (j<n);obtain⟨e,he,C⟩:=dL (l:=l) (j:=j) (by rw[<-F];exact P);obtain⟨g,o,rfl,r⟩:=(s.cells).2.2 Y;have u:ji ((l.take (j+1)).countP (λx=>x.k==2)=(l.take j).countP (λx=>x.k==2)+if e.k==2 then 1 else 0):=O (by rw[C,List.countP_append,List.countP_singleton]);have S:(l.take j).countP (λx=>x.k==2)<=n:=by
  have:=xK (p:=λx:ap=>x.k==2) (l:=l.take j);rw[xh]at this;omega
 obtain⟨b,f,y,z,B⟩:=e;have V:wr.cell? ⟨g,o+j*5,je⟩=N (jc jd b):=aB (r j _ he 0 _ I) a;have d:wr.cell? ⟨g,o+j*5+1,je⟩=N (jc jd f):=aB (r j _ he 1 _ I) a;have W:wr.cell? ⟨g,o+j*5+2,je⟩=N (jc jd y):=aB (r j _ he 2 _ I) a;have c3:wr.cell? ⟨g,o+j*5+3,je⟩=N (jc jd z):=aB (r j _ he 3 _ I) a;have c4:wr.cell? ⟨g,o+j*5+4,je⟩=N (jc jd B):=aB (r j _ he 4 _ I) a;obtain⟨m,K⟩:=J ((l.take j).countP (λx=>x.k==2));rw[<-K]at S u⊢;replace h:=O (h.trans ((ao wr (jh #[jc jd b,jc jd f,jc jd y,jc jd z,jc jd B] 61)).mono h.size));replace a:=O (a.trans ((ao wr (jh #[jc jd b,jc jd f,jc jd y,jc jd z,jc jd B] 61)).mono a.size));clear he C r K
 by_cases r:b=2
 ·have C:(b==2)=jk:=by simp[r]
  have K:decide (b=2)=jk:=by simp[r]
  clear r
  go_wp2_with fail
  exact⟨⟨j+1,by go_num,by rw[u];simp[C],by omega,h,a⟩,by simp only[jF];omega⟩
 have C:(b==2)=jr:=by simp[r]
 have K:decide (b=2)=jr:=by simp[r]
 clear r
 go_wp2_with fail
 exact⟨⟨j+1,by go_num,by rw[u];simp[C],by omega,h,a⟩,by simp only[jF];omega⟩
def ox(k x:CK):jT:=x.p.1.author !=k.p.1.author&&oX x.p.1 k.p.1.author
theorem Kc(x k:CK)(b:T)(w:jg)(h:KIn w x)(q:KIn w k)(t:w.heap[b]?=N (jh (aL k).toArray VK.t (0,0)))(u:x.p.1.chg.length<=1000000):
 jz jl 82 #[jm (aL x).toArray,jI (N ⟨b,0,je⟩)] w λe w'=>e=jv (.bool (ox k x))/\jo w w w':=by
 have a:=ao w (jh (aL x).toArray 79);have j:=jC w (jh (aL x).toArray 79);have y:=ah (i:=35) (v:=jc jd x.p.1.author) j (by simpa using(mG h).2.1);have z:=ah (i:=35) (v:=jc jd k.p.1.author) (av t a) (by simpa using(mG q).2.1);have l:=O j;have m:ji ((aL x).toArray.size=VK.n):=O (by rw[jL];exact h.len);have f:=O (NX x k.p.1.author _ (h.below a) u);have n:=O a;obtain⟨s,o⟩:=J (ox k x);rw[<-o];obtain⟨r,p⟩:=J (oX x.p.1 k.p.1.author);have g:ji (s=(x.p.1.author !=k.p.1.author&&r)):=O (by rw[o,p];rfl);rw[<-p]at f;obtain⟨X,B⟩:=J ((aL x).toArray);rw[<-B]at y z l m f n⊢;obtain⟨c,C⟩:=J x.p.1.author;obtain⟨d,D⟩:=J k.p.1.author;rw[<-C]at y g;rw[<-D]at z g f;clear a j h q t u p o B C D
 by_cases a:c=d
 ·have j:(c==d)=jk:=by simp[a]
  have o:decide (c=d)=jk:=by simp[a]
  have h:(c !=d)=jr:=by simp[a]
  have p:decide (c≠d)=jr:=by simp[a]
  obtain rfl:s=jr:=by rw[g,h];rfl
  clear a
  go_enter func82,ntmps82
  go_wp2_with (first|(refine VK.loadA aj I I X m l (L ?_)))
  go_ret;exact⟨I,n⟩
 have j:(c==d)=jr:=by simp[a]
 have o:decide (c=d)=jr:=by simp[a]
 have h:(c !=d)=jk:=by simp[a]
 have p:decide (c≠d)=jk:=by simp[a]
 obtain rfl:s=r:=by rw[g,h];rfl
 clear a
 go_enter func82,ntmps82
 go_wp2_with (first|(refine VK.loadA aj I I X m l (L ?_)))
 refine f.mono ?_;rintro e x1 ⟨rfl,a⟩;have q:=ai n a;clear a f
 go_wp2_with fail
 go_ret;exact⟨I,q⟩
theorem iq.below{c d e:jb}{f:A CP}(h:iq (·<w.heap.size) w c d e f)(b:jo w w w'):iq (·<w'.heap.size) w' c d e f:=
 ⟨h.list.below b,(h.ids.keep λg a=>b.block g a).mono λg a=>jB a b.size,(h.at_.keep λg a=>b.block g a).mono λg a=>jB a b.size⟩
theorem iq.mono{c d:jb}{e:A CP}(h:iq D w a c d e)(f:∀b,D b->E b):iq E w a c d e:=⟨h.list,h.ids.mono f,h.at_.mono f⟩
theorem KsD.keep{a:A CP}{v:jb}{Ks:A CK}(h:KsD D a w v Ks)(c:∀b,D b->w'.heap[b]?=w.heap[b]?):KsD D a w' v Ks:=⟨h.row.keep c,λk b=>(h.all k b).keep c⟩
noncomputable def di:jw CK->js jb
 |none=>VK.Z
 |some k=>(aL k).toArray
structure WSt(M a:T)(d:A CP)(v:jb)(Ks:A CK)(e:jb)(m j:T)(c:A CK)(wk:jw CK)(w0 W:jg):Prop where
 ks:KsD (λb=>M+3<=b/\b<a) d W v Ks
 own:W.ownsRow a RK.e RK.k e m (c.flatMap aL)
 len:m=c.length
 le:m<=j
 sub:∀k∈c,k∈Ks
 wsub:∀k,wk=N k->k∈Ks
 var:W.heap[M+2]?=N (jh (di wk) VK.t (0,0))
 bel:jo (M+2) w0 W
 st:((Ks.map CK.cand).take j).foldl gr ([],je)=(c.map CK.cand,wk.map CK.cand)
 sz:a<=W.heap.size
 big:M+3<=a
theorem KIn.ones{k:CK}(h:KIn w k):∀b∈aL k,b.oneCell'=jk:=by
 intro b a;unfold aL at a;rw[jD,jR,jR,jD]at a
 rcases a with rfl|a|a|rfl|a
 ·rfl
 ·exact nj h.com b a
 ·exact gS _ b a
 ·rfl
 exact mQ h.leads b a
theorem sF{wk:jw CK}(h:∀k,wk=N k->KIn w k):(di wk).size=VK.n/\(di wk).all (·.oneCell')=jk:=by
 rcases wk with _|k
 ·exact⟨VK.hZ,by kernel_rfl⟩
 have a:=h k I;refine⟨by unfold di;rw[jL];exact a.len,?_⟩;unfold di;rw[p6];exact λb c=>a.ones b (ak c)
theorem WSt.below{c:T}{d:A CP}{v:jb}{Ks:A CK}{e:jb}{j:T}{f:A CK}{wk:jw CK}{g:jg}(h:WSt M c d v Ks e m j f wk w0 W)(a:jo W W g):WSt M c d v Ks e m j f wk w0 g:=
 ⟨h.ks.keep λb i=>a.block b (jB i.2 h.sz),cL h.own a,h.len,h.le,h.sub,h.wsub,av h.var a,h.bel.trans (a.mono (by have:=h.sz;have:=h.big;omega)),h.st,jJ h.sz a.size,h.big⟩
theorem WSt.step{c:T}{d:A CP}{v:jb}{Ks:A CK}{j:T}{a:A CK}{wk:jw CK}(h:WSt M c d v Ks f m j a wk w0 W){k:CK}(b:Ks[j]?=N k):
 ((Ks.map CK.cand).take (j+1)).foldl gr ([],je)=gr (a.map CK.cand,wk.map CK.cand) k.cand:=by
 have g:=(jU.1 b).1;have e:(Ks.map CK.cand).take (j+1)=(Ks.map CK.cand).take j++[k.cand]:=by
  rw[wi (by rw[ju];exact g)];simp[(jU.1 b).2]
 rw[e,List.foldl_append,h.st]
 rfl
theorem CZ(a:A CK)(k:CK):rL (a.map CK.cand) k.cand=a.any (ox k):=by
 unfold rL;rw[List.any_map]
 rfl
theorem WSt.struck{c:A CP}{Ks:A CK}{v:A CK}{wk:jw CK}(h:WSt M R c a Ks f m y v wk w W){k:CK}(e:Ks[y]?=N k)(d:v.any (ox k)=jk):WSt M R c a Ks f m (y+1) v wk w W:=
 ⟨h.ks,h.own,h.len,Nat.le_succ_of_le h.le,h.sub,h.wsub,h.var,h.bel,by rw[h.step e];unfold gr;rw[jp (by rw[CZ];exact d)],h.sz,h.big⟩
def sG(wk:jw CK)(k:CK):jT:=match wk with|none=>jk|some x=>decide (nz x.p.1<nz k.p.1)
theorem NA(wk:jw CK)(k:CK):wg (wk.map CK.cand) k.cand=sG wk k:=by cases wk<;>rfl
structure nO(M a:T)(d:A CP)(v:jb)(Ks:A CK)(e:jb)(m j:T)(c:A CK)(wk:jw CK)(k:CK)(w0 W:jg):Prop where
 ks:KsD (λb=>M+3<=b/\b<a) d W v Ks
 own:W.ownsRow a RK.e RK.k e m (c.flatMap aL)
 len:m=c.length
 le:m<=j
 sub:∀k∈c,k∈Ks
 wsub:∀k,wk=N k->k∈Ks
 mem:k∈Ks
 var:W.heap[M+2]?=N (jh (di wk) VK.t (0,0))
 bel:jo (M+2) w0 W
 st:((Ks.map CK.cand).take j).foldl gr ([],je)=(c.map CK.cand,if sG wk k=jk then N k.cand else wk.map CK.cand)
 sz:a<=W.heap.size
 big:M+3<=a
theorem WSt.push{f:T}{o:A CP}{v:jb}{Ks:A CK}{l p:jb}{j:T}{g:A CK}{wk:jw CK}{i:jg}(h:WSt M f o v Ks l m j g wk w0 W){k:CK}(q:Ks[j]?=N k)(s:g.any (ox k)=jr)
 (t:i.ownsRow f RK.e RK.k p (m+1) (g.flatMap aL++aL k)) (a:W.grownBy i l.ownBlock):nO M f o v Ks p (m+1) (j+1) (g++[k]) wk k w0 i:=by
 have u:∀b,b<f->l.ownBlock≠N b:=λb c e=>by have:=(h.own.lt b e).1;omega
 have n:∀b,b<f->i.heap[b]?=W.heap[b]?:=λb c=>a.block b (jB c h.sz) λe=>u b c e.symm
 have r:=j1 q;refine⟨h.ks.keep λb c=>n b c.2,by rw[xe];simpa using t,by rw[jG,<-h.len];rfl,Nat.succ_le_succ h.le,λx d=>?_,h.wsub,r,(n _ (cT h.big)).trans h.var,
  h.bel.trans ⟨a.os,a.tape,a.output,a.size,λb c=>n b (cT h.big)⟩,?_,jJ h.sz a.size,h.big⟩
 ·rcases jR.1 d with d|d
  ·exact h.sub x d
  rw[qh]at d;rw[d];exact r
 rw[h.step q,gr,jq (by rw[CZ,s];decide)];dsimp only;rw[NA,j5]
 rfl
theorem nO.below{c:T}{d:A CP}{v:jb}{Ks:A CK}{e:jb}{j:T}{f:A CK}{wk:jw CK}{k:CK}{g:jg}(h:nO M c d v Ks e m j f wk k w0 W)(a:jo W W g):nO M c d v Ks e m j f wk k w0 g:=
 ⟨h.ks.keep λb i=>a.block b (jB i.2 h.sz),cL h.own a,h.len,h.le,h.sub,h.wsub,h.mem,av h.var a,h.bel.trans (a.mono (by have:=h.sz;have:=h.big;omega)),h.st,jJ h.sz a.size,h.big⟩
theorem nO.stay{b:A CP}{Ks:A CK}{d:A CK}{wk:jw CK}{k:CK}(h:nO M R b a Ks f m y d wk k w W)(e:sG wk k=jr):WSt M R b a Ks f m y d wk w W:=
 ⟨h.ks,h.own,h.len,h.le,h.sub,h.wsub,h.var,h.bel,by rw[h.st,e];rfl,h.sz,h.big⟩
theorem nO.set{d:T}{e:A CP}{v:jb}{Ks:A CK}{j:T}{g:A CK}{wk:jw CK}{k:CK}(h:nO M d e v Ks f m j g wk k w0 W)(a:sG wk k=jk):WSt M d e v Ks f m j g (N k) w0 (W.setRow (M+2) (aL k).toArray):=
 ⟨h.ks.keep λb a=>qk _ _ _ _ Y,iB h.own λb a=>qk _ _ _ _ (by have:=(h.own.lt b a).1;have:=h.big;omega),h.len,h.le,h.sub,λx c=>by injection c with c;rw[<-c];exact h.mem,
  j4 _ _ _ _ _ _ h.var,iP h.bel (jE _) _,by rw[h.st,a];rfl,by rw[setRow_size];exact h.sz,h.big⟩
theorem CS{c:jT}{p q:Prop}(h:c=jr)(k:q):if c=jk then p else q:=by rw[h];exact k
theorem ud(o:A CP)(v1 v2 v3:jb)(g:Grp)(vm vt:jb)(w:jg)(d:iq (·<w.heap.size) w v1 v2 v3 o)(n:bW w g vm vt)(q:∀p∈o,da (aR p.1))(r:bP w)(a:o.length<=1000)(t:g.mem.length<=900000)(u:g.tree.length<=600000)(v:∀p∈o,p.1.chg.length<=1000000):
 jz jl 32 #[jm #[v1,v2,v3],jm (aD g vm vt).toArray] w λe w'=>∃wk,e=jv (jZ #[jm (di wk),.bool wk.isSome])/\(∀k,wk=N k->KD (λb=>w.heap.size<=b/\b<w'.heap.size) o w' k)/\wk.map CK.cand=dY g (o.map (·.1))/\jo w w w':=by
 obtain⟨p1,k1,e1⟩:=d.list.form;obtain⟨p2,k2,s⟩:=d.ids.form;obtain⟨p3,k3,e3⟩:=d.at_.form;obtain⟨K,j⟩:=J ((aD g vm vt).toArray);obtain⟨B,l⟩:=J (#[v1,v2,v3]);have bd:ji (B.size=VP.n):=O (by rw[l];rfl);have bf:ji (K.size=VG.n):=O (by rw[j,jL,eX n.llen];rfl);obtain⟨M,f⟩:=J w.heap.size;have HM:=O f;obtain⟨P,c⟩:=J (((w.alloc (jh B 75)).alloc (jh K 51)).alloc (jh VK.Z VK.t));have ac:=ao w (jh B 75);have U:=ac.trans ((ao (w.alloc (jh B 75)) (jh K 51)).mono ac.size);have m:=ao ((w.alloc (jh B 75)).alloc (jh K 51)) (jh VK.Z VK.t);have x:ji (P.heap[M]?=N (jh B VP.t (0,0))):=O (by rw[c,f];exact av (av (jC w _) (ao _ _)) m);have y:ji (P.heap[M+1]?=N (jh K VG.t (0,0))):=O (by
  have h:=jC (w.alloc (jh B 75)) (jh K 51);rw[jK]at h;rw[c,f];exact av h m)
 have z:ji (P.heap[M+2]?=N (jh VK.Z VK.t (0,0))):=O (by
  have h:=jC ((w.alloc (jh B 75)).alloc (jh K 51)) (jh VK.Z VK.t);rw[jK,jK]at h;rw[c,f];exact h)
 have V:ji (jo w w P):=O (by rw[c];exact U.trans (m.mono U.size));have bg:ji (P.heap.size=M+3):=O (by rw[c,f,jK,jK,jK]);have i:=ED o v1 v2 v3 g vm vt P (d.below V) (n.below V) q (r.below V) a t u;rw[<-j,<-l]at i;replace i:=O i;have HL:=O d.list;have Vo:=O v;have WL:=O a;rw[<-j,<-l];have C:=O c;clear ac U m c f j l d n q r a t u v e1 s e3
 go_enter func32,ntmps32
 go_upto_region 2 with(first|(refine VK.made I I (L ?_)))
 rw[<-C];simp only[jK];rw[show w.heap.size+1+1=w.heap.size+2 from I,<-HM];clear C
 go_wp2_with (first|(refine VP.loadA aj I I B bd x (L ?_))|(refine VG.loadA aj I I K bf y (L ?_)))
 refine i.mono ?_;rintro e x1 ⟨v,Ks,rfl,c,d,Q⟩;obtain⟨pv,kv,rfl⟩:=c.row.form;obtain⟨ad,j⟩:=J x1.heap.size;have f:ji (WSt M ad o (jf pv Ks.length kv) Ks (jf je 0 0) 0 0 [] je P x1):=O (by
  have hz:=bg.out;have hs:=Q.size;rw[j];exact⟨c.mono λb R=>⟨by have:=R.1;omega,R.2⟩,qD _ _ _ _,I,jE _,(λk u=>by cases u),(λk u=>by cases u),av z Q,Q.mono Y,I,jE _,by omega⟩)
 obtain⟨n,a⟩:=J Ks.length;rw[<-a]at f⊢;have Zo:=O a;have ZR:=O d;have bm:n<=1000:=by
  have h:=jS qK d;have l:(ff g (o.map (·.1))).length<=(bU (o.map (·.1)) (o.map (·.1)).length).length:=by
   unfold ff;rw[List.length_mergeSort];exact xg _ _
  have m:=rU (o.map (·.1)) (o.map (·.1)).length;rw[ju]at h l m;have:=WL.out;omega
 clear j a c d Q i z y x
 go_wp2_with fail
 go_loopw [6,14,5] (λa i ok wr=>∃(j m:T) (q:jw jM) (c:T) (C:A CK) (wk:jw CK),i=jc jd j/\a=jf q m c/\ok=.bool wk.isSome/\j<=n/\ji (WSt M ad o (jf pv n kv) Ks (jf q m c) m j C wk P wr)) (λ_ i _ _=>n-(jF i).toNat)
 case atStart=>exact⟨0,0,je,0,[],je,I,I,I,n0 _,f⟩
 obtain⟨j,m,q,c,C,wk,rfl,rfl,rfl,hj,a⟩:=hrel;clear f
 by_cases bh:j<n
 case neg=>
  have hd:=aw ((j:ja)<(n:ja));have UC:=aw (j<n);obtain rfl:j=n:=Y;have r:ji (∀x∈Ks,KIn wr x):=O λx d=>(a.ks.all x d).kin (HL.below (V.trans (a.bel.mono (by rw[<-HM];omega))))
  have f:=O (sF (wk:=wk) λk u=>r k (a.wsub k u));have i:=O a.var
  go_wp2_with (first|(refine VK.loadA aj I I (di wk) f.1 i (L ?_))|(refine VK.store I I I (di wk) I f.1 f.2 i f.1 ?_;rw[setRow_self _ _ _ _ _ i.out];refine L ?_))
  refine nn (fO I _ _ (M+2) VK.t (di wk) (0,0) _ I i qY I (by rw[f.1];exact VK.hi)) I ?_;refine⟨wk,I,λk u=>(a.ks.all k (a.wsub k u)).mono λb R=>⟨by rw[<-HM];omega,jB R.2 a.sz⟩,?_,V.trans (a.bel.mono (by rw[<-HM];omega))⟩;have h:=a.st;rw[qf (by rw[ju,<-Zo];exact jE _),ZR]at h;unfold dY;rw[h]
 have hd:=az ((j:ja)<(n:ja));have UC:=az (j<n);obtain⟨k,u⟩:∃k,Ks[j]?=N k:=⟨_,j7 (by rw[<-Zo];exact bh)⟩;have f:=j1 u;have l:ji (jo w w wr):=O (V.trans (a.bel.mono (by rw[<-HM];omega)));have r:ji (∀x∈Ks,KIn wr x):=O λx d=>(a.ks.all x d).kin (HL.below l)
 obtain⟨gk,ok,ck,e1,z,-,y⟩:=a.ks.row.at1 (by rw[<-Zo];omega);injection e1 with e1 s e3
 subst e1;subst e3;clear s;have a3:ji ((aL k).length=VK.n):=O (r k f).len;have s:ji (wr.rangeAt gk (ok+j*143) (aL k)):=O λt W ht=>by
  rw[qn];exact y _ W ((rZ aL 143 Ks (λx d=>(r x d).len) j t k u (by rw[<-(r k f).len];exact(jU.1 ht).1)).trans ht)
 have WY:ji (∀W∈aL k,W.oneCell'=jk):=O ((a.ks.all k f).ones (HL.below l));obtain⟨X,i⟩:=J ((aL k).toArray);have HX:=O i;have D:ji (X.size=VK.n):=O (by rw[i,jL];exact a3);have UT:ji (X.all (·.oneCell')=jk):=O (by rw[i,p6];exact λW E=>WY W (ak E));have a4:=O u;have ax:=O f;clear y z i u f
 go_upto_region 5 with(first|(refine VK.load aj I I (aL k) a3 s ?_;rw[<-HX];refine L ?_)|(refine VK.made I I (L ?_))|(refine VK.first I I I X I D UT (L ?_)))
 obtain⟨x2,bc,d,R,z,f⟩:=dt wr X VK.t;rw[<-d,<-R];have bi:ji (∀b,(qz q m c).ownBlock=N b->b<bc):=O λb h=>by rw[R];exact(a.own.lt b h).2
 replace a:=O (a.below f);replace r:ji (∀x∈Ks,KIn x2 x):=O λx d=>(r x d).below f
 have i:=O (NS (Ks:=C) (F:=82) (caps:=#[jI (N ⟨bc,0,je⟩)]) (p:=ox k) (w:=x2) ⟨λ_ _=>rfl,λx d w' Q=>Kc x k bc w' ((r x (a.sub x d)).below Q) ((r k ax).below Q) (av (by rw[<-HX];exact z) Q) (Vo _ (j1 (a.ks.all x (a.sub x d)).at_))⟩
  (jf q m c) (by rw[<-a.len];exact cF.of_own a.own) (λx d=>(r x (a.sub x d)).len) (by have:=a.le;have:=a.len;omega))
 clear d R f s l
 go_wp2_with fail
 refine i.mono ?_;rintro e x3 ⟨rfl,f⟩;replace a:=O (a.below f);replace r:ji (∀x∈Ks,KIn x3 x):=O λx d=>(r x d).below f
 replace z:=ae z f;obtain⟨s,hs⟩:=J (C.any (ox k));rw[<-hs];have a5:=O hs;clear hs f i
 cases s with
 |true=>
  have E:=O (a.struck a4 a5.symm)
  go_wp2_with fail
  exact⟨⟨j+1,m,q,c,C,wk,by go_num,rfl,rfl,by omega,E⟩,by simp only[jF];omega⟩
 |false=>
  have a6:ji (X.toList=aL k):=O (by rw[HX]);have bk:ji (∀W∈X.toList,W.oneCell'=jk):=O (by rw[a6];exact WY);have ba:ji (m<=1000000/\ad<=x3.heap.size+1):=O ⟨by have:=a.le;omega,by have:=a.sz;omega⟩
  go_upto_region 8 with(first|(refine VK.loadA aj I I X D z (L ?_))|(refine jO I λ_ i=>RK.wp_build (.tmp 23) I (jm X) I D (i _ _ ?_);clear i;refine L ?_)|
   (refine jO I λ_ i=>RK.wp_append (.tmp 22) (.tmp 24) I ad (jf q m c) m (C.flatMap aL) I (cL a.own (ao x3 (jh X RK.e))) x3.heap.size X I (jC _ _) D bk ba.1 (by rw[jK];exact ba.2) ?_;intro v' x4 l y hv;obtain⟨q',c',rfl⟩:=cK l;refine i _ _ ?_;clear i;refine L ?_;have S:=O l;have H:=O y;clear l y hv))
  have l:=O ((a.below (ao x3 (jh X RK.e))).push a4 a5.symm (by rw[<-a6];exact S) H);have y:ji (x4.heap[bc]?=N (jh X VK.t (0,0))):=O ((H.block bc (by rw[jK];have:=(jQ.1 z).1;omega) λe=>by have:=bi bc e.symm;omega).trans (av z (ao _ _)));have f:=bX x4;obtain⟨x5,d⟩:=J x4.drew;rw[<-d]at f;replace l:=O (l.below f);replace y:=ae y f;have ay:=O d;have bl:ji (cC x5 v1 o):=O (HL.below (V.trans (l.bel.mono (by rw[<-HM];omega))));have aa:ji (∀x∈Ks,KIn x5 x):=O λx d=>(l.ks.all x d).kin bl
  clear S H r z d f
  rcases wk with _|H
  ·refine o1 ?_
   refine fM (λ_=>True) 9 (.take 0 (.take 1 (.take 2 (.take 3 (.take 5 (.one 4 (.one 6 (.take 7 (.take 8 .done))))))))) af af af af G (λ_ _ _ _ h=>h) trivial ?_;rw[<-ay];iterate 3 refine co ?_
   iterate 2 (refine G5 I aj (L ?_))
   refine cV I (λK' i=>CS aj (i _ _ trivial λ_=>?_));clear i;refine L ?_;refine cV I (λK' i=>CS aj (i _ _ trivial λ_=>?_));clear i;refine L ?_
   (refine G5 I aj (L ?_))
   refine co ?_;refine fb ?_;have E:=O (l.set I);rw[<-HX]at E
   go_wp2_with (first|(refine VK.loadA aj I I X D y (L ?_))|(refine VK.store I I I X I D UT l.var VK.hZ (L ?_)))
   exact⟨⟨j+1,m+1,q',c',C++[k],N k,by go_num,rfl,rfl,by omega,E⟩,by simp only[jF];omega⟩
  obtain⟨Ux,hY⟩:=J ((aL H).toArray);have au:=l.wsub H I;have S:ji (x5.heap[M+2]?=N (jh Ux VK.t (0,0))):=O (by rw[hY];exact l.var);have Yc:ji (Ux.size=VK.n):=O (by rw[hY,jL];exact(aa H au).len);obtain⟨na,a1⟩:=J (nz k.p.1);obtain⟨nb,a2⟩:=J (nz H.p.1);have bb:ji (sG (N H) k=decide (nb<na)):=O (by rw[a1,a2];rfl);have UG:ji (∀z,(∀x∈Ks,KIn z x)->jz jl 84 #[jm X] z λe w'=>e=jv (jc jd (na:T))/\jo z z w'):=O λz hz=>by
   rw[a1,HX];exact GT k z (hz k ax) (Vo _ (j1 (l.ks.all k ax).at_))
  have UF:ji (∀z,(∀x∈Ks,KIn z x)->jz jl 84 #[jm Ux] z λe w'=>e=jv (jc jd (nb:T))/\jo z z w'):=O λz hz=>by
   rw[a2,hY];exact GT H z (hz H au) (Vo _ (j1 (l.ks.all H au).at_))
  clear a1 a2 au hY;refine o1 ?_;refine fM (λW'=>W'.heap[bc]?=N (jh X VK.t (0,0))/\W'.heap[M+2]?=N (jh Ux VK.t (0,0))) 9 (.take 0 (.take 1 (.take 2 (.take 3 (.take 5 (.one 4 (.one 6 (.take 7 (.take 8 .done))))))))) af af af af G (λ_ _ _ _ h=>h) (by rw[<-ay];exact⟨y,S⟩) ?_;rw[<-ay];iterate 3 refine co ?_
  (refine cJ (v:=jm X) I aj (λW' hS=>dh VK.hu VK.hd (by rw[D];exact VK.hi) I I hS.1) ?_;refine L ?_)
  (refine cJ (v:=jm Ux) I aj (λW' hS=>dh VK.hu VK.hd (by rw[Yc];exact VK.hi) I I hS.2) ?_;refine L ?_)
  refine cV I (λK' i=>?_);go_simp;refine(UG x5 aa).mono ?_;rintro e x6 ⟨rfl,f⟩;replace l:=O (l.below f);replace y:=ae y f;replace S:=ae S f;replace aa:ji (∀x∈Ks,KIn x6 x):=O λx d=>(aa x d).below f
  refine i _ _ ⟨y,S⟩ λ_=>?_
  clear i f;refine L ?_;refine cV I (λK' i=>?_);go_simp;refine(UF x6 aa).mono ?_;rintro e x7 ⟨rfl,f⟩;replace l:=O (l.below f);replace y:=ae y f;replace S:=ae S f;refine i _ _ ⟨y,S⟩ λ_=>?_
  clear i f aa UG UF;refine L ?_
  by_cases f:nb<na
  ·have ac:=az ((nb:ja)<(na:ja))
   have U:=az (nb<na);have E:=O (l.set (by rw[bb];exact U));rw[<-HX]at E;iterate 2 refine co ?_
   refine fb ?_
   go_wp2_with (first|(refine VK.loadA aj I I X D y (L ?_))|(refine VK.store I I I X I D UT S Yc (L ?_)))
   exact⟨⟨j+1,m+1,q',c',C++[k],N k,by go_num,rfl,rfl,by omega,E⟩,by simp only[jF];omega⟩
  have ac:=aw ((nb:ja)<(na:ja));have U:=aw (nb<na);have E:=O (l.stay (by rw[bb];exact U));iterate 2 refine co ?_
  refine fb ?_
  go_wp2_with fail
  exact⟨⟨j+1,m+1,q',c',C++[k],N H,by go_num,rfl,rfl,by omega,E⟩,by simp only[jF];omega⟩
end Go.Proofs.YthonckffmkefdaaGreatDoor
