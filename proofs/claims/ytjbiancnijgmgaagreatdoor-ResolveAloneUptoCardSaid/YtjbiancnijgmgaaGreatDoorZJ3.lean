/- Contracts of functions that the law reaches, part 3 of 7; no condition. -/
import Derived.Handy
import Derived.Lib.SlBytesConst
import Derived.Test.YtjbiancnijgmgaaGreatDoorTie
import Derived.LaidMore
import Derived.Stop.LaidErr
import Derived.Test.YtjbiancnijgmgaaGreatDoorZJ2
namespace Go.Proofs.YtjbiancnijgmgaaGreatDoor
set_option maxHeartbeats 64000000
set_option maxRecDepth 100000
set_option linter.unusedVariables false
set_option linter.unusedSimpArgs false
set_option linter.unusedSectionVars false
open Go.RowKit
open Go.Proofs.Tryz
open Go.Value renaming int->I
open Go.IntKind renaming i64->N,u32->jV,u64->j7
open _root_ renaming rfl->T,Int->jd,Nat->je,List->jh,if_pos->jB,absurd->jG,if_neg->jI,Option->jS,Array->jZ,congrArg->qM
open _root_.Option renaming none->A,some->ja,isSome_iff_exists->r4,isSome_none->xh
open Go.Value renaming slice->jb,string->jj,agg->jq,tuple->jw,pointer->jA
open Go.Obj renaming cells->jc
open _root_.Bool renaming true->jf,false->jp,false_eq_true->xi
open Go renaming World->jg,Value->ji,Calls->jr,Boxed->jt,undef->ju,TypeId->jH,Addr->jM,wp_region_noPanic->jT,bodyPost_ret->jX,maxLen->j3,Oper->ob,grownBy_setCell'->ow,wpList_plain->o1,wpList_load_row->o5,wp_store_row->o8,setRow_heap->pz,below_setRow->p6,results_cell_row->qd,setRow_other->qe,info_parts->qh,callsIn_wide->qv,execOp->qx,results_none->qL,Program->qN,wp_region_lit->qP,bodyPost_end->qW,callsIn_of_wp->sq,callsIn_of_wp_marks->sv,run_takeDeferred->sy,ownsRow_putObj->vi,wpList_append_own->wi
open Go.RowKit renaming Hid->jk,Below->jl,ownsRow_setCell_below->qY
open Go.Proofs.Tryz renaming prog->jm
open _root_.Nat renaming le_refl->jn,le_trans->jz,zero_le->jJ,lt_of_lt_of_le->jN,zero_add->ms,le_of_eq->qg,reduceAdd->qi,reduceSub->qj,mod_eq_of_lt->qA,min_eq_left->qC,lt_or_ge->qE,mod_lt->qG,eq_zero_or_pos->qH,zero_mul->qT,pow_le_pow_right->q8,mul_one->rk,mul_le_mul_right->rv,add_assoc->r8,add_mul->sh,le_of_lt->sn,xor_lt_two_pow->xa,lt_of_le_of_lt->xx
open Go.Ending renaming returned->jo
open Go.World renaming alloc_heap_new->js,size_alloc->jC,ownsRow_nil->j0,cell?->j5,frozen?->r6,putObj_heap_other->xf,there_alloc->xm,var?_cell->xC
open Go.Proofs renaming intOf->jv
open Go.RowKit.Below renaming refl->jy,heap_alloc->jF,mono->qt,heap_setCell->qZ
open _root_.List renaming length_map->jD,length_append->jL,getD->jO,size_toArray->jU,length_cons->jW,map_append->j4,append_assoc->j6,length_nil->j8,replicate->j9,range->mz,take_of_length_le->nv,getElem?_eq_getElem->oj,take_succ_eq_append_getElem->o3,nil_append->qa,cons_append->qb,length_take->qf,push_toArray->qn,append_toArray->qo,eq_nil_of_length_eq_zero->qs,getElem?_map->qu,getElem_mem->qD,getElem?_append_left->qJ,getElem?_append_right->qK,mem_map->qQ,map_cons->qV,append_nil->q7,length_filter_le->q9,getElem?_take_of_lt->rn,map_nil->r9,flatMap_cons->sl,length_mergeSort->xg,range_succ->xn,getElem?_take->xq,getElem?_eq_some_iff->xr,take_append_drop->xt,mem_of_getElem?->xu,getElem?_of_mem->xw,length_take_le'->xy,take_succ_cons->xz,flatten_append->xA,mem_flatten->xB
open Go.Value renaming int->jE,slice->jP,oneCell'->j1,ownBlock->qc,pointer->r7
open _root_.Array renaming getElem?_eq_some_iff->jK,replicate_succ->qk,replicate_zero->ql,getElem?_toList->xj
open Go.Proofs.Tryz renaming underlying3->jQ,underlying63->nn,underlying4->n0,underlying150->qw,func196->qy,ntmps196->qz,underlying66->qO,underlying193->qX,underlying28->sx,underlying247->wq,underlying113->wt,underlying23->wv,underlying223->wx
open Go.NoPanic renaming normal->jR
open _root_.BitVec renaming ofNat->jY,toNat_ofNat->qB,ofInt_natCast->xd,toNat_xor->xe,ofInt->xo
open Go.IntKind renaming wrap_i64->qF,u64->qI,i64->qS,wrap_u64->qU
open _root_.Int renaming eq_ofNat_of_zero_le->xk,toNat_natCast->xl
variable{j:LBy}{o:Obj}{p r:Prop}{e:jH}{h:jZ ji}{d y:jd}{B m:je}{D:je->Prop}{a w w':jg}{t:jh (jd×jd)}{b:jh Val}{U:jh jd}{f xs:jh ji}{u:ji}
section
open Go.RowKit Go.Shelf
attribute [local go_sem] Oper.semAt_some
theorem FP(n:je)(h:n<4611686018427387904)(w:jg):
 jr jm 172 #[I N n] w λe w'=>e=jo (I N (n/2:je))/\w=w':=by
 go_enter func172,ntmps172
 go_wp2
 go_ret;exact⟨T,T⟩
def upL:je->je->jh je
 |0,_=>[]
 |k+1,n=>if n>1 then n::upL k (n/2)else []
theorem zv:∀(k n:je),∀x∈upL k n,x<=n
 |0,_,x,h=>by simp[upL]at h
 |k+1,n,x,h=>by
  unfold upL at h
  split at h
  ·rcases List.mem_cons.1 h with rfl|h
   ·omega
   have:=zv k (n/2) x h;omega
  simp at h
theorem Gj:∀(k n:je),(upL k n).length<=k
 |0,_=>by simp[upL]
 |k+1,n=>by
  unfold upL
  split
  ·have:=Gj k (n/2);simp;omega
  simp
theorem uJ(d:je)(a:d<512):(upL 10 (512+d)).length=8+1:=by
 have h:∀d:Fin 512,(upL 10 (512+d.val)).length=8+1:=by decide+kernel
 exact h ⟨d,a⟩
theorem F6(k n:je)(c:n<1024){a:jh je}{x:je}(h:a++[x]<+:upL k n):x<1024/\a.length<k:=by
 have d:=zv k n x (h.subset ar);have b:=h.length_le;have e:=Gj k n;simp at b;omega
theorem FL(n:jd)(w:jg):
 jr jm 225 #[I N n] w λe w'=>e=jo (.func (.func 257) #[] #[jA (ja ⟨w,0,A⟩)])/\w'=w.alloc (jc #[I N n] 269):=by
 go_enter func225,ntmps225
 go_wp2
 go_ret;exact⟨T,T⟩
def wM(w:jg)(b:je):je:=(jv ((w.cell? ⟨b,0,A⟩).getD (I N 0))).toNat
theorem Fb{b:je}{t:jH}(h:jt w b t (I N m)):wM w b=m:=by
 unfold wM;rw[h.cell];simp[jv]
theorem Ej(h:1<m)(a:m<2^B):∃i,B=i+1/\upL B m=m::upL i (m/2)/\m/2<2^i:=by
 rcases B with _|i
 ·simp at a;omega
 exact⟨i,T,by simp[upL,h],by rw[Nat.pow_succ]at a;omega⟩
theorem Fy(h:m<=1):upL B m=[]:=by
 rcases B with _|i
 ·rfl
 simp[upL];omega
set_option maxRecDepth 100000 in
theorem EZ(n k:je)(B:n<4611686018427387904)(C:n<2^k)(b:je)(w:jg)(t:jt w b 269 (I N n)):
 eR jm 257 #[jA (ja ⟨b,0,A⟩)] (λm:je=>#[I N (m:jd)]) (·=b) 0 (λxs=>xs=upL k n) (λ_=>True) (λys=>ys<+:upL k n) w:=by
 intro l u X W g h v o p;have D:jt W b 269 (I N n):=(g.block b t.lt).trans t;refine(qv (n:=0)).1 ?_;refine sq func257 T trivial ?_ T;simp only[ntmps257,jU,jW,j8,qi,qj,qk,ql,qn,qo,qa,qb]
 gi_wp2
 gi_loopw [] (λwr=>W.heap.size<=wr.heap.size/\∃(a:jh je) (j m:je),a.length+j=k/\m<2^j/\m<4611686018427387904/\a++upL j m=upL k n/\u a (·=b) wr/\jt wr b 269 (I N m))
  (λwr=>wM wr b)
 case atStart=>
  exact⟨jn _,[],k,n,by simp,C,B,T,p,D⟩
 obtain⟨E,a,j,m,aa,F,ad,c,x,d⟩:=hrel;have hc:=d.cell;have hf:=d.frozen
 by_cases H:1<m
 ·obtain⟨i,rfl,e,K⟩:=Ej H F
  obtain⟨fn,tmps,assign,body,M,y⟩:=o a m (·=b) wr x (by rintro _ rfl;exact d.lt) ⟨upL i (m/2),by rw[<-c,e];simp⟩;have q:jk (a++upL (i+1) m=upL k n):=c;have P:jk (upL (i+1) m=m::upL i (m/2)):=e;clear c e o p v g;have Q:jk (bZ W.heap.size u):=h;clear h
  gi_wp2
  refine⟨T,y.mono ?_⟩;rintro e z (⟨rfl,R,r,s⟩|⟨rfl,S,r,s⟩)
  ·have f:jt z b 269 (I N m):=(s b T).trans d
   have au:=f.cell;have Zu:=f.frozen;have U:=r.size;clear s r y M
   gi_wp2_with fail
   refine⟨trivial,T,(callsIn_wide.2 (FP _ Y _)).mono ?_⟩;rintro e w' ⟨rfl,rfl⟩
   gi_wp2
   go_roundw
   case rel=>
    refine⟨by simpa using jz E U,a++[m],i,m/2,by simp;omega,K,by omega,by rw[<-q,P];simp,Q.keep R ?_,f.set _⟩;exact⟨T,T,T,by simp,λk _ V=>.inl (qZ _ _ _ _ V)⟩
   have V:wM (z.setCell ⟨b,0,A⟩ (I N ((m:jd)/2))) b=m/2:=Fb (m:=m/2) (f.set _);rw[V,Fb d];omega
  gi_wp2
  refine qW (qL T _ _ _) T ?_;exact⟨⟨_,T⟩,.inr ⟨_,_,trivial,S⟩⟩
 have q:jk (a++upL j m=upL k n):=c;clear c o p h v g
 gi_wp2
 refine⟨λ_ h=>(by cases h),?_⟩
 gi_wp2
 refine qW (qL T _ _ _) T ?_;exact⟨⟨_,T⟩,.inl ⟨_,_,by rw[<-q,Fy Y,q7],x⟩⟩
def gU(n:je):je:=n/2
def kE(n:je):je:=n^^^1
theorem JX(n:je)(h:n<1024)(w:jg):
 jr jm 172 #[I N n] w λe w'=>e=jo (I N (gU n:je))/\w=w':=
 FP n Y w
theorem K7(k:IntKind)(j:je)(f:j<=k.bits)(g:∀n:jd,0<=n->n<2^j->k.wrap n=n)(a b:je)(c:a<2^j)(d:b<2^j):
 bits .xor k a b=((a^^^b:je):jd):=by
 have e:2^j<=2^k.bits:=q8 G f;have h:a%2^k.bits=a:=qA (jN c e);have i:b%2^k.bits=b:=qA (jN d e);have l:a^^^b<2^j:=xa c d;simp only[bits,xd,xe,qB,h,i];exact g _ (Int.natCast_nonneg _) (by exact_mod_cast l)
theorem R4(n:je)(h:n<1024):bits .xor .i64 (n:jd) 1=((kE n:je):jd):=
 K7 .i64 10 G (λn a b=>IntWalk.i64_in n Y) n 1 Y Y
theorem Nb(n:je)(h:n<1024)(w:jg):
 jr jm 175 #[I N n] w λe w'=>e=jo (I N (kE n:je))/\w=w':=by
 go_enter func175,ntmps175
 go_wp2
 go_ret;exact⟨by rw[R4 n h];rfl,rfl⟩
def iv(l:jh je):jh ji:=l.map λn:je=>jE .i64 (n:jd)
def kD(d:je):jh je:=(upL 10 (512+d)).map gU
def nS(d:je):jh je:=(upL 10 (512+d)).map kE
theorem JZ(d:je):iv (kD d)=(upL 10 (512+d)).map λn=>jE .i64 (gU n:je):=by simp[iv,kD,Function.comp_def]
theorem Tq(d:je):iv (nS d)=(upL 10 (512+d)).map λn=>jE .i64 (kE n:je):=by simp[iv,nS,Function.comp_def]
def yX(w:jg)(v:ji)(xs:jh ji):Prop:=
 (v=jb A 0 0/\xs=[])\/∃b off a,v=jb (ja ⟨b,off,A⟩) xs.length a/\∀j u,xs[j]?=ja u->w.cell? ⟨b,off+j,A⟩=ja u
theorem yX.below{v:ji}(h:yX w v xs)(c:jl w w w'):yX w' v xs:=by
 rcases h with h|⟨b,off,d,rfl,e⟩
 ·exact .inl h
 refine .inr ⟨b,off,d,T,λj u f=>?_⟩;have a:=e j u f;rw[c.cell (p:=⟨b,off+j,A⟩) (World.block_lt_of_cell? w ⟨b,off+j,A⟩ a)];exact a
end
section
open Go.RowKit Go.Shelf
attribute [local go_sem] Oper.semAt_some
theorem B7:(jm.info? 3).map (λi=>(i.zero,i.size,i.bytes))=ja (ja (I N 0),1,8):=by kernel_rfl
set_option maxRecDepth 100000 in
theorem Qz(d:je)(V:d<512)(w:jg):
 jr jm 171 #[I N d,.func (.func 172) #[] #[]] w λe w'=>∃v,e=jo (jw #[v,I N 0])/\
  w'.ownsRow w 3 1 v 9 ((upL 10 (512+d)).map λn=>jE .i64 (gU n:je))/\jl w w w':=by
 obtain⟨X,hi,UV,aa,ad⟩:=qh B7;refine(qv (n:=0)).1 ?_;refine sv func171 T trivial ?_ T;simp only[ntmps171,jU,jW,j8,qi,qj,qk,ql,qn,qo,qa,qb]
 gi_wp2_with fail
 refine⟨trivial,T,(callsIn_wide.2 (Gy _ Y Y _)).mono ?_⟩;rintro e w' ⟨rfl,rfl⟩
 gi_wp2_with fail
 refine⟨trivial,T,(callsIn_wide.2 (FL _ _)).mono ?_⟩;rintro e w' ⟨rfl,rfl⟩
 gi_wp2_with fail
 have E:jt (((w.alloc (jc #[.func (.func 172) #[] #[]] 267)).alloc (jc #[jb A 0 0] 28)).alloc (jc #[I N (512+d)] 269)) w.heap.size 267 (.func (.func 172) #[] #[]):=
  ((Boxed.new w _ _).alloc _).alloc _
 have F:jt (((w.alloc (jc #[.func (.func 172) #[] #[]] 267)).alloc (jc #[jb A 0 0] 28)).alloc (jc #[I N (512+d)] 269)) (w.heap.size+1) 28 (jb A 0 0):=by
  have:=Boxed.new (w.alloc (jc #[.func (.func 172) #[] #[]] 267)) 28 (jb A 0 0);rw[jC]at this;exact this.alloc _
 have t:jt (((w.alloc (jc #[.func (.func 172) #[] #[]] 267)).alloc (jc #[jb A 0 0] 28)).alloc (jc #[I N (512+d)] 269)) (w.heap.size+1+1) 269 (I N ((512+d:je):jd)):=by
  have:=Boxed.new ((w.alloc (jc #[.func (.func 172) #[] #[]] 267)).alloc (jc #[jb A 0 0] 28)) 269 (I N ((512+d:je):jd));rw[jC,jC]at this;exact this
 have H:jl w w (((w.alloc (jc #[.func (.func 172) #[] #[]] 267)).alloc (jc #[jb A 0 0] 28)).alloc (jc #[I N (512+d)] 269)):=
  (((jy _ w).alloc (jn _) _).alloc ar _).alloc (by simp;omega) _
 have a:(((w.alloc (jc #[.func (.func 172) #[] #[]] 267)).alloc (jc #[jb A 0 0] 28)).alloc (jc #[I N (512+d)] 269)).heap.size=w.heap.size+3:=by simp
 generalize(((w.alloc (jc #[.func (.func 172) #[] #[]] 267)).alloc (jc #[jb A 0 0] 28)).alloc (jc #[I N (512+d)] 269))=o at E F t H a⊢;have a5:jk (o.heap.size=w.heap.size+3):=a;have a6:w.heap.size+3<=o.heap.size:=Y;clear a;refine ru (n:=0) (gf:=257) (lb:=#[jA (ja ⟨w.heap.size+1+1,0,A⟩)]) T (enters_of func257 af T)
  (EZ (512+d) 10 Y Y (w.heap.size+1+1) o t) (jJ _) (λ_=>rfl) (by rintro k rfl;exact t.lt)
  (λf Ψ W=>gP (w.heap.size+1) 28 w.heap.size 3 1 f.length (f.map λn=>jE .i64 (gU n:je)) (λ_=>True) Ψ W/\(jt W w.heap.size 267 (.func (.func 172) #[] #[])/\¬Ψ w.heap.size)/\(jl w w W/\∀k,Ψ k->w.heap.size<=k))
  (λ_ _ _ _=>False)
  ((ni o.heap.size (w.heap.size+1) 28 w.heap.size 3 1 (λf=>f.length) (λf:jh je=>f.map λn=>jE .i64 (gU n:je)) (λ_ _=>True)).and ((iQ _ _ _ (λ_=>_)).and (kK _ _ w (jn _) Y)))
  (λ_=>fq _ _)
  ⟨⟨_,F,by omega,j0 _ _ _ _,by simp[qc],trivial⟩,⟨E,by omega⟩,H,by rintro k rfl;omega⟩
  (λx D _ _=>D={tmps:=#[I N d,.func (.func 172) #[] #[],ju,jA (ja ⟨w,0,A⟩),jA (ja ⟨w.heap.size+1,0,A⟩),I N 0,
   I N (512+d),I N x,jw #[I N (512+d),I N 0],I N d,jw #[I N (512+d),I N 0],I N (512+d),I N 0,I N 0,.bool jp,ju,I N (512+d),
   .func (.func 257) #[] #[jA (ja ⟨w.heap.size+1+1,0,A⟩)],I N x,ju,ju,ju,ju,ju,ju,ju],defers:=[]}) (fq _ _)
  ?assign ?body ?done ?stop
 case assign=>
  intro l f x Ψ r K c _ a
  gi_wp2
  exact a _ _ (jy _ _) c T
 case body=>
  rintro l f x Ψ D r ⟨⟨v,c,K,i,M,-⟩,⟨q,P⟩,m,Q⟩ rfl g YC ba bb;obtain⟨hx,bc⟩:=F6 10 (512+d) Y g;clear g;have u:=c.cell;have R:=q.cell;have y:=O m;have au:=m.size;clear m
  gi_wp2
  refine IJ (λg=>g.cell? ⟨w.heap.size+1,0,A⟩=ja v/\g.cell? ⟨w,0,A⟩=ja (.func (.func 172) #[] #[])) 6
   [(0,jf),(1,jf),(2,jf),(3,jp),(4,jp),(5,jp),(6,jp)] af af af af rfl (λ_ _ _ _ h=>h) (fun⟨_,_,h⟩=>h) ⟨u,R⟩ ?_
  refine fY (v:=?_) T T (λg j=>?_) ?_
  rotate_left
  ·obtain⟨k,s⟩:=j;go_simp;with_reducible rfl
  refine fY (v:=?_) T T (λg j=>?_) ?_
  rotate_left
  ·obtain⟨k,s⟩:=j;go_simp;with_reducible rfl
  refine fY (v:=?_) T T (λg j=>?_) ?_
  rotate_left
  ·go_simp;with_reducible rfl
  refine dn T (λz a=>?_);go_simp;refine(JX _ Y _).mono ?_;rintro e w' ⟨rfl,rfl⟩;refine a _ _ ⟨u,R⟩ λ_=>?_
  clear a;refine dn T (λz a=>?_);go_simp;have Wq:(r.alloc (jc #[I N (gU x:je)] 3)).cell? ⟨w.heap.size+1,0,A⟩=ja v:=(c.alloc _).cell;have B:(r.alloc (jc #[I N (gU x:je)] 3)).cell? ⟨w,0,A⟩=ja (.func (.func 172) #[] #[]):=(q.alloc _).cell;refine a _ _ ⟨Wq,B⟩ λ_=>?_
  clear a;refine dn T (λz a=>?_);refine step_append_lies _ T (.tmp 19) (.tmp 23) 28 T w.heap.size 3 X (I N 0) 1 8 sx hi UV aa ad T G v f.length _ T (i.alloc _)
   ⟨r,0,A⟩ 1 1 [I N (gU x:je)] rfl rfl (cell_one_new _ _ _) (by simp[j1]) Y (by unfold j3;omega) Y (by simp;omega) _ rfl ?_
  intro g k S ax ay a1 bd;have C:=BS ay;obtain⟨s,a2⟩:=sB (B0:=o.heap.size) c G i au Y K M YC ax C (by
   intro j U;simp only[qc,Option.some.injEq]at U;subst U;simpa using a1)
  have j:jt S w.heap.size 267 (.func (.func 172) #[] #[]):=(q.alloc _).kept C (by have:=q.not_row (e:=3) G i;exact this);have U:jt S (w.heap.size+1) 28 v:=(c.alloc _).kept C (by have:=c.not_row (e:=3) G i;exact this);have a3:=U.cell;have bf:=U.frozen;have a4:=j.cell;refine a _ _ ⟨a3,a4⟩ λ_=>?_
  clear a;refine pG T (λz a=>?_);go_simp;refine a _ _ ⟨⟨s.1,s.2.1.mono (jJ _),s.2.2⟩,?_,⟨j.other Y _,P⟩,y.trans s.2.1,Q⟩;obtain⟨z,b1,b2,b3,b4,-⟩:=a2;exact⟨z,b1,b2,by simpa using b3,b4,trivial⟩
 case done=>
  rintro D xs Ψ W s rfl ⟨⟨v,c,K,i,M,-⟩,⟨q,P⟩,m,Q⟩ a;have u:=c.cell;have x:=c.frozen;have y:=O m;clear m;have j:=uJ d V;rw[j]at i;clear j;obtain⟨g,k,rfl⟩:=ownsRow_succ i
  gi_wp2
  refine⟨by simp,.inl ⟨_,_,T,sy (b:=D) (ds:=[]) ?_,?_⟩⟩
  ·exact(KeepsOthers.setCell W _ _).same D _ a T
  have j:jt (W.setCell ⟨w.heap.size+1,0,A⟩ (jb (ja ⟨g,0,A⟩) 9 k)) (w.heap.size+1) 28 (jb (ja ⟨g,0,A⟩) 9 k):=c.set _;have l:(W.setCell ⟨w.heap.size+1,0,A⟩ (jb (ja ⟨g,0,A⟩) 9 k)).heap[D]?=ja (.deferred (ja [])):=(KeepsOthers.setCell W _ _).same D _ a T;have m:(W.setCell ⟨w.heap.size+1,0,A⟩ (jb (ja ⟨g,0,A⟩) 9 k)).ownsRow w.heap.size 3 1 (jb (ja ⟨g,0,A⟩) 9 k) 9 ((upL 10 (512+d)).map λn=>jE .i64 (gU n:je)):=
   i.kept (ow W _ _) (.inr (c.not_row (e:=3) G i).symm)
  have r:jt ((W.setCell ⟨w.heap.size+1,0,A⟩ (jb (ja ⟨g,0,A⟩) 9 k)).putObj D (.deferred A)) (w.heap.size+1) 28 (jb (ja ⟨g,0,A⟩) 9 k):=
   (xf Y).trans j
  have B:=r.cell;refine⟨jw #[jb (ja ⟨g,0,A⟩) 9 k,I N 0],by simp[results,results171,go_sem,B],_,T,vi m _ l T,?_⟩;exact(y.setCell (p:=⟨w.heap.size+1,0,A⟩) ar _).trans (iy Y)
 intro D c f Ψ W _ _ h;exact h.elim
set_option maxRecDepth 100000 in
theorem JO(d:je)(V:d<512)(w:jg):
 jr jm 171 #[I N d,.func (.func 175) #[] #[]] w λe w'=>∃v,e=jo (jw #[v,I N 0])/\
  w'.ownsRow w 3 1 v 9 ((upL 10 (512+d)).map λn=>jE .i64 (kE n:je))/\jl w w w':=by
 obtain⟨X,hi,UV,aa,ad⟩:=qh B7;refine(qv (n:=0)).1 ?_;refine sv func171 T trivial ?_ T;simp only[ntmps171,jU,jW,j8,qi,qj,qk,ql,qn,qo,qa,qb]
 gi_wp2_with fail
 refine⟨trivial,T,(callsIn_wide.2 (Gy _ Y Y _)).mono ?_⟩;rintro e w' ⟨rfl,rfl⟩
 gi_wp2_with fail
 refine⟨trivial,T,(callsIn_wide.2 (FL _ _)).mono ?_⟩;rintro e w' ⟨rfl,rfl⟩
 gi_wp2_with fail
 have E:jt (((w.alloc (jc #[.func (.func 175) #[] #[]] 267)).alloc (jc #[jb A 0 0] 28)).alloc (jc #[I N (512+d)] 269)) w.heap.size 267 (.func (.func 175) #[] #[]):=
  ((Boxed.new w _ _).alloc _).alloc _
 have F:jt (((w.alloc (jc #[.func (.func 175) #[] #[]] 267)).alloc (jc #[jb A 0 0] 28)).alloc (jc #[I N (512+d)] 269)) (w.heap.size+1) 28 (jb A 0 0):=by
  have:=Boxed.new (w.alloc (jc #[.func (.func 175) #[] #[]] 267)) 28 (jb A 0 0);rw[jC]at this;exact this.alloc _
 have t:jt (((w.alloc (jc #[.func (.func 175) #[] #[]] 267)).alloc (jc #[jb A 0 0] 28)).alloc (jc #[I N (512+d)] 269)) (w.heap.size+1+1) 269 (I N ((512+d:je):jd)):=by
  have:=Boxed.new ((w.alloc (jc #[.func (.func 175) #[] #[]] 267)).alloc (jc #[jb A 0 0] 28)) 269 (I N ((512+d:je):jd));rw[jC,jC]at this;exact this
 have H:jl w w (((w.alloc (jc #[.func (.func 175) #[] #[]] 267)).alloc (jc #[jb A 0 0] 28)).alloc (jc #[I N (512+d)] 269)):=
  (((jy _ w).alloc (jn _) _).alloc ar _).alloc (by simp;omega) _
 have a:(((w.alloc (jc #[.func (.func 175) #[] #[]] 267)).alloc (jc #[jb A 0 0] 28)).alloc (jc #[I N (512+d)] 269)).heap.size=w.heap.size+3:=by simp
 generalize(((w.alloc (jc #[.func (.func 175) #[] #[]] 267)).alloc (jc #[jb A 0 0] 28)).alloc (jc #[I N (512+d)] 269))=o at E F t H a⊢;have a5:jk (o.heap.size=w.heap.size+3):=a;have a6:w.heap.size+3<=o.heap.size:=Y;clear a;refine ru (n:=0) (gf:=257) (lb:=#[jA (ja ⟨w.heap.size+1+1,0,A⟩)]) T (enters_of func257 af T)
  (EZ (512+d) 10 Y Y (w.heap.size+1+1) o t) (jJ _) (λ_=>rfl) (by rintro k rfl;exact t.lt)
  (λf Ψ W=>gP (w.heap.size+1) 28 w.heap.size 3 1 f.length (f.map λn=>jE .i64 (kE n:je)) (λ_=>True) Ψ W/\(jt W w.heap.size 267 (.func (.func 175) #[] #[])/\¬Ψ w.heap.size)/\(jl w w W/\∀k,Ψ k->w.heap.size<=k))
  (λ_ _ _ _=>False)
  ((ni o.heap.size (w.heap.size+1) 28 w.heap.size 3 1 (λf=>f.length) (λf:jh je=>f.map λn=>jE .i64 (kE n:je)) (λ_ _=>True)).and ((iQ _ _ _ (λ_=>_)).and (kK _ _ w (jn _) Y)))
  (λ_=>fq _ _)
  ⟨⟨_,F,by omega,j0 _ _ _ _,by simp[qc],trivial⟩,⟨E,by omega⟩,H,by rintro k rfl;omega⟩
  (λx D _ _=>D={tmps:=#[I N d,.func (.func 175) #[] #[],ju,jA (ja ⟨w,0,A⟩),jA (ja ⟨w.heap.size+1,0,A⟩),I N 0,
   I N (512+d),I N x,jw #[I N (512+d),I N 0],I N d,jw #[I N (512+d),I N 0],I N (512+d),I N 0,I N 0,.bool jp,ju,I N (512+d),
   .func (.func 257) #[] #[jA (ja ⟨w.heap.size+1+1,0,A⟩)],I N x,ju,ju,ju,ju,ju,ju,ju],defers:=[]}) (fq _ _)
  ?assign ?body ?done ?stop
 case assign=>
  intro l f x Ψ r K c _ a
  gi_wp2
  exact a _ _ (jy _ _) c T
 case body=>
  rintro l f x Ψ D r ⟨⟨v,c,K,i,M,-⟩,⟨q,P⟩,m,Q⟩ rfl g YC ba bb;obtain⟨hx,bc⟩:=F6 10 (512+d) Y g;clear g;have u:=c.cell;have R:=q.cell;have y:=O m;have au:=m.size;clear m
  gi_wp2
  refine IJ (λg=>g.cell? ⟨w.heap.size+1,0,A⟩=ja v/\g.cell? ⟨w,0,A⟩=ja (.func (.func 175) #[] #[])) 6
   [(0,jf),(1,jf),(2,jf),(3,jp),(4,jp),(5,jp),(6,jp)] af af af af rfl (λ_ _ _ _ h=>h) (fun⟨_,_,h⟩=>h) ⟨u,R⟩ ?_
  refine fY (v:=?_) T T (λg j=>?_) ?_
  rotate_left
  ·obtain⟨k,s⟩:=j;go_simp;with_reducible rfl
  refine fY (v:=?_) T T (λg j=>?_) ?_
  rotate_left
  ·obtain⟨k,s⟩:=j;go_simp;with_reducible rfl
  refine fY (v:=?_) T T (λg j=>?_) ?_
  rotate_left
  ·go_simp;with_reducible rfl
  refine dn T (λz a=>?_);go_simp;refine(Nb _ Y _).mono ?_;rintro e w' ⟨rfl,rfl⟩;refine a _ _ ⟨u,R⟩ λ_=>?_
  clear a;refine dn T (λz a=>?_);go_simp;have Wq:(r.alloc (jc #[I N (kE x:je)] 3)).cell? ⟨w.heap.size+1,0,A⟩=ja v:=(c.alloc _).cell;have B:(r.alloc (jc #[I N (kE x:je)] 3)).cell? ⟨w,0,A⟩=ja (.func (.func 175) #[] #[]):=(q.alloc _).cell;refine a _ _ ⟨Wq,B⟩ λ_=>?_
  clear a;refine dn T (λz a=>?_);refine step_append_lies _ T (.tmp 19) (.tmp 23) 28 T w.heap.size 3 X (I N 0) 1 8 sx hi UV aa ad T G v f.length _ T (i.alloc _)
   ⟨r,0,A⟩ 1 1 [I N (kE x:je)] rfl rfl (cell_one_new _ _ _) (by simp[j1]) Y (by unfold j3;omega) Y (by simp;omega) _ rfl ?_
  intro g k S ax ay a1 bd;have C:=BS ay;obtain⟨s,a2⟩:=sB (B0:=o.heap.size) c G i au Y K M YC ax C (by
   intro j U;simp only[qc,Option.some.injEq]at U;subst U;simpa using a1)
  have j:jt S w.heap.size 267 (.func (.func 175) #[] #[]):=(q.alloc _).kept C (by have:=q.not_row (e:=3) G i;exact this);have U:jt S (w.heap.size+1) 28 v:=(c.alloc _).kept C (by have:=c.not_row (e:=3) G i;exact this);have a3:=U.cell;have bf:=U.frozen;have a4:=j.cell;refine a _ _ ⟨a3,a4⟩ λ_=>?_
  clear a;refine pG T (λz a=>?_);go_simp;refine a _ _ ⟨⟨s.1,s.2.1.mono (jJ _),s.2.2⟩,?_,⟨j.other Y _,P⟩,y.trans s.2.1,Q⟩;obtain⟨z,b1,b2,b3,b4,-⟩:=a2;exact⟨z,b1,b2,by simpa using b3,b4,trivial⟩
 case done=>
  rintro D xs Ψ W s rfl ⟨⟨v,c,K,i,M,-⟩,⟨q,P⟩,m,Q⟩ a;have u:=c.cell;have x:=c.frozen;have y:=O m;clear m;have j:=uJ d V;rw[j]at i;clear j;obtain⟨g,k,rfl⟩:=ownsRow_succ i
  gi_wp2
  refine⟨by simp,.inl ⟨_,_,T,sy (b:=D) (ds:=[]) ?_,?_⟩⟩
  ·exact(KeepsOthers.setCell W _ _).same D _ a T
  have j:jt (W.setCell ⟨w.heap.size+1,0,A⟩ (jb (ja ⟨g,0,A⟩) 9 k)) (w.heap.size+1) 28 (jb (ja ⟨g,0,A⟩) 9 k):=c.set _;have l:(W.setCell ⟨w.heap.size+1,0,A⟩ (jb (ja ⟨g,0,A⟩) 9 k)).heap[D]?=ja (.deferred (ja [])):=(KeepsOthers.setCell W _ _).same D _ a T;have m:(W.setCell ⟨w.heap.size+1,0,A⟩ (jb (ja ⟨g,0,A⟩) 9 k)).ownsRow w.heap.size 3 1 (jb (ja ⟨g,0,A⟩) 9 k) 9 ((upL 10 (512+d)).map λn=>jE .i64 (kE n:je)):=
   i.kept (ow W _ _) (.inr (c.not_row (e:=3) G i).symm)
  have r:jt ((W.setCell ⟨w.heap.size+1,0,A⟩ (jb (ja ⟨g,0,A⟩) 9 k)).putObj D (.deferred A)) (w.heap.size+1) 28 (jb (ja ⟨g,0,A⟩) 9 k):=
   (xf Y).trans j
  have B:=r.cell;refine⟨jw #[jb (ja ⟨g,0,A⟩) 9 k,I N 0],by simp[results,results171,go_sem,B],_,T,vi m _ l T,?_⟩;exact(y.setCell (p:=⟨w.heap.size+1,0,A⟩) ar _).trans (iy Y)
 intro D c f Ψ W _ _ h;exact h.elim
theorem S2(d:je)(a:d<512)(w:jg):
 jr jm 116 #[I N d] w λe w'=>∃v,e=jo (jw #[v,I N 0])/\
  w'.ownsRow w 3 1 v 9 (iv (kD d))/\jl w w w':=by
 rw[JZ]
 go_enter func116,ntmps116
 go_wp2_with fail
 refine(Qz d a _).mono ?_;rintro e w' ⟨v,rfl,b,c⟩
 go_wp2
 go_ret2;exact⟨v,T,b,c⟩
theorem Le(d:je)(a:d<512)(w:jg):
 jr jm 122 #[I N d] w λe w'=>∃v,e=jo (jw #[v,I N 0])/\
  w'.ownsRow w 3 1 v 9 (iv (nS d))/\jl w w w':=by
 rw[Tq]
 go_enter func122,ntmps122
 go_wp2_with fail
 refine(JO d a _).mono ?_;rintro e w' ⟨v,rfl,b,c⟩
 go_wp2
 go_ret2;exact⟨v,T,b,c⟩
end
section
open Go.RowKit Go.Sort
theorem CJ(v:ji)(xs:jh jd)(base b:je)(w:jg)(h:w.ownsRow base 3 1 v xs.length (xs.map (jE .i64)))(o:b<=base)(p:xs.length<=1000000):
 jr jm 118 #[v] w λe w'=>e=jo (jw #[])/\w'.ownsRow base 3 1 v xs.length ((xs.mergeSort leI).map (jE .i64))/\jl b w w':=by
 rcases h.2 with⟨rfl,c⟩|⟨g,d,q,rfl,f,a,i,j,l,m⟩
 ·refine(Tryzx.slices_Sort_int_none A 0 w).mono ?_
  rintro e w' ⟨rfl,rfl⟩;have:xs=[]:=qs c;subst this;exact⟨T,by simpa using h,jy _ _⟩
 refine(Tryzx.slices_Sort_int g 0 d xs w (holds_of_block_i a (ak m)) (jK.1 a).1 Y).mono ?_;rintro e w' ⟨rfl,n,os,rfl⟩;exact⟨T,ownsRow_sorted_i ar f a i j l,(jy b w).grown (grownBy_sorted_i _) (by have:=(jK.1 a).1;omega) (λk e=>by cases e;omega)⟩
theorem Ft{gf:je}{lb:jZ ji}(d:∀args w,(callFunc gf args).run jm w=.ok (.enter gf args) w){c:je->Prop}{f:je}{S n V:jh jd->Prop}{w:jg}
 (g:eR jm gf lb (λx:jd=>#[I N x]) c f S n V w) (h:f<=w.heap.size) (i:∀k,c k->k<w.heap.size) (j:∀ys,V ys->ys.length<=1000000) (a:∀xs,S xs->xs.length<=1000000) (b:je) (l:b<=w.heap.size) (m:∀k,c k->b<=k):
 jr jm 133 #[.func (.func gf) #[] lb] w λe w'=>∃v xs,e=jo v/\S xs/\w'.ownsRow w 3 1 v xs.length ((xs.mergeSort leI).map (jE .i64))/\jl b w w':=by
 have k:=O (DI d g h i j b l m);have o:=O a;clear d g h i j m a
 go_enter func133,ntmps133
 go_wp2_with fail
 refine k.mono ?_;rintro e h ⟨v,xs,rfl,a,d,g⟩;have i:=O (CJ v xs w.heap.size b h d l (o xs a));have j:=O g;clear d g
 go_wp2_with fail
 refine i.mono ?_;rintro e q ⟨rfl,d,g⟩;have m:=O d;have p:=O g;clear d g
 go_wp2
 go_ret;exact⟨v,xs,T,a,m,j.trans p⟩
theorem JN(v:ji)(xs:jh jd)(base a:je)(w:jg)(h:w.ownsRow base 3 1 v xs.length (xs.map (jE .i64)))(y:a<=base)(z:xs.length<=1000000):
 jr jm 119 #[v] w λe w'=>∃u,e=jo u/\w'.ownsRow base 3 1 u (Lib.compact xs).length ((Lib.compact xs).map (jE .i64))/\jl a w w':=by
 rcases h.2 with⟨rfl,m⟩|⟨g,c,o,rfl,p,b,B,r,d,s⟩
 ·refine(Tryzx.slices_Compact_int_empty A 0 w).mono ?_
  rintro e w' ⟨rfl,rfl⟩;have:xs=[]:=qs m;subst this;exact⟨_,T,by simpa [Lib.compact,Lib.compactUpTo]using h,jy _ _⟩
 have C:=(jK.1 b).1;refine(Tryzx.slices_Compact_int g 0 c xs w (holds_of_block_i b (ak s)) Y Y).mono ?_;rintro e w' ⟨rfl,q,rfl⟩;have t:(Lib.compact xs).length<=xs.length:=by
  unfold Lib.compact Lib.compactUpTo;rw[jD];exact jz (q9 _ _) ar
 have x:∀W:jg,grow W #[]=W:=λW=>by simp[grow]
 have f:=heap_sorted_i (n:=q) (os:=#[]) (Lib.compact xs++j9 (xs.length-(Lib.compact xs).length) 0).toArray b;have i:=grownBy_sorted_i (w:=w) (g:=g) (n:=q) (os:=#[]) (Lib.compact xs++j9 (xs.length-(Lib.compact xs).length) 0).toArray;rw[x]at f i;refine⟨_,T,⟨by simp,.inr ⟨g,c,_,T,p,f,by omega,r,by simp[putCells,d],?_⟩⟩,(jy a w).grown i Y (λk e=>by cases e;omega)⟩;have j:(Lib.compact xs++j9 (xs.length-(Lib.compact xs).length) 0).length=xs.length:=by simp;omega
 have k:=take_putCells_i o (Lib.compact xs++j9 (xs.length-(Lib.compact xs).length) 0) (by rw[j,d];omega);rw[j]at k;have l:=qM (List.take (Lib.compact xs).length) k;rw[List.take_take,qC t]at l;rw[rk,l,<-List.map_take,List.take_left']
 rfl
end
theorem Bw(t:jh (jd×jd))(a p:jd):gD (t++[(a,p)])=gD t++if 512<=a/\a<=1023 then [a-512]else []:=by
 unfold gD;rw[List.filter_append,j4]
 congr 1
 by_cases h:512<=a/\a<=1023
 ·simp[h.1,h.2]
 rw[jI h];simp only[List.filter_cons,List.filter_nil];rw[jI (ak h)]
 rfl
theorem yA(t:jh (jd×jd)):(gD t).length<=t.length:=by
 unfold gD;rw[jD];exact q9 _ _
theorem tO{wr:jg}{g o k:je}(l:∀j,j<t.length->w.cell? ⟨g,o+j*2,A⟩=ja (I N (t.getD j (0,0)).1)/\w.cell? ⟨g,o+j*2+1,A⟩=ja (I N (t.getD j (0,0)).2))
 (e:∀x∈t,aO x.1/\aO x.2) (b:k<t.length) (f:jl w w wr):
 ∃a p,wr.cell? ⟨g,o+k*2,A⟩=ja (I N a)/\wr.cell? ⟨g,o+k*2+1,A⟩=ja (I N p)/\aO a/\aO p/\t.getD k (0,0)=(a,p)/\t.take (k+1)=t.take k++[(a,p)]/\(a,p)∈t:=by
 obtain⟨h,i⟩:=l k b;have c:t.getD k (0,0)=t[k]:=by simp[jO,b]
 have d:t[k]∈t:=qD b;refine⟨t[k].1,t[k].2,?_,?_,(e _ d).1,(e _ d).2,c,by rw[o3 b],d⟩
 ·rw[<-c];exact cI h (f.block g (eN h))
 rw[<-c];exact cI i (f.block g (eN i))
theorem tK(t:jh (jd×jd))(v:ji)(w:jg)(d:bJ w v t)(s:t.length<=1000000):
 jr jm 63 #[jq #[v]] w λe w'=>∃u,e=jo u/\w'.ownsRow w 3 1 u (cr t).length ((cr t).map (jE .i64))/\jl w w w':=by
 obtain⟨p,c,rfl,F,i,b,g⟩:=d;obtain⟨H,K,M,P,Q⟩:=qh Dv
 go_enter func63,ntmps63
 go_wp2_with fail
 obtain⟨x,a⟩:=J (w.alloc (jc #[jb p t.length c] 43));have h:jl w w x:=by rw[a];exact(jy _ w).alloc (jn _) _
 have R:=O (j0 x w.heap.size 3 1);rw[<-a];clear a;have S:=O h;have U:=O b;have V:=O g;have y:=O (λk=>jz (yA (t.take k)) (by rw[qf];exact Nat.min_le_left k _));obtain⟨n,a⟩:=J t.length;have f:=O a;rw[<-a]at s F⊢;clear h b g a i
 go_loopw [2,8] (λu i wr=>∃k:je,i=I N k/\k<=n/\jk (wr.ownsRow w 3 1 u (gD (t.take k)).length ((gD (t.take k)).map (jE .i64)))/\jk (jl w w wr)) (λ_ i _=>n-(jv i).toNat)
 case atStart=>exact⟨0,T,jJ _,R,S⟩
 obtain⟨k,rfl,hk,z,b⟩:=hrel
 by_cases W:k<n
 ·have X:=aA ((k:jd)<(n:jd))
  have UY:=aA (k<n);obtain⟨g,o,rfl,i⟩:=U.out (by rw[<-f];omega);obtain⟨a,l,c1,c2,B,m,-,d,-⟩:=tO i V.out (by rw[<-f];exact W) b;have q:=O d;have ad:=y k;have r:=O (b.alloc b.size (jc #[I N a,I N l] 192));have h:=O (z.alloc (jc #[I N a,I N l] 192));have au:w.heap.size<=wr.heap.size:=b.size;clear i d B m
  by_cases h5:512<=a
  ·have aa:=aA (512<=a)
   by_cases h6:a<=1023
   ·have hd2:=aA (a<=1023)
    have C:=O (cell_one_new (wr.alloc (jc #[I N a,I N l] 192)) (I N (a-512)) 3);rw[jC]at C
    go_wp2_with (at_builtin;refine wi _ T _ _ 28 T w.heap.size 3 H (I N 0) 1 8 sx K M P Q T G _ _ _ T (h.alloc _) ⟨wr.heap.size+1,0,A⟩ 1 1 [I N (a-512)] T T C (by simp[j1]) (by unfold j3;omega) Y (by simp;omega) ?_;intro v' B D E _)
    have Wi:=O D;have i:=r.out;have UA:=O ((Below.alloc i i.size (jc #[I N (a-512)] 3)).grown E (by have:=i.size;simp;omega) (λj hj=>(h.lt j hj).1));clear D E i;refine⟨⟨k+1,by go_num,by omega,?_,UA⟩,by simp only[jv];omega⟩;rw[q,Bw,jB ⟨h5,h6⟩,jL,j4];exact Wi
   have hd2:=az (a<=1023)
   go_wp2
   refine⟨⟨k+1,by go_num,by omega,?_,r⟩,by simp only[jv];omega⟩;rw[q,Bw,jI Y,q7];exact h
  have aa:=az (512<=a)
  go_wp2
  refine⟨⟨k+1,by go_num,by omega,?_,r⟩,by simp only[jv];omega⟩;rw[q,Bw,jI Y,q7];exact h
 have X:=az ((k:jd)<(n:jd));have UY:=az (k<n);obtain rfl:k=n:=Y;have a:=z.out;rw[f,List.take_length]at a;have h:=y k;have g:(gD t).length<=1000000:=jz (yA t) (by rw[<-f];exact s);have i:=O (CJ _ (gD t) w.heap.size w.heap.size wr a (jn _) g);have j:=O g;clear a h g
 go_wp2_with fail
 refine i.mono ?_;rintro e m ⟨rfl,g,h⟩;have a:((gD t).mergeSort leI).length=(gD t).length:=xg _;have l:=O (JN _ ((gD t).mergeSort leI) w.heap.size w.heap.size m (by rw[a];exact g) (jn _) (by rw[a];exact j));have o:=O h;clear g h a
 go_wp2_with fail
 refine l.mono ?_;rintro e r ⟨u,rfl,a,g⟩;have h:=O a;have q:=O g;clear a g
 go_wp2
 go_ret;exact⟨u,T,h,b.trans (o.trans q)⟩
theorem JR(t:jh (jd×jd))(v:ji)(x:jd)(w:jg)(d:bJ w v t)(h:t.length<=1000000)(g:aO x):
 jr jm 100 #[jq #[v],I N x] w λe w'=>e=jo (jw #[I N ((bG t x).getD 0),.bool (bG t x).isSome])/\jl w w w':=by
 have a:jl w w (w.alloc (jc #[v] 43)):=(jy _ w).alloc (jn _) _;have i:=O (zk t v (w.alloc (jc #[v] 43)) (d.below a) h);obtain⟨p,c,rfl,-,-,-,-⟩:=d;have j:=O g;have k:=O a;obtain⟨f,b⟩:∃f,bG t x=f:=⟨_,T⟩;rw[b];have l:=O b;clear g a b
 go_enter func100,ntmps100
 go_wp2_with fail
 refine i.mono ?_;rintro e q ⟨b,rfl,m,a,g⟩;have n:=O a;have o:=ah k g;clear a g m
 go_wp2_with (at_lookup;refine vM (he:=jQ) T _ _ 150 T jQ qw (pQ _) b t.length _ T n x T j ?_;rw[l])
 go_ret2;exact⟨T,o⟩
theorem pP{v:ji}{l:jh jd}(h:w.ownsRow B 3 1 v l.length (l.map (jE .i64))):
 ∃p c,v=jb p l.length c/\l.length<=c/\(0<l.length->∃g,p=ja ⟨g,0,A⟩/\B<=g/\g<w.heap.size/\∀j,j<l.length->w.cell? ⟨g,j,A⟩=ja (I N (l.getD j 0))):=by
 rcases h.2 with⟨rfl,d⟩|⟨g,f,n,rfl,i,a,k,o,q,m⟩
 ·exact⟨A,0,by rw[d],by omega,λh=>by omega⟩
 refine⟨_,f,T,k,λ_=>⟨g,T,i,(jK.1 a).1,λj b=>?_⟩⟩;have e:=qM (λz:jh ji=>z[j]?) m;simp only[rk]at e;rw[rn b]at e;unfold j5;rw[a];simp only[xh,xi,if_false];rw[<-xj,e];simp[jO,b]
def ef(a:jh jd)(y:jd):jS Bool:=if y∈a then ja jf else A
theorem zp(a:jh jd)(z:jd):(λy=>if y=z then ja jf else ef a y)=ef (a++[z]):=by
 funext y
 unfold ef
 by_cases h:y=z
 ·simp[h]
 simp[h]
def bW(d:jd):jh jd:=(kD d.toNat).map λn:je=>(n:jd)
def fO(a:jh jd):jh jd:=a.flatMap λd=>(512+d)::bW d
theorem MM(a:jh jd)(d:jd):fO (a++[d])=(fO a++[512+d])++bW d:=by
 simp[fO,List.flatMap_append]
theorem tY(d:jd)(a:0<=d)(b:d<512):(bW d).length=9:=by
 unfold bW kD;rw[jD,jD,uJ _ Y]
theorem Aj(d:jd)(c:0<=d)(e:d<512):∀x∈bW d,0<=x/\x<1024:=by
 intro x a;unfold bW kD at a;simp only[qQ]at a;obtain⟨n,⟨m,b,rfl⟩,rfl⟩:=a;have:=zv 10 (512+d.toNat) m b;unfold gU;omega
theorem Ct(d:jd)(a:0<=d)(b:d<512)(w:jg):
 jr jm 116 #[I N d] w λe w'=>∃v,e=jo (jw #[v,I N 0])/\w'.ownsRow w 3 1 v (bW d).length ((bW d).map (jE .i64))/\jl w w w':=by
 obtain⟨n,rfl⟩:=xk a;refine(S2 n Y w).mono ?_;rintro e w' ⟨v,rfl,c,f⟩;refine⟨v,T,?_,f⟩;rw[tY _ a b];have e:iv (kD n)=(bW (n:jd)).map (jE .i64):=by simp[iv,bW,Function.comp_def]
 rw[<-e];exact c
def mT(t:jh (jd×jd))(U:jh jd)(i:je):Prop:=
 (t.getD i (0,0)).1<1\/1023<(t.getD i (0,0)).1\/(0<i/\(t.getD i (0,0)).1<=(t.getD (i-1) (0,0)).1)\/¬bL (t.getD i (0,0)).2\/(t.getD i (0,0)).1∉U
def L3(t:jh (jd×jd)):Prop:=∃i,i<t.length/\mT t (fO (cr t)) i
noncomputable def df(t:jh (jd×jd)):jd:=by classical exact if L3 t then 210 else 0
theorem zo(h:jl B w a)(n:je):jl B w (a.drewN n):=h.trans ⟨T,T,T,jn _,λ_ _=>rfl⟩
theorem nJ(h:d=y):Ending.returned (I N y)=jo (I N d):=by rw[h]
theorem B3(h:t.getD B (0,0)=(d,y))(e:1<=d)(f:d<=1023)(b:¬(0<B/\d<=(t.getD (B-1) (0,0)).1))(c:bL y)(a:d∈U):¬mT t U B:=by
 unfold mT;rw[h];rintro(x|x|x|x|x)
 ·exact jG x (by show ¬d<1;omega)
 ·exact jG x (by show ¬1023<d;omega)
 ·exact b x
 ·exact x c
 exact x a
theorem Ee(h:∀j,j<B->¬mT t U j)(b:¬mT t U B):∀j,j<B+1->¬mT t U j:=by
 intro j c
 rcases qE j B with a|a
 ·exact h j a
 obtain rfl:j=B:=Y;exact b
theorem Bh(w:jg):(zeroValue 4).run jm w=.ok (.bool jp) w:=by kernel_rfl
theorem nW{k:je}(a:U=fO (cr t))(b:k<t.length)(h:mT t U k):df t=210:=by
 unfold df;rw[jB];subst a;exact⟨k,b,h⟩
theorem B4(a:U=fO (cr t))(h:∀j,j<t.length->¬mT t U j):df t=0:=by
 unfold df;rw[jI];subst a;rintro⟨i,b,c⟩;exact h i b c
theorem ye(t:jh (jd×jd))(v:ji)(w:jg)(ht:bJ w v t)(hl:t.length<=1000000):
 jr jm 58 #[jq #[v]] w λe w'=>e=jo (I N (df t))/\jl w w w':=by
 have a:jl w w ((w.alloc (jc #[v] 43)).alloc (.map #[] 0)):=((jy _ w).alloc (jn _) _).alloc ar _;have j:=O (tK t v ((w.alloc (jc #[v] 43)).alloc (.map #[] 0)) (ht.below a) hl);have b:aZ (ie n0) 3 ((w.alloc (jc #[v] 43)).alloc (.map #[] 0)) (w.heap.size+1) 0 (λ_=>A):=by
  have h:=aZ.made (ie n0) 3 (w.alloc (jc #[v] 43));rw[jC]at h;exact h
 have V:=O ht;obtain⟨p,c,rfl,hc,-,-,-⟩:=ht;obtain⟨W0,i⟩:=J ((w.alloc (jc #[jb p t.length c] 43)).alloc (.map #[] 0));have k:W0.heap[w.heap.size]?=ja (jc #[jb p t.length c] 43 (0,0)):=by
  rw[i];exact(jF _ _ _ ar).trans (js w _)
 have d:=@run_makeMap jm
 go_enter func58,ntmps58
 go_wp2_with fail
 rw[<-i]at j a b⊢;clear d;refine j.mono ?_;rintro e w1 ⟨u,rfl,au,g⟩;obtain⟨pu,cu,rfl,a6,q⟩:=pP au;have F:=O q;have H:=O (b.below g b.lt);have UX:=O ((g.block _ (jK.1 k).1).trans k);have UA:=O (a.trans (g.mono a.size));have bd:w.heap.size+1<w1.heap.size:=jN b.lt g.size;obtain⟨B,m⟩:=J (w.heap.size+1);rw[<-m]at H bd⊢;have bl:w.heap.size<B:=Y;have bm:B<W0.heap.size:=by rw[i,m];simp
 have Zb:=O (jz (show(cr t).length<=(gD t).length by
  unfold cr Lib.compact Lib.compactUpTo;rw[jD];exact jz (q9 _ _) ar) (yA t))
 have K:=O (λd=>(oI t d).1);obtain⟨P,o⟩:=J (cr t);rw[<-o]at F Zb K a6⊢;have bf:=O o;obtain⟨n,f⟩:=J P.length;have bn:n<=1000000:=by rw[f];exact jz Zb hl
 have r:=O f;rw[<-f]at a6⊢;clear i k a b au g q j m f o
 go_wp2_with fail
 go_loopw [16] (λi wr=>∃k:je,i=I N k/\k<=n/\jk (aZ (ie n0) 3 wr B (k*10) (ef (fO (P.take k))))/\jk (jl w w wr)/\jk (∀b,b<w1.heap.size->b≠B->wr.heap[b]?=w1.heap[b]?)/\w1.heap.size<=wr.heap.size) (λi _=>n-(jv i).toNat)
 case atStart=>exact⟨0,T,jJ _,O (H.congr (λx _=>by simp[fO,ef])),UA,O (λ_ _ _=>rfl),jn _⟩
 obtain⟨k,rfl,hk,HM,HB,q,a5⟩:=hrel
 by_cases W:k<n
 ·have hd:=aA ((k:jd)<(n:jd))
  have UY:=aA (k<n);obtain⟨g,rfl,bk,Yv,s⟩:=F.out (by rw[<-r];omega);have a:k<P.length:=by rw[<-r];exact W
  have j:=s k a;have m:P.getD k 0=P[k]:=by simp[jO,a]
  have Za:=O (o3 a);obtain⟨y,C,-⟩:=K P[k] (qD a);rw[m]at j;obtain⟨d,o⟩:=J (P[k]);rw[<-o]at j y C Za;have Q:wr.cell? ⟨g,k,A⟩=ja (I N d):=cI j (q g Yv Y);clear j m a s o;have Vv:g<wr.heap.size:=Y;have ba:=O (Ct d y C);have M:=O (tY d y C);have bb:=O (Aj d y C);have a:aO (512+d):=aO.of Y;have HI:=O a;clear a
  go_wp2_with fail
  refine(ba _).mono ?_;rintro e w2 ⟨pv,rfl,au,a⟩;obtain⟨pp,cp,rfl,bc,j⟩:=pP au;rw[M]at bc j⊢;obtain⟨o,rfl,bo,bg,z⟩:=j Y;have D:=O (HM.below a Y);have U:=ah HB a;have X:jk (∀b,b<w1.heap.size->b≠B->w2.heap[b]?=w1.heap[b]?):=O λb m f=>(a.block b Y).trans (q b m f)
  have bp:=a.size;have US:=O z;clear au a j z Q
  go_wp2_with (at_mapUpdate;refine oD (E:=ie n0) T _ _ _ 193 T jQ qX B _ _ T D (by unfold j3;omega) (512+d) T HI jf T trivial ?_;intro a aa R;have S:=O aa;have z:=O R;have j:=R.grown.size;clear aa R)
  have S:jk (aZ (ie n0) 3 a B (k*10+1+0) (ef (fO (P.take k)++[512+d]++(bW d).take 0))):=O (by
   have h:=S.out;rw[zp]at h
   simpa using h)
  have YR:jk (∀b,b<w1.heap.size->b≠B->a.heap[b]?=w1.heap[b]?):=O λb m f=>(z.grown.block b Y (ak f)).trans (X b m f)
  have UE:jk (jl w w a):=O (U.grown z.grown Y (λj e=>by cases e;omega));have Vb:jk (∀j,j<9->a.cell? ⟨o,j,A⟩=ja (I N ((bW d).getD j 0))):=O λj hj=>cI (US j hj) (z.grown.block o bg (by simp;omega))
  have bq:o<a.heap.size:=Y;clear z X U US D
  go_wp2_with fail
  go_loopw [30] (λi wr=>∃j:je,i=I N j/\j<=9/\jk (aZ (ie n0) 3 wr B (k*10+1+j) (ef (fO (P.take k)++[512+d]++(bW d).take j)))/\jk (jl w w wr)/\jk (∀b,b<a.heap.size->b≠B->wr.heap[b]?=a.heap[b]?)/\a.heap.size<=wr.heap.size) (λi _=>9-(jv i).toNat)
  case atStart=>exact⟨0,T,jJ _,S,UE,O (λ_ _ _=>rfl),jn _⟩
  obtain⟨j,rfl,hj,ad,ax,U,br⟩:=hrel
  by_cases ay:j<9
  ·have bh:=aA ((j:jd)<9)
   have cy:wr.cell? ⟨o,j,A⟩=ja (I N ((bW d).getD j 0)):=cI (Vb j ay) (U o Y Y);have D:j<(bW d).length:=by rw[M];exact ay
   have X:(bW d).getD j 0=(bW d)[j]:=by simp[jO,D]
   have a1:=O (o3 D);have a2:=O (bb _ (qD D));rw[X]at cy;obtain⟨z,hz⟩:=J ((bW d)[j]);rw[<-hz]at cy a1 a2;have bi:jk (aO z):=O (aO.of (x:=z) (aI a2));have bs:o<wr.heap.size:=Y;clear D X hz
   go_wp2_with (at_mapUpdate;refine oD (E:=ie n0) T _ _ _ 193 T jQ qX B _ _ T ad (by unfold j3;omega) z T bi jf T trivial ?_;intro w5 a3 D;have X:=O a3;have a4:=O D;have bu:=D.grown.size;clear a3 D)
   refine⟨⟨j+1,by go_num,by omega,O ?_,O (ax.grown a4.grown Y (λj e=>by cases e;omega)),O λb m f=>(a4.grown.block b Y (ak f)).trans (U b m f),by omega⟩,by simp only[jv];omega⟩;have h:=X.out;rw[zp]at h;rw[a1,<-j6];exact h
  have bh:=az ((j:jd)<9);obtain rfl:j=9:=Y
  go_wp2_with fail
  refine⟨⟨k+1,by go_num,by omega,O ?_,ax,O λb m f=>(U b Y f).trans (YR b m f),by omega⟩,by simp only[jv];omega⟩;have h:=ad.out;rw[nv (l:=bW d) (by rw[M];exact jn _)]at h;rw[Za,MM];exact h.mono (n':=(k+1)*10) Y
 have hd:=az ((k:jd)<(n:jd));have UY:=az (k<n);obtain rfl:k=n:=Y;have WF:jk (wr.heap[w.heap.size]?=ja (jc #[jb p t.length c] 43 (0,0))):=O ((q w.heap.size Y Y).trans UX);have ay:jk (aZ (ie n0) 3 wr B (k*10) (ef (fO P))):=O (by
  have h:=HM.out;rw[nv (by rw[<-r];exact jn _)]at h;exact h)
 have b:=O (V.below HB);have ba:B<wr.heap.size:=Y;obtain⟨U,a⟩:=J (fO P);rw[<-a]at ay;have HU:jk (U=fO (cr t)):=O (by rw[a,bf]);obtain⟨k',d⟩:=J k;rw[<-d]at ay;clear a HM q F K V UX UA H r d;have cb:wr.cell? ⟨w,0,A⟩=ja (jb p t.length c):=by unfold j5;rw[WF];rfl
 obtain⟨p',c',he,-,-,a,d⟩:=b.out
 cases he
 have HC:=O a;have bb:=O d;clear a d;obtain⟨n,f⟩:=J t.length;have r:=O f;obtain⟨W3,a⟩:=J wr;have a1:w.heap.size<wr.heap.size:=Y;rw[<-a]at WF ay HC ba cb HB a1⊢;rw[<-f]at hc hl cb WF⊢;clear f a a5 b
 go_wp2_with fail
 go_loopw [41] (λi wr=>∃k:je,i=I N k/\k<=n/\jk (∀j,j<k->¬mT t U j)/\jk (jl W3 W3 wr)) (λi _=>n-(jv i).toNat)
 case atStart=>exact⟨0,T,jJ _,O (λ_ h=>jG h Y),O (jy _ _)⟩
 obtain⟨k,rfl,hk,HG,Yc⟩:=hrel
 by_cases W:k<n
 ·have hd:=aA ((k:jd)<(n:jd))
  have UY:=aA (k<n);obtain⟨g,o,rfl,s⟩:=HC.out (by rw[<-r];omega);obtain⟨a,q,Q,j,i,m,hgt,-,-⟩:=tO s bb.out (by rw[<-r];exact W) Yc;have x:wr.cell? ⟨w,0,A⟩=ja (jb (ja ⟨g,o,A⟩) n c):=cI cb (Yc.block _ a1);have aa:=O hgt;have VU:=O s;have Yl:=O i;have b:=Yc.alloc Yc.size (jc #[I N a,I N q] 192);have D:w.heap.size<wr.heap.size:=jN a1 Yc.size;have y:wr.heap.size<(wr.alloc (jc #[I N a,I N q] 192)).heap.size:=by simp
  have z:(wr.alloc (jc #[I N a,I N q] 192)).cell? ⟨wr,0,A⟩=ja (I N a):=by
   unfold j5;rw[js];rfl
  have C:(wr.alloc (jc #[I N a,I N q] 192)).cell? ⟨wr,1,A⟩=ja (I N q):=by
   unfold j5;rw[js];rfl
  have d:(wr.alloc (jc #[I N a,I N q] 192)).cell? ⟨w,0,A⟩=ja (jb (ja ⟨g,o,A⟩) n c):=cI cb (b.block _ a1);have X:jk (aZ (ie n0) 3 (wr.alloc (jc #[I N a,I N q] 192)) B (k'*10) (ef U)):=O (ay.below b ba);have K:=ah HB b;have ad:=O b;clear s hgt i m b
  go_upto_region 16 with fail
  obtain⟨M,b⟩:=J (wr.alloc (jc #[I N a,I N q] 192));rw[<-b]at y z C d X K ad⊢;clear b Q j x D
  by_cases h1:a<1
  ·have bg:=aA (a<1)
   have s:jk (df t=210):=O<|nW HU.out (by rw[<-r];exact W) (.inl (by rw[aa];exact h1))
   go_quiet (fail)
   go_wp2_with fail
   go_ret;exact⟨nJ s,zo K _⟩
  have bg:=az (a<1)
  by_cases h2:1023<a
  ·have hd2:=aA (1023<a)
   have s:jk (df t=210):=O<|nW HU.out (by rw[<-r];exact W) (.inr (.inl (by rw[aa];exact h2)))
   go_quiet (fail)
   go_wp2_with fail
   go_ret;exact⟨nJ s,zo K _⟩
  have hd2:=az (1023<a)
  by_cases h3:0<k
  ·have hd3:=aA (0<(k:jd))
   have bh:=aA (0<k);obtain⟨m,b⟩:=J (k-1);have bo:(k:jd)-1=(m:jd):=Y;have bi:m<n:=Y;obtain⟨a2,q2,c3,-,-,-,i,-,-⟩:=tO VU bb (k:=m) (by rw[<-r];exact bi) ad;have bc:=O i;have HM:=O b;clear i b
   by_cases h4:a<=a2
   ·have bk:=aA (a<=a2)
    have s:jk (df t=210):=O<|nW HU.out (by rw[<-r];exact W) (.inr (.inr (.inl (by rw[<-HM,aa,bc];exact⟨h3,h4⟩))))
    go_quiet (fail)
    go_wp2_with fail
    go_ret;exact⟨nJ s,zo K _⟩
   have bk:=az (a<=a2);have ax:B<M.heap.size:=by have:=Yc.size;omega
   have Q:=O (gC q);have bp:qS.wrap (m:jd)=(m:jd):=by rw[qF];omega
   have bq:(0:jd)<=(m:jd):=Y;have br:(m:jd)<(n:jd):=Y;have bs:(m:jd)<=(n:jd):=Y;have a3:jk (¬(0<k/\a<=(t.getD (k-1) (0,0)).1)):=O (by rw[<-HM,bc];exact λh=>h4 h.2)
   by_cases D:bL q
   ·have R:cW q=0:=gE D
    rw[R]at Q;have a4:=O D;clear R D;have x:∀w',aZ (ie n0) 3 w' B (k'*10) (ef U)->(Instr.lookup 193 (.map (ja B)) (I N a) jp).run jm w'=.ok (.bool ((ef U a).getD jp)) w':=λw' h=>h.look jQ qX (Bh w') Yl jp
    have F:=x M.drew (aZ.of_block (w':=M.drew) X T)
    by_cases H:a∈U
    ·have S:(ef U a).getD jp=jf:=by unfold ef;rw[jB H];rfl
     rw[S]at F x;have a5:=O H;clear S H;refine jT ?_;refine lL (λw'=>w'.cell? ⟨w,0,A⟩=ja (jb (ja ⟨g,o,A⟩) n c)/\w'.cell? ⟨g,o+m*2,A⟩=ja (I N a2)/\w'.cell? ⟨wr,0,A⟩=ja (I N a)/\w'.cell? ⟨wr,1,A⟩=ja (I N q)/\(Instr.lookup 193 (.map (ja B)) (I N a) jp).run jm w'=.ok (.bool jf) w') 100 [(0,jf),(1,jf),(2,jf),(3,jf),(4,jf),(5,jf),(6,jf),(7,jf),(8,jf),(9,jf),(10,jf),(11,jf),(12,jf),(13,jf),(14,jf),(15,jf),(16,jf),(17,jf),(18,jf),(19,jf),(20,jf),(21,jf),(22,jf),(23,jf),(24,jf),(25,jf),(26,jf),(27,jp),(28,jf),(29,jf),(30,jf),(31,jf),(32,jf),(33,jf),(34,jf),(35,jf),(36,jf)]
      af af af rfl (λ_ _ _ _ h=>h) ⟨d,c3,z,C,F⟩ ?_
     iterate 27 refine wE ?_
     refine dn T (λK' j=>?_);go_simp;refine(Q _).mono ?_;rintro e i ⟨rfl,b⟩;refine j _ _ ⟨cI d (b.block _ (eN d)),cI c3 (b.block _ (eN c3)),cI z (b.block _ y),cI C (b.block _ y),x i (aZ.of_block (w':=i) X (b.block B ax))⟩ λ_=>?_
     clear j;refine L ?_;iterate 9 refine wE ?_
     refine jR ?_;have V:jk (jl W3 W3 i):=O (ad.trans (qt (w:=M) ⟨b.os,b.tape,b.output,b.size,b.block⟩ ad.size));clear b x F
     go_wp2_with fail
     refine⟨⟨k+1,by go_num,by omega,O (Ee HG (B3 aa Y Y a3 a4 a5)),V⟩,by simp only[jv];omega⟩
    have S:(ef U a).getD jp=jp:=by unfold ef;rw[jI H];rfl
    rw[S]at F x;have s:jk (df t=210):=O<|nW HU.out (by rw[<-r];exact W) (.inr (.inr (.inr (.inr (by rw[aa];exact H)))));clear S H;refine jT ?_;refine lL (λw'=>w'.cell? ⟨w,0,A⟩=ja (jb (ja ⟨g,o,A⟩) n c)/\w'.cell? ⟨g,o+m*2,A⟩=ja (I N a2)/\w'.cell? ⟨wr,0,A⟩=ja (I N a)/\w'.cell? ⟨wr,1,A⟩=ja (I N q)/\(Instr.lookup 193 (.map (ja B)) (I N a) jp).run jm w'=.ok (.bool jp) w') 100 [(0,jf),(1,jf),(2,jf),(3,jf),(4,jf),(5,jf),(6,jf),(7,jf),(8,jf),(9,jf),(10,jf),(11,jf),(12,jf),(13,jf),(14,jf),(15,jf),(16,jf),(17,jf),(18,jf),(19,jf),(20,jf),(21,jf),(22,jf),(23,jf),(24,jf),(25,jf),(26,jf),(27,jp),(28,jf),(29,jf),(30,jf),(31,jf),(32,jf),(33,jf),(34,jf),(35,jf),(36,jf)]
     af af af rfl (λ_ _ _ _ h=>h) ⟨d,c3,z,C,F⟩ ?_
    iterate 27 refine wE ?_
    refine dn T (λK' j=>?_);go_simp;refine(Q _).mono ?_;rintro e i ⟨rfl,b⟩;refine j _ _ ⟨cI d (b.block _ (eN d)),cI c3 (b.block _ (eN c3)),cI z (b.block _ y),cI C (b.block _ y),x i (aZ.of_block (w':=i) X (b.block B ax))⟩ λ_=>?_
    clear j;refine L ?_;iterate 9 refine wE ?_
    refine jR ?_;have V:jk (jl w w i):=O (K.trans (qt (w:=M) ⟨b.os,b.tape,b.output,b.size,b.block⟩ K.size));clear b x F
    go_wp2_with fail
    go_ret;exact⟨nJ s,V⟩
   have R:cW q=40:=lf D;rw[R]at Q;have s:jk (df t=210):=O<|nW HU.out (by rw[<-r];exact W) (.inr (.inr (.inr (.inl (by rw[aa];exact D)))));clear R D;refine jT ?_;refine lL (λw'=>w'.cell? ⟨w,0,A⟩=ja (jb (ja ⟨g,o,A⟩) n c)/\w'.cell? ⟨g,o+m*2,A⟩=ja (I N a2)/\w'.cell? ⟨wr,0,A⟩=ja (I N a)/\w'.cell? ⟨wr,1,A⟩=ja (I N q)) 100 [(0,jf),(1,jf),(2,jf),(3,jf),(4,jf),(5,jf),(6,jf),(7,jf),(8,jf),(9,jf),(10,jf),(11,jf),(12,jf),(13,jf),(14,jf),(15,jf),(16,jf),(17,jf),(18,jf),(19,jf),(20,jf),(21,jf),(22,jf),(23,jf),(24,jf),(25,jf),(26,jf),(27,jp),(28,jf),(29,jf),(30,jf),(31,jf),(32,jf),(33,jf),(34,jf),(35,jf),(36,jf)]
    af af af rfl (λ_ _ _ _ h=>h) ⟨d,c3,z,C⟩ ?_
   iterate 27 refine mx ?_
   refine dn T (λK' j=>?_);go_simp;refine(Q _).mono ?_;rintro e i ⟨rfl,b⟩;refine j _ _ ⟨cI d (b.block _ (eN d)),cI c3 (b.block _ (eN c3)),cI z (b.block _ y),cI C (b.block _ y)⟩ λ_=>?_
   clear j;refine L ?_;iterate 3 refine mx ?_
   iterate 5 refine sS ?_
   refine mx ?_;refine jR ?_;have V:jk (jl w w i):=O (K.trans (qt (w:=M) ⟨b.os,b.tape,b.output,b.size,b.block⟩ K.size));clear b
   go_wp2_with fail
   go_ret;exact⟨nJ s,V⟩
  have hd3:=az (0<(k:jd));have bh:=az (0<k);have ax:B<M.heap.size:=by have:=Yc.size;omega
  have Q:=O (gC q);have a3:jk (¬(0<k/\a<=(t.getD (k-1) (0,0)).1)):=O (λh=>h3 h.1);clear h3
  by_cases D:bL q
  ·have R:cW q=0:=gE D
   rw[R]at Q;have a4:=O D;clear R D;have x:∀w',aZ (ie n0) 3 w' B (k'*10) (ef U)->(Instr.lookup 193 (.map (ja B)) (I N a) jp).run jm w'=.ok (.bool ((ef U a).getD jp)) w':=λw' h=>h.look jQ qX (Bh w') Yl jp
   have F:=x M.drew (aZ.of_block (w':=M.drew) X T)
   by_cases H:a∈U
   ·have S:(ef U a).getD jp=jf:=by unfold ef;rw[jB H];rfl
    rw[S]at F x;have a5:=O H;clear S H;refine jT ?_;refine lL (λw'=>w'.cell? ⟨w,0,A⟩=ja (jb (ja ⟨g,o,A⟩) n c)/\w'.cell? ⟨wr,0,A⟩=ja (I N a)/\w'.cell? ⟨wr,1,A⟩=ja (I N q)/\(Instr.lookup 193 (.map (ja B)) (I N a) jp).run jm w'=.ok (.bool jf) w') 100 [(0,jf),(1,jf),(2,jf),(3,jf),(4,jf),(5,jf),(6,jf),(7,jf),(8,jf),(9,jf),(10,jf),(11,jf),(12,jf),(13,jf),(14,jf),(15,jf),(16,jf),(17,jf),(18,jf),(19,jf),(20,jf),(21,jf),(22,jf),(23,jf),(24,jf),(25,jf),(26,jf),(27,jp),(28,jf),(29,jf),(30,jf),(31,jf),(32,jf),(33,jf),(34,jf),(35,jf),(36,jf)]
     af af af rfl (λ_ _ _ _ h=>h) ⟨d,z,C,F⟩ ?_
    iterate 12 refine mx ?_
    iterate 10 refine sS ?_
    iterate 5 refine mx ?_
    refine dn T (λK' j=>?_);go_simp;refine(Q _).mono ?_;rintro e i ⟨rfl,b⟩;refine j _ _ ⟨cI d (b.block _ (eN d)),cI z (b.block _ y),cI C (b.block _ y),x i (aZ.of_block (w':=i) X (b.block B ax))⟩ λ_=>?_
    clear j;refine L ?_;iterate 9 refine mx ?_
    refine jR ?_;have V:jk (jl W3 W3 i):=O (ad.trans (qt (w:=M) ⟨b.os,b.tape,b.output,b.size,b.block⟩ ad.size));clear b x F
    go_wp2_with fail
    refine⟨⟨k+1,by go_num,by omega,O (Ee HG (B3 aa Y Y a3 a4 a5)),V⟩,by simp only[jv];omega⟩
   have S:(ef U a).getD jp=jp:=by unfold ef;rw[jI H];rfl
   rw[S]at F x;have s:jk (df t=210):=O<|nW HU.out (by rw[<-r];exact W) (.inr (.inr (.inr (.inr (by rw[aa];exact H)))));clear S H;refine jT ?_;refine lL (λw'=>w'.cell? ⟨w,0,A⟩=ja (jb (ja ⟨g,o,A⟩) n c)/\w'.cell? ⟨wr,0,A⟩=ja (I N a)/\w'.cell? ⟨wr,1,A⟩=ja (I N q)/\(Instr.lookup 193 (.map (ja B)) (I N a) jp).run jm w'=.ok (.bool jp) w') 100 [(0,jf),(1,jf),(2,jf),(3,jf),(4,jf),(5,jf),(6,jf),(7,jf),(8,jf),(9,jf),(10,jf),(11,jf),(12,jf),(13,jf),(14,jf),(15,jf),(16,jf),(17,jf),(18,jf),(19,jf),(20,jf),(21,jf),(22,jf),(23,jf),(24,jf),(25,jf),(26,jf),(27,jp),(28,jf),(29,jf),(30,jf),(31,jf),(32,jf),(33,jf),(34,jf),(35,jf),(36,jf)]
    af af af rfl (λ_ _ _ _ h=>h) ⟨d,z,C,F⟩ ?_
   iterate 12 refine mx ?_
   iterate 10 refine sS ?_
   iterate 5 refine mx ?_
   refine dn T (λK' j=>?_);go_simp;refine(Q _).mono ?_;rintro e i ⟨rfl,b⟩;refine j _ _ ⟨cI d (b.block _ (eN d)),cI z (b.block _ y),cI C (b.block _ y),x i (aZ.of_block (w':=i) X (b.block B ax))⟩ λ_=>?_
   clear j;refine L ?_;iterate 9 refine mx ?_
   refine jR ?_;have V:jk (jl w w i):=O (K.trans (qt (w:=M) ⟨b.os,b.tape,b.output,b.size,b.block⟩ K.size));clear b x F
   go_wp2_with fail
   go_ret;exact⟨nJ s,V⟩
  have R:cW q=40:=lf D;rw[R]at Q;have s:jk (df t=210):=O<|nW HU.out (by rw[<-r];exact W) (.inr (.inr (.inr (.inl (by rw[aa];exact D)))));clear R D;refine jT ?_;refine lL (λw'=>w'.cell? ⟨w,0,A⟩=ja (jb (ja ⟨g,o,A⟩) n c)/\w'.cell? ⟨wr,0,A⟩=ja (I N a)/\w'.cell? ⟨wr,1,A⟩=ja (I N q)) 100 [(0,jf),(1,jf),(2,jf),(3,jf),(4,jf),(5,jf),(6,jf),(7,jf),(8,jf),(9,jf),(10,jf),(11,jf),(12,jf),(13,jf),(14,jf),(15,jf),(16,jf),(17,jf),(18,jf),(19,jf),(20,jf),(21,jf),(22,jf),(23,jf),(24,jf),(25,jf),(26,jf),(27,jp),(28,jf),(29,jf),(30,jf),(31,jf),(32,jf),(33,jf),(34,jf),(35,jf),(36,jf)]
   af af af rfl (λ_ _ _ _ h=>h) ⟨d,z,C⟩ ?_
  iterate 12 refine vQ ?_
  iterate 10 refine sS ?_
  iterate 5 refine vQ ?_
  refine dn T (λK' j=>?_);go_simp;refine(Q _).mono ?_;rintro e i ⟨rfl,b⟩;refine j _ _ ⟨cI d (b.block _ (eN d)),cI z (b.block _ y),cI C (b.block _ y)⟩ λ_=>?_
  clear j;refine L ?_;iterate 3 refine vQ ?_
  iterate 5 refine sS ?_
  refine vQ ?_;refine jR ?_;have V:jk (jl w w i):=O (K.trans (qt (w:=M) ⟨b.os,b.tape,b.output,b.size,b.block⟩ K.size));clear b
  go_wp2_with fail
  go_ret;exact⟨nJ s,V⟩
 have hd:=az ((k:jd)<(n:jd));have UY:=az (k<n);obtain rfl:k=n:=Y;have s:jk (df t=0):=O<|B4 HU.out (by rw[<-r];exact HG)
 go_wp2_with fail
 go_ret;exact⟨nJ s,HB.trans (Yc.mono HB.size)⟩
def hgt(n:je):je:=9-n.log2
theorem vU{n:je}(g:1<=n)(i:n<1024):512<=n*2^hgt n/\n*2^hgt n<1024:=by
 have a:2^n.log2<=n:=Nat.log2_self_le Y;have b:n<2^(n.log2+1):=Nat.lt_log2_self;have c:n.log2<=9:=by
  rcases qE 9 n.log2 with h|h
  ·have:=q8 (n:=2) Y (show 10<=n.log2 from h)
   omega
  exact h
 unfold hgt;obtain⟨l,d⟩:=J n.log2;rw[<-d]at a b c⊢;have e:2^l*2^(9-l)=512:=by rw[<-Nat.pow_add,Nat.add_sub_cancel' c]
 have f:2^(l+1)*2^(9-l)=1024:=by rw[<-Nat.pow_add,show l+1+(9-l)=10 by omega]
 refine⟨?_,?_⟩
 ·rw[<-e];exact rv _ a
 rw[<-f];exact Nat.mul_lt_mul_of_pos_right b (Nat.two_pow_pos _)
theorem Tn(a:1<=B)(b:B*2^m<1024):2^m<=1000000:=by
 have:1*2^m<=B*2^m:=rv _ a;omega
noncomputable def lT(t:jh (jd×jd))(x:jd):jd:=if df t=0 then(if x<1\/1023<x then 200 else 0)else df t
noncomputable def fg(t:jh (jd×jd))(x:jd):jh jd:=if lT t x=0 then dh (bG t) (hgt x.toNat) x.toNat else []
theorem uM{a:je}{size:je}{v:ji}{n:je}(h:w.ownsRow B e size v n xs)(b:a<=B):w.ownsRow a e size v n xs:=by
 refine⟨h.1,?_⟩
 rcases h.2 with c|⟨g,d,f,i,j,k⟩
 ·exact .inl c
 exact .inr ⟨g,d,f,i,jz b j,k⟩
theorem uq(h:d=y):Ending.returned (jw #[u,I N y])=jo (jw #[u,I N d]):=by rw[h]
theorem NQ(t:jh (jd×jd))(v:ji)(x:jd)(w:jg)(c:bJ w v t)(f:t.length<=1000000):
 jr jm 123 #[jq #[v],I N x] w λe w'=>∃u,e=jo (jw #[u,I N (lT t x)])/\w'.ownsRow w 3 1 u (fg t x).length ((fg t x).map (jE .i64))/\jl w w w':=by
 have a:jl w w (w.alloc (jc #[v] 43)):=(jy _ w).alloc (jn _) _;have g:=O (ye t v (w.alloc (jc #[v] 43)) (c.below a) f);have h:=O (c.below a);have C:=O f;obtain⟨r,b⟩:=J (w.alloc (jc #[v] 43));have n:r.cell? ⟨w,0,A⟩=ja v:=by rw[b];unfold j5;rw[js];rfl
 have p:r.heap.size=w.heap.size+1:=by rw[b];simp
 obtain⟨E,k⟩:=J (lT t x);obtain⟨V,l⟩:=J (fg t x);have d:=O k;have j:=O l;rw[<-k,<-l];obtain⟨o,m⟩:=J (df t);have i:=O m;rw[<-b,<-m]at g;rw[<-b]at h a;clear c f k l m
 go_enter func123,ntmps123
 go_wp2_with fail
 rw[<-b];clear b;refine g.mono ?_;rintro e D ⟨rfl,b⟩;have W:=cI n (b.block _ (by show w.heap.size<_;omega));have l:=O (a.trans (b.mono a.size));have F:=O (h.below b);clear b a g h n p
 by_cases p:o=0
 ·subst p
  by_cases H:x<1
  ·have K:=aA (x<1)
   have c:jk (E=200):=O (by rw[d];unfold lT;rw[jB i.symm,jB (.inl H)]);have f:jk (V=[]):=O (by rw[j];unfold fg;rw[jI (by rw[<-d,c];decide)])
   go_wp2_with fail
   go_ret2;exact⟨jb A 0 0,uq c,by rw[f];exact j0 _ _ _ _,l⟩
  have K:=az (x<1)
  by_cases M:1023<x
  ·have hd2:=aA (1023<x)
   have c:jk (E=200):=O (by rw[d];unfold lT;rw[jB i.symm,jB (.inr M)]);have f:jk (V=[]):=O (by rw[j];unfold fg;rw[jI (by rw[<-d,c];decide)])
   go_wp2_with fail
   go_ret2;exact⟨jb A 0 0,uq c,by rw[f];exact j0 _ _ _ _,l⟩
  have hd2:=az (1023<x);have c:jk (E=0):=O (by rw[d];unfold lT;rw[jB i.symm,jI Y]);have f:jk (V=dh (bG t) (hgt x.toNat) x.toNat):=O (by rw[j];unfold fg;rw[jB (by rw[<-d,c])]);obtain⟨n,a⟩:=J x.toNat;have P:jk (x=(n:jd)):=O Y;have g:jk (1<=n/\n<1024):=O Y;rw[<-a]at f;clear a
  go_wp2_with fail
  refine(zk t v D F C).mono ?_;rintro e a ⟨b,rfl,q,h,k⟩;have Q:=O h;have m:=ah l k;have R:b<a.heap.size:=h.lt;clear q h k
  go_wp2_with fail
  refine(zG (ja b) x a).mono ?_;rintro e S ⟨rfl,rfl⟩;have s:a.heap.size+2=((a.alloc (jc #[.map (ja b)] 150)).alloc (jc #[I N x] 3)).heap.size:=by simp
  have y:=O ((m.alloc m.size (jc #[.map (ja b)] 150)).alloc (by have:=m.size;simp;omega) (jc #[I N x] 3));have k:jt ((a.alloc (jc #[.map (ja b)] 150)).alloc (jc #[I N x] 3)) a.heap.size 150 (.map (ja b)):=(jF _ _ _ ar).trans (js a _);have z:jt ((a.alloc (jc #[.map (ja b)] 150)).alloc (jc #[I N x] 3)) (a.heap.size+1) 3 (I N (n:jd)):=by
   have h:=js (a.alloc (jc #[.map (ja b)] 150)) (jc #[I N x] 3);rw[jC]at h;rw[<-P];exact h
  have q:=O (AS (bG t) b t.length (hgt n) n (vU g.1 g.2).1 (vU g.1 g.2).2 a.heap.size (a.heap.size+1) a.heap.size _ ((Q.alloc _).alloc _) R k z (by rw[<-s];omega));obtain⟨S,B⟩:=J ((a.alloc (jc #[.map (ja b)] 150)).alloc (jc #[I N x] 3));rw[<-B]at q y s⊢;clear k z B;have z:=O (Tn g.1 (vU g.1 g.2).2);have X:w.heap.size<=a.heap.size:=m.size;have B:=O (DI (λ_ _=>rfl) q Y (by rintro k (rfl|rfl)<;>omega) (λys h=>jz (jz h.length_le (tg _ _ _)) z) w.heap.size Y (by rintro k (rfl|rfl)<;>omega));clear q
  go_wp2_with fail
  refine B.mono ?_;rintro e w4 ⟨u,xs,rfl,rfl,h,k⟩;have q:=O h;have U:=O (y.trans k);clear h k
  go_wp2_with fail
  go_ret2;refine⟨u,uq c,?_,U⟩;rw[f];exact uM q Y
 have a:=az (o=0);have c:jk (E=o):=O (by rw[d];unfold lT;rw[jI (by rw[<-i];exact p)];exact i.symm);have f:jk (V=[]):=O (by rw[j];unfold fg;rw[jI (by rw[<-d,c];exact p)])
 go_wp2_with fail
 go_ret2;exact⟨jb A 0 0,uq c,by rw[f];exact j0 _ _ _ _,l⟩
theorem Gf(b n:je)(f:jd->jS jd)(z:jd)(a:aO z)(w:jg)(h:aZ (dO jQ) 3 w b n f):
 jr jm 131 #[.map (ja b),I N z] w λe w'=>e=jo (jw #[])/\aZ (dO jQ) 3 w' b n (λy=>if y=z then A else f y)/\w.mapTurned w' b:=by
 have c:=O h;have d:=O a;clear h a
 go_enter func131,ntmps131
 go_wp2_with (refine JC (E:=dO jQ) T _ _ 150 T jQ qw b n f T c z T d ?_;intro h a g)
 go_end0
 exact⟨T,a,g⟩
def gK(f:jd->jS jd)(a:jh jd)(y:jd):jS jd:=if y∈a then A else f y
theorem NT(f:jd->jS jd)(a:jh jd)(z:jd):(λy=>if y=z then A else gK f a y)=gK f (a++[z]):=by
 funext y
 unfold gK
 by_cases h:y=z
 ·simp[h]
 simp[h]
noncomputable def dD(t:jh (jd×jd))(d:jd)(a:Bool):jd:=
 if df t=0 then(if d<0\/512<=d\/(a=jf/\bG t (512+d)=A)then 200 else 0)else df t
theorem vz{v:ji}(h:d=y):Ending.returned (jw #[u,v,I N y])=jo (jw #[u,v,I N d]):=by rw[h]
def pB(t:jh (jd×jd))(d:jd)(w:jg)(E:jd)(e:Ending)(w':jg):Prop:=
 jl w w w'/\(E≠0->e=jo (jw #[.map A,jb A 0 0,I N E]))/\
 (E=0->∃b p c,e=jo (jw #[.map (ja b),jb p 9 c,I N 0])/\w.heap.size<=b/\aZ (dO jQ) 3 w' b t.length (gK (bG t) ((512+d)::bW d))/\w'.ownsRow w 3 1 (jb p 9 c) 9 ((bW d).map (jE .i64)))
theorem pB.bad{e:Ending}(w':jl w w a)(b:y≠0)(h:e=jo (jw #[.map A,jb A 0 0,I N y])):pB t d w y e a:=
 ⟨w',λ_=>h,λc=>jG c b⟩
theorem Aq(t:jh (jd×jd))(v:ji)(d:jd)(g:Bool)(w:jg)(f:bJ w v t)(h:t.length<=1000000)(r:aO d):
 jr jm 80 #[jq #[v],I N d,.bool g] w λe w'=>pB t d w (dD t d g) e w':=by
 have a:jl w w (w.alloc (jc #[v] 43)):=(jy _ w).alloc (jn _) _;have i:=O (ye t v (w.alloc (jc #[v] 43)) (f.below a) h);have j:=O (f.below a);have HL:=O h;obtain⟨K,b⟩:=J (w.alloc (jc #[v] 43));have p:K.cell? ⟨w,0,A⟩=ja v:=by rw[b];unfold j5;rw[js];rfl
 have y:K.heap.size=w.heap.size+1:=by rw[b];simp
 obtain⟨E,k⟩:=J (dD t d g);have n:=O k;rw[<-k];obtain⟨s,o⟩:=J (df t);have m:=O o;rw[<-b,<-o]at i;rw[<-b]at j a;obtain⟨z,c⟩:=J (qS.wrap (512+d));have M:jk (aO z):=O (aO.of (x:=z) (by rw[c,qF];omega));have Zm:jk (0<=d->d<512->z=512+d):=O (λq P=>by rw[c,qF];omega);have Q:=c.symm;clear f h k o r c
 go_enter func80,ntmps80
 go_wp2_with fail
 rw[<-b];clear b;refine i.mono ?_;rintro e w1 ⟨rfl,b⟩;have bf:=cI p (b.block _ (by show w.heap.size<_;omega));have u:=O (a.trans (b.mono a.size));have VO:=O (j.below b);clear b a i j p y
 by_cases q:s=0
 ·subst q
  go_wp2_with fail
  refine(zk t v w1 VO HL).mono ?_;rintro e o ⟨b,rfl,c,a,f⟩;have y:=O a;have i:=ah u f;have ax:b<o.heap.size:=a.lt;have r:jk (w.heap.size<=b):=O (jz u.size c);clear c a f
  go_upto_region 6 with(at_lookup;refine vM (he:=jQ) T _ _ 150 T jQ qw (pQ _) b t.length _ T y z (by first|rfl|(simp only[Q])) M ?_)
  obtain⟨B,a⟩:=J ((bG t z).isSome);obtain⟨gv,c⟩:=J ((bG t z).getD 0);rw[<-a,<-c];have R:=O a;clear a c Q
  by_cases P:d<0
  ·have ay:=aA (d<0)
   have a:jk (E=200):=O (by rw[n];unfold dD;rw[jB m.symm,jB (.inl P)])
   go_wp2_with fail
   go_ret3
   exact pB.bad i.out (by rw[a];decide) (vz a)
  have ay:=az (d<0)
  by_cases h2:512<=d
  ·have hd2:=aA (512<=d)
   have a:jk (E=200):=O (by rw[n];unfold dD;rw[jB m.symm,jB (.inr (.inl h2))])
   go_wp2_with fail
   go_ret3
   exact pB.bad i.out (by rw[a];decide) (vz a)
  have hd2:=az (512<=d);have a1:=Zm Y Y;subst a1
  by_cases c:g=jf/\B=jp
  ·obtain⟨rfl,rfl⟩:=c
   have p:bG t (512+d)=A:=by
    have:=R.out
    cases h:bG t (512+d)with
    |none=>rfl
    |some x=>rw[h]at this;cases this
   have a:jk (E=200):=O (by
    rw[n];unfold dD;rw[jB m.symm,jB (.inr (.inr ⟨T,p⟩))])
   clear p
   go_wp2_with fail
   go_ret3
   exact pB.bad i.out (by rw[a];decide) (vz a)
  have a:jk (E=0):=O (by
   rw[n];unfold dD;rw[jB m.symm,jI];rintro(h|h|⟨h,f⟩)
   ·omega
   ·omega
   exact c ⟨h,by rw[R,f];rfl⟩)
  have a2:g=jp\/(g=jf/\B=jf):=by cases g<;>cases B<;>simp_all
  have HI:=M;have a3:=O (Ct d Y Y o);have C:=O (tY d Y Y);have a4:=O (Aj d Y Y);have Y4:qS.wrap (512+d)=512+d:=by rw[qF];omega
  clear c
  rcases a2 with rfl|⟨rfl,rfl⟩
  all_goals
   go_upto_region 8 with fail
   go_wp2_with fail
   refine a3.mono ?_;rintro e w3 ⟨pv,rfl,j,f⟩;have D:=O j;obtain⟨pp,F,rfl,a5,k⟩:=pP j;rw[C]at a5 k D⊢;obtain⟨c,rfl,bg,a6,S⟩:=k Y;have U:=O (y.below f ax);have H:=ah i f;have V:=O S;have WH:=f.size;clear j f k S
   go_wp2_with fail
   refine(Gf b t.length _ (512+d) HI w3 U).mono ?_;rintro e f ⟨rfl,S,k⟩;have ba:jk (aZ (dO jQ) 3 f b t.length (gK (bG t) ([512+d]++(bW d).take 0))):=O (S.congr (λx _=>by simp[gK]));have bh:=k.grown.size;have UK:jk (jl w w f):=O (H.grown k.grown (cT H.size) (λj e=>by cases e;exact r));have Yw:jk (∀j,j<9->f.cell? ⟨c,j,A⟩=ja (I N ((bW d).getD j 0))):=O λj W=>cI (V j W) (k.grown.block c a6 (by simp;omega))
   have YS:jk (f.ownsRow o 3 1 (jb (ja ⟨c,0,A⟩) 9 F) 9 ((bW d).map (jE .i64))):=O (D.kept k.grown (.inr (by simp[qc];omega)));have bi:c<f.heap.size:=Y;clear S k y U i H V D
   go_wp2_with fail
   go_loopw [55] (λi wr=>∃j:je,i=I N j/\j<=9/\jk (aZ (dO jQ) 3 wr b t.length (gK (bG t) ([512+d]++(bW d).take j)))/\jk (jl w w wr)/\jk (wr.ownsRow o 3 1 (jb (ja ⟨c,0,A⟩) 9 F) 9 ((bW d).map (jE .i64)))/\jk (∀k,k<f.heap.size->k≠b->wr.heap[k]?=f.heap[k]?)/\f.heap.size<=wr.heap.size) (λi _=>9-(jv i).toNat)
   case atStart=>exact⟨0,T,jJ _,ba,UK,YS,O (λ_ _ _=>rfl),jn _⟩
   obtain⟨j,rfl,W,S,D,U,V,bk⟩:=hrel
   by_cases X:j<9
   ·have bb:=aA ((j:jd)<9)
    have cy:wr.cell? ⟨c,j,A⟩=ja (I N ((bW d).getD j 0)):=cI (Yw j X) (V c Y Y);have i:j<(bW d).length:=by rw[C];exact X
    have H:(bW d).getD j 0=(bW d)[j]:=by simp[jO,i]
    have aa:=O (o3 i);have ad:=O (a4 _ (qD i));rw[H]at cy;obtain⟨y,hy⟩:=J ((bW d)[j]);rw[<-hy]at cy aa ad;have bc:jk (aO y):=O (aO.of (x:=y) (aI ad));have bl:c<wr.heap.size:=Y;clear i H hy
    go_wp2_with fail
    refine(Gf b t.length _ y bc wr S).mono ?_;rintro e w5 ⟨rfl,au,i⟩;have bd:=O au;have H:=O i;have bm:=i.grown.size;clear au i
    go_wp2_with fail
    refine⟨⟨j+1,by go_num,by omega,O ?_,O (D.grown H.grown (cT D.size) (λj e=>by cases e;exact r)),O (U.kept H.grown (.inr (by simp[qc];omega))),O λk i p=>(H.grown.block k Y (ak p)).trans (V k i p),by omega⟩,by simp only[jv];omega⟩;have h:=bd.out;rw[NT]at h;rw[aa,<-j6];exact h
   have bb:=az ((j:jd)<9);obtain rfl:j=9:=Y;have i:jk (aZ (dO jQ) 3 wr b t.length (gK (bG t) ((512+d)::bW d))):=O (by
    have h:=S.out;rw[nv (l:=bW d) (by rw[C];exact jn _)]at h;exact h)
   have k:w.heap.size<=o.heap.size:=jz r Y
   go_wp2_with fail
   go_ret3
   exact⟨D,λh=>jG a h,λ_=>⟨b,_,F,T,r,i,uM U k⟩⟩
 have b:=az (s=0);have a:jk (E=s):=O (by rw[n];unfold dD;rw[jI (by rw[<-m];exact q)];exact m.symm)
 go_wp2_with fail
 go_ret3
 exact pB.bad u.out (by rw[a];exact q) (vz a)
theorem Pt:(jm.info? 192).map (λi=>(i.zero,i.size,i.bytes))=ja (ja (jq #[I N 0,I N 0]),2,16):=by kernel_rfl
theorem FI(w:jg)(l:jh ji)(t:jH):∀j u,l[j]?=ja u->(w.alloc (jc l.toArray t)).cell? ((⟨w,0,A⟩:jM).add j)=ja u:=by
 intro j u a;have b:(⟨w,0,A⟩:jM).add j=⟨w,j,A⟩:=by unfold Addr.add;split<;>simp_all
 rw[b];have c:=js w (jc l.toArray t);simp only[j5,c]
 simpa using a
def dG(f:jd->jS jd)(a:jh jd):jh (jd×jd):=a.map λx=>(x,(f x).getD 0)
def kj(t:jh (jd×jd)):jh ji:=t.flatMap λx=>[I N x.1,I N x.2]
theorem Sr(t:jh (jd×jd)):∀j,j<t.length->(kj t)[j*2]?=ja (I N (t.getD j (0,0)).1)/\(kj t)[j*2+1]?=ja (I N (t.getD j (0,0)).2):=by
 induction t with
 |nil=>intro j b;simp at b
 |cons a t c=>
  intro j b;have e:kj (a::t)=I N a.1::I N a.2::kj t:=T
  rcases j with _|j
  ·rw[e];exact⟨T,T⟩
  obtain⟨p,q⟩:=c j (ak b);rw[e,show(j+1)*2=j*2+1+1 by omega];exact⟨p,q⟩
def Fr(n:je)(v:ji):Prop:=∀p k c,v=jb p k c->∀a,p=ja a->n<=a.block
theorem Fr.of_own{sz:je}{v:ji}{n:je}(h:w.ownsRow B e sz v n xs):Fr B v:=by
 rintro p k c rfl a rfl
 rcases h.2 with⟨e,-⟩|⟨g,f,i,e,d,-⟩
 ·cases e
 injection e with b
 injection b with b
 subst b;exact d
theorem Fr.mono{n:je}{v:ji}(h:Fr n v)(b:m<=n):Fr m v:=λp k c e a d=>jz b (h p k c e a d)
theorem Fr.nil(n:je):Fr n (jb A 0 0):=by
 rintro p k c e a rfl
 cases e
theorem zK{v:ji}(h:w.ownsRow B 192 2 v t.length (kj t))(a:∀x∈t,aO x.1/\aO x.2):bJ w v t:=by
 rcases h.2 with⟨rfl,b⟩|⟨g,d,o,rfl,r,f,k,s,x,l⟩
 ·exact⟨A,0,by rw[b],by omega,λ_=>b,λh=>by omega,a⟩
 refine⟨_,d,T,k,(λh=>by cases h),λy=>⟨g,0,T,λj m=>?_⟩,a⟩;obtain⟨p,q⟩:=Sr t j m;have e:∀i u,i<t.length*2->(kj t)[i]?=ja u->w.cell? ⟨g,i,A⟩=ja u:=λi u n c=>by
  rw[<-l,rn n]at c;unfold j5;rw[f];simp only[xh,xi,if_false];rw[<-xj,c]
 rw[ms];exact⟨e _ _ Y p,e _ _ Y q⟩
theorem ve(h:w.ownsRow B 192 2 u m f):∃p c,u=jb p m c:=by
 rcases h.2 with⟨rfl,a⟩|⟨g,b,d,rfl,e,xs,i,j,k,l⟩
 ·exact⟨A,0,by rw[a]⟩
 exact⟨_,b,T⟩
theorem BA(b n:je)(f:jd->jS jd)(w:jg)(c:aZ (dO jQ) 3 w b n f)(d:n<=1000000)(g:∀xs,lg f xs->xs.length<=1000000)(h:∀x v,aO x->f x=ja v->aO v):
 jr jm 83 #[.map (ja b)] w λe w'=>∃v xs,e=jo (jq #[v])/\lg f xs/\(w'.ownsRow w 192 2 v (dG f (xs.mergeSort leI)).length (kj (dG f (xs.mergeSort leI)))/\∀x∈dG f (xs.mergeSort leI),aO x.1/\aO x.2)/\jl w w w':=by
 obtain⟨X,hi,UV,aa,ad⟩:=qh Pt;have HM:=O c;have HN:=O d;have P:=O g;have HV:=O h;have bb:b<w.heap.size:=c.lt;clear c d g h
 go_enter func83,ntmps83
 go_wp2_with fail
 have h:jt (w.alloc (jc #[jb A 0 0] 43)) w.heap.size 43 (jb A 0 0):=js w _;have d:jl w w (w.alloc (jc #[jb A 0 0] 43)):=(jy _ w).alloc (jn _) _;have i:=HM.alloc (jc #[jb A 0 0] 43);have au:w.heap.size<(w.alloc (jc #[jb A 0 0] 43)).heap.size:=by simp
 obtain⟨l,c⟩:=J (w.alloc (jc #[jb A 0 0] 43));rw[<-c]at h d i au⊢;clear c;refine(EO (ja b) l).mono ?_;rintro e w1 ⟨rfl,rfl⟩;have ax:l.heap.size<(l.alloc (jc #[.map (ja b)] 150)).heap.size:=by simp
 have g:jt (l.alloc (jc #[.map (ja b)] 150)) l.heap.size 150 (.map (ja b)):=js l _;have j:jt (l.alloc (jc #[.map (ja b)] 150)) w.heap.size 43 (jb A 0 0):=(jF _ _ _ Y).trans h;have c:=i.alloc (jc #[.map (ja b)] 150);have k:=d.alloc d.size (jc #[.map (ja b)] 150);obtain⟨E,m⟩:=J (l.alloc (jc #[.map (ja b)] 150));rw[<-m]at ax g j c k⊢;clear m h i d;have m:=O (Ft (λ_ _=>rfl) (N2 b n l.heap.size E.heap.size f E c g c.lt g.lt) (jn _) (λ_ h=>h.elim) (λys h=>jz h HN) P E.heap.size (jn _) (λ_ h=>h.elim));have q:=O c;have r:=O k;have y:=O j;clear c k j g
 go_wp2_with fail
 refine m.mono ?_;rintro e o ⟨u,xs,rfl,g,i,d⟩;have j:(xs.mergeSort leI).length=xs.length:=xg _;have t:jk (∀x∈xs.mergeSort leI,aO x):=O (λx p=>(g.2.1 x ((uT xs x).1 p)).1);have s:=O (P xs g);have YJ:=O g;obtain⟨c,k⟩:=J (xs.mergeSort leI);rw[<-k]at i t j;rw[<-j]at i s;have VR:=O k;clear g k j m;obtain⟨pu,cu,rfl,ay,j⟩:=pP i;have a1:=O j;have V8:=O (q.below d (cT q.lt));have UC:=O (r.trans (d.mono Y));have a2:jk (jt o w.heap.size 43 (jb A 0 0)):=O ((d.block _ Y).trans y);have bc:=d.size;obtain⟨m,g⟩:=J c.length;rw[<-g]at ay s⊢;have F:=O g;clear i j d g q r y
 go_wp2_with fail
 go_loopw [9] (λi wr=>∃(k:je) (q:jS jM) (d:je),i=I N k/\k<=m/\jk (jt wr w.heap.size 43 (jb q k d))/\jk (wr.ownsRow o 192 2 (jb q k d) k (kj (dG f (c.take k))))/\jk (∀k,k<o.heap.size->k≠w.heap.size->wr.heap[k]?=o.heap[k]?)/\jk (jl w w wr)/\o.heap.size<=wr.heap.size) (λi _=>m-(jv i).toNat)
 case atStart=>exact⟨0,A,0,T,jJ _,a2,O (j0 _ _ _ _),O (λ_ _ _=>rfl),UC,jn _⟩
 obtain⟨k,q,d,rfl,hk,i,Q,H,r,bd⟩:=hrel
 by_cases a3:k<m
 ·have hd:=aA ((k:jd)<(m:jd))
  have UY:=aA (k<m);have bf:m<=1000000:=s.out;have j:k<c.length:=by rw[<-F];exact a3
  obtain⟨g,rfl,bg,Yv,C⟩:=a1 Y;have z:=C k j;have D:c.getD k 0=c[k]:=by simp[jO,j]
  have R:=O (o3 j);have S:=O (t c[k] (qD j));rw[D]at z;obtain⟨x,p⟩:=J (c[k]);rw[<-p]at z R S;have c1:wr.cell? ⟨g,k,A⟩=ja (I N x):=cI z (H g Yv Y);have a4:=O (V8.of_block (H b Y Y));have Vv:g<wr.heap.size:=Y;have cb:=i.cell;have cf:=i.frozen;obtain⟨y,K⟩:=J ((f x).getD 0);have U:=O K;have B:=O (Q.alloc (jc #[I N x,I N y] 192));have YK:=O (FI wr [I N x,I N y] 192);clear z D j C p K
  go_upto_region 4 with fail
  go_wp2_with (first
   |(at_lookup;refine NR (he:=jQ) T _ _ 150 T jQ qw (pQ _) b n _ T a4 x T S ?_;rw[<-U])
   |(at_builtin;refine wi _ T _ _ 41 T o.heap.size 192 X (jq #[I N 0,I N 0]) 2 16 underlying41 hi UV aa ad T G _ _ _ T B ⟨wr,0,A⟩ 1 1 [I N x,I N y] T T YK (by simp[j1]) (by have:=s.out;unfold j3;omega) (aI s) (by simp;omega) ?_;intro v' K M j _;have a5:=O M;have V:jk ((wr.alloc (jc #[I N x,I N y] 192)).grownBy K (jP q k d).ownBlock):=O j;obtain⟨z,C,rfl⟩:=ve M;have a6:=j.size;have D:jt K w.heap.size 43 (jb q k d):=(j.block w.heap.size (by simp;omega) (λe=>by have:=(B.lt _ e.symm).1;omega)).trans ((jF _ _ _ Y).trans i);have W:=D.cell;have ba:=D.frozen;have YM:=O (Boxed.set (jb z (k+1) C) D);clear M j D))
  have ba:=O (qY a5 (a:=⟨w,0,A⟩) (by show w.heap.size<o.heap.size;omega) (jb z (k+1) C));have D:=O (ow K w.heap.size (jb z (k+1) C));have bh:=D.size;rw[jC]at a6;have e1:kj (dG f (c.take (k+1)))=kj (dG f (c.take k))++[I N x,I N y]:=by rw[R,U];simp[dG,kj]
  refine⟨⟨k+1,z,C,by go_num,by omega,YM,O (by rw[e1];exact ba),O (λj hj M=>?_),O ?_,by omega⟩,by simp only[jv];omega⟩
  ·refine(D.block j Y (ak M)).trans ((V.block j (by rw[jC];omega) (λe=>by have:=(B.lt _ e.symm).1;omega)).trans ((jF _ _ _ Y).trans (H j hj M)))
  exact((r.alloc r.size (jc #[I N x,I N y] 192)).grown V (by have:=r.size;rw[jC];omega) (λj e=>by have:=(B.lt _ e).1;omega)).grown D (cT r.size) (λj e=>by cases e;exact jn _)
 have hd:=az ((k:jd)<(m:jd));have UY:=az (k<m);obtain rfl:k=m:=Y;have cb:=i.cell;have cf:=i.frozen;have B:jk (wr.ownsRow o 192 2 (jb q k d) (dG f c).length (kj (dG f c))):=O (by
  have h:=Q.out;rw[nv (by rw[<-F];exact jn _)]at h;have e:(dG f c).length=k:=by unfold dG;rw[jD,<-F]
  rw[e];exact h)
 have C:=O (ow wr w.heap.size (jb q k d));have D:w.heap.size<=wr.heap.size:=r.size
 go_wp2_with fail
 have W:=(Boxed.set (jb q k d) i).cell;refine jX (v:=jq #[jb q k d]) (by simp[results,results83,go_sem,W]) T ?_;refine⟨jb q k d,xs,T,YJ,?_,r.grown C D (λj e=>by cases e;exact jn _)⟩;rw[<-VR];refine⟨uM (qY B (a:=⟨w,0,A⟩) (by show w.heap.size<o.heap.size;omega) _) Y,?_⟩;intro x p;obtain⟨z,g,rfl⟩:=qQ.1 p;refine⟨t z g,?_⟩;show aO ((f z).getD 0)
 cases h:f z with
 |none=>exact aO.of ar
 |some y=>exact HV z y (t z g) h
theorem oN(h:bG t d=ja y):(d,y)∈t:=by
 unfold bG at h
 cases hf:t.find? (λv=>v.1==d)with
 |none=>rw[hf]at h;cases h
 |some v=>
  rw[hf]at h;have c:=List.find?_some hf;have x:=List.mem_of_find?_eq_some hf;obtain⟨a,b⟩:=v;simp at h c;subst h;subst c;exact x
def iO(t:jh (jd×jd))(d x:jd)(y:jd):jS jd:=if y=512+d then ja x else gK (bG t) ((512+d)::bW d) y
theorem rV{f:jd->jS jd}(h:gK f U d=ja y):f d=ja y/\d∉U:=by
 unfold gK at h
 split at h
 ·cases h
 exact⟨h,by assumption⟩
theorem Sk(h:lg (iO t d y) U):U.length<=t.length+1:=by
 have b:U⊆(512+d)::t.map (·.1):=by
  intro x c;obtain⟨-,a⟩:=h.2.1 x c
  by_cases e:x=512+d
  ·rw[e];exact List.mem_cons_self ..
  unfold iO at a;rw[jI e]at a;obtain⟨v,f⟩:=r4.1 a;exact List.mem_cons_of_mem _ (qQ.2 ⟨_,oN (rV f).1,T⟩)
 have:=h.1.length_le_of_subset b
 simpa using this
theorem PM(a:∀e∈t,aO e.1/\aO e.2)(b:aO y):∀x v,aO x->iO t d y x=ja v->aO v:=by
 intro x v _ h;unfold iO at h
 split at h
 ·cases h;exact b
 exact(a _ (oN (rV h).1)).2
theorem zh{m:Bool}(h:dD t d m=0):0<=d/\d<512:=by
 unfold dD at h
 split at h
 ·split at h
  ·exact jG h G
  omega
 rename_i a;exact jG h a
noncomputable def gJ(t:jh (jd×jd))(d x:jd):jd:=if dD t d jp=0 then(if cW x=0 then 0 else 50)else dD t d jp
def KL(t:jh (jd×jd))(d x:jd)(w:jg)(E:jd)(e:Ending)(w':jg):Prop:=
 jl w w w'/\(E≠0->e=jo (jw #[jq #[jb A 0 0],I N E]))/\
 (E=0->∃v xs,e=jo (jw #[jq #[v],I N 0])/\lg (iO t d x) xs/\bJ w' v (dG (iO t d x) (xs.mergeSort leI)))
theorem T6(t:jh (jd×jd))(v:ji)(d x:jd)(w:jg)(b:bJ w v t)(g:t.length<=900000)(j:aO d)(l:aO x):
 jr jm 85 #[jq #[v],I N d,I N x] w λe w'=>KL t d x w (gJ t d x) e w':=by
 have o:∀e∈t,aO e.1/\aO e.2:=by obtain⟨p,c,-,-,-,-,h⟩:=b;exact h
 have i:jl w w ((w.alloc (jc #[v] 43)).alloc (jc #[jb A 0 0] 43)):=((jy _ w).alloc (jn _) _).alloc ar _;have m:=O (Aq t v d jp ((w.alloc (jc #[v] 43)).alloc (jc #[jb A 0 0] 43)) (b.below i) Y j);have k:jt ((w.alloc (jc #[v] 43)).alloc (jc #[jb A 0 0] 43)) (w.heap.size+1) 43 (jb A 0 0):=by
  have h:=js (w.alloc (jc #[v] 43)) (jc #[jb A 0 0] 43);rw[jC]at h;exact h
 have ay:=O o;have R:=O l;have D:=O g;obtain⟨E,f⟩:=J (dD t d jp);have n:=O f;rw[<-f]at m;clear b g f o l j
 go_enter func85,ntmps85
 go_wp2_with fail
 obtain⟨W0,b⟩:=J ((w.alloc (jc #[v] 43)).alloc (jc #[jb A 0 0] 43));rw[<-b]at m k i⊢;clear b;refine m.mono ?_;rintro e r ⟨s,F,H⟩;have f:jt r (w.heap.size+1) 43 (jb A 0 0):=(s.block _ k.lt).trans k;have u:=O (i.trans (s.mono i.size));have S:=O f;have a3:w.heap.size+1<r.heap.size:=f.lt
 by_cases l:E=0
 ·obtain⟨b,p,c,rfl,g,o,-⟩:=H l
  have j:=O o;have a4:w.heap.size+1<b:=jN k.lt g;clear F H s i k f m o g;have a1:=zh (n.symm.trans l);have HZ:jk (aO (512+d)):=O (aO.of (x:=512+d) Y);have Y4:qS.wrap (512+d)=512+d:=by rw[qF];omega
  subst l;obtain⟨d0,d1⟩:=a1
  go_wp2_with fail
  refine(gC x r).mono ?_;rintro e U ⟨rfl,g⟩;have V8:=O (j.below g j.lt);have y:jk (jt U (w.heap.size+1) 43 (jb A 0 0)):=O ((g.block _ S.lt).trans S);have a5:=g.size;have z:=ah u g;obtain⟨V,o⟩:=J (cW x);rw[<-o];have W:=O o;clear g o j u
  by_cases X:V=0
  ·subst X
   go_wp2_with (at_mapUpdate;refine oD (E:=dO jQ) T _ _ _ 150 T jQ qw b _ _ T V8 (by have:=D.out;unfold j3;omega) (512+d) T HZ x T R ?_;intro C aa K;have WM:=O aa;have Z6:=O K;have g:=K.grown.size;clear aa K)
   have Wx:jk (jt C (w.heap.size+1) 43 (jb A 0 0)):=O ((Z6.grown.block _ Y (by simp;omega)).trans y);have UE:=O (z.grown Z6.grown (cT z.size) (λj e=>by cases e;omega));refine(BA b (t.length+1) (iO t d x) C WM (aI D) (λxs h=>jz (Sk h) (aI D)) (PM ay R)).mono ?_;rintro e w4 ⟨v',xs,rfl,ad,⟨M,au⟩,o⟩;obtain⟨q,P,rfl⟩:=ve M;have Q:jk (jt w4 (w.heap.size+1) 43 (jb A 0 0)):=O ((o.block _ Y).trans Wx);have UK:=ah UE o;have YJ:=O ad;have YL:=O M;have a2:=O au;have a6:=o.size;have cb:=Q.cell;have cf:=Q.frozen;have ax:gJ t d x=0:=by unfold gJ;rw[jB n.symm,jB W.symm]
   have g:=O ax;clear ad M au o ax
   go_wp2_with fail
   have M:=O (ow w4 (w.heap.size+1) (jb q (dG (iO t d x) (xs.mergeSort leI)).length P));have o:=(Boxed.set (jb q (dG (iO t d x) (xs.mergeSort leI)).length P) Q).cell;refine jX (v:=jw #[jq #[jb q (dG (iO t d x) (xs.mergeSort leI)).length P],I N 0]) (by simp[results,results85,go_sem,o]) T ?_;refine⟨UK.grown M (cT UK.size) (λj e=>by cases e;omega),λh=>jG g h,λ_=>⟨_,xs,T,YJ,?_⟩⟩;exact zK (B:=C.heap.size) (qY YL (a:=⟨w.heap.size+1,0,A⟩) (by show w.heap.size+1<C.heap.size;omega) _) a2
  have q:=az (V=0);have cb:=y.cell;have cf:=y.frozen;have o:=(Boxed.set (jb A 0 0) y).cell;have g:jk (gJ t d x=50):=O (by unfold gJ;rw[jB n.symm,jI (by rw[<-W];exact X)])
  go_wp2_with fail
  refine jX (v:=jw #[jq #[jb A 0 0],I N 50]) (by simp[results,results85,go_sem,o]) T ?_;exact⟨z.grown (ow U (w.heap.size+1) _) (cT z.size) (λj e=>by cases e;omega),λ_=>by rw[g],λh=>jG (g.symm.trans h) G⟩
 obtain rfl:=F l;have b:=az (E=0);have cb:=f.cell;have cf:=f.frozen;have o:=(Boxed.set (jb A 0 0) f).cell;clear F H s i k f m
 go_wp2_with fail
 have g:jk (gJ t d x=E):=O (by unfold gJ;rw[jI (by rw[<-n];exact l)];exact n.symm);refine jX (v:=jw #[jq #[jb A 0 0],I N E]) (by simp[results,results85,go_sem,o]) T ?_;exact⟨u.grown (ow r (w.heap.size+1) _) (cT u.size) (λj e=>by cases e;omega),λ_=>by rw[g],λh=>jG (g.symm.trans h) l⟩
theorem Pf(a c:je)(w:jg)(d:jt w a 150 (.map A))(q:a<c):
 eR jm 190 #[jA (ja ⟨a,0,A⟩)] (λx:jd=>#[I N x]) (λ_=>False) c (λxs=>xs=[]) (λ_=>True) (λys=>ys.length<=0) w:=by
 intro l g r W i f j b m;have o:jt W a 150 (.map A):=(i.block a d.lt).trans d;have s:=o.cell;refine(qv (n:=0)).1 ?_;refine sq func190 T trivial ?_ T;simp only[ntmps190,jU,jW,j8,qi,qj,qk,ql,qn,qo,qa,qb];clear b;have t:=run_range_nilMap (P:=jm) W 150 3 3 qw;have u:∀b,(Instr.next (jA (ja ⟨W,0,A⟩)) jp b).run jm (W.alloc (.mapIter A 0 #[] 0))=_:=λb=>run_next_nilMap W b 0 0 #[]
 have p:jk (g [] (λk=>k=W.heap.size) (W.alloc (.mapIter A 0 #[] 0))):=O (f [] _ _ W _ m (bP.ofGrown (World.grownBy_alloc W _ A) (λk e=>by cases e)) (λ_ h=>h.elim) (λk e=>.inr (by have:=jC W (.mapIter A 0 #[] 0);omega)));clear f j
 gi_wp2
 gi_loopw [3] (λ_ wr=>wr=W.alloc (.mapIter A 0 #[] 0)) (λ_ wr=>0)
 case atStart=>rfl
 subst hrel
 gi_wp2
 refine qW (qL T _ _ _) T ?_;exact⟨⟨_,T⟩,.inl ⟨[],_,T,p⟩⟩
theorem M5(w:jg):jr jm 83 #[.map A] w λe w'=>e=jo (jq #[jb A 0 0])/\jl w w w':=by
 go_enter func83,ntmps83
 go_wp2_with fail
 have d:jt (w.alloc (jc #[jb A 0 0] 43)) w.heap.size 43 (jb A 0 0):=js w _;have b:jl w w (w.alloc (jc #[jb A 0 0] 43)):=(jy _ w).alloc (jn _) _;have m:w.heap.size<(w.alloc (jc #[jb A 0 0] 43)).heap.size:=by simp
 obtain⟨a,c⟩:=J (w.alloc (jc #[jb A 0 0] 43));rw[<-c]at d b m⊢;clear c;refine(EO A a).mono ?_;rintro e p ⟨rfl,rfl⟩;have n:a.heap.size<(a.alloc (jc #[.map A] 150)).heap.size:=by simp
 have c:jt (a.alloc (jc #[.map A] 150)) a.heap.size 150 (.map A):=js a _;have f:jt (a.alloc (jc #[.map A] 150)) w.heap.size 43 (jb A 0 0):=(jF _ _ _ Y).trans d;have g:=b.alloc b.size (jc #[.map A] 150);obtain⟨k,h⟩:=J (a.alloc (jc #[.map A] 150));rw[<-h]at n c f g⊢;clear h d b;have i:=O (Ft (V:=λys=>ys.length<=0) (λ_ _=>rfl) (Pf a.heap.size k.heap.size k c c.lt) (jn _) (λ_ h=>h.elim) (λys h=>by omega) (λxs h=>by rw[h];simp) k.heap.size (jn _) (λ_ h=>h.elim));have h:=O g;have o:=O f;clear g f c
 go_wp2_with fail
 refine i.mono ?_;rintro e f ⟨u,xs,rfl,rfl,b,c⟩;rw[show([]:jh jd).mergeSort leI=[]from by simp]at b;obtain⟨q,r,rfl,-,-⟩:=pP (l:=[]) b;have d:jk (jt f w.heap.size 43 (jb A 0 0)):=O ((c.block _ Y).trans o);have g:=O (h.trans (c.mono Y));have s:=d.cell;have t:=d.frozen;clear b c i
 go_wp2_with fail
 go_loopw [9] (λi wr=>i=I N 0/\wr=f) (λi _=>0)
 case atStart=>exact⟨T,T⟩
 obtain⟨rfl,rfl⟩:=hrel
 go_wp2_with fail
 have b:=(Boxed.set (jb A 0 0) d).cell;refine jX (v:=jq #[jb A 0 0]) (by simp[results,results83,go_sem,b]) T ?_;exact⟨T,g.grown (ow _ w.heap.size _) (cT g.size) (λj e=>by cases e;exact jn _)⟩
def mG(t:jh (jd×jd))(d:jd):jd->jS jd:=gK (bG t) ((512+d)::bW d)
theorem Lo(h:lg (mG t d) U):U.length<=t.length:=by
 have a:U⊆t.map (·.1):=by
  intro y b;obtain⟨-,c⟩:=h.2.1 y b;obtain⟨v,e⟩:=r4.1 c;exact qQ.2 ⟨_,oN (rV e).1,T⟩
 have:=h.1.length_le_of_subset a
 simpa using this
theorem Ol(a:∀e∈t,aO e.1/\aO e.2):∀y v,aO y->mG t d y=ja v->aO v:=
 λy v _ h=>(a _ (oN (rV h).1)).2
def LB(t:jh (jd×jd))(d:jd)(w:jg)(E:jd)(e:Ending)(w':jg):Prop:=
 jl w w w'/\(E≠0->e=jo (jw #[jq #[jb A 0 0],I N E]))/\
 (E=0->∃v xs,e=jo (jw #[jq #[v],I N 0])/\lg (mG t d) xs/\bJ w' v (dG (mG t d) (xs.mergeSort leI)))
theorem Kd(t:jh (jd×jd))(v:ji)(d:jd)(w:jg)(b:bJ w v t)(g:t.length<=900000)(i:aO d):
 jr jm 84 #[jq #[v],I N d] w λe w'=>LB t d w (dD t d jf) e w':=by
 have j:∀e∈t,aO e.1/\aO e.2:=by obtain⟨p,c,-,-,-,-,h⟩:=b;exact h
 have k:jl w w ((w.alloc (jc #[v] 43)).alloc (jc #[jb A 0 0] 43)):=((jy _ w).alloc (jn _) _).alloc ar _;have l:=O (Aq t v d jf ((w.alloc (jc #[v] 43)).alloc (jc #[jb A 0 0] 43)) (b.below k) Y i);have m:jt ((w.alloc (jc #[v] 43)).alloc (jc #[jb A 0 0] 43)) (w.heap.size+1) 43 (jb A 0 0):=by
  have h:=js (w.alloc (jc #[v] 43)) (jc #[jb A 0 0] 43);rw[jC]at h;exact h
 have M:=O j;have D:=O g;obtain⟨E,f⟩:=J (dD t d jf);rw[<-f]at l;rw[<-f];clear b g f j i
 go_enter func84,ntmps84
 go_wp2_with fail
 obtain⟨W,b⟩:=J ((w.alloc (jc #[v] 43)).alloc (jc #[jb A 0 0] 43));rw[<-b]at l m k⊢;clear b;refine l.mono ?_;rintro e g ⟨s,x,y⟩;have u:jt g (w.heap.size+1) 43 (jb A 0 0):=(s.block _ m.lt).trans m;have F:=O (k.trans (s.mono k.size));have H:=O u;have X:w.heap.size+1<g.heap.size:=u.lt
 by_cases n:E=0
 ·obtain⟨b,p,c,rfl,i,f,-⟩:=y n
  have P:jk (aZ (dO jQ) 3 g b t.length (mG t d)):=O f;subst n;clear x y s k m u l f i
  go_wp2_with fail
  refine(BA b t.length (mG t d) g P (aI D) (λxs h=>jz (Lo h) (aI D)) (Ol M)).mono ?_;rintro e o ⟨v',xs,rfl,C,⟨j,K⟩,f⟩;obtain⟨q,z,rfl⟩:=ve j;have i:jk (jt o (w.heap.size+1) 43 (jb A 0 0)):=O ((f.block _ Y).trans H);have r:=ah F f;have Q:=O C;have R:=O j;have S:=O K;have aa:=f.size;have U:=i.cell;have V:=i.frozen;clear C j K f
  go_wp2_with fail
  have K:=O (ow o (w.heap.size+1) (jb q (dG (mG t d) (xs.mergeSort leI)).length z));have C:=(Boxed.set (jb q (dG (mG t d) (xs.mergeSort leI)).length z) i).cell;refine jX (v:=jw #[jq #[jb q (dG (mG t d) (xs.mergeSort leI)).length z],I N 0]) (by simp[results,results84,go_sem,C]) T ?_;refine⟨r.grown K (cT r.size) (λj e=>by cases e;omega),λh=>jG T h,λ_=>⟨_,xs,T,Q,?_⟩⟩;exact zK (B:=g.heap.size) (qY R (a:=⟨w.heap.size+1,0,A⟩) (by show w.heap.size+1<g.heap.size;omega) _) S
 obtain rfl:=x n;have b:=O n;clear x y s k m u l n
 go_wp2_with fail
 refine(M5 g).mono ?_;rintro e o ⟨rfl,f⟩;have i:jk (jt o (w.heap.size+1) 43 (jb A 0 0)):=O ((f.block _ Y).trans H);have r:=ah F f;have U:=i.cell;have V:=i.frozen;clear f
 go_wp2_with fail
 have C:=(Boxed.set (jb A 0 0) i).cell;refine jX (v:=jw #[jq #[jb A 0 0],I N E]) (by simp[results,results84,go_sem,C]) T ?_;exact⟨r.grown (ow o (w.heap.size+1) _) (cT r.size) (λj e=>by cases e;omega),λ_=>rfl,λh=>jG h b⟩
def c8(w:jg)(v:ji)(l:jh jd):Prop:=
 ∃p c,v=jb p l.length c/\l.length<=c/\(0<l.length->∃g o,p=ja ⟨g,o,A⟩/\∀j,j<l.length->w.cell? ⟨g,o+j,A⟩=ja (I N (l.getD j 0)))
theorem Rh(x:jd)(w:jg):jr jm 82 #[I N x] w λe w'=>e=jo (.bool (decide (cW x≠0)))/\jl w w w':=by
 go_enter func82,ntmps82
 go_wp2_with fail
 refine(gC x w).mono ?_;rintro e f ⟨rfl,a⟩;have b:=O a;clear a;obtain⟨c,a⟩:=J (cW x);rw[<-a];have d:=O a;clear a
 by_cases h:c=0
 ·subst h
  go_wp2_with fail
  go_ret;exact⟨by rw[<-d];rfl,b⟩
 have g:=az (c=0);have a:=O h;clear h
 go_wp2_with fail
 go_ret;exact⟨by rw[<-d];simp[a.out,bne],b⟩
def iq(l:jh jd):Prop:=∀j,j<l.length->cW (l.getD j 0)=0
theorem LK(l:jh jd)(v:ji)(w:jg)(h:c8 w v l)(B:l.length<=1000000):
 jr jm 132 #[v,.func (.func 82) #[] #[]] w λe w'=>∃r,e=jo (I N r)/\jk ((iq l->r= -1)/\(¬iq l->0<=r))/\jl w w w':=by
 obtain⟨p,c,rfl,C,b⟩:=h;have D:=O b;obtain⟨n,a⟩:=J l.length;have f:=O a;rw[<-a]at B C⊢;clear b a
 go_enter func132,ntmps132
 go_wp2_with fail
 go_loopw [8] (λi wr=>∃k:je,i=I N k/\k<=n/\jk (∀j,j<k->cW (l.getD j 0)=0)/\jk (jl w w wr)) (λi _=>n-(jv i).toNat)
 case atStart=>exact⟨0,T,jJ _,O (λ_ h=>jG h Y),O (jy _ _)⟩
 obtain⟨k,rfl,K,q,i⟩:=hrel
 by_cases s:k<n
 ·have E:=aA ((k:jd)<(n:jd))
  have F:=aA (k<n);obtain⟨g,o,rfl,b⟩:=D.out (by rw[<-f];omega);have a:=b k (by rw[<-f];exact s);have H:wr.cell? ⟨g,o+k,A⟩=ja (I N (l.getD k 0)):=cI a (i.block g (eN a));obtain⟨x,d⟩:=J (l.getD k 0);rw[<-d]at H;have t:=O d;clear b a d
  go_wp2_with fail
  refine(Rh x wr).mono ?_;rintro e M ⟨rfl,a⟩;have u:=ah i a;clear a
  by_cases a:cW x=0
  ·have d:decide (cW x≠0)=jp:=by simp[a]
   rw[d];have m:=O a;clear d a
   go_wp2_with fail
   refine⟨⟨k+1,by go_num,by omega,O (λj y=>?_),u⟩,by simp only[jv];omega⟩
   rcases qE j k with z|z
   ·exact q j z
   obtain rfl:j=k:=Y;rw[<-t];exact m
  have d:decide (cW x≠0)=jf:=by simp[a]
  rw[d];have m:=O a;clear d a
  go_wp2_with fail
  go_ret;exact⟨_,T,O ⟨λh=>jG (by rw[t];exact h k (by rw[<-f];exact s)) m,λ_=>by omega⟩,u⟩
 have E:=az ((k:jd)<(n:jd));have F:=az (k<n);obtain rfl:k=n:=Y
 go_wp2_with fail
 go_ret;exact⟨_,T,O ⟨λ_=>rfl,λh=>jG (λj y=>q j (by rw[f];exact y)) h⟩,i⟩
theorem TX(l:jh jd)(v:ji)(w:jg)(h:c8 w v l)(i:l.length<=1000000):
 jr jm 81 #[v,.func (.func 82) #[] #[]] w λe w'=>∃b,e=jo (.bool b)/\jk ((iq l->b=jp)/\(¬iq l->b=jf))/\jl w w w':=by
 have d:=O (LK l v w h i);obtain⟨p,c,rfl,-,-⟩:=h
 go_enter func81,ntmps81
 go_wp2_with fail
 refine d.mono ?_;rintro e k ⟨r,rfl,a,f⟩;have g:=O f;clear f d
 by_cases f:0<=r
 ·have j:=aA (0<=r)
  have d:jk (¬iq l):=O (λh=>by have:=a.1 h;omega);clear a
  go_wp2_with fail
  go_ret;exact⟨jf,T,O ⟨λh=>jG h d,λ_=>rfl⟩,g⟩
 have j:=az (0<=r);have d:jk (¬¬iq l):=O (λh=>jG (a.2 h) f);clear a
 go_wp2_with fail
 go_ret;exact⟨jp,T,O ⟨λ_=>rfl,λh=>jG h d⟩,g⟩
def InQ(x:jd):Prop:=0<=x/\x<2305843009213688669
instance(x:jd):Decidable (InQ x):=by unfold InQ;infer_instance
theorem JY(x:jd)(w:jg):jr jm 186 #[I N x] w λe w'=>e=jo (.bool (decide (¬InQ x)))/\jl w w w':=by
 obtain⟨r,a⟩:=J (decide (¬InQ x));rw[<-a]
 by_cases c:x<0
 ·have b:=aA (x<0)
  obtain rfl:r=jf:=by rw[a];simp[InQ];omega
  clear a
  go_enter func186,ntmps186
  go_wp2
  go_ret;exact⟨T,jy _ _⟩
 have b:=az (x<0);obtain rfl:r=decide (2305843009213688669<=x):=by rw[a];simp[InQ];omega
 clear a
 go_enter func186,ntmps186
 go_wp2
 go_ret;exact⟨T,jy _ _⟩
def iI(l:jh jd):Prop:=∀j,j<l.length->InQ (l.getD j 0)
theorem R3(l:jh jd)(v:ji)(w:jg)(h:c8 w v l)(B:l.length<=1000000):
 jr jm 132 #[v,.func (.func 186) #[] #[]] w λe w'=>∃r,e=jo (I N r)/\jk ((iI l->r= -1)/\(¬iI l->0<=r))/\jl w w w':=by
 obtain⟨p,c,rfl,C,b⟩:=h;have D:=O b;obtain⟨n,a⟩:=J l.length;have f:=O a;rw[<-a]at B C⊢;clear b a
 go_enter func132,ntmps132
 go_wp2_with fail
 go_loopw [8] (λi wr=>∃k:je,i=I N k/\k<=n/\jk (∀j,j<k->InQ (l.getD j 0))/\jk (jl w w wr)) (λi _=>n-(jv i).toNat)
 case atStart=>exact⟨0,T,jJ _,O (λ_ h=>jG h Y),O (jy _ _)⟩
 obtain⟨k,rfl,K,q,i⟩:=hrel
 by_cases s:k<n
 ·have E:=aA ((k:jd)<(n:jd))
  have F:=aA (k<n);obtain⟨g,o,rfl,b⟩:=D.out (by rw[<-f];omega);have a:=b k (by rw[<-f];exact s);have H:wr.cell? ⟨g,o+k,A⟩=ja (I N (l.getD k 0)):=cI a (i.block g (eN a));obtain⟨x,d⟩:=J (l.getD k 0);rw[<-d]at H;have t:=O d;clear b a d
  go_wp2_with fail
  refine(JY x wr).mono ?_;rintro e M ⟨rfl,a⟩;have u:=ah i a;clear a
  by_cases a:InQ x
  ·have d:decide (¬InQ x)=jp:=by simp[a]
   rw[d];have m:=O a;clear d a
   go_wp2_with fail
   refine⟨⟨k+1,by go_num,by omega,O (λj y=>?_),u⟩,by simp only[jv];omega⟩
   rcases qE j k with z|z
   ·exact q j z
   obtain rfl:j=k:=Y;rw[<-t];exact m
  have d:decide (¬InQ x)=jf:=by simp[a]
  rw[d];have m:=O a;clear d a
  go_wp2_with fail
  go_ret;exact⟨_,T,O ⟨λh=>jG (by rw[t];exact h k (by rw[<-f];exact s)) m,λ_=>by omega⟩,u⟩
 have E:=az ((k:jd)<(n:jd));have F:=az (k<n);obtain rfl:k=n:=Y
 go_wp2_with fail
 go_ret;exact⟨_,T,O ⟨λ_=>rfl,λh=>jG (λj y=>q j (by rw[f];exact y)) h⟩,i⟩
theorem Pq(l:jh jd)(v:ji)(w:jg)(h:c8 w v l)(i:l.length<=1000000):
 jr jm 81 #[v,.func (.func 186) #[] #[]] w λe w'=>∃b,e=jo (.bool b)/\jk ((iI l->b=jp)/\(¬iI l->b=jf))/\jl w w w':=by
 have d:=O (R3 l v w h i);obtain⟨p,c,rfl,-,-⟩:=h
 go_enter func81,ntmps81
 go_wp2_with fail
 refine d.mono ?_;rintro e k ⟨r,rfl,a,f⟩;have g:=O f;clear f d
 by_cases f:0<=r
 ·have j:=aA (0<=r)
  have d:jk (¬iI l):=O (λh=>by have:=a.1 h;omega);clear a
  go_wp2_with fail
  go_ret;exact⟨jf,T,O ⟨λh=>jG h d,λ_=>rfl⟩,g⟩
 have j:=az (0<=r);have d:jk (¬¬iI l):=O (λh=>jG (a.2 h) f);clear a
 go_wp2_with fail
 go_ret;exact⟨jp,T,O ⟨λ_=>rfl,λh=>jG h d⟩,g⟩
theorem Br(l:jh jd)(v:ji)(w:jg)(h:c8 w v l)(f:l.length<=1000000):
 jr jm 125 #[v] w λe w'=>∃a,e=jo (.bool a)/\jk ((iI l->a=jp)/\(¬iI l->a=jf))/\jl w w w':=by
 have b:=O (Pq l v w h f);obtain⟨p,c,rfl,-,-⟩:=h
 go_enter func125,ntmps125
 go_wp2_with fail
 refine b.mono ?_;rintro e j ⟨r,rfl,g,d⟩;have i:=O d;clear d b
 go_wp2_with fail
 go_ret;exact⟨_,T,g,i⟩
theorem ox(w:jg)(x:jd):c8 (w.alloc (jc #[I N x] 3)) (jb (ja ⟨w,0,A⟩) 1 1) [x]:=
 ⟨_,_,rfl,jn _,λ_=>⟨_,_,rfl,λj a=>by
  obtain rfl:j=0:=by simp at a;omega
  exact ai (js w _) T⟩⟩
theorem mE(w:jg)(x y:jd):c8 (w.alloc (jc #[I N x,I N y] 3)) (jb (ja ⟨w,0,A⟩) 2 2) [x,y]:=
 ⟨_,_,rfl,jn _,λ_=>⟨_,_,rfl,λj a=>by
  simp at a
  rcases(show j=0\/j=1 by omega)with rfl|rfl
  ·exact ai (js w _) T
  exact ai (js w _) T⟩⟩
theorem Kb(x:jd):iI [x]↔InQ x:=⟨λh=>h 0 ar,λh j a=>by
 obtain rfl:j=0:=by simp at a;omega
 exact h⟩
theorem EY(x y:jd):iI [x,y]↔InQ x/\InQ y:=⟨λh=>⟨h 0 ar,h 1 ar⟩,λh j a=>by
 simp at a
 rcases(show j=0\/j=1 by omega)with rfl|rfl
 ·exact h.1
 exact h.2⟩
theorem A9[Decidable p]{l:jh jd}{b:Bool}(h:(iI l->b=jp)/\(¬iI l->b=jf))(e:iI l↔p):b=decide (¬p):=by
 by_cases a:p
 ·rw[h.1 (e.2 a)];simp[a]
 rw[h.2 (λg=>a (e.1 g))];simp[a]
def lS(x:jd):jd:=if InQ x then 0 else 1
theorem Ox(x:jd)(w:jg):
 jr jm 74 #[I N x] w λe w'=>e=jo (I N (lS x))/\jl w w w':=by
 have a:=O (Br [x] _ _ (ox w x) ar);have b:=O (ao w (jc #[I N x] 3))
 go_enter func74,ntmps74
 go_wp2_with fail
 refine a.mono ?_;rintro e h ⟨r,rfl,c,d⟩;have f:=ah b d;have g:=O (A9 c (Kb x));clear d a b c
 cases r
 ·go_wp2_with fail
  go_ret;exact⟨by have:=g.out;simp at this;rw[lS,jB this];rfl,f⟩
 go_wp2_with fail
 go_ret;exact⟨by have:=g.out;simp at this;rw[lS,jI this];rfl,f⟩
theorem KZ(x y:jd)(w:jg)(a:InQ x)(b:InQ y):
 jr jm 162 #[I N x,I N y] w λe w'=>e=jo (jw #[I N ((x+y)%2305843009213688669),I N 0])/\jl w w w':=by
 have c:=O (Br [x,y] _ _ (mE w x y) ar);have d:=O (ao w (jc #[I N x,I N y] 3));have f:=O a;have g:=O b;have j:0<=x+y:=by have:=a.1;have:=b.1;omega
 have k:x+y<4611686018427377338:=by have:=a.2;have:=b.2;omega
 have l:(x+y).tmod 2305843009213688669=(x+y)%2305843009213688669:=Int.tmod_eq_emod_of_nonneg Y;have m:=a.1;have n:=a.2;have o:=b.1;have p:=b.2;clear a b
 go_enter func162,ntmps162
 go_wp2_with fail
 refine c.mono ?_;rintro e q ⟨r,rfl,a,b⟩;have h:=ah d b;have i:=O (A9 a (EY x y));obtain rfl:r=jp:=by rw[i];simp[f.out,g.out]
 clear b c d a
 go_wp2_with fail
 go_ret2;exact⟨T,h⟩
theorem QA(a b:je)(f:a<2305843009213688669)(g:b<2305843009213688669)(w:jg):
 jr jm 188 #[I j7 a,I j7 b] w λe w'=>∃c d:je,e=jo (jw #[I j7 c,I j7 d])/\c<2305843009213688669/\d<18446744073709551616/\jk (c*18446744073709551616+d=a*b)/\w=w':=by
 refine(B8 a b Y Y w).mono ?_;rintro e w' ⟨rfl,rfl⟩;have h:a*b<=2305843009213688668*2305843009213688668:=Nat.mul_le_mul Y Y;refine⟨_,_,T,?_,qG _ G,O (by rw[Nat.mul_comm];exact Nat.div_add_mod _ _),T⟩;generalize a*b=m at h;omega
theorem Qw(a b:je)(f:a<2305843009213688669)(d:b<18446744073709551616)(w:jg):
 jr jm 189 #[I j7 a,I j7 b,I j7 2305843009213688669] w λe w'=>
  ∃(q:jd) (r:je),e=jo (jw #[I j7 q,I j7 r])/\(r:jd)<2305843009213688669/\jk (r=(a*18446744073709551616+b)%QN)/\jl w w w':=by
 rcases qH a with rfl|h
 ·refine(DivQ.div64_0 b d w).mono ?_
  rintro e w' ⟨q,rfl,c⟩;exact⟨q,_,T,by omega,O (by rw[qT,ms];rfl),c⟩
 refine(DivQ.div64_1 a b h f d w).mono ?_;rintro e w' ⟨q,rfl,c⟩;exact⟨q,_,T,by omega,O rfl,c⟩
theorem Ql(a b:je)(c:a<2305843009213688669)(d:b<2305843009213688669)(w:jg):
 jr jm 213 #[I N a,I N b] w λe w'=>e=jo (I N ((a*b%QN:je):jd))/\jl w w w':=by
 have h:=O (QA a b c d)
 go_enter func213,ntmps213
 go_wp2_with fail
 refine(h _).mono ?_;rintro e m ⟨i,j,rfl,f,g,k,rfl⟩;have l:=O (Qw i j f g);clear f g c d
 go_wp2_with fail
 refine(l _).mono ?_;rintro e g ⟨q,r,rfl,n,d,c⟩;have f:=O c;clear c
 go_wp2_with fail
 go_ret;exact⟨by rw[<-k,<-d];rfl,f⟩
theorem Jh(x y:je)(w:jg)(a:x<2305843009213688669)(b:y<2305843009213688669):
 jr jm 161 #[I N x,I N y] w λe w'=>e=jo (jw #[I N ((x*y%QN:je):jd),I N 0])/\jl w w w':=by
 have c:=O (Br [(x:jd),(y:jd)] _ _ (mE w x y) ar);have d:=O (ao w (jc #[I N x,I N y] 3));have f:jk (InQ (x:jd)):=O ⟨by omega,by omega⟩;have g:jk (InQ (y:jd)):=O ⟨by omega,by omega⟩;have h:=O (Ql x y a b);clear a b
 go_enter func161,ntmps161
 go_wp2_with fail
 refine c.mono ?_;rintro e k ⟨r,rfl,a,b⟩;have i:=ah d b;have j:=O (A9 a (EY x y));obtain rfl:r=jp:=by rw[j];simp[f.out,g.out]
 clear b c d a
 go_wp2_with fail
 refine(h _).mono ?_;rintro e c ⟨rfl,a⟩;have b:=ah i a;clear a
 go_wp2_with fail
 go_ret2;exact⟨T,b⟩
def aY(a k:je):je:=a^k%PN
theorem MB(a k b P:je)(c:1<P)(h:a^b%P=1):(a^k%P)^b%P=1:=by
 rw[<-Nat.pow_mod,<-Nat.pow_mul,Nat.mul_comm,Nat.pow_mul,Nat.pow_mod,h,Nat.one_pow,qA c]
theorem po{a:je}(h:bL a)(k:je):bL (aY a k:je):=by
 have c:a^QN%PN=1:=by have:=h.2.2;rwa [xl]at this
 have b:(aY a k)^QN%PN=1:=MB a k QN PN (by rw[fs];decide) c;have d:aY a k<PN:=qG _ (by rw[fs];decide);have e:1<=aY a k:=by
  rcases qH (aY a k)with h|h
  ·rw[h,Nat.zero_pow (by unfold QN;decide)]at b
   exact jG b (by rw[Nat.zero_mod];decide)
  exact h
 rw[fs]at d;exact⟨by omega,by omega,by rw[xl];exact b⟩
theorem AZ(a k:je)(b:bL a)(l:k<2305843009213688669)(w:jg):
 jr jm 76 #[I N a,I N k] w λe w'=>e=jo (jw #[I N (aY a k:je),I N 0])/\jl w w w':=by
 have c:=O (gC a w);rw[gE b]at c;have m:=b.2.1;have f:=O (D4 a k (by rw[fs];omega) Y);have n:decide ((k:jd)<0)=jp:=by simp
 have hd2:=az ((2305843009213688669:jd)<=(k:jd));clear b
 go_enter func76,ntmps76
 go_wp2_with fail
 refine c.mono ?_;rintro e o ⟨rfl,b⟩;have g:=O b;clear b c
 go_wp2_with fail
 refine(f _).mono ?_;rintro e p ⟨c,rfl,b,d⟩;have i:=ah g d;have q:(c:jd)<4611686018427377339:=by
  have h:=b.out;have j:c<PN:=by rw[h];exact qG _ (by rw[fs];decide)
  rw[fs]at j;omega
 clear d
 go_wp2_with fail
 go_ret2;exact⟨by rw[aY,<-b];rfl,i⟩
theorem m7:bL 4:=by
 refine⟨by decide,by decide,?_⟩;rw[<-wB _ QN 62 G]
 decide+kernel
theorem TB:bL 4:=m7
theorem wC(k:je)(b:k<2305843009213688669)(w:jg):
 jr jm 75 #[I N k] w λe w'=>e=jo (jw #[I N (aY 4 k:je),I N 0])/\jl w w w':=by
 have c:=O (AZ 4 k TB b)
 go_enter func75,ntmps75
 go_wp2_with fail
 refine(c _).mono ?_;rintro e f ⟨rfl,a⟩;have d:=O a;clear a
 go_wp2_with fail
 go_ret2;exact⟨T,d⟩
theorem Po(a b:je)(c:bL a)(d:bL b)(w:jg):
 jr jm 78 #[I N a,I N b] w λe w'=>e=jo (jw #[I N (a*b%PN:je),I N 0])/\jl w w w':=by
 have o:∀W:jg,(Instr.index 205 (jq #[I N a,I N b]) (I N 0)).run jm W=.ok (I N a) W:=λW=>by
  have f:=underlying205;unfold Instr.index;simp[asIntOf,run_underlying f,part]
 have p:∀W:jg,(Instr.index 205 (jq #[I N a,I N b]) (I N 1)).run jm W=.ok (I N b) W:=λW=>by
  have f:=underlying205;unfold Instr.index;simp[asIntOf,run_underlying f,part]
 have g:=O (gC a);have j:=O (gC b);rw[gE c]at g;rw[gE d]at j;have q:=c.2.1;have r:=d.2.1;have l:=O (AP a b (by rw[fs];omega) (by rw[fs];omega));clear c d
 go_enter func78,ntmps78
 go_wp2_with fail
 go_loopw [12] (λi wr=>∃k:je,i=I N k/\k<=2/\jk (jl w w wr)) (λi _=>(2-jv i).toNat)
 case atStart=>exact⟨0,T,by omega,O (jy _ _)⟩
 obtain⟨k,rfl,s,d⟩:=hrel
 rcases(show k=0\/k=1\/k=2 by omega)with rfl|rfl|rfl
 ·go_wp2_with fail
  refine(g _).mono ?_;rintro e h ⟨rfl,c⟩;have f:=ah d c;clear c
  go_wp2_with fail
  go_roundw
  case rel=>exact⟨1,T,by omega,f⟩
  case measure=>simp only[jv];omega
 ·go_wp2_with fail
  refine(j _).mono ?_;rintro e h ⟨rfl,c⟩;have f:=ah d c;clear c
  go_wp2_with fail
  go_roundw
  case rel=>exact⟨2,T,by omega,f⟩
  case measure=>simp only[jv];omega
 go_wp2_with fail
 refine(l _).mono ?_;rintro e t ⟨c,rfl,f,i⟩;have m:=ah d i;have u:(c:jd)<4611686018427377339:=by
  have h:=f.out;have n:c<PN:=by rw[h];exact qG _ (by rw[fs];decide)
  rw[fs]at n;omega
 clear i
 go_wp2_with fail
 go_ret2;exact⟨by rw[<-f];rfl,m⟩
theorem Ip(s:ByteArray)(g:s.size<=100000)(v:ji)(l:LBy)(h:l.length<=900000)(w:jg)(b:bj w v l)(a:eP w)(c:gM w):
 jr jm 126 #[jj s,v] w λe w'=>e=jo (I N (o6 (co s) l:je))/\jl w w w':=by
 have d:=O (sC s g v l h w b a c);have i:jk ((dm (co s) l).length=32):=O (iN _ _);obtain⟨m,n,rfl,-,-,-⟩:=b;clear a c
 go_enter func126,ntmps126
 go_wp2_with fail
 refine d.mono ?_;rintro e j ⟨rfl,c⟩;have a:=O (Sx (dm (co s) l) i j);obtain⟨o,f⟩:=J (((dm (co s) l).map v8).toArray);rw[<-f]at a⊢;have k:=O c;clear c d f
 go_wp2_with fail
 refine a.mono ?_;rintro e p ⟨rfl,c⟩;have f:=ah k c;have d:=yr (dm (co s) l);rw[tu]at d;clear c a;obtain⟨r,a⟩:=J (kA (dm (co s) l));rw[<-a]at d⊢;have c:=O a;clear a
 go_wp2_with fail
 go_ret;exact⟨by rw[o6,<-c];simp,f⟩
def lu(kb b a c:LBy):LBy:=kb++b++il a.length 8++a++c
def oH(kb a b c:LBy):LBy:=(dm gR (lu kb a b c)).take 16
theorem rE(kb nb hb cb):(oH kb nb hb cb).length=16:=by simp[oH,iN]
theorem Ko(n:je)(c:n<9223372036854775808)(w:jg):
 jr jm 250 #[I N n] w λe w'=>∃g a,e=jo (jb (ja ⟨g,0,A⟩) 8 a)/\jk (bj w' (jb (ja ⟨g,0,A⟩) 8 a) (il n 8))/\jl w w w':=by
 refine(KP n c w).mono ?_;rintro e w' ⟨v,rfl,b,d⟩;have f:bj w' v (il n 8):=bj.of_own (B:=w.heap.size) (by rw[Dm];exact b)
 rcases b.2 with⟨rfl,h⟩|⟨g,a,i,rfl,j⟩
 ·exact jG h G
 exact⟨g,a,T,f,d⟩
theorem Below.al(h:jl w w a)(o:Obj):jl w w (a.alloc o):=h.alloc h.size o
theorem Below.tr{b:jg}(h:jl w w a)(k:jl a a b):jl w w b:=h.trans (k.mono h.size)
theorem Below.dr(h:jl w w a):jl w w a.drew:=⟨h.os,h.tape,h.output,h.size,h.block⟩
theorem NU(b h X:jg)(kb c a d:LBy)(j k l m n:ji)(p:bj b j kb)(q:bj b k c)(r:bj h l (il a.length 8))(s:bj b m a)(u:bj b n d)
 (f:jl b b X) (w:jl h h X) (g:je) (t:jH) (x:X.heap[g]?=ja (jc #[j,k,l,m,n] t (0,0))) (z:(lu kb c a d).length<=900000):
 jr jm 148 #[jb (ja ⟨g,0,A⟩) 5 5] X λe w'=>∃v,e=jo v/\jk (bj w' v (lu kb c a d))/\jl X X w':=by
 have o:[kb,c,il a.length 8,a,d].flatten=lu kb c a d:=by simp[lu]
 refine(uP g 5 t [j,k,l,m,n] [kb,c,il a.length 8,a,d] T T (by rw[o];omega) X x ?_ G).mono ?_
 ·intro i y
  match i,y with
  |0,_=>exact p.below f
  |1,_=>exact q.below f
  |2,_=>exact r.below w
  |3,_=>exact s.below f
  |4,_=>exact u.below f
 rintro e w' ⟨v,rfl,i,y⟩;rw[o]at i;exact⟨v,T,bj.of_own i,y⟩
theorem Mf(kb a b c:LBy)(d:kb.length=32)(e:a.length=12):(lu kb a b c).length=52+b.length+c.length:=by
 simp[lu,d,e,Dm];omega
theorem wK(w:jg)(o a:Obj):((w.alloc o).alloc a).heap[w.heap.size+1]?=ja a:=by
 have:=js (w.alloc o) a
 rwa [jC]at this
theorem tx(w:jg)(Z:jZ ji)(t:jH)(n:je)(h:Z.size=n):(w.alloc (jc Z t)).there w.heap.size 0 n:=λj c=>by
 have a:=js w (jc Z t);have b:j<Z.size:=Y;simp only[j5,r6,a];simp[b]
theorem rf{b n:je}(h:w.there b 0 n)(a:jl w w w'):w'.there b 0 n:=λj e=>by
 obtain⟨f,g⟩:=h j e;obtain⟨v,c⟩:=r4.1 f;have d:=mf c;exact⟨by rw[gh c (a.block _ d)];rfl,by rw[<-g];simp only[r6,a.block _ d]⟩
theorem thA(w':jl (w.alloc (jc h e)).drew.heap.size (w.alloc (jc h e)).drew a)(b:h.size=32):a.there w.heap.size 0 32:=
 rf (w:=(w.alloc (jc h e)).drew) ((World.there_drew _ _ _ _).2 (tx w h e 32 b)) w'
theorem thN(w':jl (w.alloc (jc h e)).heap.size (w.alloc (jc h e)) a)(b:h.size=32):a.there w.heap.size 0 32:=rf (tx w h e 32 b) w'
theorem PV(w':jl ((w.alloc (jc h e)).alloc o).heap.size ((w.alloc (jc h e)).alloc o) a)(b:h.size=32):a.there w.heap.size 0 32:=
 rf (xm (tx w h e 32 b) o) w'
theorem QR(w':jl ((w.alloc o).alloc (jc h e)).heap.size ((w.alloc o).alloc (jc h e)) a)(b:h.size=32):a.there (w.heap.size+1) 0 32:=by
 have Z:=tx (w.alloc o) h e 32 b;rw[jC]at Z;exact rf Z w'
theorem thK(h:w.there B 0 32)(w':jl (w.alloc o).heap.size (w.alloc o) a):a.there B 0 32:=rf (xm h o) w'
theorem Below.cellsFrom(h:jl w w a)(b:je)(c:w.heap.size<=b):∀(w':jh ji) (o:je),jl w w (a.setCells b o w'):=by
 intro w'
 induction w' generalizing a with
 |nil=>intro o;exact h
 |cons v w' d=>intro o;exact d (h.setCell c _) (o+1)
theorem KO(kb a b d:LBy)(u x:ji)(w:jg)(m:kb.length=32)(p:a.length=12)(au:b.length<=70000)(ax:d.length<=70000)
 (y:bj w u b) (z:bj w x d) (i:eP w) (j:gM w):
 jr jm 208 #[jq (kb.map v8).toArray,jq (a.map v8).toArray,u,x] w λe w'=>
  ∃v,e=jo v/\bj w' v (oH kb a b d)/\jl w w w':=by
 have c:(kb.map v8).toArray.size=32:=by simp[m]
 have h:(a.map v8).toArray.size=12:=by simp[p]
 generalize k:(kb.map v8).toArray=f at c⊢;generalize l:(a.map v8).toArray=g at h⊢;have B:=O y;have C:=O z;obtain⟨ph,ch,rfl,-,-,-⟩:=y;obtain⟨pc,cc,rfl,-,-,-⟩:=z;have D:=O k;have E:=O l;have F:=O i;have H:=O j;have M:=O c;have P:=O h;clear k l c h i j
 go_enter func208,ntmps208
 go_upto_region 1 with fail
 have c:jl w w ((w.alloc (jc f 63)).alloc (jc g 247)):=
  ⟨rfl,rfl,rfl,by simp;omega,λk m=>by rw[jF _ _ _ (by simp;omega),jF _ _ _ m]⟩
 have i:bj ((w.alloc (jc f 63)).alloc (jc g 247)) (jb (ja ⟨w,0,A⟩) 32 32) kb:=by
  refine⟨_,32,by rw[m],by rw[m];exact jn _,λh=>(by cases h),λ_=>⟨w.heap.size,0,T,λj k=>?_⟩⟩;have h:cJ ((w.alloc (jc f 63)).alloc (jc g 247)) w.heap.size 63 kb:=by
   show _ =ja (Obj.cells (kb.map v8).toArray 63 (0,0));rw[D,jF _ _ _ ar];exact js w _
  rw[ms];exact h.cell k
 have l:bj ((w.alloc (jc f 63)).alloc (jc g 247)) (jb (ja ⟨w.heap.size+1,0,A⟩) 12 12) a:=by
  refine⟨_,12,by rw[p],by rw[p];exact jn _,λh=>(by cases h),λ_=>⟨w.heap.size+1,0,T,λj k=>?_⟩⟩;have h:cJ ((w.alloc (jc f 63)).alloc (jc g 247)) (w.heap.size+1) 247 a:=by
   show _ =ja (Obj.cells (a.map v8).toArray 247 (0,0));rw[E];have:=js (w.alloc (jc f 63)) (jc g 247)
   simpa using this
  rw[ms];exact h.cell k
 have n:=B.below c;have q:=C.below c;have r:eP ((w.alloc (jc f 63)).alloc (jc g 247)):=F.below c (jn _);have s:gM ((w.alloc (jc f 63)).alloc (jc g 247)):=H.below c (jn _);obtain⟨o,t⟩:=J ((w.alloc (jc f 63)).alloc (jc g 247));rw[<-t]at c i l n q r s⊢;have K:=O c;have Q:=O i;have R:=O l;have S:=O n;have U:=O q;have V:=O r;have W:=O s;have X:jk (w.heap.size+2<=o.heap.size):=O (by rw[t];simp);clear c i l n q r s t B C F H D E M P;have c:(lu kb a b d).length<=900000:=by rw[Mf _ _ _ _ m p];omega
 have s:=O c;clear c;obtain⟨q,c⟩:=J ((dm gR (lu kb a b d)).map v8);have i:∀v w,bj w v (lu kb a b d)->eP w->gM w->
  jr jm 93 #[jj ⟨#[116,97,103]⟩,v] w λe w'=>e=jo (jq q.toArray)/\jl w w w':=λv w l n r=>by
  rw[c];exact Jv v _ s.out w l n r
 have t:q.length=32:=by rw[c,jD,iN]
 have B:∀v∈q,v.oneCell'=jf:=by rw[c];exact iT _
 have C:(jm.info? 23).map (·.size)=ja 32:=vC;have D:=O i;have E:=O c;have F:=O t;clear i c;have ay:w.heap.size+2<=o.heap.size:=X.out
 go_cut [9] (λv c=>∃n,v=jA (ja ⟨n,0,A⟩)/\c.rangeAt n 0 q/\jl o o c)
 case first=>
  go_region_held3 (λw'=>True) (trivial) (first
   |(go_at_call 250;refine(Ko b.length Y _).mono ?_;rintro e H ⟨g1,a1,rfl,M,l⟩;try(have P:=thA l aj))
   |(go_at_call 148;refine(NU o H _ kb a b d _ _ _ _ _ Q.out R M S U (by repeat (first|exact jy _ _ |refine Below.al ?_ _ |refine Below.dr ?_|refine Below.tr ?_ i|refine Below.tr ?_ c|refine Below.tr ?_ l)) (by repeat (first|exact jy _ _ |refine Below.al ?_ _ |refine Below.dr ?_|refine Below.tr ?_ i|refine Below.tr ?_ c|refine Below.tr ?_ l)) _ 66 (by first|exact js _ _ |exact wK _ _ _ |exact(jF _ _ _ ar).trans (js _ _)) s).mono ?_;rintro e w2 ⟨v2,rfl,aa,c⟩;first|(have r:=thK P c)|(have r:=PV c aj)|(have r:=QR c aj)|skip)
   |(go_at_call 93;refine(D _ _ (aa.below (by repeat (first|exact jy _ _ |refine Below.al ?_ _ |refine Below.dr ?_|refine Below.tr ?_ i|refine Below.tr ?_ c|refine Below.tr ?_ l))) (V.below (by repeat (first|exact jy _ _ |refine Below.al ?_ _ |refine Below.dr ?_|refine Below.tr ?_ i|refine Below.tr ?_ c|refine Below.tr ?_ l)) (jn _)) (W.below (by repeat (first|exact jy _ _ |refine Below.al ?_ _ |refine Below.dr ?_|refine Below.tr ?_ i|refine Below.tr ?_ c|refine Below.tr ?_ l)) (jn _))).mono ?_;rintro e P ⟨rfl,i⟩;have a2:=tx P (a8) 23 32 aj;first|(have ad:=rf r i)|(have ad:=thN i aj)|skip))
  all_goals
   go_wp2_with fail
   go_meet
   refine⟨_,T,World.rangeAt_setCells_same _ _ _ _ (by rw[F];assumption),Below.cellsFrom ?_ _ ?_ _ _⟩
   ·repeat (first|exact jy _ _ |refine Below.al ?_ _ |refine Below.dr ?_|refine Below.tr ?_ i|refine Below.tr ?_ c|refine Below.tr ?_ l)
   have r:=l.size;have H:=c.size;have M:=i.size;simp only[jC,World.drew]at r H M;omega
 obtain⟨n,rfl,c,i⟩:=hcut;have l:∀j,j<16->wc.cell? ⟨n,0+j,A⟩=ja (I .u8 ((oH kb a b d).getD j 0).toNat):=λj k=>by
  have r:j<(dm gR (lu kb a b d)).length:=by rw[iN];omega
  refine c j _ ?_;rw[E];simp[r,oH,jO,k]
 have r:=O l;have H:=O i;clear l i c t B C
 go_wp2
 go_ret;refine⟨_,T,⟨ja ⟨n,0,A⟩,32,by rw[rE];rfl,by rw[rE];decide,λh=>(by cases h),λ_=>⟨n,0,rfl,λj k=>r j (by rw[rE]at k;exact k)⟩⟩,?_⟩;exact K.trans (H.mono K.size)
def nck(a:je):je:=(a+63)/64
def ckl(a j:je):je:=min 64 (a-64*j)
theorem Ld(p:jS jM)(n c:je)(w:jg):
 jr jm 248 #[jb p n c,I N 64] w λe w'=>
  e=jo (.func (.func 262) #[] #[jA (ja ⟨w,0,A⟩),jA (ja ⟨w.heap.size+1,0,A⟩)])/\
  w'=(w.alloc (jc #[jb p n c] 66)).alloc (jc #[I N 64] 3):=by
 go_enter func248,ntmps248
 go_wp2
 go_ret;exact⟨T,T⟩
theorem PS{P:qN}(t e:jH)(a:P.underlying t=ja (.slice e))(b:∀w,(sizeOf e).run P w=.ok 1 w)(g n c l h:je)(d:l<=h)(f:h<=c)(i:l<h)(W:jg):
 (Instr.sliceAt t (jb (ja ⟨g,0,A⟩) n c) (ja (I N (l:jd))) (ja (I N (h:jd))) (ja (I N (h:jd)))).run P W=.ok (jb (ja ⟨g,l,A⟩) (h-l) (h-l)) W:=by
 have he:P.elem t=e:=by simp[Program.elem,a]
 rw[run_sliceAt_slice W t _ _ _ _ (by rw[he];exact a),run_slice_lhm W t _ n c (by rw[he];exact a) .i64 .i64 .i64 _ _ _ Y Y Y Y,he];simp[b,Result.andThen,sliced,Addr.add];rw[jI Y]
 split<;>simp[*]
theorem Tl(p:jS jM)(a d f:je)(hp:0<a->p=ja ⟨f,0,A⟩)(hL:a<=d)(ay:a<=100000)(b c:je)(w:jg)
 (e:jt w b 66 (jb p a d)) (h:jt w c 3 (I N 64)):
 eR jm 262 #[jA (ja ⟨b,0,A⟩),jA (ja ⟨c,0,A⟩)] (λj:je=>#[jb (ja ⟨f,64*j,A⟩) (ckl a j) (ckl a j)])
  (λk=>k=b\/k=c) 0 (λxs=>xs=mz (nck a)) (λ_=>True) (λys=>ys<+:mz (nck a)) w:=by
 intro l g Jx W m r z s t;have B:jt W b 66 (jb p a d):=(m.block b e.lt).trans e;have C:jt W c 3 (I N 64):=(m.block c h.lt).trans h;clear e h;refine(qv (n:=0)).1 ?_;refine sq func262 T trivial ?_ T;simp only[ntmps262,jU,jW,j8,qi,qj,qk,ql,qn,qo,qa,qb]
 gi_wp2
 gi_loopw [4] (λi wr=>W.heap.size<=wr.heap.size/\∃j:je,i=I N ((64*j:je):jd)/\j<=nck a/\jk (g (mz j) (λk=>k=b\/k=c) wr)/\jt wr b 66 (jb p a d)/\jt wr c 3 (I N 64))
  (λi _=>100064-(jv i).toNat)
 case atStart=>
  exact⟨jn _,0,T,jJ _,t,B,C⟩
 obtain⟨D,j,rfl,hj,i,u,v⟩:=hrel;have F:=u.cell;have H:=v.cell
 by_cases a1:64*j<a
 ·have x:j<nck a:=by unfold nck;omega
  obtain rfl:p=ja ⟨f,0,A⟩:=hp Y;have e:mz j++[j]<+:mz (nck a):=by
   rw[<-xn];have:mz (j+1)=(mz (nck a)).take (j+1):=by
    rw[List.take_range,qC Y]
   rw[this];exact List.take_prefix _ _
  have HJ:jk (bZ W.heap.size g):=r;have HY:=O s;have aa:=O e;have hd:=aA (((64*j:je):jd)<(a:jd));have hd2:=aA (64*(j:jd)<(a:jd));have E:∀W,(Instr.sliceAt 66 (jb (ja ⟨f,0,A⟩) a d) (ja (I N (64*(j:jd)))) A A).run jm W=.ok (jb (ja ⟨f,64*j,A⟩) (a-64*j) (d-64*j)) W:=λW=>by
   have h:=yu (P:=jm) 66 5 qO iJ f 0 a d (64*j) Y Y W
   simpa using h
  clear s t z m r e B C
  gi_wp2
  gi_region
  have e:(Min.min 64 ((a-64*j:je):jd))=((ckl a j:je):jd):=by unfold ckl;omega
  rw[e];have ad:1<=ckl a j:=by unfold ckl;omega
  have au:ckl a j<=64:=by unfold ckl;omega
  have ax:64*j+ckl a j<=a:=by unfold ckl;omega
  have K:jk (g (mz j) (λk=>k=b\/k=c) wr.drew):=HJ.keep i ⟨T,T,T,jn _,λ_ _ _=>.inl T⟩;have o:jt wr.drew b 66 (jb (ja ⟨f,0,A⟩) a d):=u;have q:jt wr.drew c 3 (I N 64):=v;have M:W.heap.size<=wr.drew.heap.size:=D;obtain⟨wo,y⟩:=J wr.drew;rw[<-y]at K o q M⊢;clear y i u v D F H E e;obtain⟨fn,tmps,assign,body,Q,R⟩:=HY (mz j) j (λk=>k=b\/k=c) wo K (by rintro _ (rfl|rfl);exact o.lt;exact q.lt) aa;have F:=o.cell;have H:=q.cell;generalize ckl a j=E at Q ad au ax⊢;have a2:∀W,(Instr.sliceAt 66 (jb (ja ⟨f,0,A⟩) a d) (ja (I N (64*(j:jd)))) (ja (I N (64*(j:jd)+(E:jd)))) (ja (I N (64*(j:jd)+(E:jd))))).run jm W=.ok (jb (ja ⟨f,64*j,A⟩) E E) W:=λW=>by
   have h:=PS (P:=jm) 66 5 qO iJ f a d (64*j) (64*j+E) Y Y Y W;rw[show 64*j+E-64*j=E by omega]at h
   simpa using h
  gi_wp2
  refine⟨T,R.mono ?_⟩;rintro e S (⟨rfl,U,y,h⟩|⟨rfl,ZV,y,h⟩)
  ·have V:jt S b 66 (jb (ja ⟨f,0,A⟩) a d):=(h b (.inl T)).trans o
   have X:jt S c 3 (I N 64):=(h c (.inr T)).trans q;have a3:=V.cell;have a4:=X.cell;have WH:=y.size;clear h y R Q
   gi_wp2
   go_roundw
   case rel=>
    rw[<-xn]at U;exact⟨jz M WH,j+1,by go_num,by omega,U,V,X⟩
   case measure=>simp[jv];omega
  gi_wp2
  refine jX (qL T _ _ _) T ?_;exact⟨⟨_,T⟩,.inr ⟨_,_,trivial,ZV⟩⟩
 have x:j=nck a:=by unfold nck at*;omega
 have hd2:=az (64*(j:jd)<(a:jd));have e:jk (g (mz (nck a)) (λk=>k=b\/k=c) wr):=x▸i;clear i x s t r z m hj
 gi_wp2
 refine qW (qL T _ _ _) T ?_;exact⟨⟨_,T⟩,.inl ⟨_,_,T,e⟩⟩
section
variable{w:jg}{a:jh ji}
attribute [local go_sem] Oper.semAt_some
def ksB(kb a:LBy)(i:je):BitVec 8:=(oX kb a (jY 32 (1+i/64))).getD (i%64) 0
def fF(kb a l:LBy):je->LBy
 |0=>l
 |n+1=>(fF kb a l n).set n ((fF kb a l n).getD n 0^^^ksB kb a n)
theorem PG(kb nb l n):(fF kb nb l n).length=l.length:=by induction n with
 |zero=>rfl
 |succ n a=>simp[fF,a]
def k7(kb a l:LBy):LBy:=fF kb a l l.length
theorem Am(kb nb l):(k7 kb nb l).length=l.length:=PG _ _ _ _
theorem TA(x y:BitVec 8):bits .xor .u8 (x.toNat:jd) (y.toNat:jd)=((x^^^y).toNat:jd):=by
 have a:=x.isLt;have b:=y.isLt;have c:x.toNat%2^8=x.toNat:=qA a;have d:y.toNat%2^8=y.toNat:=qA b;have e:x.toNat^^^y.toNat<2^8:=xa a b;show IntKind.u8.wrap ((xo 8 (x.toNat:jd)^^^xo 8 (y.toNat:jd)).toNat:jd)=_;simp only[xd,xe,qB,c,d];exact IntWalk.u8_in _ Y
section
variable {P:qN} {F:Fence} {nF:je}
theorem oJ{i:jZ ob}{j:jh ob}{o:ob}{a:Act}{w:jg}{k:Exit->Act->jg->Prop}(m:o.guard=A)(b:jH)(x:Operand)(f:o.op=.load b x)
 (g:je) (n:a.eval x=jA (ja ⟨g,0,A⟩)) (t:jH) (e:jZ ji) (l:je×je) (d:TypeDesc) (p:w.heap[g]?=ja (jc e t l))
 (q:P.underlying b=ja d) (r:(match d with| .struct _ | .array _ _=>jf|_=>jp)=jf) (s:(P.info? b).map (·.size)=ja e.size)
 (h:wpListIn F nF P i k j (a.put o.dst (jq e)) w):wpListIn F nF P i k (o::j) a w:=by
 refine wpListIn_plain m λy u=>?_
 unfold Oper.wpIn;refine⟨by simp[Oper.about,f],?_⟩;rw[Oper.semAt_plain F _ _ (by rw[f];intro c v;cases v)];simp only[qx,f,n,Instr.loadAt,Instr.sureAddr,Sem.run_bind,Sem.run_pure,Result.andThen_ok,run_loadVar_row w g t b e l d p q r s];exact u _ _ h
end
theorem Jj{B:je}{e:jH}{g xs n:je}(h:w.ownsRow B e 1 (jb (ja ⟨g,0,A⟩) n xs) n a)(i:je)(s:i<n)(x:ji):
 (w.setCell ⟨g,i,A⟩ x).ownsRow B e 1 (jb (ja ⟨g,0,A⟩) n xs) n (a.set i x):=by
 refine⟨by simpa using h.1,?_⟩
 rcases h.2 with⟨c,_⟩|⟨g',d,f,j,k,b,l,m,o,p⟩
 ·cases c
 obtain⟨rfl,rfl⟩:g=g'/\xs=d:=ak j;have q:=(jK.1 b).1;have r:w.heap[g]=_:=(jK.1 b).2;refine .inr ⟨g,xs,f.setIfInBounds i x,T,k,?_,l,m,by simpa using o,?_⟩
 ·show(w.heap.modify g _)[g]?=_
  rw[Array.getElem?_modify];simp[q,r]
 rw[Array.toList_setIfInBounds,List.take_set,p]
theorem IM{B:je}{g b n:je}{l:LBy}(h:w.ownsRow B 5 1 (jb (ja ⟨g,0,A⟩) n b) n (l.map v8))(i:je)(o:i<n):
 w.cell? ⟨g,i,A⟩=ja (I .u8 (l.getD i 0).toNat)/\w.frozen? ⟨g,i,A⟩=jp:=by
 rcases h.2 with⟨d,_⟩|⟨g',e,f,j,p,k,q,r,s,m⟩
 ·cases d
 obtain⟨rfl,rfl⟩:g=g'/\b=e:=ak j;have t:l.length=n:=ak h.1;have a:(f.toList.take (n*1))[i]?=(l.map v8)[i]?:=by rw[m]
 have c:i<l.length:=Y;simp only[j5,r6,k];rw[xq,jB Y]at a;simp[c]at a;simp[a,v8,jO,c]
theorem Ml{B n:je}{e:jH}{b:ji}(h:w.ownsRow B e 1 b n a)(k:je)(xs:ja k≠b.ownBlock)(x:ji):(w.setCell ⟨k,0,A⟩ x).ownsRow B e 1 b n a:=by
 refine⟨h.1,?_⟩
 rcases h.2 with v|⟨g,c,d,rfl,f,i,j⟩
 ·exact .inl v
 exact .inr ⟨g,c,d,T,f,(qZ _ _ _ _ (show g≠k from λe=>xs (by rw[<-e];rfl))).trans i,j⟩
theorem H4{w':jg}{B n m:je}{e:jH}{b:ji}(h:w.ownsRow B e 1 b n a)(xs:jl m w w')(v:∀j,b.ownBlock=ja j->j<m):w'.ownsRow B e 1 b n a:=by
 refine⟨h.1,?_⟩
 rcases h.2 with c|⟨g,d,f,rfl,i,j,k⟩
 ·exact .inl c
 exact .inr ⟨g,d,f,T,i,(xs.block _ (v g T)).trans j,k⟩
theorem Jf{a:jh je}{x n:je}(h:a++[x]<+:mz n):x=a.length/\a.length<n:=by
 have b:a.length<n:=by have:=h.length_le;simp at this;omega
 refine⟨?_,b⟩;obtain⟨t,d⟩:=h;have c:=qM (λm=>m[a.length]?) d;simp[b]at c;exact c
theorem LM{β:Type}(B0 base:je)(e:jH)(size:je)(v:ji)(n:β->je)(f:β->jh ji):
 bZ B0 (λs Ψ W=>W.ownsRow base e size v (n s) (f s)/\∀j,v.ownBlock=ja j->¬Ψ j):=by
 rintro s Ψ d l B ⟨a,g⟩ i m k;have b:∀j,v.ownBlock=ja j->¬d j:=λj c h=>by
  rcases k _ h with h|h
  ·exact g j c h
  have:=(a.lt j c).2;omega
 exact⟨i.row a b,b⟩
theorem FR{β:Type}(B0 b:je)(C:jZ ji)(t:jH)(d:je×je):bZ B0 (fun(_:β) Ψ W=>W.heap[b]?=ja (jc C t d)/\¬Ψ b):=by
 rintro s Ψ e j B ⟨a,f⟩ g k i;have c:¬e b:=λh=>by rcases i _ h with h|h;exact f h;have:=(jK.1 a).1;omega
 exact⟨g.cells a c,c⟩
theorem O0(d:jM)(c:je)(w:jg):
 jr jm 247 #[jb (ja d) 0 c] w λe w'=>∃v,e=jo v/\w'.ownsRow w 5 1 v 0 []/\jl w w w':=by
 have r:∀(w:jg) (a:jS jM) (n c n' b:je),(binOp .eql 66 (jb a n c) (jb A n' b)).run jm w=.ok (.bool a.isNone) w:=λw a n c n' b=>Lib.run_eql_slice_nil w _ _ a n c n' b qO
 obtain⟨i,l,m,o,p⟩:=qh tU;have f:(w.alloc (jc #[] 5)).ownsRow w.heap.size 5 1 (jb (ja ⟨w,0,A⟩) 0 0) 0 []:=
  ⟨rfl,.inr ⟨w.heap.size,0,#[],rfl,jn _,js w _,jn _,by unfold j3;omega,rfl,rfl⟩⟩
 have g:=O f;clear f
 go_enter func247,ntmps247
 go_wp2_with (at_builtin;refine wi _ T _ _ 66 T w.heap.size 5 i (I .u8 0) 1 1 qO l m o p T G _ _ _ T g d 0 c [] T T (λj u h=>(by cases h)) (λu h=>(by cases h)) (by unfold j3;omega) Y ar ?_;intro f s h j _)
 go_ret;refine⟨f,T,by simpa using h,?_⟩;exact Below.grown (w:=w.alloc (jc #[] 5)) ⟨T,T,T,by simp,λk q=>jF _ _ _ q⟩ j ar (λk e=>(g.lt k e).1)
theorem zN{B n:je}{b:ji}(h:w.ownsRow B 5 1 b n a):
 ∃p c,b=jb p n c/\n<=c/\(0<n->∃g,p=ja ⟨g,0,A⟩/\B<=g/\g<w.heap.size):=by
 rcases h.2 with⟨rfl,xs⟩|⟨g,v,i,rfl,d,e,f,j,k,l⟩
 ·exact⟨A,0,by rw[xs],by omega,λh=>by omega⟩
 exact⟨_,v,T,f,λ_=>⟨g,T,d,(jK.1 e).1⟩⟩
theorem Ki(v:ji)(l:LBy)(i:l.length<=1000000)(w:jg)(h:bj w v l):
 jr jm 247 #[v] w λe w'=>∃p c,e=jo (jb p l.length c)/\jk (w'.ownsRow w 5 1 (jb p l.length c) l.length (l.map v8))/\jl w w w'/\l.length<=c/\
  jk (0<l.length->∃g,p=ja ⟨g,0,A⟩/\w.heap.size<=g/\g<w'.heap.size):=by
 have a:∀(e:Ending) (w':jg),(∃v,e=jo v/\w'.ownsRow w 5 1 v l.length (l.map v8)/\jl w w w')->∃p c,e=jo (jb p l.length c)/\jk (w'.ownsRow w 5 1 (jb p l.length c) l.length (l.map v8))/\jl w w w'/\l.length<=c/\
  jk (0<l.length->∃g,p=ja ⟨g,0,A⟩/\w.heap.size<=g/\g<w'.heap.size):=by
  rintro e w' ⟨v,rfl,f,j⟩;obtain⟨p,c,rfl,b,d⟩:=zN f;exact⟨p,c,T,f,j,b,d⟩
 obtain⟨p,c,rfl,n,j,k⟩:=h
 rcases qH l.length with f|f
 ·obtain rfl:l=[]:=qs f
  rcases p with _|m
  ·obtain rfl:=j T
   exact(Ku w).mono λe w' ⟨b,d⟩=>a e w' ⟨_,b,j0 _ _ _ _,d▸jy _ _⟩
  exact(O0 m c w).mono a
 obtain⟨g,o,rfl,b⟩:=k f;exact(TN g o c l i w b).mono a
theorem QB(kb f l:LBy)(v:ji)(w:jg)(s:kb.length=32)(hn:f.length=12)(hl:l.length<=65536)(hv:bj w v l)(i:sU w):
 jr jm 207 #[jq (kb.map v8).toArray,jq (f.map v8).toArray,v] w λe w'=>
  ∃u,e=jo (jw #[u,I N 0])/\w'.ownsRow w 5 1 u l.length ((k7 kb f l).map v8)/\jl w w w':=by
 have d:(kb.map v8).toArray.size=32:=by simp[s]
 have g:(f.map v8).toArray.size=12:=by simp[hn]
 have a:=λc w h=>JK kb f c w s hn h
 generalize m:(kb.map v8).toArray=B at d a⊢;generalize o:(f.map v8).toArray=C at g a⊢;have j:jl w w ((w.alloc (jc B 63)).alloc (jc C 247)):=
  ⟨rfl,rfl,rfl,by simp;omega,λk s=>by rw[jF _ _ _ (by simp;omega),jF _ _ _ s]⟩
 have HB:=O j;have HF:=O a;have HV:=O hv;have HT:=O i;have YJ:=O d;have bl:=O g;obtain⟨pv,cv,rfl,-,-,-⟩:=hv;have h1:=az ((65536:jd)<(l.length:jd));clear a i m o d g j;refine(qv (n:=0)).1 ?_;refine sv func207 T trivial ?_ T;simp only[ntmps207,jU,jW,j8,qi,qj,qk,ql,qn,qo,qa,qb]
 gi_wp2_with fail
 refine⟨trivial,T,(callsIn_wide.2 (Ki _ l Y _ (HV.below HB))).mono ?_⟩;rintro e q ⟨p,c,rfl,r,d,bm,u⟩;have a:=O d;clear d
 gi_wp2_with fail
 refine⟨trivial,T,(callsIn_wide.2 (Ld p l.length c _)).mono ?_⟩;rintro e w' ⟨rfl,rfl⟩
 gi_wp2_with fail
 have a4:jl w w (((q.alloc (jc #[I jV 1] 223)).alloc (jc #[jb p l.length c] 66)).alloc (jc #[I N 64] 3)):=by
  have h:=HB.trans (a.mono HB.size);exact((h.alloc h.size _).alloc (by have:=h.size;simp;omega) _).alloc (by have:=h.size;simp;omega) _
 have a5:(((q.alloc (jc #[I jV 1] 223)).alloc (jc #[jb p l.length c] 66)).alloc (jc #[I N 64] 3)).heap[w.heap.size]?=ja (jc B 63 (0,0)):=by
  have M:=a.size;simp at M;rw[jF _ _ _ (by simp;omega),jF _ _ _ (by simp;omega),jF _ _ _ Y,a.block _ (by simp;omega)];exact(jF _ _ _ ar).trans (js w _)
 have a6:(((q.alloc (jc #[I jV 1] 223)).alloc (jc #[jb p l.length c] 66)).alloc (jc #[I N 64] 3)).heap[w.heap.size+1]?=ja (jc C 247 (0,0)):=by
  have M:=a.size;simp at M;rw[jF _ _ _ (by simp;omega),jF _ _ _ (by simp;omega),jF _ _ _ Y,a.block _ ar];exact wK w _ _
 have au:jt (((q.alloc (jc #[I jV 1] 223)).alloc (jc #[jb p l.length c] 66)).alloc (jc #[I N 64] 3)) q.heap.size 223 (I jV ((jY 32 (1+0)).toNat:jd)):=
  ((Boxed.new q _ _).alloc _).alloc _
 have U:jt (((q.alloc (jc #[I jV 1] 223)).alloc (jc #[jb p l.length c] 66)).alloc (jc #[I N 64] 3)) (q.heap.size+1) 66 (jb p l.length c):=by
  have:=Boxed.new (q.alloc (jc #[I jV 1] 223)) 66 (jb p l.length c);rw[jC]at this;exact this.alloc _
 have V:jt (((q.alloc (jc #[I jV 1] 223)).alloc (jc #[jb p l.length c] 66)).alloc (jc #[I N 64] 3)) (q.heap.size+1+1) 3 (I N 64):=by
  have:=Boxed.new ((q.alloc (jc #[I jV 1] 223)).alloc (jc #[jb p l.length c] 66)) 3 (I N 64);rw[jC,jC]at this;exact this
 have ax:=(((r.alloc (jc #[I jV 1] 223)).alloc (jc #[jb p l.length c] 66)).alloc (jc #[I N 64] 3));have ay:(((q.alloc (jc #[I jV 1] 223)).alloc (jc #[jb p l.length c] 66)).alloc (jc #[I N 64] 3)).heap.size=q.heap.size+3:=by simp
 have bn:w.heap.size+2<=q.heap.size:=by have M:=a.size;simp at M;omega
 have t:((w.alloc (jc B 63)).alloc (jc C 247)).heap.size=w.heap.size+2:=by simp
 rw[t]at ax;obtain⟨W0,x⟩:=J ((((q.alloc (jc #[I jV 1] 223)).alloc (jc #[jb p l.length c] 66)).alloc (jc #[I N 64] 3)));rw[<-x]at a4 a5 a6 au U V ax ay⊢;obtain⟨i,m⟩:=J q.heap.size;have y:0<l.length->∃g,p=ja ⟨g,0,A⟩/\w.heap.size+2<=g/\g<i:=by rw[m,<-t];exact u
 rw[<-m]at au U V ay bn⊢;obtain⟨d,z,D⟩:∃d,(0<l.length->p=ja ⟨d,0,A⟩)/\(0<l.length->d<i):=by
  rcases qH l.length with j|j
  ·exact⟨0,λh=>by omega,λh=>by omega⟩
  obtain⟨g,o,_,E⟩:=y j;exact⟨g,λ_=>o,λ_=>E⟩
 have bo:∀j,(jP p l.length c).ownBlock=ja j->j<i:=by
  rw[m];intro j o;exact(r.lt j o).2
 have a1:=O ay;have VX:=O z;have a2:=O bo;clear x m r a u y t D z;refine ru (n:=0) (gf:=262) (lb:=#[jA (ja ⟨i+1,0,A⟩),jA (ja ⟨i+1+1,0,A⟩)]) T (enters_of func262 af T)
  (Tl p l.length c d VX bm Y (i+1) (i+1+1) W0 U V) (jJ _) (λ_=>rfl) (by rintro k (rfl|rfl);exact U.lt;exact V.lt)
  (λr Ψ W=>(W.ownsRow (w.heap.size+2) 5 1 (jb p l.length c) l.length ((fF kb f l (min (64*r.length) l.length)).map v8)/\∀j,(jP p l.length c).ownBlock=ja j->¬Ψ j)/\
   (jt W i 223 (I jV ((jY 32 (1+r.length)).toNat:jd))/\¬Ψ i)/\
   (W.heap[w.heap.size]?=ja (jc B 63 (0,0))/\¬Ψ w.heap.size)/\(W.heap[w.heap.size+1]?=ja (jc C 247 (0,0))/\¬Ψ (w.heap.size+1))/\
   (jl w w W/\∀k,Ψ k->w.heap.size<=k))
  (λ_ _ _ _=>False)
  ((LM W0.heap.size (w.heap.size+2) 5 1 (jb p l.length c) (λ_=>l.length) (λr:jh je=>(fF kb f l (min (64*r.length) l.length)).map v8)).and ((iQ _ _ _ (λr:jh je=>I jV ((jY 32 (1+r.length)).toNat:jd))).and
   ((FR _ _ _ _ _).and ((FR _ _ _ _ _).and (kK _ _ w (jn _) (aI a1))))))
  (λ_=>fq _ _)
  ⟨⟨by simpa [fF]using ax,λj o=>by have:=a2 j o;omega⟩,⟨au,by omega⟩,⟨a5,by omega⟩,⟨a6,by omega⟩,a4,by rintro k (rfl|rfl)<;>omega⟩
  (λx ba _ _=>ba={tmps:=((Value.agg B)::(Value.agg C)::(jP pv l.length cv)::(r7 (ja ⟨w,0,A⟩))::(r7 (ja ⟨w.heap.size+1,0,A⟩))::ju::(jP p l.length c)::(jE .i64 0)::(r7 (ja ⟨i,0,A⟩))::(jP (ja ⟨d,64*x,A⟩) (ckl l.length x) (ckl l.length x))::ju::ju::(jP pv l.length cv)::(jE .i64 l.length)::(Value.bool jp)::(jP pv l.length cv)::(jP p l.length c)::(jP p l.length c)::(Value.func (.func 262) #[] #[jA (ja ⟨i+1,0,A⟩),jA (ja ⟨i+1+1,0,A⟩)])::(jP (ja ⟨d,64*x,A⟩) (ckl l.length x) (ckl l.length x))::ju::ju::ju::ju::ju::ju::ju::ju::ju::ju::ju::ju::ju::ju::ju::ju::ju::ju::ju::ju::ju::ju::ju::ju::[]).toArray,defers:=[]}) (fq _ _)
  ?assign ?body ?done ?stop
 case assign=>
  intro ll r x Ψ t K a _ Q
  gi_wp2
  exact Q _ _ (jy _ _) a T
 case body=>
  rintro ll r x Ψ ba t ⟨⟨z,ZT⟩,⟨F,a3⟩,⟨Q,bb⟩,⟨hN,bc⟩,H,hΨ⟩ rfl u YC bK bM;obtain⟨rfl,bd⟩:=Jf u;obtain⟨a,m⟩:=J r.length;have y:(r++[a]).length=a+1:=by rw[m];simp
  have Vd:=O y;rw[<-m]at z F bd⊢;have hL:64*a<l.length:=by unfold nck at bd;omega
  obtain rfl:p=ja ⟨d,0,A⟩:=VX Y;clear u m y;obtain⟨u,m⟩:=J (jY 32 (1+a));rw[<-m]at F;have bf:=O m;clear m;have m:sU t:=(Lib.tabBelow_of_tabIs HT) _ H;have bp:=O m;have X:=O H;have y:=O z;have bg:=O ZT;have HK:=O Q;have HN:=O hN;have YP:=F.cell;have HC:=O F;clear m H z ZT Q hN F
  gi_upto_region 7 with fail
  refine wpIn_region_lit ?_;refine oJ T 63 _ T w.heap.size T 63 B (0,0) _ HK.out nn T (by rw[YJ];rfl) ?_;refine oJ T 247 _ T (w.heap.size+1) T 247 C (0,0) _ HN.out wq T (by rw[bl];rfl) ?_
  gi_wp2_with fail
  refine⟨trivial,T,CallsIn.inRound ll (callsIn_wide.2 ((HF u t bp).mono ?_))⟩;rintro e R ⟨vb,rfl,K,E⟩;obtain⟨p2,c2,rfl,bN,bq⟩:=zN K;obtain⟨D,rfl,Yv,bO⟩:=bq G;have S:∀m,m<64->R.cell? ⟨D,m,A⟩=ja (I .u8 ((oX kb f u).getD m 0).toNat):=λm hm=>(IM K m hm).1
  have bT:d<t.heap.size:=(y.lt d T).2;have br:i<t.heap.size:=HC.lt;have aa:R.ownsRow (w.heap.size+2) 5 1 (jb (ja ⟨d,0,A⟩) l.length c) l.length ((fF kb f l (64*a+0)).map v8):=by
   have h:=y.out;rw[qC Y]at h;exact H4 h E (by intro j o;exact(y.lt j o).2)
  have o:jt R i 223 (I jV (u.toNat:jd)):=(E.block _ br).trans HC;have bs:=O S;have bu:=O aa;have US:=O o;have UC:=O E;have bv:1<=ckl l.length a:=by unfold ckl;omega
  have bw:ckl l.length a<=64:=by unfold ckl;omega
  have ad:64*a+ckl l.length a=min (64*(a+1)) l.length:=by unfold ckl;omega
  have bA:64*a+ckl l.length a<=l.length:=by unfold ckl;omega
  have bh:=O ad;have b0:d<R.heap.size:=Y;clear ad S aa o E K YP;generalize ckl l.length a=E at bv bw bh bA⊢;have aa:∀W,(Instr.sliceAt 66 (jb (ja ⟨D,0,A⟩) 64 c2) A (ja (I N (E:jd))) A).run jm W=.ok (jb (ja ⟨D,0,A⟩) E c2) W:=
   uC (P:=jm) 66 5 qO iJ D 0 64 c2 E Y Y
  gi_wp2_with fail
  clear aa
  gi_loopw [28] (λo K=>∃m:je,o=I N m/\m<=E/\jk (K.ownsRow (w.heap.size+2) 5 1 (jb (ja ⟨d,0,A⟩) l.length c) l.length ((fF kb f l (64*a+m)).map v8))/\jk (bR d R K)) (λo _=>(64-jv o).toNat)
  case atStart=>exact⟨0,T,by omega,bu,bR.refl _ _⟩
  obtain⟨m,rfl,hm,o,K⟩:=hrel
  by_cases b1:m<E
  ·have hd:=aA ((m:jd)<(E:jd))
   have Yi:wr.cell? ⟨D,m,A⟩=ja (I .u8 ((oX kb f u).getD m 0).toNat):=gh (bs m Y) (K.block _ (by show D≠d;omega));obtain⟨VW,bi⟩:=IM o (64*a+m) Y;have S:fF kb f l (64*a+(m+1))=(fF kb f l (64*a+m)).set (64*a+m) ((fF kb f l (64*a+m)).getD (64*a+m) 0^^^(oX kb f u).getD m 0):=by
    show(fF kb f l (64*a+m)).set _ (_ ^^^ksB kb f (64*a+m))=_;rw[ksB,show(64*a+m)/64=a by omega,show(64*a+m)%64=m by omega,bf]
    rfl
   generalize(oX kb f u).getD m 0=kx at Yi S;generalize(fF kb f l (64*a+m)).getD (64*a+m) 0=px at VW S;have ad:=O S;clear S
   gi_wp2
   go_roundw
   case rel=>
    refine⟨m+1,by go_num,by omega,?_,K.trans (bR.setCell _ _ _ _)⟩;have h:=Jj o (64*a+m) Y (I .u8 (px^^^kx).toNat);rw[TA,ad,List.map_set];exact h
   case measure=>simp[jv];omega
  have hd:=az ((m:jd)<(E:jd));have ad:m=E:=Y;have Vh:jk (wr.ownsRow (w.heap.size+2) 5 1 (jb (ja ⟨d,0,A⟩) l.length c) l.length ((fF kb f l (min (64*(a+1)) l.length)).map v8)):=by
   have h:=o;rw[ad,bh]at h;exact h
  have S:jt wr i 223 (I jV (u.toNat:jd)):=(K.block _ (by have:=a2 d T;show i≠d;omega)).trans US;have b2:=S.cell;have b3:=S.frozen;have bB:=O S;clear ad o S
  gi_wp2
  have bC:((u.toNat:jd)+1)%4294967296=((jY 32 (1+(a+1))).toNat:jd):=by rw[bf,qB,qB];omega
  rw[bC];have bI:¬Ψ d:=bg d T;have S:∀k,k<t.heap.size->k≠d->k≠i->(wr.setCell ⟨i,0,A⟩ (I jV ((jY 32 (1+(a+1))).toNat:jd))).heap[k]?=t.heap[k]?:=λk h1 h2 h3=>by
   rw[qZ _ _ _ _ (show k≠i from h3),K.block k h2,UC.block k h1]
  have bi:t.heap.size<=(wr.setCell ⟨i,0,A⟩ (I jV ((jY 32 (1+(a+1))).toNat:jd))).heap.size:=by
   have h1:=UC.size;have h2:=K.size;simp only[World.setCell,Array.size_modify];omega
  have b4:=a1.out;have b5:=a2 d T;have bk:=Vd.out;have ad:jl 0 t (wr.setCell ⟨i,0,A⟩ (I jV ((jY 32 (1+(a+1))).toNat:jd))):=
   ((UC.mono (jJ _)).trans (K.below (jJ _))).setCell (jJ _) _
  refine⟨⟨⟨bi,λk o s hA ho=>?_⟩,ad,λk s=>?_⟩,⟨?_,bg⟩,⟨?_,a3⟩,⟨?_,bb⟩,⟨?_,bc⟩,?_,hΨ⟩
  ·exact(S k (jK.1 hA).1 Y Y).trans hA
  ·exact S k (YC k s) (λe=>bI (e▸s)) (λe=>a3 (e▸s))
  ·show World.ownsRow _ _ _ _ _ _ (List.map v8 (fF kb f l (min (64*(r++[a]).length) l.length)))
   rw[bk];exact Ml Vh i (λe=>by
    have h:d=i:=by simpa [qc]using e.symm
    omega) _
  ·show jt _ _ _ (I jV ((jY 32 (1+(r++[a]).length)).toNat:jd))
   rw[bk];exact bB.set _
  ·exact(S _ (jK.1 HK).1 (by have:=(y.lt d T).1;omega) Y).trans HK
  ·exact(S _ (jK.1 HN).1 (by have:=(y.lt d T).1;omega) Y).trans HN
  refine X.trans ⟨ad.os,ad.tape,ad.output,bi,λk s=>?_⟩;exact S k (cT X.size) (by have:=(y.lt d T).1;omega) Y
 case done=>
  rintro D xs Ψ W k rfl ⟨⟨z,ZT⟩,⟨F,a3⟩,⟨Q,bb⟩,⟨hN,bc⟩,H,hΨ⟩ a;have aa:fF kb f l (min (64*(mz (nck l.length)).length) l.length)=k7 kb f l:=by
   rw[List.length_range,Nat.min_eq_right (by unfold nck;omega)];rfl
  rw[aa]at z;have y:=O z;have X:=O H;clear z H aa
  gi_wp2
  refine⟨by simp,.inl ⟨_,_,T,sy (b:=D) (ds:=[]) a,?_⟩⟩;refine⟨jw #[jb p l.length c,I N 0],by simp[results,results207,go_sem],_,T,?_,?_⟩
  ·exact sG (vi y _ a T) Y
  exact X.trans (iy (aI a1))
 intro D a r Ψ W _ _ h;exact h.elim
end
def oT(kb a b l:LBy):LBy:=k7 kb a l++oH kb a b (k7 kb a l)
theorem SK(kb nb hb l):(oT kb nb hb l).length=l.length+16:=by simp[oT,Am,rE]
structure lz(w:jg):Prop where
 num:eP w
 start:gM w
 const:sU w
theorem lz.below(h:lz w)(a:jl w w w'):lz w':=
 ⟨h.num.below a (jn _),h.start.below a (jn _),(Lib.tabBelow_of_tabIs h.const) _ a⟩
theorem NE(kb a c l:LBy)(q v:ji)(w:jg)(d:kb.length=32)(r:a.length=12)(R:c.length<=70000)(S:l.length<=65536)(p:bj w q c)(t:bj w v l)(x:lz w):
 jr jm 155 #[jq (kb.map v8).toArray,jq (a.map v8).toArray,q,v] w λe w'=>
  ∃u,e=jo (jw #[u,I N 0])/\w'.ownsRow w 5 1 u (l.length+16) ((oT kb a c l).map v8)/\jl w w w':=by
 have j:(kb.map v8).toArray.size=32:=by simp[d]
 have m:(a.map v8).toArray.size=12:=by simp[r]
 have b:=λv w h o=>QB kb a l v w d r S h o
 have i:=λU w B o C V=>KO kb a c (k7 kb a l) q U w d r R (by rw[Am];omega) B o C V
 generalize y:(kb.map v8).toArray=f at j b i⊢;generalize z:(a.map v8).toArray=g at m b i⊢;have n:jl w w ((w.alloc (jc f 63)).alloc (jc g 247)):=
  ⟨rfl,rfl,rfl,by simp;omega,λk d=>by rw[jF _ _ _ (by simp;omega),jF _ _ _ d]⟩
 have D:=O n;have W:=O b;have X:=O i;have HV:=O (t.below n);have aa:=O p;have s:=O x;have E:=O j;have F:=O m;clear b i x y z j m n t p
 go_enter func155,ntmps155
 go_upto_region 1 with fail
 refine qP ?_;refine o5 T 63 _ T w.heap.size T 63 f (0,0) _ ((jF _ _ _ ar).trans (js w _)) nn T (by rw[E];rfl) ?_;refine o5 T 247 _ T (w.heap.size+1) T 247 g (0,0) _ (wK w _ _) wq T (by rw[F];rfl) ?_
 go_wp2_with fail
 refine(W v _ HV.out (s.below D).const).mono ?_;rintro e i ⟨u,rfl,m,p⟩;obtain⟨t,x,rfl,ay,-⟩:=zN m;have y:l.length=(k7 kb a l).length:=(Am _ _ _).symm;have b:i.ownsRow (w.heap.size+2) 5 1 (jb t l.length x) (k7 kb a l).length ((k7 kb a l).map v8):=by
  rw[<-y];have j:((w.alloc (jc f 63)).alloc (jc g 247)).heap.size=w.heap.size+2:=by simp
  rw[j]at m;exact m
 have H:bj i (jb t l.length x) (k7 kb a l):=bj.of_own b;have K:∀j,(jP t l.length x).ownBlock=ja j->j<i.heap.size:=λj z=>(m.lt j z).2
 have M:i.heap[w.heap.size]?=ja (jc f 63 (0,0)):=(p.block _ (by simp;omega)).trans ((jF _ _ _ ar).trans (js w _));have P:i.heap[w.heap.size+1]?=ja (jc g 247 (0,0)):=(p.block _ ar).trans (wK w _ _);have ad:=O b;have au:=O H;have ax:=O K;have Yx:=O M;have Q:=O P;have n:=ah D p;have VR:=O y;clear m b H K M P p y
 go_upto_region 4 with fail
 refine qP ?_;refine wpList_step (λK m=>?_);go_simp;refine m _ _ ?_;clear m K;refine o5 T 63 _ T w.heap.size T 63 f (0,0) _ Yx.out nn T (by rw[E];rfl) ?_;refine o5 T 247 _ T (w.heap.size+1) T 247 g (0,0) _ Q.out wq T (by rw[F];rfl) ?_
 go_wp2_with fail
 refine(X _ _ (aa.below n) au (s.below n).num (s.below n).start).mono ?_;rintro e K ⟨vt,rfl,y,m⟩;have p:=H4 ad m (λj z=>ax j z);rw[<-VR]at p;have M:w.heap.size+2<=K.heap.size:=by
  have B:=n.size;have o:=m.size;have C:=(jK.1 Q).1;omega
 have P:=O y;have H:=O p;have UC:=ah n m;clear y p m
 go_wp2_with (at_builtin;refine DC T _ _ T (w.heap.size+2) _ _ _ T H _ (oH kb a c (k7 kb a l)) T P.out (by rw[rE];omega) M ?_;intro m y b p)
 go_ret2;refine⟨m,T,?_,UC.grown p Y (λk e=>jz Y (H.lt k e).1)⟩;rw[rE,<-j4]at b;exact sG b Y
theorem vV{b:je}{l:jh ji}{t:jH}(h:w.heap[b]?=ja (jc l.toArray t (0,0))):w.rangeAt b 0 l:=λj v a=>by
 simp[j5,h,a]
theorem fk{P:qN}(o:ob)(a:Act)(c:jH)(x:Operand)(g:o.op=.load c x)(b f:je)(h:a.eval x=jA (ja ⟨b,f,A⟩)){w:jg}(e:jh ji)(d:TypeDesc)(i:w.rangeAt b f e)
 (j:P.underlying c=ja d) (k:d.isRow=jf) (l:(P.info? c).map (·.size)=ja e.length):(qx a.eval o).run P w=.ok (.value (jq e.toArray)) w:=by
 unfold qx;simp only[g,h,Sem.run_bind,run_loadAt_mid w b f c e d i j k l,Result.andThen_ok,Sem.run_pure]

theorem Kp(n:jd)(a:0<=n)(b:n<9223372036854775808):iE n=2*n.toNat:=by unfold iE;rw[jB a]
theorem Nc(n:jd)(a:n<0):iE n=2*(-(n+1)).toNat+1:=by unfold iE;rw[jI Y]
theorem Qd(a:je)(b:a<18446744073709551616):bits .xor .u64 (a:jd) 0=(a:jd):=by
 have h:=bits_xor_u64_nat a 0 b Y
 simpa using h
theorem QI(a:je)(b:a<18446744073709551616):bits .xor .u64 (a:jd) 18446744073709551615=((18446744073709551615-a:je):jd):=by
 have h:=bits_xor_u64_nat a 18446744073709551615 b Y;have e:a^^^18446744073709551615=18446744073709551615-a:=by
  apply Nat.eq_of_testBit_eq
  intro i;rw[Nat.testBit_xor,show(18446744073709551615:je)=2^64-1 by decide,Nat.testBit_two_pow_sub_one,show 2^64-1-a=2^64-(a+1) by omega,Nat.testBit_two_pow_sub_succ b]
  by_cases c:i<64
  ·simp[c]
  have:a.testBit i=jp:=Nat.testBit_lt_two_pow (jN b (q8 Y (Nat.le_of_not_lt c):2^64<=2^i));simp[c,this]
 rw[e]at h;exact h
theorem IC{k:IntKind}(h:d=y):Ending.returned (.int k d)=jo (.int k y):=by rw[h]
theorem Lg(n:jd)(f: -9223372036854775808<=n)(a:n<9223372036854775808)(w:jg):
 jr jm 199 #[I N n] w λe w'=>e=jo (I j7 (iE n))/\w=w':=by
 by_cases h:0<=n
 ·rw[Kp n h a]
  go_enter func199,ntmps199
  go_wp2
  go_ret;refine⟨IC ?_,T⟩;have e:n/9223372036854775808=0:=Y;obtain⟨m,rfl⟩:=xk h;rw[e,show(m:jd)*2=((2*m:je):jd) by omega,Qd _ Y]
  rfl
 have b:n<0:=Y;rw[Nc n b];have g:n<= -1:=Y
 go_enter func199,ntmps199
 go_wp2
 go_ret;refine⟨IC ?_,T⟩;obtain⟨m,i⟩:∃m:je,m=(2*n+18446744073709551616).toNat:=⟨_,T⟩;have c:qI.wrap (qI.wrap n*2)=(m:jd):=by simp only[qU];omega
 have d:qI.wrap (n/9223372036854775808)=18446744073709551615:=by simp only[qU];omega
 rw[c,d,QI _ Y];omega
theorem Nf(k:je):bits .or .u8 ((k:jd)%256) 128=(((jY 8 (k%128+128)).toNat:je):jd):=by
 have h:∀j:Fin 256,bits .or .u8 ((j.val:je):jd) 128=(((jY 8 (j.val%128+128)).toNat:je):jd):=by decide+kernel
 have e:=h ⟨k%256,qG _ Y⟩;have a:(k%256)%128=k%128:=Y;simp only[a]at e;rw[<-e]
 rfl
theorem rW(W:jg)(x:ji):cF (W.alloc (jc #[x] 5)) (jb (ja ⟨W,0,A⟩) 1 1) 1 1 [x]:=
 lB W [x] 5 (0,0) 1 1 1 rfl (jn _)
theorem PD(f:je):∀u,u<128^(f+1)->(da u).length<=f+1:=by
 induction f with
 |zero=>intro u a;rw[tA Y];simp
 |succ f b=>
  intro u a
  by_cases h:u<128
  ·rw[tA h];simp
  rw[II h];have:=b (u/128) (by rw[Nat.div_lt_iff_lt_mul Y];rw[Nat.pow_succ]at a;omega);simp;omega
theorem mq(u:je)(a:u<18446744073709551616):(da u).length<=10:=PD 9 u (Nat.lt_trans a G)
theorem Ak(B n u:je)(v:ji)(xs:jh ji)(w:jg)(b:w.ownsRow B 5 1 v n xs)(c:B<=w.heap.size)(r:u<18446744073709551616)(D:n<=3000000):
 jr jm 198 #[v,I j7 u] w λe w'=>∃f,e=jo f/\cG B 5 1 w w' v f (n+(da u).length) (xs++(da u).map v8):=by
 obtain⟨g,a⟩:=J (da u);have o:=O (mq u r);rw[<-a]at o⊢;have s:=O a;have t:=O b;have x:=O c;clear a b c
 go_enter func198,ntmps198
 go_wp2_with fail
 go_loopw [0,1] (λc b wr=>∃(a:LBy) (k:je) (i:ji),c=i/\b=I j7 k/\k<=18446744073709551615/\jk (g=a++da k)/\jk (cG B 5 1 w wr v i (n+a.length) (xs++a.map v8))) (λ_ b _=>(jv b).toNat)
 case atStart=>exact⟨[],u,v,T,T,by omega,O s,O (by simpa using cG.refl t)⟩
 obtain⟨a,k,i,rfl,rfl,E,j,c⟩:=hrel;have F:a.length<=10:=by have y:=o.out;rw[j,jL]at y;omega
 have p:=O (jz x c.grown.size)
 by_cases q:k<128
 ·have z:=az ((128:jd)<=(k:jd))
  have l:=O (show g=a++[jY 8 k] by rw[j,tA q]);have b:(k:jd)=(((jY 8 k).toNat:je):jd):=by rw[qB];omega
  have m:=O b;clear b
  go_wp2_with (at_builtin;refine Hid.out ?_)
  refine O ?_;refine o1 T λ_ d=>oS _ _ T B _ _ _ T (cK c.own (ao wr _)) _ 1 [_] T (rW wr _) (by simp[j1]) (show n+a.length+1<=4000000 by omega) (jz p (ao wr _).size) λf C b=>d _ _ ?_
  replace b:=O b;clear d
  go_wp2_with fail
  go_ret;refine⟨_,T,?_⟩;have h:=c.trans (cG.after (ao wr _) b);rw[show [jE IntKind.u8 (k:jd)]=[jY 8 k].map v8 by rw[m];rfl,j6]at h;rw[l,jL,j4,<-r8];exact h
 have z:=aA ((128:jd)<=(k:jd));have l:=O (show g=(a++[jY 8 (k%128+128)])++da (k/128) by rw[j,II q];simp);have m:=O (Nf k)
 go_wp2_with (at_builtin;refine Hid.out ?_)
 refine O ?_;refine o1 T λ_ d=>oS _ _ T B _ _ _ T (cK c.own (ao wr _)) _ 1 [_] T (rW wr _) (by simp[j1]) (show n+a.length+1<=4000000 by omega) (jz p (ao wr _).size) λf C b=>d _ _ ?_
 replace b:=O b;clear d
 go_wp2_with fail
 refine⟨⟨a++[jY 8 (k%128+128)],k/128,_,T,?_,by omega,l,O ?_⟩,?_⟩
 ·exact qM (jE .u64) Y
 ·have h:=c.trans (cG.after (ao wr _) b)
  rw[m,j6]at h;rw[jL,j4,<-r8];exact h
 simp only[jv];omega
section
variable{i:je}
section
variable {P:qN} {ops:jZ ob} {Q:Exit->Act->jg->Prop} {md:Region.Mode} {S:jg->Prop}
abbrev eU:=eO
theorem di{i:je}{a:Act}{w:jg}(S:jg->Prop)(t:bE)(d:P.follows .mixedOrders=jf)(e:Region.noSelect ops=jf)
 (f:gB .any ops t (Array.replicate ops.size jp)=jf) (g:t.len<=ops.size) (b:∀c a h w,Q (.panic c) a w->Q (.panic c) h w)
 (c:S w.drew) (h:eU P ops Q S t a w.drew):(Code.region i ops jf).wp P Q a w:=
 I9 S t d e f g b c h
theorem aW{o:ob}{v:ji}{r:bE}{a:Act}{w:jg}(b:ops[i]?=ja o)(c:Region.wanted o (yielded ops a.tmps)=jf)
 (d:∀w,S w->(qx a.eval o).run P w=.ok (.value v) w) (h:eU P ops Q S r (a.put o.dst v) w):eU P ops Q S (.t i r) a w:=
 Sw b c d h
theorem T9{o:ob}{r:bE}{a:Act}{w:jg}(b:ops[i]?=ja o)(c:Region.wanted o (yielded ops a.tmps)=jp)
 (h:eU P ops Q S r (a.put o.dst ju) w):eU P ops Q S (.t i r) a w:=
 MI b c h
theorem aE{o:ob}{r:bE}{a:Act}{w:jg}(c:ops[i]?=ja o)
 (h:∀b:Act->jg->Prop,Shut (∀a w,S w->(S w->eU P ops Q S r a w)->b a w)->if Region.wanted o (yielded ops a.tmps)=jf then Oper.wp P o a w b Q else b (a.put o.dst ju) w):
 eU P ops Q S (.o i r) a w:=
 M4 c h
theorem N5{o:ob}{v:ji}{r:bE}{a:Act}{w:jg}{f:FuncId}{args:jZ ji}(b:ops[i]?=ja o)(c:Region.wanted o (yielded ops a.tmps)=jf)
 (he:∀w,(qx a.eval o).run P w=.ok (.enter f args) w) (d:∀w,S w->jr P f args w λe w'=>e=jo v/\w'=w) (h:eU P ops Q S r (a.put o.dst v) w):eU P ops Q S (.t i r) a w:=
 SX b c he d h
theorem iA{j:je}{r y:bE}{a:Act}{w:jg}(b:eU P ops Q S (.o i r) a w)(c:eU P ops Q S (.o j y) a w):eU P ops Q S (.w i j r y) a w:=
 Tp b c
end
theorem fJ{p q:Prop}(k:q)(h:q->p:=by intro k;refine aW (v:=?_) rfl (by rfl) (λW' hS=>?_) ?_;rotate_left;(go_simp;with_reducible rfl);refine L ?_;exact k):p:=h k
theorem aQ{p q:Prop}(k:q)(h:q->p:=by intro k;refine aW (v:=?_) rfl (by rfl) (λW' hS=>?_) ?_;rotate_left;(clear hS;go_simp;with_reducible rfl);refine L ?_;exact k):p:=h k
theorem Fl{p q:Prop}(k:q)(h:q->p:=by intro k;refine aW (v:=?_) rfl (by rfl) (λW' hS=>?_) ?_;rotate_left;(obtain⟨k0,k1,k2,k3⟩:=hS;go_simp;with_reducible rfl);refine L ?_;exact k):p:=h k
theorem Fi{p q:Prop}(k:q)(h:q->p:=by intro k;refine aW (v:=?_) rfl (by rfl) (λW' hS=>?_) ?_;rotate_left;(obtain⟨k0,k1,k2,k3,k4,k5⟩:=hS;go_simp;with_reducible rfl);refine L ?_;exact k):p:=h k
theorem wS{p q:Prop}(k:q)(h:q->p:=by intro k;refine aW (v:=?_) rfl (by rfl) (λW' hS=>?_) ?_;rotate_left;(have b0:=hS.1.1;have b1:=hS.1.2;clear hS;go_simp;with_reducible rfl);refine L ?_;exact k):p:=h k
theorem kp{p q:Prop}(k:q)(h:q->p:=by intro k;refine T9 rfl (by rfl) ?_;refine L ?_;exact k):p:=h k
end
def aH(D:je->Prop)(w:jg)(v:ji)(sz n:je)(xs:jh ji):Prop:=
 xs.length=n*sz/\∃(p:jS jM) (c:je),v=jb p n c/\n<=c/\(p=A->c=0)/\
  (0<n->∃g o,p=ja ⟨g,o,A⟩/\D g/\∀(j:je) u,xs[j]?=ja u->w.cell? ⟨g,o+j,A⟩=ja u)
theorem aH.row{D:je->Prop}{w:jg}{v:ji}{sz n:je}{xs:jh ji}(h:aH D w v sz n xs):cF w v sz n xs:=by
 obtain⟨a,p,c,b,d,f,i⟩:=h;refine⟨a,p,c,b,d,f,λj=>?_⟩;obtain⟨g,o,e,-,k⟩:=i j;exact⟨g,o,e,k⟩
theorem dY{w w':jg}{a:jM}(h:w'.heap[a.block]?=w.heap[a.block]?):w'.cell? a=w.cell? a:=by unfold j5;rw[h]
theorem aH.keep{D:je->Prop}{w w':jg}{v:ji}{sz n:je}{xs:jh ji}(h:aH D w v sz n xs)(d:∀g,D g->w'.heap[g]?=w.heap[g]?):aH D w' v sz n xs:=by
 obtain⟨f,p,c,i,k,l,m⟩:=h;refine⟨f,p,c,i,k,l,λq=>?_⟩;obtain⟨g,o,e,b,r⟩:=m q;exact⟨g,o,e,b,λj u s=>(dY (a:=⟨g,o+j,A⟩) (d g b)).trans (r j u s)⟩
theorem aH.mono{D D':je->Prop}{w:jg}{v:ji}{sz n:je}{xs:jh ji}(h:aH D w v sz n xs)(a:∀g,D g->D' g):aH D' w v sz n xs:=by
 obtain⟨b,p,c,d,f,i,j⟩:=h;refine⟨b,p,c,d,f,i,λk=>?_⟩;obtain⟨g,o,e,l,h⟩:=j k;exact⟨g,o,e,a g l,h⟩
def gS(x:Val)(u:ji):jh ji:=[I N x.k,I N x.n,jj x.s,u]
def cS:jh Val->jh ji->jh ji
 |x::xs,u::a=>gS x u++cS xs a
 |_,_=>[]
mutual
def aV(D:je->Prop)(w:jg):Val->ji->Prop
 | .mk _ _ _ l,u=>∃a,aH D w u 4 l.length (cS l a)/\aM D w l a
def aM(D:je->Prop)(w:jg):jh Val->jh ji->Prop
 |[],a=>a=[]
 |x::xs,a=>∃u b,a=u::b/\aV D w x u/\aM D w xs b
end
mutual
theorem aV.keep{D:je->Prop}{w w':jg}(a:∀g,D g->w'.heap[g]?=w.heap[g]?):∀(x:Val) (u:ji),aV D w x u->aV D w' x u
 | .mk k n s l,u,h=>by
  rw[aV]at h⊢;obtain⟨b,c,d⟩:=h;exact⟨b,c.keep a,aM.keep a l b d⟩
theorem aM.keep{D:je->Prop}{w w':jg}(b:∀g,D g->w'.heap[g]?=w.heap[g]?):∀(l:jh Val) (a:jh ji),aM D w l a->aM D w' l a
 |[],a,h=>by rw[aM]at h⊢;exact h
 |x::l,a,h=>by
  rw[aM]at h⊢;obtain⟨u,c,d,e,f⟩:=h;exact⟨u,c,d,aV.keep b x u e,aM.keep b l c f⟩
end
mutual
theorem aV.mono{D D':je->Prop}{w:jg}(a:∀g,D g->D' g):∀(x:Val) (u:ji),aV D w x u->aV D' w x u
 | .mk k n s l,u,h=>by
  rw[aV]at h⊢;obtain⟨b,c,d⟩:=h;exact⟨b,c.mono a,aM.mono a l b d⟩
theorem aM.mono{D D':je->Prop}{w:jg}(b:∀g,D g->D' g):∀(l:jh Val) (a:jh ji),aM D w l a->aM D' w l a
 |[],a,h=>by rw[aM]at h⊢;exact h
 |x::l,a,h=>by
  rw[aM]at h⊢;obtain⟨u,c,d,e,f⟩:=h;exact⟨u,c,d,aV.mono b x u e,aM.mono b l c f⟩
end
theorem aM.len{D:je->Prop}{w:jg}:∀{l:jh Val} {a:jh ji},aM D w l a->a.length=l.length
 |[],a,h=>by rw[aM]at h;rw[h];rfl
 |x::l,a,h=>by
  rw[aM]at h;obtain⟨u,c,rfl,d,b⟩:=h;simp[aM.len b]
theorem aM.at{D:je->Prop}{w:jg}:∀{l:jh Val} {a:jh ji} {i:je} {x:Val},aM D w l a->l[i]?=ja x->∃u,a[i]?=ja u/\aV D w x u
 |[],a,i,x,h,b=>by simp at b
 |y::l,a,i,x,h,b=>by
  rw[aM]at h;obtain⟨u,j,rfl,c,d⟩:=h
  cases i with
  |zero=>
   have e:y=x:=ak b;subst e;exact⟨u,T,c⟩
  |succ i=>
   obtain⟨e,f,g⟩:=aM.at (i:=i) d (ak b);exact⟨e,by simpa using f,g⟩
theorem aM.append{D:je->Prop}{w:jg}:∀{l m:jh Val} {b a:jh ji},aM D w l b->aM D w m a->aM D w (l++m) (b++a)
 |[],m,b,a,h,k=>by rw[aM]at h;rw[h];exact k
 |x::l,m,b,a,h,k=>by
  rw[aM]at h;obtain⟨u,c,rfl,d,e⟩:=h;show aM D w (x::(l++m)) (u::(c++a));rw[aM];exact⟨u,_,T,d,aM.append e k⟩
theorem aM.one{D:je->Prop}{w:jg}{x:Val}{u:ji}(h:aV D w x u):aM D w [x] [u]:=by
 rw[aM];exact⟨u,[],T,h,by rw[aM]⟩
theorem sT:∀(l m:jh Val) (a b:jh ji),a.length=l.length->cS (l++m) (a++b)=cS l a++cS m b
 |[],m,a,b,h=>by
  have:a=[]:=qs (ak h);subst this
  cases m<;>cases b<;>simp[cS]
 |x::l,m,[],b,h=>by simp at h
 |x::l,m,u::a,b,h=>by
  simp only[qb,cS,sT l m a b (ak h),j6]
theorem BF:∀(l:jh Val) (a:jh ji) (j i:je) (x:Val) (u:ji),l[j]?=ja x->a[j]?=ja u->i<4->(cS l a)[j*4+i]?=(gS x u)[i]?
 |[],a,j,i,x,u,h,_,_=>by simp at h
 |y::l,[],j,i,x,u,_,h,_=>by simp at h
 |y::l,v::a,0,i,x,u,h,b,c=>by
  have e:y=x:=ak h;have d:v=u:=ak b;subst e;subst d;show(gS y v++cS l a)[0*4+i]?=_;rw[qT,ms,qJ (by simp[gS];omega)]
 |y::l,v::a,j+1,i,x,u,h,b,c=>by
  show(gS y v++cS l a)[(j+1)*4+i]?=_;have d:(gS y v).length=4:=T;rw[qK (by rw[d];omega),d,show(j+1)*4+i-4=j*4+i by omega];exact BF l a j i x u (ak h) (ak b) c
theorem aV.slice{D:je->Prop}{w:jg}{x:Val}{u:ji}(h:aV D w x u):∃a,aH D w u 4 x.l.length (cS x.l a)/\aM D w x.l a:=by
 obtain⟨k,n,s,l⟩:=x;rw[aV]at h;exact h
theorem aV.form{D:je->Prop}{w:jg}{x:Val}{u:ji}(h:aV D w x u):∃p c,u=jb p x.l.length c:=by
 obtain⟨a,⟨-,p,c,e,-⟩,-⟩:=h.slice;exact⟨p,c,e⟩
structure mZ(a b:je)(w:jg):Prop where
 tab:∃z,w.heap[a]?=ja (jc #[z,.func (.func 197) #[] #[],.func (.func 200) #[] #[],.func (.func 201) #[] #[jA (ja ⟨b,0,A⟩)]] 292 (0,0))
 ptr:w.heap[b]?=ja (jc #[jA (ja ⟨a,0,A⟩)] 229 (0,0))
theorem Oi(w:jg):
 jr jm 146 #[] w λe w'=>∃l s,e=jo (jA (ja ⟨l,0,A⟩))/\mZ l s w'/\jl w w w':=by
 have B:∀(fn:Fn) (first m:jZ ji) (w:jg),(Instr.makeFunc fn first m).run jm w=.ok (.func fn first m) w:=λ_ _ _ _=>rfl
 obtain⟨b,a⟩:=J ((w.alloc (jc #[.nilFunc,.nilFunc,.nilFunc,.nilFunc] 292)).alloc (jc #[jA (ja ⟨w,0,A⟩)] 229));have t:b.heap.size=w.heap.size+2:=by rw[a];simp
 have n:b.heap[w.heap.size]?=ja (jc #[.nilFunc,.nilFunc,.nilFunc,.nilFunc] 292 (0,0)):=by
  rw[a,jF _ _ _ ar];exact js w _
 have c:b.heap[w.heap.size+1]?=ja (jc #[jA (ja ⟨w,0,A⟩)] 229 (0,0)):=by
  rw[a];have:=js (w.alloc (jc #[.nilFunc,.nilFunc,.nilFunc,.nilFunc] 292)) (jc #[jA (ja ⟨w,0,A⟩)] 229);rw[jC]at this;exact this
 have o:jl w w b:=by rw[a];exact((jy _ w).alloc (jn _) _).alloc ar _
 obtain⟨C,r2,p,d⟩:=yO (P:=jm) (i:=1) (v:=.func (.func 197) #[] #[]) n G T;obtain⟨D,r3,q,f⟩:=yO (P:=jm) (i:=2) (v:=.func (.func 200) #[] #[]) p G T;obtain⟨u,E,r,g⟩:=yO (P:=jm) (i:=3) (v:=.func (.func 201) #[] #[jA (ja ⟨w.heap.size+1,0,A⟩)]) q G T;have h:=(d.block (w.heap.size+1) Y).trans c;have j:=(f.block (w.heap.size+1) Y).trans h;have k:=(g.block (w.heap.size+1) Y).trans j;have F:=ai (i:=0) h T;have H:=ai (i:=0) j T;have K:=ai (i:=0) k T;have x:=O (((o.trans (d.below (jn _))).trans (f.below (jn _))).trans (g.below (jn _)));have y:jk (mZ w.heap.size (w.heap.size+1) u):=O ⟨⟨_,r⟩,k⟩;have z:=ai (i:=0) c T;rw[a]at r2 z;clear t n c o p q r d f g h j k a
 go_enter func146,ntmps146
 go_wp2
 go_ret;exact⟨_,_,T,y,x⟩
theorem aB{a:jM}{v:ji}(h:w.cell? a=ja v)(b:jl w w w'):w'.cell? a=ja v:=
 (dY (b.block _ (gg h))).trans h
theorem fV{w':jM}{b:jS je}(h:w.cell? w'=ja u)(c:w.grownBy a b)(d:b≠ja w'.block):a.cell? w'=ja u:=
 (dY (c.block _ (gg h) (λe=>d e.symm))).trans h
theorem bV(W:jg):jl W W W.drew:=⟨T,T,T,jn _,λ_ _=>rfl⟩
theorem Mz(B n:je)(v:ji)(xs:jh ji)(m:jd)(s:ByteArray)(u:ji)(w:jg)(a:w.ownsRow B 5 1 v n xs)(h:B<=w.heap.size)(z: -9223372036854775808<=m)(C:m<9223372036854775808)(S:n<=2900000):
 jr jm 197 #[v,jq #[I N 1,I N m,jj s,u]] w λe w'=>∃q,e=jo q/\cG B 5 1 w w' v q (n+(enc (.mk 1 m s [])).length) (xs++(enc (.mk 1 m s [])).map v8):=by
 have b:enc (.mk 1 m s [])=1#8::da (iE m):=by rw[enc,jB T]
 have K:=O b;clear b;have j:=js w (jc #[I N 1,I N m,jj s,u] 165);have b:=ai (i:=1) j T;have k:=O (cK a (ao w (jc #[I N 1,I N m,jj s,u] 165)));have g:=O (ao w (jc #[I N 1,I N m,jj s,u] 165));have r:jk (v.ownBlock≠ja w.heap.size):=O (eX a (.inl (jn _)));have M:=O h;obtain⟨p,c,rfl⟩:=cN a;obtain⟨v,d⟩:=J (jP p n c);rw[<-d]at k r a;have D:=O d;clear j h a d
 go_enter func197,ntmps197
 go_upto_region 1 with fail
 obtain⟨t,d⟩:=J w.heap.size;obtain⟨a,h⟩:=J (w.alloc (jc #[I N 1,I N m,jj s,u] 165));have j:t<a.heap.size:=by rw[h,d];simp
 rw[<-h]at b k g⊢;rw[<-d]at b r⊢;have y:jk (B<=a.drew.heap.size):=O (jz M g.size);have E:jk (t<a.drew.heap.size):=O j;replace k:jk (a.drew.ownsRow B 5 1 v n xs):=O (cK k (bV a));replace g:jk (jl w w a.drew):=O (g.trans (bV a|>.mono g.size));replace b:a.drew.cell? ⟨t,1,A⟩=ja (I N m):=b;clear d h j;refine jT ?_;refine di (λx=>x.cell? ⟨t,1,A⟩=ja (I N m)) (.t 0 (.t 3 (.t 4 (.o 1 (.o 2 (.t 5 (.o 6 (.t 7 .done)))))))) af af af G (λ_ _ _ _ h=>h) b ?_;generalize a.drew=l at b k g y E⊢;have P:=O k;rw[<-D];iterate 3 refine fJ ?_
 refine aE T (λF d=>?_);go_simp;refine d _ _ (aB b (ao _ _)) λ_=>?_
 clear d;refine L ?_;refine aE T (λF d=>?_);rw[jB aj];refine oS _ _ T B v _ _ T (cK P (ao l _)) _ 1 [_] T (rW l _) (by simp[j1]) Y (jz y (ao l _).size) λq Q j=>?_
 have o:=r.out;have H:=fV (aB b (ao l (jc #[I .u8 1] 5))) j.grown o;replace j:=O (cG.after (ao l _) j);refine d _ _ H λ_=>?_
 clear d o;refine L ?_
 (refine N5 (v:=I j7 (iE m)) (f:=199) (args:=#[I N m]) T aj (λx=>?_) (λx _=>(Lg m z C x).mono λe w' h=>⟨h.1,h.2.symm⟩) ?_;·(go_simp;try with_reducible rfl))
 refine L ?_;refine aE T (λF d=>?_);go_simp;have F:=j.grown.size;have o:=j.ne E r;refine(Ak B _ (iE m) q _ Q j.own (jz y F) (zn m z C) Y).mono ?_;rintro e U ⟨V,rfl,x⟩;have R:=fV H x.grown o;replace x:=O (j.trans x);refine d _ _ R λ_=>?_
 clear d F o;refine L ?_;refine fJ ?_;refine jR ?_
 go_wp2_with fail
 go_ret;refine⟨_,T,?_⟩;have h:=cG.after g x;rw[K,jW,qV,<-D];rw[j6,show n+1+(da (iE m)).length=n+((da (iE m)).length+1) by omega]at h;exact h
theorem Ju(B n:je)(v:ji)(xs:jh ji)(m:jd)(s:ByteArray)(u:ji)(w:jg)(a:w.ownsRow B 5 1 v n xs)(g:B<=w.heap.size)(S:n+s.size<=2900000):
 jr jm 200 #[v,jq #[I N 2,I N m,jj s,u]] w λe w'=>∃l,e=jo l/\cG B 5 1 w w' v l (n+(enc (.mk 2 m s [])).length) (xs++(enc (.mk 2 m s [])).map v8):=by
 have b:enc (.mk 2 m s [])=2#8::(da s.size++co s):=by rw[enc,jI G,jB T]
 have K:=O b;clear b;have t:=js w (jc #[I N 2,I N m,jj s,u] 165);have d:=ai (i:=2) t T;have k:=O (cK a (ao w (jc #[I N 2,I N m,jj s,u] 165)));have f:=O (ao w (jc #[I N 2,I N m,jj s,u] 165));have o:jk (v.ownBlock≠ja w.heap.size):=O (eX a (.inl (jn _)));have M:=O g;obtain⟨p,c,rfl⟩:=cN a;obtain⟨v,b⟩:=J (jP p n c);rw[<-b]at k o a;have D:=O b;clear t g a b
 go_enter func200,ntmps200
 go_upto_region 1 with fail
 obtain⟨x,a⟩:=J w.heap.size;obtain⟨b,g⟩:=J (w.alloc (jc #[I N 2,I N m,jj s,u] 165));have h:x<b.heap.size:=by rw[g,a];simp
 rw[<-g]at d k f⊢;rw[<-a]at d o⊢;have y:jk (B<=b.drew.heap.size):=O (jz M f.size);have z:jk (x<b.drew.heap.size):=O h;replace k:jk (b.drew.ownsRow B 5 1 v n xs):=O (cK k (bV b));replace f:jk (jl w w b.drew):=O (f.trans (bV b|>.mono f.size));replace d:b.drew.cell? ⟨x,2,A⟩=ja (jj s):=d;clear a g h;refine jT ?_;refine di (λa=>a.cell? ⟨x,2,A⟩=ja (jj s)) (.t 0 (.t 3 (.t 4 (.t 5 (.t 6 (.t 8 (.t 9 (.o 1 (.o 2 (.o 7 (.o 10 (.t 11 .done)))))))))))) af af af G (λ_ _ _ _ h=>h) d ?_;generalize b.drew=q at d k f y z⊢;have P:=O k;rw[<-D];iterate 7 refine fJ ?_
 refine aE T (λC a=>?_);go_simp;refine a _ _ (aB d (ao _ _)) λ_=>?_
 clear a;refine L ?_;refine aE T (λC a=>?_);rw[jB aj];refine oS _ _ T B v _ _ T (cK P (ao q _)) _ 1 [_] T (rW q _) (by simp[j1]) Y (jz y (ao q _).size) λl Q g=>?_
 have r:=o.out;have E:=fV (aB d (ao q (jc #[I .u8 2] 5))) g.grown r;replace g:=O (cG.after (ao q _) g);refine a _ _ E λ_=>?_
 clear a r;refine L ?_;refine aE T (λC a=>?_);go_simp;rw[show qI.wrap (s.size:jd)=(s.size:jd)from by rw[qU];omega];have F:=g.grown.size;have r:=g.ne z o;refine(Ak B _ s.size l _ Q g.own (jz y F) Y Y).mono ?_;rintro e U ⟨R,rfl,j⟩;have V:=mq s.size Y;have H:=fV E j.grown r;replace j:=O (g.trans j);refine a _ _ H λ_=>?_
 clear a F r;refine L ?_;refine aE T (λC a=>?_);rw[jB aj];refine Nw _ _ T B R _ _ T j.own s T Y (jz y j.grown.size) λl F r=>?_
 have C:=fV H r.grown (j.ne z o);replace r:=O (j.trans r);refine a _ _ C λ_=>?_
 clear a;refine L ?_;refine fJ ?_;refine jR ?_
 go_wp2_with fail
 go_ret;refine⟨_,T,?_⟩;have h:=cG.after f r;have t:(s.data.toList.map UInt8.toBitVec)=co s:=T;rw[K,jW,qV,jL,j4,kT,<-D];rw[t,j6,j6,show n+1+(da s.size).length+s.size=n+((da s.size).length+s.size+1) by omega]at h;exact h
def Buf(b:je)(a:LBy)(w:jg):Prop:=LibA.IsBuffer 253 (λ_=>A) 5 b b 0 (a.map v8) w
theorem Buf.lt(h:Buf B j w):B<w.heap.size:=LibA.IsBuffer.lt h
theorem Buf.keep{b:je}{a:LBy}(h:Buf b a w)(c:jl w w w'):Buf b a w':=by
 obtain⟨e,v,f,d,g,i⟩:=h;exact⟨e,v,f,d.of_heap (c.block _ d.lt),cK g c,i⟩
theorem Buf.new(w:jg):Buf w.heap.size [] (w.alloc (jc #[jb A 0 0,I N 0,.int .i8 0] 253)):=
 LibA.zero_isBuffer (jn _) (LibA.three_whole (js w _))
theorem uQ(k:r)(h:r->p:=by intro k;refine aW (v:=?_) rfl aj (λW' hS=>?_) ?_;rotate_left;(obtain⟨c0,c1⟩:=hS;go_simp;with_reducible rfl);refine L ?_;exact k):p:=h k
theorem Rn(b:je)(d:LBy)(w:jg)(h:Buf b d w):
 jr jm 211 #[jA (ja ⟨b,0,A⟩)] w λe w'=>∃v,e=jo v/\w'.ownsRow b 5 1 v (d.map v8).length (d.map v8)/\jl w w w':=by
 obtain⟨l,K,x⟩:=LibA.IsBuffer.cases h
 rcases x with⟨m,a⟩|⟨g,o,y,a,p,q,r,i,s,t,z⟩
 ·have f:=a.c0
  have j:=a.c1;rw[m];clear a l m h
  go_enter func211,ntmps211
  go_wp2
  refine jT ?_;refine di (λc=>c.cell? ⟨b,0,A⟩=ja (jb A 0 0)/\c.cell? ⟨b,0+1,A⟩=ja (I N 0)) (.t 0 (.t 1 (.t 2 (.t 3 (.t 4 (.t 5 (.t 6 (.t 7 (.t 8 (.t 9 .done)))))))))) af af af G (λ_ _ _ _ h=>h) ⟨f,j⟩ ?_;iterate 3 refine aQ ?_
  refine uQ ?_;iterate 3 refine aQ ?_
  refine uQ ?_;iterate 2 refine aQ ?_
  refine jR ?_
  go_wp2_with fail
  go_ret;exact⟨_,T,j0 _ _ _ _,bV _⟩
 have f:=a.c0;have j:=a.c1;have B:=i;unfold j3 at B;have C:=O q;have D:=O p;have E:=O i;have F:=O s;have H:=O t;obtain⟨n,k⟩:=J ((d.map v8).length);rw[<-k]at r f⊢;have u:=O k;clear a l h q p i s t z k
 go_enter func211,ntmps211
 go_wp2
 refine jT ?_;refine di (λc=>c.cell? ⟨b,0,A⟩=ja (jb (ja ⟨g,0,A⟩) n o)/\c.cell? ⟨b,0+1,A⟩=ja (I N 0)) (.t 0 (.t 1 (.t 2 (.t 3 (.t 4 (.t 5 (.t 6 (.t 7 (.t 8 (.t 9 .done)))))))))) af af af G (λ_ _ _ _ h=>h) ⟨f,j⟩ ?_;iterate 3 refine aQ ?_
 refine uQ ?_;iterate 3 refine aQ ?_
 refine uQ ?_;iterate 2 refine aQ ?_
 refine jR ?_
 go_wp2_with fail
 go_ret;exact⟨_,T,⟨by simp[u.out],.inr ⟨g,o,y,T,D,C,r,E,by rw[F];simp,by rw[rk,u];exact H⟩⟩,bV _⟩
def wrF(k:jd):je:=if k=1 then 197 else if k=2 then 200 else 201
def wrL(a:je)(k:jd):jZ ji:=if k=1 then #[]else if k=2 then #[]else #[jA (ja ⟨a,0,A⟩)]
def se(b a:je)(x:Val):Prop:=
 ∀(B n:je) (v:ji) (xs:jh ji) (u:ji) (c:jd) (w:jg),x.k=c->w.ownsRow B 5 1 v n xs->B<=w.heap.size->aV (·<B) w x u->mZ b a w->b<B->a<B->n+(enc x).length<=2900000->
  jr jm (wrF x.k) (#[v,jq #[I N c,I N x.n,jj x.s,u]]++wrL a x.k) w λe w'=>∃d,e=jo d/\cG B 5 1 w w' v d (n+(enc x).length) (xs++(enc x).map v8)
theorem Dl(k:jd)(args:jZ ji)(w:jg):(callFunc (wrF k) args).run jm w=.ok (.enter (wrF k) args) w:=by
 unfold wrF
 split
 ·rfl
 split<;>rfl
theorem mZ.at{a b:je}(h:mZ a b w){k:jd}{m:je}(c:k=(m:jd))(e:1<=m)(f:m<=3):w.cell? ⟨a,m,A⟩=ja (.func (.func (wrF k)) #[] (wrL b k)):=by
 obtain⟨z,d⟩:=h.tab;subst c;have:m=1\/m=2\/m=3:=Y
 rcases this with rfl|rfl|rfl<;>exact ai d T
theorem mZ.keep{a b:je}(h:mZ a b w)(c:jl B w w')(d:a<B)(e:b<B):mZ a b w':=by
 obtain⟨⟨z,f⟩,g⟩:=h;exact⟨⟨z,(c.block _ d).trans f⟩,(c.block _ e).trans g⟩
theorem wy{x:Val}(h:b[B]?=ja x):encs (b.take (B+1))=encs (b.take B)++enc x:=by
 obtain⟨a,e⟩:=xr.1 h;rw[o3 a,zg,e];simp[encs]
theorem wG(l:jh Val)(i:je):(encs (l.take i)).length<=(encs l).length:=by
 have h:=zg (l.take i) (l.drop i);rw[xt]at h;rw[h,jL];omega
theorem PH(z t:je)(m:jd)(s:ByteArray)(l:jh Val)(j:∀x∈l,(1<=x.k/\x.k<=3)/\se z t x):se z t (.mk 3 m s l):=by
 intro B n v xs u kk w bi e k Q o q r b;obtain rfl:(3:jd)=kk:=bi;have a:enc (.mk 3 m s l)=3#8::(da l.length++encs l):=by rw[enc,jI G,jI G]
 have HE:=O a;show jr jm 201 #[v,jq #[I N 3,I N m,jj s,u],jA (ja ⟨t,0,A⟩)] w _;have a4:n+((da l.length).length+(encs l).length+1)<=2900000:=by rw[a,jW,jL]at b;omega
 have bk:=AT l;clear a b;have M:=js w (jc #[I N 3,I N m,jj s,u] 165);have a:=ai (i:=3) M T;have f:=O (cK e (ao w (jc #[I N 3,I N m,jj s,u] 165)));have b:=O (ao w (jc #[I N 3,I N m,jj s,u] 165));have HN:jk (v.ownBlock≠ja w.heap.size):=O (eX e (.inl (jn _)));have R:=O k;have Zk:=O e;have VR:=O j;obtain⟨us,a3,g⟩:=Q.slice;replace a3:aH (·<B) w u 4 l.length (cS l us):=a3;replace g:aM (·<B) w l us:=g;obtain⟨E,pu,S,y,C,F,D⟩:=a3;have a5:=O g;have a6:=O D;have hu:u=jb pu l.length S:=y;have bl:l.length<=S:=C;obtain⟨d,h⟩:=J l.length;rw[<-h]at hu bl a4 bk;have U:=O h;subst hu;have bm:jk (n+((da d).length+(encs l).length+1)<=2900000):=O a4;have HT:=O o;have V:=O q;have W:=O r;obtain⟨p,c,rfl⟩:=cN e;obtain⟨v,Q⟩:=J (jP p n c);rw[<-Q]at f HN Zk;have HV:=O Q;have bv:=mq d Y;have bw:d<=2900000:=Y;have H:n+30<=3000000\/2999970<n:=Y;clear M k e Q j E y C F D g h o q r H
 go_enter func201,ntmps201
 go_upto_region 1 with fail
 obtain⟨X,e⟩:=J w.heap.size;obtain⟨C,g⟩:=J (w.alloc (jc #[I N 3,I N m,jj s,jb pu d S] 165));have h:X<C.heap.size:=by rw[g,e];simp
 rw[<-g]at a f b⊢;rw[<-e]at a HN⊢;have bA:jk (X=w.heap.size):=O e;have j:jk (B<=C.drew.heap.size):=O (jz R b.size);have o:jk (X<C.drew.heap.size):=O h;replace f:jk (C.drew.ownsRow B 5 1 v n xs):=O (cK f (bV C));replace b:jk (jl w w C.drew):=O (b.trans (bV C|>.mono b.size));replace a:C.drew.cell? ⟨X,3,A⟩=ja (jb pu d S):=a;clear e g h;refine jT ?_;refine di (λE=>E.cell? ⟨X,3,A⟩=ja (jb pu d S)) (.t 0 (.t 3 (.t 4 (.t 5 (.t 6 (.o 1 (.o 2 (.o 7 (.t 8 .done))))))))) af af af G (λ_ _ _ _ h=>h) a ?_;generalize C.drew=W1 at a f b j o⊢;have y:=O f;rw[<-HV];iterate 5 refine fJ ?_
 refine aE T (λK' k=>?_);go_simp;refine k _ _ (aB a (ao _ _)) λ_=>?_
 clear k;refine L ?_;refine aE T (λK' k=>?_);rw[jB aj];refine oS _ _ T B v _ _ T (cK y (ao W1 _)) _ 1 [_] T (rW W1 _) (by simp[j1]) Y (jz j (ao W1 _).size) λv' w5 H=>?_
 have g:=HN.out;have q:=fV (aB a (ao W1 (jc #[I .u8 3] 5))) H.grown g;replace H:=O (cG.after (ao W1 _) H);refine k _ _ q λ_=>?_
 clear k g;refine L ?_;refine aE T (λK' k=>?_);go_simp;rw[show qI.wrap (d:jd)=(d:jd)from by rw[qU];omega];have r:=H.grown.size;have g:=H.ne o HN;refine(Ak B _ d v' _ w5 H.own (jz j r) Y Y).mono ?_;rintro e w6 ⟨v6,rfl,K⟩;have c6:=fV q K.grown g;have bB:=K.ne (jN o r) g;replace K:=O (H.trans K);refine k _ _ c6 λ_=>?_
 clear k r g;refine L ?_;refine fJ ?_;refine jR ?_;replace K:jk (cG B 5 1 w w6 v v6 (n+1+(da d).length) (xs++[I .u8 3]++(da d).map v8)):=O (cG.after b K);clear a q f y b j o
 go_wp2_with fail
 go_loopw [0,19] (λb a wr=>∃(i:je) (vr:ji),b=vr/\a=I N i/\i<=d/\jk (cG B 5 1 w wr v vr (n+1+(da d).length+(encs (l.take i)).length) (xs++[I .u8 3]++(da d).map v8++(encs (l.take i)).map v8))) (λ_ a _=>d-(jv a).toNat)
 case atStart=>exact⟨0,v6,T,T,jJ _,by simpa [encs]using K⟩
 obtain⟨i,vr,rfl,rfl,hi,r⟩:=hrel
 by_cases ba:i<d
 ·have hd:=aA ((i:jd)<(d:jd))
  have UY:=aA (i<d);obtain⟨g,o,rfl,ax,j⟩:=a6 (aI U);obtain⟨x,y⟩:∃x,l[i]?=ja x:=⟨l[i]'(by rw[<-U];exact ba),oj (by rw[<-U];exact ba)⟩;obtain⟨D,P,au⟩:=a5.at y;have F:=λq hq=>BF l us i q x D y P hq
  have Vv:=r.below Zk R;have Wr:∀a u,a.block<B->w.cell? a=ja u->wr.cell? a=ja u:=λa u ha hu=>(dY (Vv.block _ ha)).trans hu
  have d0:wr.cell? ⟨g,o+i*4,A⟩=ja (I N x.k):=Wr _ _ ax (j (i*4+0) _ (F 0 G));have d1:wr.cell? ⟨g,o+i*4+1,A⟩=ja (I N x.n):=Wr _ _ ax (j (i*4+1) _ (F 1 G));have d2:wr.cell? ⟨g,o+i*4+2,A⟩=ja (jj x.s):=Wr _ _ ax (j (i*4+2) _ (F 2 G));have d3:wr.cell? ⟨g,o+i*4+3,A⟩=ja D:=Wr _ _ ax (j (i*4+3) _ (F 3 G));have HI:=O y;have Vx:x∈l:=xu y;obtain⟨⟨a1,Vk⟩,hw⟩:=VR x Vx;have HW:=O hw;have HX:=O (aV.keep (λb M=>Vv.block b M) x D au);have bb:=O (HT.keep Vv V W);obtain⟨aa,ad,bn⟩:=au.form;obtain⟨f,ay⟩:∃f:je,x.k=(f:jd):=⟨x.k.toNat,by omega⟩;have bc:=O ay;have bo:1<=f:=Y;have bp:f<=3:=Y;have bq:z<wr.heap.size:=jN V (jz R r.grown.size);have br:t<wr.heap.size:=jN W (jz R r.grown.size);have bd:u0.ownBlock≠ja z:=eX r.own (.inr V);have bf:u0.ownBlock≠ja t:=eX r.own (.inr W);rw[ay]at d0;subst bn;clear y P au F Vv Wr j Vx hw a1 Vk ay a5 a6
  go_upto_region 5 with fail
  obtain⟨y,ay⟩:=J wr.heap.size;have F:=js wr (jc #[I N f,I N x.n,jj x.s,jb aa x.l.length ad] 165);have U7:=ao wr (jc #[I N f,I N x.n,jj x.s,jb aa x.l.length ad] 165);have bg:(wr.alloc (jc #[I N f,I N x.n,jj x.s,jb aa x.l.length ad] 165)).heap.size=y+1:=by rw[ay];simp
  have bs:jk (u0.ownBlock≠ja y):=O (eX r.own (.inl (qg ay.symm)));rw[<-ay]at F⊢;obtain⟨j,Zp⟩:=J (wr.alloc (jc #[I N f,I N x.n,jj x.s,jb aa x.l.length ad] 165));rw[<-Zp]at F U7 bg⊢;obtain⟨D,P⟩:=J (jP aa x.l.length ad);rw[<-P]at HX F;have bC:=O P;have au:jl wr wr j.drew:=U7.trans ((bV j).mono U7.size);have VE:jk (cG B 5 1 w j.drew v u0 (n+1+(da d).length+(encs (l.take i)).length) (xs++[I .u8 3]++(da d).map v8++(encs (l.take i)).map v8)):=O (r.trans (cG.after au (cG.refl (cK r.own au))));have a1:B<=wr.heap.size:=jz R r.grown.size;have bh:jk (aV (·<B) j.drew x D):=O (aV.keep (λb M=>au.block b (jN M a1)) x D HX);have a2:jk (mZ z t j.drew):=O (bb.keep (au.mono a1) V W);have Y5:j.drew.cell? ⟨t,0,A⟩=ja (jA (ja ⟨z,0,A⟩))/\j.drew.cell? ⟨y,0,A⟩=ja (I N f)/\j.drew.cell? ⟨y,1,A⟩=ja (I N x.n)/\j.drew.cell? ⟨y,2,A⟩=ja (jj x.s)/\j.drew.cell? ⟨y,3,A⟩=ja D/\j.drew.cell? ⟨z,f,A⟩=ja (.func (.func (wrF x.k)) #[] (wrL t x.k)):=
   ⟨ai a2.ptr rfl,ai F rfl,ai F rfl,ai F rfl,ai F rfl,a2.at bc bo bp⟩
  have Wt:jk (B<=j.drew.heap.size):=O (jz a1 U7.size);have bu:=O bf;have YK:=O bd;have bI:(f:jd)<4:=Y;clear F U7 bg au a1 bf bd HX bb r bq br d0 d1 d2 d3 Zp c6 P ay;refine jT ?_;refine di (λE=>E.cell? ⟨t,0,A⟩=ja (jA (ja ⟨z,0,A⟩))/\E.cell? ⟨y,0,A⟩=ja (I N f)/\E.cell? ⟨y,1,A⟩=ja (I N x.n)/\E.cell? ⟨y,2,A⟩=ja (jj x.s)/\E.cell? ⟨y,3,A⟩=ja D/\E.cell? ⟨z,f,A⟩=ja (.func (.func (wrF x.k)) #[] (wrL t x.k))) (.t 0 (.t 1 (.t 2 (.t 3 (.t 4 (.t 5 (.t 6 (.t 7 (.t 8 (.o 9 (.t 10 .done))))))))))) af af af G (λ_ _ _ _ h=>h) Y5 ?_;generalize j.drew=wb at Y5 VE bh a2 Wt⊢;iterate 9 refine Fi ?_
  refine aE T (λK' k=>?_);have EG:=Dl x.k;go_simp;refine(HW B _ u0 _ D _ wb bc VE.own Wt bh a2 V W (by have E:=bm.out;have b:=wG l (i+1);rw[wy HI,jL]at b;omega)).mono ?_;rintro e w7 ⟨v7,rfl,b⟩;obtain⟨k0,k1,k2,k3,k4,k5⟩:=Y5;have F:=bu.out;have E:=bs.out;have P:=YK.out;refine k _ _ ⟨fV k0 b.grown F,fV k1 b.grown E,fV k2 b.grown E,fV k3 b.grown E,fV k4 b.grown E,fV k5 b.grown P⟩ λ_=>?_
  replace b:=O (VE.trans b);clear k EG F E P;refine L ?_;refine Fi ?_;refine jR ?_
  go_wp2_with fail
  refine⟨⟨i+1,v7,T,by go_num,by omega,O ?_⟩,?_⟩
  ·have h:=b.out
   rw[wy HI,jL,j4,<-r8,<-j6];exact h
  simp only[jv];omega
 have hd:=az ((i:jd)<(d:jd));have UY:=az (i<d);have a:l.take i=l:=nv (by rw[<-U];omega);have b:=O a;clear a
 go_wp2_with fail
 go_ret;refine⟨_,T,?_⟩;have h:=r.out;rw[b]at h;rw[HE,jW,qV,jL,j4,<-U,<-HV];rw[j6,j6,show n+1+(da d).length+(encs l).length=n+((da d).length+(encs l).length+1) by omega]at h;exact h
theorem Py(e g:je):∀(f:je) (x:Val),wfV f x->(1<=x.k/\x.k<=3)/\se e g x:=by
 have o:∀(m:jd) (s:ByteArray) (l:jh Val),-9223372036854775808<=m->m<9223372036854775808->s=emS->l=[]->se e g (.mk 1 m s l):=by
  intro m s l a b d c B n v xs u h w i j k q r t y z;obtain rfl:(1:jd)=h:=i;subst c;have C:(enc (.mk 1 m s [])).length<=11:=by
   rw[enc,jB T,jW];have:=mq _ (zn m a b);omega
  exact Mz B n v xs m s u w j k a b Y
 have p:∀(m:jd) (s:ByteArray) (l:jh Val),l=[]->se e g (.mk 2 m s l):=by
  intro m s l c B n v xs u h w i j k q r t y z;obtain rfl:(2:jd)=h:=i;subst c;have C:(enc (.mk 2 m s [])).length=(da s.size).length+s.size+1:=by
   rw[enc,jI G,jB T,jW,jL,kT]
  exact Ju B n v xs m s u w j k Y
 intro f
 induction f with
 |zero=>
  rintro⟨k,m,s,l⟩ h;rw[wfV]at h
  rcases h with⟨rfl,a,b,d,c⟩|⟨rfl,rfl,a,c⟩|⟨-,-,-,-,h⟩
  ·exact⟨by simp[Val.k],o m s l a b d c⟩
  ·exact⟨by simp[Val.k],p 0 s l c⟩
  exact h.elim
 |succ f i=>
  rintro⟨k,m,s,l⟩ h;rw[wfV]at h
  rcases h with⟨rfl,a,b,d,c⟩|⟨rfl,rfl,a,c⟩|⟨rfl,rfl,d,-,h⟩
  ·exact⟨by simp[Val.k],o m s l a b d c⟩
  ·exact⟨by simp[Val.k],p 0 s l c⟩
  exact⟨by simp[Val.k],PH e g 0 s l λx j=>i x (h x j)⟩
theorem Ot(n:jd)(u:ji)(w:jg)(b:∃p c,u=jb p 0 c):
 jr jm 196 #[jq #[I N 1,I N n,jj ⟨#[]⟩,u]] w λe w'=>e=jo (jw #[I N 0,.bool jf])/\jl w w w':=by
 obtain⟨p,c,rfl⟩:=b
 by_cases a:n=0
 ·subst a
  go_enter qy,qz
  go_wp2_with fail
  go_ret2;exact⟨T,((jy _ w).alloc (jn _) _).alloc ar _⟩
 have d:((n==0):Bool)=jp:=ak a;have f:decide (n=0)=jp:=ak a;clear a
 go_enter qy,qz
 go_wp2_with fail
 go_ret2;exact⟨T,((jy _ w).alloc (jn _) _).alloc ar _⟩
theorem NZ(s:ByteArray)(u:ji)(w:jg)(b:∃p c,u=jb p 0 c):
 jr jm 196 #[jq #[I N 2,I N 0,jj s,u]] w λe w'=>e=jo (jw #[I N 0,.bool jf])/\jl w w w':=by
 obtain⟨p,c,rfl⟩:=b
 by_cases a:s.toList=[]
 ·have d:(s.toList==([]:jh UInt8))=jf:=ak a
  clear a
  go_enter qy,qz
  go_wp2_with fail
  go_ret2;exact⟨T,((jy _ w).alloc (jn _) _).alloc ar _⟩
 have d:(s.toList==([]:jh UInt8))=jp:=ak a;have hd2:decide (s.toList=[])=jp:=ak a
 go_enter qy,qz
 go_wp2_with fail
 go_ret2;exact⟨T,((jy _ w).alloc (jn _) _).alloc ar _⟩
def sX(f:je)(x:Val):Prop:=∀(u:ji) (a:jd) (w:jg),x.k=a->aV (·<w.heap.size) w x u->
 jr jm 196 #[jq #[I N a,I N x.n,jj x.s,u]] w λe w'=>∃d:je,e=jo (jw #[I N d,.bool jf])/\d<=f/\jl w w w'
theorem S8(f:je)(hf:f<=1000)(l:jh Val)(i:∀x∈l,sX f x)(au:l.length<=3000000):sX (f+1) (.mk 3 0 emS l):=by
 intro u kk w ax k;obtain rfl:(3:jd)=kk:=ax;show jr jm 196 #[jq #[I N 3,I N 0,jj ⟨#[]⟩,u]] w _;obtain⟨z,B,d⟩:=k.slice;replace B:aH (·<w.heap.size) w u 4 l.length (cS l z):=B;replace d:aM (·<w.heap.size) w l z:=d;obtain⟨q,S,C,m,n,r,o⟩:=B;have D:=O d;have E:=O o;have ay:l.length<=C:=n;obtain⟨c,e⟩:=J l.length;have F:u=jb S c C:=by rw[e];exact m
 rw[<-e]at ay au;have H:=O e;subst F;have VR:=O i;have a:jl w w ((w.alloc (jc #[I N 3,I N 0,jj ⟨#[]⟩,jb S c C] 165)).alloc (jc #[.bool jp,.bool (decide (c=0)),.bool (decide (c=0)),.bool jf] 336)):=((jy _ w).alloc (jn _) _).alloc ar _
 by_cases h:c=0
 ·have g:decide (c=0)=jf:=decide_eq_true h
  subst h;rw[g]at a;have K:=O a;clear q m n r o d e i k a g E D
  go_enter qy,qz
  go_wp2_with fail
  go_loopw [2,57] (λp b wr=>p=I N 0/\b=I N 0/\jk (jl w w wr)) (λ_ b _=>0)
  case atStart=>exact⟨T,T,K⟩
  obtain⟨rfl,rfl,j⟩:=hrel
  go_wp2_with fail
  go_ret2;exact⟨1,T,by omega,j⟩
 have g:decide (c=0)=jp:=decide_eq_false h;have ba:decide ((c:jd)=0)=jp:=ak h;have hd2:(((c:jd)==0):Bool)=jp:=ak h;rw[g]at a;have K:=O a;clear q m n r o d e i k a g
 go_enter qy,qz
 go_wp2_with fail
 go_loopw [2,57] (λp b wr=>∃i d:je,p=I N d/\b=I N i/\i<=c/\d<=f/\jk (jl w w wr)) (λ_ b _=>c-(jv b).toNat)
 case atStart=>exact⟨0,0,T,T,jJ _,jJ _,K⟩
 obtain⟨i,d,rfl,rfl,hi,hd,j⟩:=hrel
 by_cases U:i<c
 ·have a1:=aA ((i:jd)<(c:jd))
  have a2:=aA (i<c);obtain⟨g,o,rfl,p,k⟩:=E (aI H);obtain⟨x,r⟩:∃x,l[i]?=ja x:=⟨l[i]'(by rw[<-H];exact U),oj (by rw[<-H];exact U)⟩;obtain⟨s,V,M⟩:=D.at r;have m:=λq hq=>BF l z i q x s r V hq
  have t:=j.out;have n:∀a u,a.block<w.heap.size->w.cell? a=ja u->wr.cell? a=ja u:=λa u ha F=>(dY (t.block _ ha)).trans F
  have d0:wr.cell? ⟨g,o+i*4,A⟩=ja (I N x.k):=n _ _ p (k (i*4+0) _ (m 0 G));have d1:wr.cell? ⟨g,o+i*4+1,A⟩=ja (I N x.n):=n _ _ p (k (i*4+1) _ (m 1 G));have d2:wr.cell? ⟨g,o+i*4+2,A⟩=ja (jj x.s):=n _ _ p (k (i*4+2) _ (m 2 G));have d3:wr.cell? ⟨g,o+i*4+3,A⟩=ja s:=n _ _ p (k (i*4+3) _ (m 3 G));have HF:=O (VR x (xu r));have W:=t.size;have X:=O (aV.mono (D':=(·<wr.heap.size)) (λb (e:b<w.heap.size)=>jN e W) x s (aV.keep (λb e=>t.block b e) x s M));obtain⟨aa,ad,a3⟩:=M.form;obtain⟨v,P⟩:∃v,x.k=v:=⟨_,T⟩;obtain⟨nx,Q⟩:∃nx,x.n=nx:=⟨_,T⟩;obtain⟨y,R⟩:∃y,x.s=y:=⟨_,T⟩;rw[P]at d0;rw[Q]at d1;rw[R]at d2;have a4:=O P;have a5:=O Q;have a6:=O R;subst a3;clear r V M m t n k P Q R D E W
  go_upto_region 9 with fail
  have k:=ao wr (jc #[I N v,I N nx,jj y,jb aa x.l.length ad] 165);have r:=O (aV.mono (D':=(·<(wr.alloc (jc #[I N v,I N nx,jj y,jb aa x.l.length ad] 165)).heap.size)) (λb (e:b<wr.heap.size)=>jN e k.size) x _ (aV.keep (λb e=>k.block b e) x _ X.out));have t:=ah j k;clear k X
  go_wp2_with fail
  have b:=HF _ _ _ a4.out r;rw[a5,a6]at b;refine b.mono ?_;rintro e R ⟨k,rfl,V,n⟩;have M:=ah t n;obtain⟨m,P⟩:∃m:je,max (d:jd) (k:jd)=(m:jd):=⟨max d k,by omega⟩;have Q:m<=f:=Y;clear n b
  go_wp2_with fail
  refine⟨⟨i+1,m,?_,by go_num,by omega,Q,M⟩,?_⟩
  ·first|exact T|exact qM (jE .i64) P
  simp only[jv];omega
 have a1:=az ((i:jd)<(c:jd));have a2:=az (i<c)
 go_wp2_with fail
 go_ret2;exact⟨d+1,T,by omega,j⟩
theorem TJ:∀(f:je),f<=1000->∀x,wfV f x->(enc x).length<=3000000->sX f x:=by
 have d:∀(f:je) (m:jd),sX f (.mk 1 m emS []):=by
  intro f m u a w b c;obtain rfl:(1:jd)=a:=b;exact(Ot m u w c.form).mono λe w' h=>⟨0,h.1,jJ _,h.2⟩
 have k2:∀(f:je) (s:ByteArray),sX f (.mk 2 0 s []):=by
  intro f s u a w b c;obtain rfl:(2:jd)=a:=b;exact(NZ s u w c.form).mono λe w' h=>⟨0,h.1,jJ _,h.2⟩
 intro f
 induction f with
 |zero=>
  rintro -⟨k,m,s,l⟩ h g;rw[wfV]at h
  rcases h with⟨rfl,a,b,rfl,rfl⟩|⟨rfl,rfl,a,rfl⟩|⟨-,-,-,-,h⟩
  ·exact d 0 m
  ·exact k2 0 s
  exact h.elim
 |succ f j=>
  rintro p ⟨k,m,s,l⟩ h g;rw[wfV]at h
  rcases h with⟨rfl,a,b,rfl,rfl⟩|⟨rfl,rfl,a,rfl⟩|⟨rfl,rfl,rfl,-,h⟩
  ·exact d _ m
  ·exact k2 _ s
  have e:(enc (.mk 3 0 emS l)).length=(da l.length).length+(encs l).length+1:=by
   rw[enc,jI G,jI G,jW,jL]
  have q:=AT l;refine S8 f Y l (λx c=>j Y x (h x c) ?_) Y;have:(enc x).length<=(encs l).length:=by
   obtain⟨i,n⟩:=xw c;have o:=wG l (i+1);rw[wy n,jL]at o;omega
  omega
theorem J6(x:Val)(u:ji)(a:jd)(w:jg)(h:x.k=a)(i:wfV 16 x)(f:aV (·<w.heap.size) w x u)(k:(enc x).length<=2900000):
 jr jm 145 #[jq #[I N a,I N x.n,jj x.s,u]] w λe w'=>e=jo (I N 0)/\jl w w w':=by
 obtain⟨p,c,rfl⟩:=f.form;have d:=ao w (jc #[I N a,I N x.n,jj x.s,jb p x.l.length c] 165);have j:=O (aV.mono (D':=(·<(w.alloc (jc #[I N a,I N x.n,jj x.s,jb p x.l.length c] 165)).heap.size)) (λb (g:b<w.heap.size)=>jN g d.size) x _ (aV.keep (λb g=>d.block b g) x _ f));have g:=O (TJ 16 G x i Y _ _ _ h j);have l:=O d;clear f d j;generalize x.n=j at*;generalize x.s=xs at*;generalize x.l.length=m at*;clear h i k
 go_enter func145,ntmps145
 go_wp2_with fail
 refine g.mono ?_;rintro e h ⟨d,rfl,i,b⟩;have f:=ah l b;have k:=az ((16:jd)<(d:jd));clear b
 go_wp2_with fail
 go_ret;exact⟨T,f⟩
theorem Ff(x:Val)(u:ji)(q:jd)(w:jg)(h:x.k=q)(j:wfV 16 x)(a:aV (·<w.heap.size) w x u)(H:(enc x).length<=2900000):
 jr jm 91 #[jq #[I N q,I N x.n,jj x.s,u]] w λe w'=>∃v,e=jo (jw #[v,I N 0])/\w'.ownsRow w 5 1 v (enc x).length ((enc x).map v8)/\jl w w w':=by
 obtain⟨p,c,rfl⟩:=a.form;have y:=O (λr s=>Py r s 16 x j);obtain⟨o,t⟩:=(y 0 0).1;obtain⟨d,K⟩:∃d:je,q=(d:jd):=⟨q.toNat,by omega⟩;have M:1<=d:=Y;have P:d<=3:=Y;have aa:(d:jd)<4:=Y;subst K;have B:=O h;have g:=ao w (jc #[I N d,I N x.n,jj x.s,jb p x.l.length c] 165);have k:=js w (jc #[I N d,I N x.n,jj x.s,jb p x.l.length c] 165);have C:=O a;have l:=O (J6 x _ _ _ h j (aV.mono (D':=(·<(w.alloc (jc #[I N d,I N x.n,jj x.s,jb p x.l.length c] 165)).heap.size)) (λb (f:b<w.heap.size)=>jN f g.size) x _ (aV.keep (λb f=>g.block b f) x _ a)) H);have m:=O g;have n:=O k;clear a g k o t h j;obtain⟨D,a⟩:=J x.n;obtain⟨xs,g⟩:=J x.s;obtain⟨E,h⟩:=J x.l.length;rw[<-a,<-g,<-h]at l n m⊢;rw[<-h]at C;have Q:=O a;have R:=O g;clear a g h
 go_enter func91,ntmps91
 go_wp2_with fail
 refine l.mono ?_;rintro e k ⟨rfl,g⟩;obtain⟨b,f⟩:=J w.heap.size;have a:=(g.block w.heap.size ar).trans n;rw[<-f]at a⊢;have j:=ai (i:=0) a T;have o:=ai (i:=1) a T;have t:=ai (i:=2) a T;have z:=ai (i:=3) a T;have h:=ah m g;clear g a f n l m
 go_upto_region 4 with fail
 have F:jk (jl w w k.drew):=O (h.trans ((bV k).mono h.size));have l:k.drew.cell? ⟨b,0,A⟩=ja (I N d)/\k.drew.cell? ⟨b,1,A⟩=ja (I N D)/\k.drew.cell? ⟨b,2,A⟩=ja (jj xs)/\k.drew.cell? ⟨b,3,A⟩=ja (jb p E c):=⟨j,o,t,z⟩;clear j o t z h;refine jT ?_;refine di (λa=>a.cell? ⟨b,0,A⟩=ja (I N d)/\a.cell? ⟨b,1,A⟩=ja (I N D)/\a.cell? ⟨b,2,A⟩=ja (jj xs)/\a.cell? ⟨b,3,A⟩=ja (jb p E c)) (.t 1 (.t 2 (.t 7 (.o 0 (.o 3 (.o 4 (.o 5 (.o 6 (.o 8 (.t 9 (.t 10 .done))))))))))) af af af G (λ_ _ _ _ h=>h) l ?_;generalize k.drew=S at l F⊢;iterate 3 refine Fl ?_
 refine aE T (λm a=>?_);go_simp;refine(Oi S).mono ?_;rintro e t ⟨r,s,rfl,n,j⟩;have g:=And.intro (aB l.1 j) (And.intro (aB l.2.1 j) (And.intro (aB l.2.2.1 j) (aB l.2.2.2 j)));have U:=O n;have o:=ah F j;have V:=O (aV.keep (λb f=>o.block b f) x _ C.out);have hgt:=(jK.1 n.ptr).1;have W:r<t.heap.size:=by obtain⟨z,X⟩:=n.tab;exact(jK.1 X).1
 have ad:=n.at B M P;refine a _ _ g λ_=>?_
 clear a j n;refine L ?_;refine aE T (λm a=>?_);go_simp;refine a _ _ g λ_=>?_
 clear a;refine L ?_;refine aE T (λm a=>?_);go_simp;refine a _ _ g λ_=>?_
 clear a;refine L ?_;refine aE T (λm a=>?_);go_simp;refine a _ _ g λ_=>?_
 clear a;refine L ?_;refine aE T (λm a=>?_);go_simp;refine a _ _ g λ_=>?_
 clear a;refine L ?_;refine aE T (λm a=>?_);have EG:=Dl x.k;go_simp;have n:=y r s|>.2 t.heap.size 0 (jb A 0 0) [] _ _ t B (j0 _ _ _ _) (jn _) (aV.mono (λb (f:b<w.heap.size)=>jN f o.size) x _ V.out) U W hgt Y;rw[<-Q,<-R]at n;refine n.mono ?_;rintro e W3 ⟨v3,rfl,j⟩;have UE:=O (o.trans ((j.below (j0 _ _ _ _) (jn _)).mono o.size));have m:(jP A 0 0).ownBlock≠ja b:=by simp[qc]
 have c3:=And.intro (fV g.1 j.grown m) (And.intro (fV g.2.1 j.grown m) (And.intro (fV g.2.2.1 j.grown m) (fV g.2.2.2 j.grown m)));replace j:=O j;refine a _ _ c3 λ_=>?_
 clear a EG n;refine L ?_;iterate 2 refine Fl ?_
 refine jR ?_
 go_wp2_with fail
 go_ret2;refine⟨_,T,?_,UE⟩;have h:=j.own;rw[ms,qa]at h;exact sG h o.size
theorem Re(l:LBy):Bu l=ofB l:=by
 unfold Bu ofB strOfNums rQ;rw[List.map_map]
 congr 1
 congr 1
 refine List.map_congr_left λb _=>?_
 apply UInt8.eq_of_toBitVec_eq
 simp
theorem kQ(n:jd)(w:jg):
 jr jm 95 #[I N n] w λe w'=>e=jo (jq #[I N 1,I N n,jj ⟨#[]⟩,jb A 0 0])/\jl w w w':=by
 go_enter func95,ntmps95
 go_wp2_with fail
 exact jX (v:=jq #[I N 1,I N n,jj ⟨#[]⟩,jb A 0 0]) (by simp[results,results95,go_sem]) T ⟨T,(jy _ _).alloc (jn _) _⟩
theorem m5(p:jS jM)(n c:je)(w:jg):
 jr jm 92 #[jb p n c] w λe w'=>e=jo (jq #[I N 3,I N 0,jj ⟨#[]⟩,jb p n c])/\jl w w w':=by
 go_enter func92,ntmps92
 go_wp2_with fail
 exact jX (v:=jq #[I N 3,I N 0,jj ⟨#[]⟩,jb p n c]) (by simp[results,results92,go_sem]) T ⟨T,(jy _ _).alloc (jn _) _⟩
theorem vY(v:ji)(l:LBy)(w:jg)(a:bj w v l):
 jr jm 96 #[v] w λe w'=>e=jo (jq #[I N 2,I N 0,jj (ofB l),jb A 0 0])/\jl w w w':=by
 have b:=Jw (a.below (ao w (jc #[I N 0,I N 0,jj ⟨#[]⟩,jb A 0 0] 165)));rw[Re]at b;obtain⟨p,c,rfl,-,-,-⟩:=a;obtain⟨s,d⟩:=J (ofB l);rw[<-d]at b⊢;clear d
 go_enter func96,ntmps96
 go_wp2_with fail
 exact jX (v:=jq #[I N 2,I N 0,jj s,jb A 0 0]) (by simp[results,results96,go_sem]) T ⟨T,(jy _ _).alloc (jn _) _⟩
theorem De:(jm.info? 165).map (λi=>(i.zero,i.size,i.bytes))=ja (ja (jq #[I N 0,I N 0,jj ⟨#[]⟩,jb A 0 0]),4,56):=by kernel_rfl
theorem ra{w:jg}{o:ob}{a:Act}{K:Act->jg->Prop}{c:Exit->Act->jg->Prop}(s x:Operand)
 (d:o.op=.call {callee:=.builtin .append,args:=#[s,x],argTypes:=#[113,113]})
 (B:je) (v:ji) (n:je) (xs:jh ji) (e:a.eval s=v) (f:w.ownsRow B 165 4 v n xs) (u:ji) (m:je) (ys:jh ji) (g:a.eval x=u) (i:cF w u 4 m ys) (j:∀u∈ys,u.oneCell'=jf)
 (D:n+m<=4000000) (k:B<=w.heap.size) (h:∀b w',cG B 165 4 w w' v b (n+m) (xs++ys)->K (a.put o.dst b) w'):o.wp jm a w K c:=by
 obtain⟨l,p,q,r,t⟩:=qh De;exact m0 s x 113 d B 165 l _ 4 56 wt p q r t T G v n xs e f u m ys g i j (by unfold j3;omega) Y k
  λb w' y z C=>h b w' (oB y z C)
abbrev dF:ji:=jb A 0 0
theorem li(n:jd):aV D w (vI n) dF:=by
 rw[vI,aV];exact⟨[],⟨T,A,0,T,jn _,λ_=>rfl,λh=>jG h G⟩,by rw[aM]⟩
theorem vE(b:LBy):aV D w (vT b) dF:=by
 rw[vT,aV];exact⟨[],⟨T,A,0,T,jn _,λ_=>rfl,λh=>jG h G⟩,by rw[aM]⟩
theorem yg:∀(l:jh jd),aM D w (l.map vI) (j9 l.length dF)
 |[]=>by rw[r9,aM];rfl
 |x::l=>by
  rw[qV,aM];exact⟨dF,_,T,li x,yg l⟩
def ia(l:jh jd):jh ji:=cS (l.map vI) (j9 l.length dF)
theorem IQ(l:jh jd)(n:jd):ia (l++[n])=ia l++[I N 1,I N n,jj ⟨#[]⟩,jb A 0 0]:=by
 unfold ia;rw[j4,jL,show j9 (l.length+[n].length) dF=j9 l.length dF++[dF] by simp[List.replicate_succ']];rw[sT _ _ _ _ ar]
 rfl
theorem tJ(l:jh jd)(v:ji)(w:jg)(t:c8 w v l)(x:l.length<=1000000):
 jr jm 94 #[v] w λe w'=>∃u,e=jo u/\w'.ownsRow w 165 4 u l.length (ia l)/\jl w w w':=by
 obtain⟨p,c,rfl,z,a⟩:=t;obtain⟨n,b⟩:=J l.length;rw[<-b]at z x a⊢;have j:=O b;have k:=O a;clear b a
 go_enter func94,ntmps94
 go_wp2_with fail
 go_loopw [3,8] (λa v8 wr=>∃(i:je) (f:ji),a=f/\v8=I N i/\i<=n/\jk (wr.ownsRow w 165 4 f i (ia (l.take i)))/\jk (jl w w wr)) (λ_ v8 _=>n-(jv v8).toNat)
 case atStart=>exact⟨0,_,T,T,jJ _,O (by simpa [ia,cS]using j0 w w.heap.size 165 4),O (jy _ _)⟩
 obtain⟨i,f,rfl,rfl,H,m,b⟩:=hrel
 by_cases q:i<n
 ·have B:=aA ((i:jd)<(n:jd))
  have C:=aA (i<n);obtain⟨g,o,rfl,r⟩:=k Y;have d:i<l.length:=by rw[<-j];exact q
  have s:l.getD i 0=l[i]:=by simp[jO,d]
  obtain⟨y,h⟩:=J (l.getD i 0);have a:=r i q;rw[<-h]at a;have K:wr.cell? ⟨g,o+i,A⟩=ja (I N y):=(dY (b.block g (gg a))).trans a;have D:jk (ia (l.take (i+1))=ia (l.take i)++[I N 1,I N y,jj ⟨#[]⟩,jb A 0 0]):=O (by
   rw[o3 d,IQ,h,s])
  have E:=b.size;clear s h a r d k
  go_wp2_with fail
  refine(kQ y wr).mono ?_;rintro e a ⟨rfl,d⟩;have h:=bD m d;have s:=O (b.trans (d.mono E));have M:=d.size;clear d
  go_wp2_with (at_builtin;refine Hid.out ?_)
  refine O ?_;refine o1 T λ_ r=>ra _ _ T w.heap.size _ _ _ T (cK h (ao a _)) _ 1 [I N 1,I N y,jj ⟨#[]⟩,jb A 0 0] T (lB a [I N 1,I N y,jj ⟨#[]⟩,jb A 0 0] _ _ 4 1 1 T (jn _)) (by simp[j1]) (show i+1<=4000000 by omega) (by rw[jC];omega) λP Q d=>r _ _ ?_
  have F:=O (s.trans (((ao a _).mono (show w.heap.size<=a.heap.size by omega)).trans (d.below (cK h (ao a _)) (by rw[jC];omega))));replace d:=O d.own;clear r
  go_wp2_with fail
  refine⟨⟨i+1,_,T,by go_num,by omega,O (by rw[D];exact d),F⟩,?_⟩;simp only[jv];omega
 have B:=az ((i:jd)<(n:jd));have C:=az (i<n);have a:i=n:=Y;have d:=O a;clear a
 go_wp2_with fail
 go_ret;refine⟨_,T,?_,b⟩;have h:=m.out;rw[d,nv (by rw[<-j];exact jn _)]at h;exact h
section
variable{b:je}{D:je->Prop}{w w':jg}
section
variable {α:Type}
def dS(f:α->ji->jh ji):jh α->jh ji->jh ji
 |x::xs,u::a=>f x u++dS f xs a
 |_,_=>[]
theorem Dn(f:α->ji->jh ji):∀(l m:jh α) (a b:jh ji),a.length=l.length->dS f (l++m) (a++b)=dS f l a++dS f m b
 |[],m,a,b,h=>by
  have:a=[]:=qs (ak h);subst this
  cases m<;>cases b<;>simp[dS]
 |x::l,m,[],b,h=>by simp at h
 |x::l,m,u::a,b,h=>by
  simp only[qb,dS,Dn f l m a b (ak h),j6]
theorem wX(f:α->ji->jh ji)(k:je)(b:∀x u,(f x u).length=k):∀(l:jh α) (a:jh ji) (j i:je) (x:α) (u:ji),l[j]?=ja x->a[j]?=ja u->i<k->(dS f l a)[j*k+i]?=(f x u)[i]?
 |[],a,j,i,x,u,h,_,_=>by simp at h
 |y::l,[],j,i,x,u,_,h,_=>by simp at h
 |y::l,v::a,0,i,x,u,h,c,d=>by
  have e:y=x:=ak h;have g:v=u:=ak c;subst e;subst g;show(f y v++dS f l a)[0*k+i]?=_;rw[qT,ms,qJ (by rw[b];exact d)]
 |y::l,v::a,j+1,i,x,u,h,c,d=>by
  show(f y v++dS f l a)[(j+1)*k+i]?=_;have g:(f y v).length=k:=b _ _;have e:(j+1)*k=k+j*k:=by rw[sh];omega
  rw[qK (by rw[g,e];omega),g,show(j+1)*k+i-k=j*k+i by omega];exact wX f k b l a j i x u (ak h) (ak c) d
theorem flat_length(f:α->jh ji)(k:je)(a:∀x,(f x).length=k)(l:jh α):(l.flatMap f).length=l.length*k:=by
 induction l with
 |nil=>simp
 |cons x l b=>rw[sl,jL,b,a,jW,sh];omega
theorem flat_get(f:α->jh ji)(k:je)(a:∀x,(f x).length=k):∀(l:jh α) (j i:je) (x:α),l[j]?=ja x->i<k->(l.flatMap f)[j*k+i]?=(f x)[i]?
 |[],j,i,x,h,_=>by simp at h
 |y::l,0,i,x,h,b=>by
  have e:y=x:=ak h;subst e;rw[sl,qT,ms,qJ (by rw[a];exact b)]
 |y::l,j+1,i,x,h,b=>by
  have e:(j+1)*k=k+j*k:=by rw[sh];omega
  rw[sl,qK (by rw[a,e];omega),a,show(j+1)*k+i-k=j*k+i by omega];exact flat_get f k a l j i x (ak h) b
end
def eA(D:je->Prop)(w:jg):jh (LBy)->jh ji->Prop
 |[],a=>a=[]
 |b::d,a=>∃u c,a=u::c/\aH D w u 1 b.length (b.map v8)/\eA D w d c
theorem eA.keep(d:∀g,D g->w'.heap[g]?=w.heap[g]?):∀{c:jh (LBy)} {a:jh ji},eA D w c a->eA D w' c a
 |[],a,h=>h
 |b::c,a,⟨u,e,f,g,i⟩=>⟨u,e,f,g.keep d,i.keep d⟩
theorem eA.mono{D':je->Prop}(d:∀g,D g->D' g):∀{c:jh (LBy)} {a:jh ji},eA D w c a->eA D' w c a
 |[],a,h=>h
 |b::c,a,⟨u,e,f,g,i⟩=>⟨u,e,f,g.mono d,i.mono d⟩
theorem eA.len:∀{c:jh (LBy)} {a:jh ji},eA D w c a->a.length=c.length
 |[],a,h=>by rw[show a=[]from h];rfl
 |b::c,a,⟨u,f,d,g,e⟩=>by rw[d];simp[e.len]
theorem eA.at:∀{d:jh (LBy)} {a:jh ji} {i:je} {b:LBy},eA D w d a->d[i]?=ja b->∃u,a[i]?=ja u/\aH D w u 1 b.length (b.map v8)
 |[],a,i,x,h,c=>by simp at c
 |y::l,a,i,x,⟨u,n,f,g,j⟩,c=>by
  subst f
  rcases i with _|i
  ·have e:y=x:=ak c
   subst e;exact⟨u,T,g⟩
  obtain⟨e,k,m⟩:=j.at (i:=i) (ak c);exact⟨e,by simpa using k,m⟩
theorem eA.snoc{b:LBy}{u:ji}(d:aH D w u 1 b.length (b.map v8)):∀{c:jh (LBy)} {a:jh ji},eA D w c a->eA D w (c++[b]) (a++[u])
 |[],a,h=>by rw[show a=[]from h];exact⟨u,[],T,d,T⟩
 |x::c,a,⟨v,e,f,g,i⟩=>⟨v,e++[u],by rw[f];rfl,g,i.snoc d⟩
theorem aH.bytes{v:ji}{l:LBy}(h:aH D w v 1 l.length (l.map v8)):bj w v l:=by
 obtain⟨-,p,c,b,d,f,i⟩:=h;refine⟨p,c,b,d,f,λk=>?_⟩;obtain⟨g,o,e,-,m⟩:=i k;refine⟨g,o,e,λj a=>m j _ ?_⟩;rw[qu,oj a];simp[jO,a]
theorem aH.form{u:ji}{i:je}{d:jh ji}(h:aH D w u b i d):∃p c,u=jb p i c:=by
 obtain⟨-,p,c,a,-⟩:=h;exact⟨p,c,a⟩
theorem aH.of_own{B sz n:je}{e:jH}{v:ji}{xs:jh ji}(h:w.ownsRow B e sz v n xs)(a:∀g,v.ownBlock=ja g->D g):aH D w v sz n xs:=by
 obtain⟨b,p,c,rfl,d,f,i⟩:=cF.of_own h;refine⟨b,p,c,T,d,f,λj=>?_⟩;obtain⟨g,o,rfl,k⟩:=i j;exact⟨g,o,T,a g T,k⟩
def ap.cells(x:ap):jh ji:=[I N x.k,I N x.d,I N x.p,I N x.v,I N x.c]
def Bx.cells(x:Bx)(u:ji):jh ji:=[I N x.node,I N x.lev,I N x.u,u]
def Wl.cells(x:Wl)(u:ji):jh ji:=[I N x.dev,I N x.u,u]
structure CQ where
 vc:ji
 vp:ji
 vb:ji
 vw:ji
def aF(c:Cmt)(q:CQ):jh ji:=
 I N c.folder::I N c.epoch::(c.parent.map v8++(I N c.author::q.vc::q.vp::q.vb::q.vw::(c.confirm.map v8++[I N c.r,I N c.s])))
structure aS(D:je->Prop)(w:jg)(c:Cmt)(q:CQ):Prop where
 chg:aH D w q.vc 5 c.chg.length (c.chg.flatMap ap.cells)
 path:aH D w q.vp 1 c.path.length (c.path.map (jE .i64))
 box:∃a,aH D w q.vb 4 c.box.length (dS Bx.cells c.box a)/\eA D w (c.box.map Bx.body) a
 wel:∃a,aH D w q.vw 3 c.wel.length (dS Wl.cells c.wel a)/\eA D w (c.wel.map Wl.body) a
 plen:c.parent.length=32
 clen:c.confirm.length=32
theorem aS.keep{c:Cmt}{q:CQ}(h:aS D w c q)(a:∀g,D g->w'.heap[g]?=w.heap[g]?):aS D w' c q:=by
 obtain⟨b,d,⟨e,f,g⟩,⟨i,j,k⟩,l,m⟩:=h;exact⟨b.keep a,d.keep a,⟨e,f.keep a,g.keep a⟩,⟨i,j.keep a,k.keep a⟩,l,m⟩
theorem aS.mono{D':je->Prop}{c:Cmt}{q:CQ}(h:aS D w c q)(a:∀g,D g->D' g):aS D' w c q:=by
 obtain⟨b,d,⟨e,f,g⟩,⟨i,j,k⟩,l,m⟩:=h;exact⟨b.mono a,d.mono a,⟨e,f.mono a,g.mono a⟩,⟨i,j.mono a,k.mono a⟩,l,m⟩
theorem aS.below{c:Cmt}{q:CQ}(h:aS (·<w.heap.size) w c q)(b:jl w w w'):aS (·<w'.heap.size) w' c q:=
 (h.keep λg a=>b.block g a).mono λg (a:g<w.heap.size)=>jN a b.size
structure dV(w:jg)(b:je)(c:Cmt)(q:CQ):Prop where
 blk:w.heap[b]?=ja (jc (aF c q).toArray 34 (0,0))
 plen:c.parent.length=32
 clen:c.confirm.length=32
theorem dx(c:Cmt)(q:CQ)(a:c.parent.length=32)(b:c.confirm.length=32):(aF c q).length=73:=by
 unfold aF;simp[a,b]
theorem dV.keep{c:Cmt}{q:CQ}(h:dV w b c q)(a:w'.heap[b]?=w.heap[b]?):dV w' b c q:=⟨a.trans h.blk,h.plen,h.clen⟩
theorem dV.get{a:Cmt}{q:CQ}(h:dV w b a q){i:je}{v:ji}(c:(aF a q)[i]?=ja v):w.cell? ⟨b,i,A⟩=ja v:=
 ai h.blk (ak c)
theorem kB(c:Cmt)(q:CQ)(d:c.parent.length=32)(e:c.confirm.length=32):
 (aF c q)[0]?=ja (I N c.folder)/\(aF c q)[1]?=ja (I N c.epoch)/\(aF c q)[34]?=ja (I N c.author)/\(aF c q)[35]?=ja q.vc/\(aF c q)[36]?=ja q.vp/\
 (aF c q)[37]?=ja q.vb/\(aF c q)[38]?=ja q.vw/\(aF c q)[71]?=ja (I N c.r)/\(aF c q)[72]?=ja (I N c.s):=by
 have k:∀(l r:jh ji) (i:je),l.length=32->(l++r)[32+i]?=r[i]?:=λl r i f=>by
  rw[qK Y,f];congr 1;omega
 have a:(c.parent.map v8).length=32:=by rw[jD];exact d
 have b:(c.confirm.map v8).length=32:=by rw[jD];exact e
 unfold aF;refine⟨T,T,?_,?_,?_,?_,?_,?_,?_⟩
 ·exact k _ _ 0 a
 ·exact k _ _ 1 a
 ·exact k _ _ 2 a
 ·exact k _ _ 3 a
 ·exact k _ _ 4 a
 ·exact(k _ _ (5+32) a).trans (k _ _ 0 b)
 exact(k _ _ (5+33) a).trans (k _ _ 1 b)
theorem C8(c:Cmt)(q:CQ)(d:c.parent.length=32){j:je}(f:j<32):(aF c q)[2+j]?=ja (I .u8 (c.parent.getD j 0).toNat):=by
 unfold aF;have e:∀(a b:ji) (l:jh ji),(a::b::l)[2+j]?=l[j]?:=λa b l=>by rw[show 2+j=j+1+1 by omega];rfl
 rw[e,qJ (by rw[jD];omega),qu,oj Y];simp[jO,d,f]
theorem NX(c:Cmt)(q:CQ)(g:c.parent.length=32)(h:c.confirm.length=32){j:je}(i:j<32):(aF c q)[39+j]?=ja (I .u8 (c.confirm.getD j 0).toNat):=by
 unfold aF;have e:∀(a b:ji) (l:jh ji),(a::b::l)[39+j]?=l[37+j]?:=λa b l=>by rw[show 39+j=37+j+1+1 by omega];rfl
 have k:(c.parent.map v8).length=32:=by rw[jD];exact g
 have m:∀(a b c d f:ji) (l:jh ji),(a::b::c::d::f::l)[5+j]?=l[j]?:=λa b c d f l=>by rw[show 5+j=j+1+1+1+1+1 by omega];rfl
 rw[e,qK Y,k,show 37+j-32=5+j by omega,m,qJ (by rw[jD];omega),qu,oj Y];simp[jO,h,i]
theorem dV.parent{c:Cmt}{q:CQ}(h:dV w b c q):bj w (jb (ja ⟨b,2,A⟩) 32 32) c.parent:=
 ⟨_,32,by rw[h.plen],by rw[h.plen];exact jn _,(λe=>by cases e),λ_=>⟨b,2,T,λj a=>h.get (C8 c q h.plen (by rw[h.plen]at a;exact a))⟩⟩
theorem dV.confirm{c:Cmt}{q:CQ}(h:dV w b c q):bj w (jb (ja ⟨b,39,A⟩) 32 32) c.confirm:=
 ⟨_,32,by rw[h.clen],by rw[h.clen];exact jn _,(λe=>by cases e),λ_=>⟨b,39,T,λj a=>h.get (NX c q h.plen h.clen (by rw[h.clen]at a;exact a))⟩⟩
structure Bld(M b:je)(w0 wr:jg)(l:jh Val)(a:ji)(c:jh ji):Prop where
 box:wr.heap[b]?=ja (jc #[I N 3,I N 0,jj ⟨#[]⟩,a] 165 (0,0))
 own:wr.ownsRow M 165 4 a l.length (cS l c)
 kids:aM (λg=>M<=g/\g<wr.heap.size/\a.ownBlock≠ja g) wr l c
 but:dw b M w0 wr
 sz:M<=wr.heap.size
theorem Bld.start{M a:je}(b:w.heap[a]?=ja (jc #[I N 3,I N 0,jj ⟨#[]⟩,dF] 165 (0,0)))(c:M<=w.heap.size):Bld M a w w [] dF []:=
 ⟨b,by simpa [cS]using j0 w M 165 4,by rw[aM],dw.refl _ _ _,c⟩
theorem Bld.later{i:je}{e wr:jg}{l:jh Val}{u:ji}{d:jh ji}(h:Bld b i w e l u d)(c:i<b)(a:jl e e wr):Bld b i w wr l u d:=
 ⟨(a.block i (jN c h.sz)).trans h.box,cK h.own a,aM.mono (λg M=>⟨M.1,jN M.2.1 a.size,M.2.2⟩) l d (aM.keep (λg M=>a.block g M.2.1) l d h.kids),
  h.but.trans (dw.of_below (a.mono h.sz)) (jn _),jz h.sz a.size⟩
theorem Bld.push{M i:je}{w0 c o j:jg}{l:jh Val}{m n:ji}{f:jh ji}(h:Bld M i w0 c l m f)(C:i<M){x:Val}{u:ji}
 (r:aV (λg=>M<=g/\g<c.heap.size/\m.ownBlock≠ja g) c x u) (a:cG M 165 4 c o m n (l.length+1) (cS l f++gS x u))
 (s:j.heap[i]?=ja (jc #[I N 3,I N 0,jj ⟨#[]⟩,n] 165 (0,0))) (b:pY i o j):Bld M i w0 j (l++[x]) n (f++[u]):=by
 have t:=h.kids.len;have p:∀g,(M<=g/\g<c.heap.size/\m.ownBlock≠ja g)->j.heap[g]?=c.heap[g]?:=λg d=>
  (b.block g Y).trans (a.grown.block g d.2.1 (λe=>d.2.2 e.symm))
 have k2:∀g,(M<=g/\g<c.heap.size/\m.ownBlock≠ja g)->(M<=g/\g<j.heap.size/\n.ownBlock≠ja g):=λg d=>
  ⟨d.1,by rw[b.size];exact jN d.2.1 a.grown.size,a.ne d.2.1 d.2.2⟩
 refine⟨s,?_,aM.append (aM.mono k2 _ _ (aM.keep p _ _ h.kids)) (aM.one (aV.mono k2 _ _ (aV.keep p _ _ r))),?_,?_⟩
 ·have e:cS (l++[x]) (f++[u])=cS l f++gS x u:=by
   rw[sT l [x] f [u] t];simp[cS]
  rw[e,jL];have q:=a.own;refine⟨q.1,?_⟩
  rcases q.2 with k|⟨g,v,w,y,k,z,B⟩
  ·exact .inl k
  exact .inr ⟨g,v,w,y,k,(b.block g Y).trans z,B⟩
 ·refine h.but.trans ⟨b.os.trans a.grown.os,b.tape.trans a.grown.tape,b.output.trans a.grown.output,by rw[b.size];exact a.grown.size,λk q v=>?_⟩ (jn _)
  refine(b.block k v).trans (a.grown.block k (jN q h.sz) (λe=>?_));have:=(h.own.lt k e.symm).1;omega
 rw[b.size];exact jz h.sz a.grown.size
end
theorem lh{w':jS je}(h:w.heap[B]?=ja o)(b:w.grownBy a w')(c:w'≠ja B):a.heap[B]?=ja o:=
 (b.block B (jK.1 h).1 (λe=>c e.symm)).trans h
theorem av(h:w.heap[B]?=ja o)(w':jl w w a):a.heap[B]?=ja o:=
 (w'.block B (jK.1 h).1).trans h
theorem Bld.fresh{l:jg}(h:Bld B m w a b u f)(o:jl a a l){e:jH}{sz n:je}{c:ji}{xs:jh ji}(i:l.ownsRow a e sz c n xs):
 ∀g,c.ownBlock=ja g->B<=g/\g<l.heap.size/\u.ownBlock≠ja g:=λg j=>by
 obtain⟨k,d⟩:=i.lt g j;exact⟨jz h.sz k,d,λe=>by have:=(h.own.lt g e).2;omega⟩
theorem Bld.fin(h:Bld B m w a b u f):aV (λg=>B<=g/\g<a.heap.size) a (vL b) u:=by
 rw[vL,aV];exact⟨f,aH.of_own h.own (λg wr=>h.own.lt g wr),aM.mono (λg wr=>⟨wr.1,wr.2.1⟩) b f h.kids⟩
theorem sw{l:jh jd}(a:w.ownsRow B 165 4 u l.length (ia l))(b:∀g,u.ownBlock=ja g->D g):aV D w (vL (l.map vI)) u:=by
 rw[vL,aV];exact⟨j9 l.length dF,by rw[jD];exact aH.of_own a b,yg l⟩
theorem P4(W:jg)(l:jh jd)(t:jH):c8 (W.alloc (jc (l.map (jE .i64)).toArray t)) (jb (ja ⟨W,0,A⟩) l.length l.length) l:=by
 refine⟨_,l.length,T,jn _,λ_=>⟨W.heap.size,0,T,λj a=>?_⟩⟩;refine ai (js W _) ?_;rw[ms];simp[jO,a]
theorem uY(W:jg)(xs:jh ji)(t:jH)(sz n B:je)(b:B<=W.heap.size)(a:xs.length=n*sz)(c:n<=j3):(W.alloc (jc xs.toArray t)).ownsRow B t sz (jb (ja ⟨W,0,A⟩) n n) n xs:=by
 refine⟨a,.inr ⟨W.heap.size,n,xs.toArray,T,b,js W _,jn _,c,by simpa using a,?_⟩⟩;simp[<-a]
theorem wV{α:Type}{l:jh α}{j:je}(h:j<l.length):∃x,l[j]?=ja x/\l.take (j+1)=l.take j++[x]:=
 ⟨l[j],oj h,o3 h⟩
theorem aM.nil:aM D w [] []:=by rw[aM]
theorem aM.cons{x:Val}(h:aV D w x u)(t:aM D w b f):aM D w (x::b) (u::f):=by
 rw[aM];exact⟨u,f,T,h,t⟩
theorem aH.ints{v:ji}{l:jh jd}(h:aH D w v 1 l.length (l.map (jE .i64))):c8 w v l:=by
 obtain⟨-,p,c,b,d,m,f⟩:=h;refine⟨p,c,b,d,λi=>?_⟩;obtain⟨g,o,e,-,k⟩:=f i;refine⟨g,o,e,λj a=>k j _ ?_⟩;rw[qu,oj a];simp[jO,a]
def vG(w w':jg)(c:Cmt)(v:ji):Prop:=∃a,w'.ownsRow w 165 4 v 11 (cS (aR c) a)/\aM (λg=>w.heap.size<=g/\g<w'.heap.size) w' (aR c) a
theorem rt(k:r)(h:r->p:=by intro k;refine fY (v:=?_) rfl aj (λW' hS=>?_) ?_;rotate_left;(have k3:=ai (i:=3) hS.1 rfl;have e0:=ai (i:=0) hS.2 rfl;have e1:=ai (i:=1) hS.2 rfl;have e2:=ai (i:=2) hS.2 rfl;have e3:=ai (i:=3) hS.2 rfl;have e4:=ai (i:=4) hS.2 rfl;go_simp;with_reducible rfl);refine L ?_;exact k):p:=h k
theorem ud(k:r)(h:r->p:=by intro k;refine fY (v:=?_) rfl aj (λW' hS=>?_) ?_;rotate_left;(have k3:=ai (i:=3) hS.1 rfl;have e0:=ai (i:=0) hS.2 rfl;have e1:=ai (i:=1) hS.2 rfl;have e2:=ai (i:=2) hS.2 rfl;have e3:=ai (i:=3) hS.2 rfl;go_simp;with_reducible rfl);refine L ?_;exact k):p:=h k
theorem wD(k:r)(h:r->p:=by intro k;refine fY (v:=?_) rfl aj (λW' hS=>?_) ?_;rotate_left;(have k3:=ai (i:=3) hS.1 rfl;have e0:=ai (i:=0) hS.2 rfl;have e1:=ai (i:=1) hS.2 rfl;have e2:=ai (i:=2) hS.2 rfl;go_simp;with_reducible rfl);refine L ?_;exact k):p:=h k
theorem tv(c:Cmt)(q:CQ)(w:jg)(d:aS (·<w.heap.size) w c q)(l1:c.chg.length<=1000000)(l2:c.path.length<=1000000)(l3:c.box.length<=1000000)(l4:c.wel.length<=1000000):
 jr jm 44 #[jq (aF c q).toArray] w λe w'=>∃v,e=jo v/\vG w w' c v/\jl w w w':=by
 have h:dV (w.alloc (jc (aF c q).toArray 34)) w.heap.size c q:=⟨js w _,d.plen,d.clen⟩;have i:=ao w (jc (aF c q).toArray 34);have X:=O d;have y:=O h;have C:=O i;obtain⟨UU,f⟩:=J ((aF c q).toArray);rw[<-f]at y C⊢;have bh:=O f;obtain⟨b,g⟩:=J w.heap.size;rw[<-g]at y;have cm:=O g;clear h i d f g
 go_enter func44,ntmps44
 go_wp2_with fail
 refine(m5 A 0 0 _).mono ?_;rintro e w1 ⟨rfl,d⟩;replace y:=O (y.keep (d.block b (by rw[cm];simp)));replace C:=ah C d;clear d
 go_wp2_with fail
 refine(m5 A 0 0 _).mono ?_;rintro e w2 ⟨rfl,d⟩;have f:=(jK.1 y.blk).1;replace y:=O (y.keep (d.block b f));replace C:=ah C d;clear d f
 go_wp2_with fail
 refine(m5 A 0 0 _).mono ?_;rintro e w3 ⟨rfl,d⟩;have f:=(jK.1 y.blk).1;replace y:=O (y.keep (d.block b f));replace C:=ah C d;clear d f
 go_upto_region 2 with fail
 obtain⟨r,h⟩:=J w3.heap.size;have m:=js w3 (jc #[I N 3,I N 0,jj ⟨#[]⟩,jb A 0 0] 165);have bk:=js (w3.alloc (jc #[I N 3,I N 0,jj ⟨#[]⟩,jb A 0 0] 165)) (jc #[I N 3,I N 0,jj ⟨#[]⟩,jb A 0 0] 165);have Yv:=js ((w3.alloc (jc #[I N 3,I N 0,jj ⟨#[]⟩,jb A 0 0] 165)).alloc (jc #[I N 3,I N 0,jj ⟨#[]⟩,jb A 0 0] 165)) (jc #[I N 3,I N 0,jj ⟨#[]⟩,jb A 0 0] 165);have k:jl w3 w3 (((w3.alloc (jc #[I N 3,I N 0,jj ⟨#[]⟩,jb A 0 0] 165)).alloc (jc #[I N 3,I N 0,jj ⟨#[]⟩,jb A 0 0] 165)).alloc (jc #[I N 3,I N 0,jj ⟨#[]⟩,jb A 0 0] 165)):=(((jy _ w3).alloc (jn _) _).alloc ar _).alloc (by simp;omega) _;obtain⟨W,i⟩:=J ((((w3.alloc (jc #[I N 3,I N 0,jj ⟨#[]⟩,jb A 0 0] 165)).alloc (jc #[I N 3,I N 0,jj ⟨#[]⟩,jb A 0 0] 165)).alloc (jc #[I N 3,I N 0,jj ⟨#[]⟩,jb A 0 0] 165)));have n:W.heap[r]?=ja (jc #[I N 3,I N 0,jj ⟨#[]⟩,dF] 165 (0,0)):=by
  rw[i,h,jF _ _ _ (by simp;omega),jF _ _ _ ar];exact m
 have o:W.heap[r+1]?=ja (jc #[I N 3,I N 0,jj ⟨#[]⟩,dF] 165 (0,0)):=by
  rw[i,h,jF _ _ _ ar];simpa using bk
 have p:W.heap[r+2]?=ja (jc #[I N 3,I N 0,jj ⟨#[]⟩,dF] 165 (0,0)):=by
  rw[i,h];simpa using Yv
 have s:W.heap.size=r+3:=by rw[i,h];simp
 rw[<-i]at k⊢;have f:=(jK.1 y.blk).1;replace y:=O (y.keep (k.block b f));have t:w.heap.size<=r:=by rw[h];exact C.size
 replace C:=ah C k;have x:b<r:=by rw[h];exact f
 have u:=O t;have YX:=O x;have cs:=O n;have Vf:=O o;have Vt:=O p;have Vj:=O s;rw[<-h,<-cm];have cp:jk (∀g,g<w.heap.size->W.heap[g]?=w.heap[g]?):=O (λg B=>C.block g B);clear m bk Yv n o p k f t x s i h;obtain⟨c0,c1,ZE,Zd,bi,a2,a3,bl,bm⟩:=kB c q X.plen X.clen;replace Zd:=y.get Zd;obtain⟨bC,p1,q1,a4,bI,bK,Wq⟩:=X.chg;obtain⟨n1,a5⟩:=J c.chg.length;rw[a4]at Zd;rw[<-a5]at Zd l1 bI;have b2:=O a5;have V:=O Wq;clear c0 c1 ZE bi a2 a3 bl bm bC a4 bK a5 Wq
 go_wp2_with fail
 have Wo:=O (Bld.start (M:=(r+3)) cs (qg Vj.symm))
 go_loopw [18] (λv wr=>∃(i:je) (vr:ji) (us:jh ji),v=I N i/\i<=n1/\jk (Bld (r+3) r W wr ((c.chg.take i).map ap.val) vr us)) (λv _=>n1-(jv v).toNat)
 case atStart=>exact⟨0,dF,[],T,jJ _,Wo⟩
 clear Wo Zd;obtain⟨i,vr,us,rfl,hi,m⟩:=hrel
 by_cases bn:i<n1
 ·have hd:=aA ((i:jd)<(n1:jd))
  have UY:=aA (i<n1);obtain⟨g,o,rfl,b3,bo⟩:=V (aI b2);obtain⟨x,hx,bp⟩:=wV (l:=c.chg) (j:=i) (by rw[<-b2];exact bn);have bq:g<(r+3):=aI u;have br:g≠r:=aI u;have Vv:=(m.but.block g bq br).trans (cp g b3);have aa:=λk hk=>(dY (a:=⟨g,o+(i*5+k),A⟩) Vv).trans (bo (i*5+k) _ ((flat_get ap.cells 5 (λ_=>rfl) c.chg i k x hx hk).trans (show x.cells[k]?=ja (x.cells.getD k (I N 0)) by have:x.cells.length=5:=T;simp[jO,oj (show k<x.cells.length by omega)])))
  have d0:wr.cell? ⟨g,o+i*5,A⟩=ja (I N x.k):=aa 0 G;have d1:wr.cell? ⟨g,o+i*5+1,A⟩=ja (I N x.d):=aa 1 G;have d2:wr.cell? ⟨g,o+i*5+2,A⟩=ja (I N x.p):=aa 2 G;have p:wr.cell? ⟨g,o+i*5+3,A⟩=ja (I N x.v):=aa 3 G;have f:wr.cell? ⟨g,o+i*5+4,A⟩=ja (I N x.c):=aa 4 G;have b4:=O bp;clear bq br Vv aa bo hx bp;obtain⟨P,Q,ad⟩:=cN m.own;have a6:((c.chg.take i).map ap.val).length=i:=by rw[jD,qf,<-b2];omega
  rw[a6]at ad;have bs:=O a6;subst ad;clear a6
  go_upto_region 5 with fail
  obtain⟨bx,ba⟩:=J wr.heap.size;have ay:=js wr (jc #[I N x.k,I N x.d,I N x.p,I N x.v,I N x.c] 56);have n:=ao wr (jc #[I N x.k,I N x.d,I N x.p,I N x.v,I N x.c] 56);have Z4:jk ((jP P i Q).ownBlock≠ja bx):=O (eX m.own (.inl (qg ba.symm)));rw[<-ba]at ay⊢;obtain⟨R,Zp⟩:=J (wr.alloc (jc #[I N x.k,I N x.d,I N x.p,I N x.v,I N x.c] 56));rw[<-Zp]at ay n⊢;have bb:=n.trans ((bV R).mono n.size);have a1:jk (Bld (r+3) r W R.drew ((c.chg.take i).map ap.val) (jb P i Q) us):=O (m.later Y bb);have E:R.drew.heap[r]?=ja (jc #[I N 3,I N 0,jj ⟨#[]⟩,jb P i Q] 165 (0,0))/\R.drew.heap[bx]?=ja (jc #[I N x.k,I N x.d,I N x.p,I N x.v,I N x.c] 56 (0,0)):=⟨a1.box,ay⟩;clear ay n Zp ba m bb d0 d1 d2 p f;refine jT ?_;refine lL (λF=>F.heap[r]?=ja (jc #[I N 3,I N 0,jj ⟨#[]⟩,jb P i Q] 165 (0,0))/\F.heap[bx]?=ja (jc #[I N x.k,I N x.d,I N x.p,I N x.v,I N x.c] 56 (0,0))) 18 [(0,jf),(1,jf),(2,jf),(3,jf),(4,jf),(5,jf),(6,jf),(7,jf),(8,jf),(9,jf),(10,jf),(11,jf),(12,jp),(13,jp),(14,jp),(15,jp),(16,jp),(17,jf),(18,jp)] af af af G (λ_ _ _ _ h=>h) E ?_;generalize R.drew=wa at E a1⊢;refine fE ?_;refine rt ?_;refine fE ?_;refine rt ?_;refine fE ?_;refine rt ?_;refine fE ?_;refine rt ?_;refine fE ?_;refine rt ?_;refine fE ?_;refine rt ?_;refine dn T (λt f=>?_);go_simp;have n:=ao wa (jc #[I N x.k,I N x.d,I N x.p,I N x.v,I N x.c] 3);have s:c8 (wa.alloc (jc #[I N x.k,I N x.d,I N x.p,I N x.v,I N x.c] 3)) (jb (ja ⟨wa,0,A⟩) 5 5) [x.k,x.d,x.p,x.v,x.c]:=P4 wa [x.k,x.d,x.p,x.v,x.c] 3;refine f _ _ ⟨av E.1 n,av E.2 n⟩ λS=>?_
  clear f;generalize wa.alloc (jc #[I N x.k,I N x.d,I N x.p,I N x.v,I N x.c] 3)=wb at n s S⊢;have z:=O n;have H:=O s;clear n s;refine L ?_;refine dn T (λt f=>?_);go_simp;refine(tJ _ _ wb H ar).mono ?_;rintro e wc ⟨u1,rfl,D,d⟩;obtain⟨s,cu,rfl⟩:=cN D;refine f _ _ ⟨av S.1 d,av S.2 d⟩ λU=>?_
  have Wi:jk (wc.ownsRow wa 165 4 (jb s 5 cu) 5 (ia [x.k,x.d,x.p,x.v,x.c])):=O (sG D z.size);have bu:=ah z d;clear f D d H z S;refine L ?_;refine dn T (λt f=>?_);go_simp;refine(m5 s 5 cu wc).mono ?_;rintro e wd ⟨rfl,d⟩;refine f _ _ ⟨av U.1 d,av U.2 d⟩ λau=>?_
  have Vw:=bD Wi d;have bv:=ah bu d;clear f d Wi bu U;refine L ?_;refine dn T (λt f=>?_);go_simp;have n:=ao wd (jc #[I N 3,I N 0,jj ⟨#[]⟩,jb s 5 cu] 165);have ax:=lB wd [I N 3,I N 0,jj ⟨#[]⟩,jb s 5 cu] 165 (0,0) 4 1 1 T (jn _);refine f _ _ ⟨av au.1 n,av au.2 n⟩ λH=>?_
  clear f;replace ax:cF (wd.alloc (jc #[I N 3,I N 0,jj ⟨#[]⟩,jb s 5 cu] 165)) (jb (ja ⟨wd,0,A⟩) 1 1) 4 1 [I N 3,I N 0,jj ⟨#[]⟩,jb s 5 cu]:=ax;generalize wd.alloc (jc #[I N 3,I N 0,jj ⟨#[]⟩,jb s 5 cu] 165)=we at n ax H⊢;have YI:=bD Vw n;have YH:=ah bv n;have Vm:=O ax;have Vh:=O (a1.later Y YH);have b5:=O (sw (l:=[x.k,x.d,x.p,x.v,x.c]) YI (a1.fresh YH YI));clear n ax Vw bv au;refine L ?_;refine dn T (λt f=>?_);rw[jB aj];refine ra _ _ T (r+3) (jb P i Q) _ _ T Vh.own _ 1 _ T Vm (by simp[j1]) (by rw[bs];omega) Vh.sz λv' wf K=>?_
  have UO:=K.own;rw[bs]at UO;obtain⟨pn,cn,rfl⟩:=cN UO;have bk:=lh H.1 K.grown (eX Vh.own (.inr Y));have Yv:=lh H.2 K.grown Z4;refine f _ _ ⟨bk,Yv⟩ λbM=>?_
  replace K:=O K;clear f H UO;refine L ?_;refine fE ?_;refine pG T (λt f=>?_);obtain⟨⟨vo,c3⟩,f3,bw,bA⟩:=kr (i:=3) (jb pn (i+1) cn) bM.1 ar;go_simp;refine f _ _ ?_;have b6:=O (Vh.push Y (x:=ap.val x) b5 K bw bA);clear f c3 f3 bw bA;refine jR ?_
  go_wp2_with fail
  refine⟨⟨i+1,_,_,by go_num,by omega,by rw[b4,j4];exact b6⟩,?_⟩;simp only[jv];omega
 have hd:=az ((i:jd)<(n1:jd));have UY:=az (i<n1);have bB:c.chg.take i=c.chg:=nv (by rw[<-b2];omega);replace m:jk (Bld (r+3) r W wr (c.chg.map ap.val) vr us):=O (by rw[<-bB];exact m);clear bB V;obtain⟨bc,bd,ad⟩:=cN m.own;rw[jD,<-b2]at ad;subst ad;have Z5:=O m.fin;obtain⟨M2,hM⟩:=J wr.heap.size;have V8:=O hM;have cv:(r+3)<=M2:=by rw[hM];exact m.sz
 rw[<-hM]at Z5;have cg:jk (∀g,g<w.heap.size->wr.heap[g]?=w.heap[g]?):=O (λg B=>(m.but.block g (aI u) (aI u)).trans (cp g B));replace y:=O (y.keep (m.but.block b (aI YX) (aI YX)));replace C:jk (jl w w wr):=O (C.trans (m.but.below (aI u) (aI u)));have VN:=O m.box;replace Vf:=O ((m.but.block (r+1) Y Y).trans Vf);replace Vt:=O ((m.but.block (r+2) Y Y).trans Vt);clear m;clear hM;rename jg=>W2;obtain⟨c0,c1,ZE,Zd,bi,a2,a3,bl,bm⟩:=kB c q X.plen X.clen;replace a2:=y.get a2;obtain⟨ub,⟨bC,p1,q1,a4,bI,bK,Wq⟩,b7⟩:=X.box;have Wt:=O b7;clear b7;obtain⟨n2,a5⟩:=J c.box.length;rw[a4]at a2;rw[<-a5]at a2 l3 bI;have b8:=O a5;have US:=O Wq;clear c0 c1 ZE Zd bi a3 bl bm bC a4 bK a5 Wq
 go_wp2_with fail
 clear bn hd UY hi;have Wo:=O (Bld.start (M:=M2) Vf (qg V8))
 go_loopw [44] (λv wr=>∃(i:je) (vr:ji) (us:jh ji),v=I N i/\i<=n2/\jk (Bld M2 (r+1) W2 wr ((c.box.take i).map Bx.val) vr us)) (λv _=>n2-(jv v).toNat)
 case atStart=>exact⟨0,dF,[],T,jJ _,Wo⟩
 clear Wo a2;obtain⟨i,vr,us,rfl,hi,m⟩:=hrel
 by_cases bn:i<n2
 ·have hd:=aA ((i:jd)<(n2:jd))
  have UY:=aA (i<n2);obtain⟨g,o,rfl,b3,bo⟩:=US (aI b8);obtain⟨x,hx,bp⟩:=wV (l:=c.box) (j:=i) (by rw[<-b8];exact bn);have bq:g<M2:=aI u;have br:g≠(r+1):=aI u;have Vv:=(m.but.block g bq br).trans (cg g b3);obtain⟨ux,b9,bN⟩:=Wt.at (i:=i) (b:=x.body) (by rw[qu,hx];rfl);obtain⟨z,D,rfl⟩:=bN.form;have aa:=λk hk=>(dY (a:=⟨g,o+(i*4+k),A⟩) Vv).trans (bo (i*4+k) _ ((wX Bx.cells 4 (λ_ _=>rfl) c.box ub i k x _ hx b9 hk).trans (show(x.cells (jb z x.body.length D))[k]?=ja ((x.cells (jb z x.body.length D)).getD k (I N 0)) by have:(x.cells (jb z x.body.length D)).length=4:=T;simp[jO,oj (show k<(x.cells (jb z x.body.length D)).length by omega)])))
  have d0:wr.cell? ⟨g,o+i*4,A⟩=ja (I N x.node):=aa 0 G;have d1:wr.cell? ⟨g,o+i*4+1,A⟩=ja (I N x.lev):=aa 1 G;have d2:wr.cell? ⟨g,o+i*4+2,A⟩=ja (I N x.u):=aa 2 G;have p:wr.cell? ⟨g,o+i*4+3,A⟩=ja (jb z x.body.length D):=aa 3 G;clear b9;have b4:=O bp;clear bq br Vv aa bo hx bp;obtain⟨P,Q,ad⟩:=cN m.own;have a6:((c.box.take i).map Bx.val).length=i:=by rw[jD,qf,<-b8];omega
  rw[a6]at ad;have bs:=O a6;subst ad;clear a6
  go_upto_region 10 with fail
  obtain⟨bx,ba⟩:=J wr.heap.size;have ay:=js wr (jc #[I N x.node,I N x.lev,I N x.u,jb z x.body.length D] 88);have n:=ao wr (jc #[I N x.node,I N x.lev,I N x.u,jb z x.body.length D] 88);have Z4:jk ((jP P i Q).ownBlock≠ja bx):=O (eX m.own (.inl (qg ba.symm)));rw[<-ba]at ay⊢;obtain⟨R,Zp⟩:=J (wr.alloc (jc #[I N x.node,I N x.lev,I N x.u,jb z x.body.length D] 88));rw[<-Zp]at ay n⊢;have bb:=n.trans ((bV R).mono n.size);have a1:jk (Bld M2 (r+1) W2 R.drew ((c.box.take i).map Bx.val) (jb P i Q) us):=O (m.later Y bb);have bO:jk (bj R.drew (jb z x.body.length D) x.body):=O ((bN.keep (λg B=>(bb.block g (jN (show g<M2 by have:=u.out;omega) m.sz)).trans ((m.but.block g (aI u) (aI u)).trans (cg g B)))).bytes);clear bN;have E:R.drew.heap[(r+1)]?=ja (jc #[I N 3,I N 0,jj ⟨#[]⟩,jb P i Q] 165 (0,0))/\R.drew.heap[bx]?=ja (jc #[I N x.node,I N x.lev,I N x.u,jb z x.body.length D] 88 (0,0)):=⟨a1.box,ay⟩;clear ay n Zp ba m bb d0 d1 d2 p;refine jT ?_;refine lL (λF=>F.heap[(r+1)]?=ja (jc #[I N 3,I N 0,jj ⟨#[]⟩,jb P i Q] 165 (0,0))/\F.heap[bx]?=ja (jc #[I N x.node,I N x.lev,I N x.u,jb z x.body.length D] 88 (0,0))) 21 [(0,jf),(1,jf),(2,jf),(3,jf),(5,jf),(6,jf),(8,jf),(9,jf),(10,jf),(12,jf),(13,jf),(14,jf),(4,jp),(7,jp),(11,jp),(15,jp),(16,jp),(17,jp),(18,jp),(19,jp),(20,jf),(21,jp)] af af af G (λ_ _ _ _ h=>h) E ?_;generalize R.drew=wa at E a1 bO⊢;refine fE ?_;refine ud ?_;refine fE ?_;refine ud ?_;refine fE ?_;refine ud ?_;iterate 2 refine fE ?_
  refine ud ?_;iterate 2 refine fE ?_
  refine ud ?_;refine dn T (λt f=>?_);go_simp;refine(kQ x.node wa).mono ?_;rintro e cj ⟨rfl,d⟩;refine f _ _ ⟨av E.1 d,av E.2 d⟩ λbT=>?_
  have ca:=O (d);have cb:=O (bO.below d);clear f d E bO;refine L ?_;refine dn T (λt f=>?_);go_simp;refine(kQ x.lev cj).mono ?_;rintro e ck ⟨rfl,d⟩;refine f _ _ ⟨av bT.1 d,av bT.2 d⟩ λb0=>?_
  have cc:=ah ca d;have cd:=O (cb.below d);clear f d bT ca cb;refine L ?_;refine dn T (λt f=>?_);go_simp;refine(kQ x.u ck).mono ?_;rintro e bg ⟨rfl,d⟩;refine f _ _ ⟨av b0.1 d,av b0.2 d⟩ λp=>?_
  have V:=ah cc d;have bf:=O (cd.below d);clear f d b0 cc cd;refine L ?_;refine dn T (λt f=>?_);go_simp;refine(vY _ x.body bg bf).mono ?_;rintro e wb ⟨rfl,d⟩;refine f _ _ ⟨av p.1 d,av p.2 d⟩ λS=>?_
  have b1:=ah V d;clear f d p V bf;refine L ?_;refine dn T (λt f=>?_);go_simp;have n:=ao wb (jc #[I N 1,I N x.node,jj ⟨#[]⟩,jb A 0 0,I N 1,I N x.lev,jj ⟨#[]⟩,jb A 0 0,I N 1,I N x.u,jj ⟨#[]⟩,jb A 0 0,I N 2,I N 0,jj (ofB x.body),jb A 0 0] 165);have V:=uY wb [I N 1,I N x.node,jj ⟨#[]⟩,jb A 0 0,I N 1,I N x.lev,jj ⟨#[]⟩,jb A 0 0,I N 1,I N x.u,jj ⟨#[]⟩,jb A 0 0,I N 2,I N 0,jj (ofB x.body),jb A 0 0] 165 4 4 wa.heap.size b1.size T G;refine f _ _ ⟨av S.1 n,av S.2 n⟩ λU=>?_
  clear f;replace V:(wb.alloc (jc #[I N 1,I N x.node,jj ⟨#[]⟩,jb A 0 0,I N 1,I N x.lev,jj ⟨#[]⟩,jb A 0 0,I N 1,I N x.u,jj ⟨#[]⟩,jb A 0 0,I N 2,I N 0,jj (ofB x.body),jb A 0 0] 165)).ownsRow wa.heap.size 165 4 (jb (ja ⟨wb,0,A⟩) 4 4) 4 [I N 1,I N x.node,jj ⟨#[]⟩,jb A 0 0,I N 1,I N x.lev,jj ⟨#[]⟩,jb A 0 0,I N 1,I N x.u,jj ⟨#[]⟩,jb A 0 0,I N 2,I N 0,jj (ofB x.body),jb A 0 0]:=V;generalize wb.alloc (jc #[I N 1,I N x.node,jj ⟨#[]⟩,jb A 0 0,I N 1,I N x.lev,jj ⟨#[]⟩,jb A 0 0,I N 1,I N x.u,jj ⟨#[]⟩,jb A 0 0,I N 2,I N 0,jj (ofB x.body),jb A 0 0] 165)=wc at n V U⊢;obtain⟨s,ce⟩:∃p:jS jM,p=ja ⟨wb,0,A⟩:=⟨_,T⟩;rw[<-ce]at V⊢;have Wi:=O V;have bu:=ah b1 n;clear n V ce S b1;refine L ?_;refine dn T (λt f=>?_);go_simp;refine(m5 s 4 4 wc).mono ?_;rintro e wd ⟨rfl,d⟩;refine f _ _ ⟨av U.1 d,av U.2 d⟩ λau=>?_
  have Vw:=bD Wi d;have bv:=ah bu d;clear f d Wi bu U;refine L ?_;refine dn T (λt f=>?_);go_simp;have n:=ao wd (jc #[I N 3,I N 0,jj ⟨#[]⟩,jb s 4 4] 165);have ax:=lB wd [I N 3,I N 0,jj ⟨#[]⟩,jb s 4 4] 165 (0,0) 4 1 1 T (jn _);refine f _ _ ⟨av au.1 n,av au.2 n⟩ λH=>?_
  clear f;replace ax:cF (wd.alloc (jc #[I N 3,I N 0,jj ⟨#[]⟩,jb s 4 4] 165)) (jb (ja ⟨wd,0,A⟩) 1 1) 4 1 [I N 3,I N 0,jj ⟨#[]⟩,jb s 4 4]:=ax;generalize wd.alloc (jc #[I N 3,I N 0,jj ⟨#[]⟩,jb s 4 4] 165)=we at n ax H⊢;have YI:=bD Vw n;have YH:=ah bv n;have Vm:=O ax;have Vh:=O (a1.later Y YH);have b5:=O (show aV (λg=>M2<=g/\g<we.heap.size/\(jP P i Q).ownBlock≠ja g) we (Bx.val x) (jb s 4 4) by
   unfold Bx.val;rw[vL,aV];refine⟨j9 4 dF,aH.of_own YI (a1.fresh YH YI),?_⟩;exact aM.cons (li _) (aM.cons (li _) (aM.cons (li _) (aM.cons (vE _) (aM.nil)))))
  clear n ax Vw bv au;refine L ?_;refine dn T (λt f=>?_);rw[jB aj];refine ra _ _ T M2 (jb P i Q) _ _ T Vh.own _ 1 _ T Vm (by simp[j1]) (by rw[bs];omega) Vh.sz λv' wf K=>?_
  have UO:=K.own;rw[bs]at UO;obtain⟨pn,cn,rfl⟩:=cN UO;have bk:=lh H.1 K.grown (eX Vh.own (.inr Y));have Yv:=lh H.2 K.grown Z4;refine f _ _ ⟨bk,Yv⟩ λbM=>?_
  replace K:=O K;clear f H UO;refine L ?_;refine fE ?_;refine pG T (λt f=>?_);obtain⟨⟨vo,c3⟩,f3,bw,bA⟩:=kr (i:=3) (jb pn (i+1) cn) bM.1 ar;go_simp;refine f _ _ ?_;have b6:=O (Vh.push Y (x:=Bx.val x) b5 K bw bA);clear f c3 f3 bw bA;refine jR ?_
  go_wp2_with fail
  refine⟨⟨i+1,_,_,by go_num,by omega,by rw[b4,j4];exact b6⟩,?_⟩;simp only[jv];omega
 have hd:=az ((i:jd)<(n2:jd));have UY:=az (i<n2);have bB:c.box.take i=c.box:=nv (by rw[<-b8];omega);replace m:jk (Bld M2 (r+1) W2 wr (c.box.map Bx.val) vr us):=O (by rw[<-bB];exact m);clear bB US;obtain⟨bf,bg,ad⟩:=cN m.own;rw[jD,<-b8]at ad;subst ad;have cf:=O m.fin;obtain⟨M3,hM⟩:=J wr.heap.size;have WM:=O hM;have ct:M2<=M3:=by rw[hM];exact m.sz
 rw[<-hM]at cf;have cq:jk (∀g,g<w.heap.size->wr.heap[g]?=w.heap[g]?):=O (λg B=>(m.but.block g (aI u) (aI u)).trans (cg g B));replace y:=O (y.keep (m.but.block b (aI YX) (aI YX)));replace C:jk (jl w w wr):=O (C.trans (m.but.below (aI u) (aI u)));replace VN:=O ((m.but.block r Y Y).trans VN);have VM:=O m.box;replace Z5:=O (aV.keep (λg B=>m.but.block g Y Y) _ _ Z5.out);replace Vt:=O ((m.but.block (r+2) Y Y).trans Vt);clear m;clear hM;rename jg=>W3;obtain⟨c0,c1,ZE,Zd,bi,a2,a3,bl,bm⟩:=kB c q X.plen X.clen;replace a3:=y.get a3;obtain⟨ub,⟨bC,p1,q1,a4,bI,bK,Wq⟩,b7⟩:=X.wel;have Wt:=O b7;clear b7;obtain⟨n3,a5⟩:=J c.wel.length;rw[a4]at a3;rw[<-a5]at a3 l4 bI;have b7:=O a5;have Vb:=O Wq;clear c0 c1 ZE Zd bi a2 bl bm bC a4 bK a5 Wq
 go_wp2_with fail
 clear bn hd UY hi;have Wo:=O (Bld.start (M:=M3) Vt (qg WM))
 go_loopw [73] (λv wr=>∃(i:je) (vr:ji) (us:jh ji),v=I N i/\i<=n3/\jk (Bld M3 (r+1+1) W3 wr ((c.wel.take i).map Wl.val) vr us)) (λv _=>n3-(jv v).toNat)
 case atStart=>exact⟨0,dF,[],T,jJ _,Wo⟩
 clear Wo a3;obtain⟨i,vr,us,rfl,hi,m⟩:=hrel
 by_cases bn:i<n3
 ·have hd:=aA ((i:jd)<(n3:jd))
  have UY:=aA (i<n3);obtain⟨g,o,rfl,b3,bo⟩:=Vb (aI b7);obtain⟨x,hx,bp⟩:=wV (l:=c.wel) (j:=i) (by rw[<-b7];exact bn);have bq:g<M3:=aI u;have br:g≠(r+1+1):=aI u;have Vv:=(m.but.block g bq br).trans (cq g b3);obtain⟨ux,b9,bN⟩:=Wt.at (i:=i) (b:=x.body) (by rw[qu,hx];rfl);obtain⟨z,D,rfl⟩:=bN.form;have aa:=λk hk=>(dY (a:=⟨g,o+(i*3+k),A⟩) Vv).trans (bo (i*3+k) _ ((wX Wl.cells 3 (λ_ _=>rfl) c.wel ub i k x _ hx b9 hk).trans (show(x.cells (jb z x.body.length D))[k]?=ja ((x.cells (jb z x.body.length D)).getD k (I N 0)) by have:(x.cells (jb z x.body.length D)).length=3:=T;simp[jO,oj (show k<(x.cells (jb z x.body.length D)).length by omega)])))
  have d0:wr.cell? ⟨g,o+i*3,A⟩=ja (I N x.dev):=aa 0 G;have d1:wr.cell? ⟨g,o+i*3+1,A⟩=ja (I N x.u):=aa 1 G;have d2:wr.cell? ⟨g,o+i*3+2,A⟩=ja (jb z x.body.length D):=aa 2 G;clear b9;have b4:=O bp;clear bq br Vv aa bo hx bp;obtain⟨P,Q,ad⟩:=cN m.own;have a6:((c.wel.take i).map Wl.val).length=i:=by rw[jD,qf,<-b7];omega
  rw[a6]at ad;have bs:=O a6;subst ad;clear a6
  go_upto_region 15 with fail
  obtain⟨bx,ba⟩:=J wr.heap.size;have ay:=js wr (jc #[I N x.dev,I N x.u,jb z x.body.length D] 91);have n:=ao wr (jc #[I N x.dev,I N x.u,jb z x.body.length D] 91);have Z4:jk ((jP P i Q).ownBlock≠ja bx):=O (eX m.own (.inl (qg ba.symm)));rw[<-ba]at ay⊢;obtain⟨R,Zp⟩:=J (wr.alloc (jc #[I N x.dev,I N x.u,jb z x.body.length D] 91));rw[<-Zp]at ay n⊢;have bb:=n.trans ((bV R).mono n.size);have a1:jk (Bld M3 (r+1+1) W3 R.drew ((c.wel.take i).map Wl.val) (jb P i Q) us):=O (m.later Y bb);have bO:jk (bj R.drew (jb z x.body.length D) x.body):=O ((bN.keep (λg B=>(bb.block g (jN (show g<M3 by have:=u.out;omega) m.sz)).trans ((m.but.block g (aI u) (aI u)).trans (cq g B)))).bytes);clear bN;have E:R.drew.heap[(r+1+1)]?=ja (jc #[I N 3,I N 0,jj ⟨#[]⟩,jb P i Q] 165 (0,0))/\R.drew.heap[bx]?=ja (jc #[I N x.dev,I N x.u,jb z x.body.length D] 91 (0,0)):=⟨a1.box,ay⟩;clear ay n Zp ba m bb d0 d1 d2;refine jT ?_;refine lL (λF=>F.heap[(r+1+1)]?=ja (jc #[I N 3,I N 0,jj ⟨#[]⟩,jb P i Q] 165 (0,0))/\F.heap[bx]?=ja (jc #[I N x.dev,I N x.u,jb z x.body.length D] 91 (0,0))) 18 [(0,jf),(1,jf),(2,jf),(3,jf),(5,jf),(6,jf),(7,jf),(9,jf),(10,jf),(11,jf),(4,jp),(8,jp),(12,jp),(13,jp),(14,jp),(15,jp),(16,jp),(17,jf),(18,jp)] af af af G (λ_ _ _ _ h=>h) E ?_;generalize R.drew=wa at E a1 bO⊢;refine fE ?_;refine wD ?_;refine fE ?_;refine wD ?_;iterate 2 refine fE ?_
  refine wD ?_;iterate 2 refine fE ?_
  refine wD ?_;refine dn T (λt f=>?_);go_simp;refine(kQ x.dev wa).mono ?_;rintro e cj ⟨rfl,d⟩;refine f _ _ ⟨av E.1 d,av E.2 d⟩ λbT=>?_
  have ca:=O (d);have cb:=O (bO.below d);clear f d E bO;refine L ?_;refine dn T (λt f=>?_);go_simp;refine(kQ x.u cj).mono ?_;rintro e ck ⟨rfl,d⟩;refine f _ _ ⟨av bT.1 d,av bT.2 d⟩ λb0=>?_
  have cc:=ah ca d;have cd:=O (cb.below d);clear f d bT ca cb;refine L ?_;refine dn T (λt f=>?_);go_simp;refine(vY _ x.body ck cd).mono ?_;rintro e wb ⟨rfl,d⟩;refine f _ _ ⟨av b0.1 d,av b0.2 d⟩ λS=>?_
  have b1:=ah cc d;clear f d b0 cc cd;refine L ?_;refine dn T (λt f=>?_);go_simp;have n:=ao wb (jc #[I N 1,I N x.dev,jj ⟨#[]⟩,jb A 0 0,I N 1,I N x.u,jj ⟨#[]⟩,jb A 0 0,I N 2,I N 0,jj (ofB x.body),jb A 0 0] 165);have V:=uY wb [I N 1,I N x.dev,jj ⟨#[]⟩,jb A 0 0,I N 1,I N x.u,jj ⟨#[]⟩,jb A 0 0,I N 2,I N 0,jj (ofB x.body),jb A 0 0] 165 4 3 wa.heap.size b1.size T G;refine f _ _ ⟨av S.1 n,av S.2 n⟩ λU=>?_
  clear f;replace V:(wb.alloc (jc #[I N 1,I N x.dev,jj ⟨#[]⟩,jb A 0 0,I N 1,I N x.u,jj ⟨#[]⟩,jb A 0 0,I N 2,I N 0,jj (ofB x.body),jb A 0 0] 165)).ownsRow wa.heap.size 165 4 (jb (ja ⟨wb,0,A⟩) 3 3) 3 [I N 1,I N x.dev,jj ⟨#[]⟩,jb A 0 0,I N 1,I N x.u,jj ⟨#[]⟩,jb A 0 0,I N 2,I N 0,jj (ofB x.body),jb A 0 0]:=V;generalize wb.alloc (jc #[I N 1,I N x.dev,jj ⟨#[]⟩,jb A 0 0,I N 1,I N x.u,jj ⟨#[]⟩,jb A 0 0,I N 2,I N 0,jj (ofB x.body),jb A 0 0] 165)=wc at n V U⊢;obtain⟨s,ce⟩:∃p:jS jM,p=ja ⟨wb,0,A⟩:=⟨_,T⟩;rw[<-ce]at V⊢;have Wi:=O V;have bu:=ah b1 n;clear n V ce S b1;refine L ?_;refine dn T (λt f=>?_);go_simp;refine(m5 s 3 3 wc).mono ?_;rintro e wd ⟨rfl,d⟩;refine f _ _ ⟨av U.1 d,av U.2 d⟩ λau=>?_
  have Vw:=bD Wi d;have bv:=ah bu d;clear f d Wi bu U;refine L ?_;refine dn T (λt f=>?_);go_simp;have n:=ao wd (jc #[I N 3,I N 0,jj ⟨#[]⟩,jb s 3 3] 165);have ax:=lB wd [I N 3,I N 0,jj ⟨#[]⟩,jb s 3 3] 165 (0,0) 4 1 1 T (jn _);refine f _ _ ⟨av au.1 n,av au.2 n⟩ λH=>?_
  clear f;replace ax:cF (wd.alloc (jc #[I N 3,I N 0,jj ⟨#[]⟩,jb s 3 3] 165)) (jb (ja ⟨wd,0,A⟩) 1 1) 4 1 [I N 3,I N 0,jj ⟨#[]⟩,jb s 3 3]:=ax;generalize wd.alloc (jc #[I N 3,I N 0,jj ⟨#[]⟩,jb s 3 3] 165)=we at n ax H⊢;have YI:=bD Vw n;have YH:=ah bv n;have Vm:=O ax;have Vh:=O (a1.later Y YH);have b5:=O (show aV (λg=>M3<=g/\g<we.heap.size/\(jP P i Q).ownBlock≠ja g) we (Wl.val x) (jb s 3 3) by
   unfold Wl.val;rw[vL,aV];refine⟨j9 3 dF,aH.of_own YI (a1.fresh YH YI),?_⟩;exact aM.cons (li _) (aM.cons (li _) (aM.cons (vE _) (aM.nil))))
  clear n ax Vw bv au;refine L ?_;refine dn T (λt f=>?_);rw[jB aj];refine ra _ _ T M3 (jb P i Q) _ _ T Vh.own _ 1 _ T Vm (by simp[j1]) (by rw[bs];omega) Vh.sz λv' wf K=>?_
  have UO:=K.own;rw[bs]at UO;obtain⟨pn,cn,rfl⟩:=cN UO;have bk:=lh H.1 K.grown (eX Vh.own (.inr Y));have Yv:=lh H.2 K.grown Z4;refine f _ _ ⟨bk,Yv⟩ λbM=>?_
  replace K:=O K;clear f H UO;refine L ?_;refine fE ?_;refine pG T (λt f=>?_);obtain⟨⟨vo,c3⟩,f3,bw,bA⟩:=kr (i:=3) (jb pn (i+1) cn) bM.1 ar;go_simp;refine f _ _ ?_;have b6:=O (Vh.push Y (x:=Wl.val x) b5 K bw bA);clear f c3 f3 bw bA;refine jR ?_
  go_wp2_with fail
  refine⟨⟨i+1,_,_,by go_num,by omega,by rw[b4,j4];exact b6⟩,?_⟩;simp only[jv];omega
 have hd:=az ((i:jd)<(n3:jd));have UY:=az (i<n3);have bB:c.wel.take i=c.wel:=nv (by rw[<-b7];omega);replace m:jk (Bld M3 (r+1+1) W3 wr (c.wel.map Wl.val) vr us):=O (by rw[<-bB];exact m);clear bB Vb;obtain⟨n,o,ad⟩:=cN m.own;rw[jD,<-b7]at ad;subst ad;have x:=O m.fin;have D:jk (wr.heap[r+1+1]?=ja (jc #[I N 3,I N 0,jj ⟨#[]⟩,jb n n3 o] 165 (0,0))):=O m.box;have K:jk (wr.heap[r]?=ja (jc #[I N 3,I N 0,jj ⟨#[]⟩,jb bc n1 bd] 165 (0,0))):=O ((m.but.block r Y Y).trans VN);have P:jk (wr.heap[r+1]?=ja (jc #[I N 3,I N 0,jj ⟨#[]⟩,jb bf n2 bg] 165 (0,0))):=O ((m.but.block (r+1) Y Y).trans VM);have p:=m.sz;have z:=WM.out;have Q:M2<=M3:=ct;replace Z5:jk (aV (λg=>w.heap.size<=g/\g<wr.heap.size) wr (vL (c.chg.map ap.val)) (jb bc n1 bd)):=O (aV.mono (λg B=>⟨by have:=u.out;omega,by omega⟩) _ _ (aV.keep (λg B=>m.but.block g Y Y) _ _ Z5.out));replace cf:jk (aV (λg=>w.heap.size<=g/\g<wr.heap.size) wr (vL (c.box.map Bx.val)) (jb bf n2 bg)):=O (aV.mono (λg B=>⟨by have:=u.out;omega,by omega⟩) _ _ (aV.keep (λg B=>m.but.block g Y Y) _ _ cf.out));replace x:jk (aV (λg=>w.heap.size<=g/\g<wr.heap.size) wr (vL (c.wel.map Wl.val)) (jb n n3 o)):=O (aV.mono (λg B=>⟨by have:=u.out;omega,by omega⟩) _ _ x.out);replace y:=O (y.keep (m.but.block b (aI YX) (aI YX)));replace C:jk (jl w w wr):=O (C.trans (m.but.below (aI u) (aI u)));clear p z Q
 go_upto_region 17 with fail
 obtain⟨c0,c1,ZE,Zd,bi,a2,a3,bl,bm⟩:=kB c q X.plen X.clen;have Q:=O X.path;obtain⟨bC,R,qp,a4,bI,bK,Wq⟩:=X.path;rw[a4]at bi Q;have Vz:jk (UU[0]?=ja (I N c.folder)):=O (by rw[bh];simpa using c0);have U5:jk (UU[1]?=ja (I N c.epoch)):=O (by rw[bh];simpa using c1);have aa:jk (UU[34]?=ja (I N c.author)):=O (by rw[bh];simpa using ZE);have ax:jk (UU[36]?=ja (jb R c.path.length qp)):=O (by rw[bh];simpa using bi);have ay:jk (UU[71]?=ja (I N c.r)):=O (by rw[bh];simpa using bl);have a1:jk (UU[72]?=ja (I N c.s)):=O (by rw[bh];simpa using bm);have p:wr.drew.heap[b]?=ja (jc UU 34 (0,0))/\wr.drew.heap[r]?=ja (jc #[I N 3,I N 0,jj ⟨#[]⟩,jb bc n1 bd] 165 (0,0))/\wr.drew.heap[r+1]?=ja (jc #[I N 3,I N 0,jj ⟨#[]⟩,jb bf n2 bg] 165 (0,0))/\wr.drew.heap[r+1+1]?=ja (jc #[I N 3,I N 0,jj ⟨#[]⟩,jb n n3 o] 165 (0,0)):=⟨by rw[bh];exact y.blk,K,P,D⟩;have z:jk (jl wr wr wr.drew):=O (bV wr);clear c0 c1 ZE Zd bi a2 a3 bl bm bC a4 bI bK Wq bn hd UY hi VN VM K P D m y;refine jT ?_;refine di (λF=>F.heap[b]?=ja (jc UU 34 (0,0))/\F.heap[r]?=ja (jc #[I N 3,I N 0,jj ⟨#[]⟩,jb bc n1 bd] 165 (0,0))/\F.heap[r+1]?=ja (jc #[I N 3,I N 0,jj ⟨#[]⟩,jb bf n2 bg] 165 (0,0))/\F.heap[r+1+1]?=ja (jc #[I N 3,I N 0,jj ⟨#[]⟩,jb n n3 o] 165 (0,0))) (.t 0 (.t 1 (.t 3 (.t 4 (.t 6 (.t 7 (.t 9 (.t 10 (.t 12 (.t 13 (.t 14 (.t 17 (.t 18 (.t 19 (.t 20 (.t 22 (.t 23 (.t 24 (.t 26 (.t 27 (.t 28 (.o 2 (.o 5 (.o 8 (.o 11 (.o 15 (.o 16 (.o 21 (.o 25 (.o 29 (.o 30 (.t 31 .done)))))))))))))))))))))))))))))))) af af af G (λ_ _ _ _ h=>h) p ?_;generalize wr.drew=K at p z⊢;refine fJ ?_
 (refine aW (v:=?_) T aj (λF m=>?_) ?_;rotate_left;(have k:=ai m.1 Vz;go_simp;with_reducible rfl);refine L ?_)
 refine fJ ?_
 (refine aW (v:=?_) T aj (λF m=>?_) ?_;rotate_left;(have k:=ai m.1 U5;go_simp;with_reducible rfl);refine L ?_)
 iterate 3 refine fJ ?_
 (refine aW (v:=?_) T aj (λF m=>?_) ?_;rotate_left;(have k:=ai m.1 aa;go_simp;with_reducible rfl);refine L ?_)
 (refine aW (v:=?_) T aj (λF m=>?_) ?_;rotate_left;(have k0:=ai (i:=0) m.2.1 T;have y:=ai (i:=1) m.2.1 T;have k2:=ai (i:=2) m.2.1 T;have D:=ai (i:=3) m.2.1 T;go_simp;with_reducible rfl);refine L ?_)
 refine fJ ?_
 (refine aW (v:=?_) T aj (λF m=>?_) ?_;rotate_left;(have k:=ai m.1 ax;go_simp;with_reducible rfl);refine L ?_)
 (refine aW (v:=?_) T aj (λF m=>?_) ?_;rotate_left;(have k0:=ai (i:=0) m.2.2.1 T;have y:=ai (i:=1) m.2.2.1 T;have k2:=ai (i:=2) m.2.2.1 T;have D:=ai (i:=3) m.2.2.1 T;go_simp;with_reducible rfl);refine L ?_)
 (refine aW (v:=?_) T aj (λF m=>?_) ?_;rotate_left;(have k0:=ai (i:=0) m.2.2.2 T;have y:=ai (i:=1) m.2.2.2 T;have k2:=ai (i:=2) m.2.2.2 T;have D:=ai (i:=3) m.2.2.2 T;go_simp;with_reducible rfl);refine L ?_)
 iterate 4 refine fJ ?_
 (refine aW (v:=?_) T aj (λF m=>?_) ?_;rotate_left;(have k:=ai m.1 ay;go_simp;with_reducible rfl);refine L ?_)
 iterate 2 refine fJ ?_
 (refine aW (v:=?_) T aj (λF m=>?_) ?_;rotate_left;(have k:=ai m.1 a1;go_simp;with_reducible rfl);refine L ?_)
 refine aE T (λt f=>?_);go_simp;refine(kQ c.folder K).mono ?_;rintro e x1 ⟨rfl,d⟩;refine f _ _ ⟨av p.1 d,av p.2.1 d,av p.2.2.1 d,av p.2.2.2 d⟩ λm=>?_
 have y:=ah z d;clear f d p z;refine L ?_;refine aE T (λt f=>?_);go_simp;refine(kQ c.epoch x1).mono ?_;rintro e x2 ⟨rfl,d⟩;refine f _ _ ⟨av m.1 d,av m.2.1 d,av m.2.2.1 d,av m.2.2.2 d⟩ λk=>?_
 have p:=ah y d;clear f d m y;refine L ?_;refine aE T (λt f=>?_);go_simp;refine(vY _ c.parent x2 (dV.parent (q:=q) ⟨by rw[<-bh];exact k.1,X.plen,X.clen⟩)).mono ?_;rintro e F ⟨rfl,d⟩;refine f _ _ ⟨av k.1 d,av k.2.1 d,av k.2.2.1 d,av k.2.2.2 d⟩ λm=>?_
 have y:=ah p d;clear f d k p;refine L ?_;refine aE T (λt f=>?_);go_simp;refine(kQ c.author F).mono ?_;rintro e P ⟨rfl,d⟩;refine f _ _ ⟨av m.1 d,av m.2.1 d,av m.2.2.1 d,av m.2.2.2 d⟩ λk=>?_
 have p:=ah y d;clear f d m y;refine L ?_;refine aE T (λt f=>?_);go_simp;refine(tJ c.path _ P (aH.ints (Q.keep λg B=>((C.trans (p.mono C.size)).block g B))) Y).mono ?_;rintro e y ⟨up,rfl,m,d⟩;obtain⟨s,cu,rfl⟩:=cN m;have z:jk (y.ownsRow wr 165 4 (jb s c.path.length cu) c.path.length (ia c.path)):=O (sG m p.size);refine f _ _ ⟨av k.1 d,av k.2.1 d,av k.2.2.1 d,av k.2.2.2 d⟩ λE=>?_
 have D:=ah p d;clear m;clear f d k p;refine L ?_;refine aE T (λt f=>?_);go_simp;refine(m5 s c.path.length cu y).mono ?_;rintro e x6 ⟨rfl,d⟩;refine f _ _ ⟨av E.1 d,av E.2.1 d,av E.2.2.1 d,av E.2.2.2 d⟩ λS=>?_
 have k:=ah D d;have m:=bD z d;clear f d E D z;refine L ?_;refine aE T (λt f=>?_);go_simp;refine(vY _ c.confirm x6 (dV.confirm (q:=q) ⟨by rw[<-bh];exact S.1,X.plen,X.clen⟩)).mono ?_;rintro e x7 ⟨rfl,d⟩;refine f _ _ ⟨av S.1 d,av S.2.1 d,av S.2.2.1 d,av S.2.2.2 d⟩ λU=>?_
 have p:=ah k d;have z:=bD m d;clear f d S k m;refine L ?_;refine aE T (λt f=>?_);go_simp;refine(kQ c.r x7).mono ?_;rintro e S ⟨rfl,d⟩;refine f _ _ ⟨av U.1 d,av U.2.1 d,av U.2.2.1 d,av U.2.2.2 d⟩ λau=>?_
 have m:=ah p d;have D:=bD z d;clear f d U p z;refine L ?_;refine aE T (λt f=>?_);go_simp;refine(kQ c.s S).mono ?_;rintro e k ⟨rfl,d⟩;refine f _ _ ⟨av au.1 d,av au.2.1 d,av au.2.2.1 d,av au.2.2.2 d⟩ λH=>?_
 have p:=ah m d;have z:=bD D d;clear f d au m D;refine L ?_;refine aE T (λt f=>?_);go_simp;have d:=ao k (jc #[I N 1,I N c.folder,jj ⟨#[]⟩,jb A 0 0,I N 1,I N c.epoch,jj ⟨#[]⟩,jb A 0 0,I N 2,I N 0,jj (ofB c.parent),jb A 0 0,I N 1,I N c.author,jj ⟨#[]⟩,jb A 0 0,I N 3,I N 0,jj ⟨#[]⟩,jb bc n1 bd,I N 3,I N 0,jj ⟨#[]⟩,jb s c.path.length cu,I N 3,I N 0,jj ⟨#[]⟩,jb bf n2 bg,I N 3,I N 0,jj ⟨#[]⟩,jb n n3 o,I N 2,I N 0,jj (ofB c.confirm),jb A 0 0,I N 1,I N c.r,jj ⟨#[]⟩,jb A 0 0,I N 1,I N c.s,jj ⟨#[]⟩,jb A 0 0] 165);have V:=uY k [I N 1,I N c.folder,jj ⟨#[]⟩,jb A 0 0,I N 1,I N c.epoch,jj ⟨#[]⟩,jb A 0 0,I N 2,I N 0,jj (ofB c.parent),jb A 0 0,I N 1,I N c.author,jj ⟨#[]⟩,jb A 0 0,I N 3,I N 0,jj ⟨#[]⟩,jb bc n1 bd,I N 3,I N 0,jj ⟨#[]⟩,jb s c.path.length cu,I N 3,I N 0,jj ⟨#[]⟩,jb bf n2 bg,I N 3,I N 0,jj ⟨#[]⟩,jb n n3 o,I N 2,I N 0,jj (ofB c.confirm),jb A 0 0,I N 1,I N c.r,jj ⟨#[]⟩,jb A 0 0,I N 1,I N c.s,jj ⟨#[]⟩,jb A 0 0] 165 4 11 w.heap.size (jz C.size p.size) T G;replace V:(k.alloc (jc #[I N 1,I N c.folder,jj ⟨#[]⟩,jb A 0 0,I N 1,I N c.epoch,jj ⟨#[]⟩,jb A 0 0,I N 2,I N 0,jj (ofB c.parent),jb A 0 0,I N 1,I N c.author,jj ⟨#[]⟩,jb A 0 0,I N 3,I N 0,jj ⟨#[]⟩,jb bc n1 bd,I N 3,I N 0,jj ⟨#[]⟩,jb s c.path.length cu,I N 3,I N 0,jj ⟨#[]⟩,jb bf n2 bg,I N 3,I N 0,jj ⟨#[]⟩,jb n n3 o,I N 2,I N 0,jj (ofB c.confirm),jb A 0 0,I N 1,I N c.r,jj ⟨#[]⟩,jb A 0 0,I N 1,I N c.s,jj ⟨#[]⟩,jb A 0 0] 165)).ownsRow w.heap.size 165 4 (jb (ja ⟨k,0,A⟩) 11 11) 11 [I N 1,I N c.folder,jj ⟨#[]⟩,jb A 0 0,I N 1,I N c.epoch,jj ⟨#[]⟩,jb A 0 0,I N 2,I N 0,jj (ofB c.parent),jb A 0 0,I N 1,I N c.author,jj ⟨#[]⟩,jb A 0 0,I N 3,I N 0,jj ⟨#[]⟩,jb bc n1 bd,I N 3,I N 0,jj ⟨#[]⟩,jb s c.path.length cu,I N 3,I N 0,jj ⟨#[]⟩,jb bf n2 bg,I N 3,I N 0,jj ⟨#[]⟩,jb n n3 o,I N 2,I N 0,jj (ofB c.confirm),jb A 0 0,I N 1,I N c.r,jj ⟨#[]⟩,jb A 0 0,I N 1,I N c.s,jj ⟨#[]⟩,jb A 0 0]:=V;have D:=O V;refine f _ _ ⟨av H.1 d,av H.2.1 d,av H.2.2.1 d,av H.2.2.2 d⟩ λbM=>?_
 have m:=ah p d;have t:=bD z d;clear V;clear f d H p z;obtain⟨z,d⟩:=J (k.alloc (jc #[I N 1,I N c.folder,jj ⟨#[]⟩,jb A 0 0,I N 1,I N c.epoch,jj ⟨#[]⟩,jb A 0 0,I N 2,I N 0,jj (ofB c.parent),jb A 0 0,I N 1,I N c.author,jj ⟨#[]⟩,jb A 0 0,I N 3,I N 0,jj ⟨#[]⟩,jb bc n1 bd,I N 3,I N 0,jj ⟨#[]⟩,jb s c.path.length cu,I N 3,I N 0,jj ⟨#[]⟩,jb bf n2 bg,I N 3,I N 0,jj ⟨#[]⟩,jb n n3 o,I N 2,I N 0,jj (ofB c.confirm),jb A 0 0,I N 1,I N c.r,jj ⟨#[]⟩,jb A 0 0,I N 1,I N c.s,jj ⟨#[]⟩,jb A 0 0] 165));rw[<-d]at D m t⊢;clear d bM;refine L ?_;refine fJ ?_;refine jR ?_
 go_wp2_with fail
 go_ret;have d:=λg (B:w.heap.size<=g/\g<wr.heap.size)=>(show w.heap.size<=g/\g<z.heap.size from⟨B.1,jN B.2 m.size⟩)
 have f:=λg (B:w.heap.size<=g/\g<wr.heap.size)=>m.block g B.2
 refine⟨_,T,⟨[dF,dF,dF,dF,jb bc n1 bd,jb s c.path.length cu,jb bf n2 bg,jb n n3 o,dF,dF,dF],D,?_⟩,C.trans (m.mono C.size)⟩;have p:aV (λg=>w.heap.size<=g/\g<z.heap.size) z (vL (c.path.map vI)) (jb s c.path.length cu):=sw t (λg B=>by
  have h:=t.lt g B;exact⟨jz C.size h.1,h.2⟩)
 exact aM.cons (li _) (aM.cons (li _) (aM.cons (vE _) (aM.cons (li _) (aM.cons (aV.mono d _ _ (aV.keep f _ _ Z5.out)) (aM.cons p (aM.cons (aV.mono d _ _ (aV.keep f _ _ cf.out)) (aM.cons (aV.mono d _ _ (aV.keep f _ _ x.out)) (aM.cons (vE _) (aM.cons (li _) (aM.cons (li _) aM.nil))))))))))
theorem ae(h:jk (w.heap[B]?=ja o))(w':jl w w a):jk (a.heap[B]?=ja o):=O (av h w')
def cZ(s:ByteArray)(l:jh Val):LBy:=dm (co s) (enc (vL l))
theorem eT(s l):(cZ s l).length=32:=iN _ _
theorem pK(l:jh Val):enc (vL l)=3#8::(da l.length++encs l):=by rw[vL,enc,jI G,jI G]
structure cY(l:jh Val):Prop where
 wf:wfV 16 (vL l)
 len:(enc (vL l)).length<=800000
theorem cY.take{l:jh Val}(h:cY l)(i:l.length<128)(k:je):cY (l.take k):=by
 have g:=h.wf;have j:=h.len;refine⟨?_,?_⟩
 ·unfold vL at g⊢
  rw[wfV]at g⊢
  rcases g with⟨e,-⟩|⟨e,-⟩|⟨a,b,c,d,f⟩
  ·exact jG e G
  ·exact jG e G
  exact .inr (.inr ⟨a,b,c,xx (xy _ _) d,λx m=>f x (List.mem_of_mem_take m)⟩)
 rw[pK]at j⊢;have a:(da (l.take k).length).length=1:=by rw[tA (xx (xy _ _) i)];rfl
 have b:(da l.length).length=1:=by rw[tA i];rfl
 have:=wG l k;simp only[jW,jL]at j⊢;omega
theorem fi(l:LBy):(l.map v8).toArray.all (·.oneCell')=jf:=by
 rw[Array.all_eq_true_iff_forall_mem];intro u a;exact iT _ u (ak a)
theorem mQ(s:ByteArray)(F:s.size<=1000)(l:jh Val)(v:ji)(w:jg)(a:aV (·<w.heap.size) w (vL l) v)(b:cY l)(d:eP w)(f:gM w):
 jr jm 43 #[jj s,v] w λe w'=>e=jo (jq ((cZ s l).map v8).toArray)/\jl w w w':=by
 obtain⟨p,c,rfl⟩:=a.form;have h:(vL l).l.length=l.length:=T;rw[h]at a⊢;obtain⟨n,i⟩:=J l.length;rw[<-i]at a⊢;have j:=O a;have g:=O b;have x:=O d;have y:=O f;clear a b d f i h;have b:=js w (jc a8 23);have a:=ao w (jc a8 23);have d:(w.alloc (jc a8 23)).heap.size=w.heap.size+1:=by simp
 obtain⟨o,f⟩:=J (w.alloc (jc a8 23));obtain⟨D,h⟩:=J w.heap.size;rw[<-f]at b a d;rw[<-h]at b d;have i:=O b;have k:=O a;have m:=O f;have q:=O h;have u:D<o.heap.size:=Y;clear b a d f h
 go_enter func43,ntmps43
 go_wp2_with fail
 rw[<-m,<-q];refine(m5 p n c o).mono ?_;rintro e h ⟨rfl,a⟩;have r:=ae i a;have d:=ah k a;have t:jk (aV (·<h.heap.size) h (vL l) (jb p n c)):=O (aV.mono (λb (f:b<w.heap.size)=>jN f d.size) _ _ (aV.keep (λb f=>d.block b f) _ _ j.out));clear a k i u m
 go_wp2_with fail
 refine(Ff (vL l) _ 3 h T g.wf t (cT g.len)).mono ?_;rintro e z ⟨H,rfl,b,a⟩;have u:=ae r a;have f:=ah d a;have B:=O (bj.of_own b);obtain⟨K,M,rfl⟩:=cN b;clear a b d r t j
 go_wp2_with fail
 refine(sC s Y _ (enc (vL l)) (cT g.len) z B (x.below f (jn _)) (y.below f (jn _))).mono ?_;rintro e d ⟨rfl,a⟩;have r:=ae u a;have t:=ah f a;have i:((dm (co s) (enc (vL l))).map v8).toArray.size=32:=by rw[jU,jD,iN]
 have j:=fi (dm (co s) (enc (vL l)));obtain⟨b,k⟩:=J (((dm (co s) (enc (vL l))).map v8).toArray);rw[<-k]at i j⊢;have C:=O k;have m:=O i;have E:=O j;clear k i j a u f
 go_wp2_with (refine o1 T λ_ a=>o8 23 _ _ T D b T T 23 _ r.out (by rw[m];rfl) (by rw[m];simp) E (a _ _ ?_))
 have a:(d.setRow D b).heap[D]?=ja (jc b 23 (0,0)):=pz _ _ _ _ _ _ r.out;have f:jl w w (d.setRow D b):=p6 t.out (by rw[q];exact jn _) _;generalize d.setRow D b=k at a f⊢;have i:=O f;have j:=O a;clear a f
 go_wp2_with fail
 refine jX (v:=jq b) ?_ T ?_
 ·exact qd T _ _ _ 23 _ (0,0) _ T j wv T (by rw[m];rfl)
 exact⟨by rw[C];rfl,i⟩
theorem aH.take{p:jS jM}{n c sz:je}(h:aH D w (jb p n c) sz n xs){k:je}(b:k<=n):aH D w (jb p k c) sz k (xs.take (k*sz)):=by
 obtain⟨d,s,t,e,v,f,i⟩:=h;injection e with l x m
 subst l;subst m;refine⟨?_,p,c,T,by omega,f,λy=>?_⟩
 ·rw[qf,d,qC (rv _ b)]
 obtain⟨g,o,e,q,r⟩:=i Y;refine⟨g,o,e,q,λj u a=>r j u ?_⟩;rw[xq]at a
 split at a
 ·exact a
 cases a
theorem Ho:∀(l:jh Val) (a:jh ji) (k:je),a.length=l.length->cS (l.take k) (a.take k)=(cS l a).take (k*4)
 |[],a,k,h=>by
  have:a=[]:=qs (ak h);subst this;simp[cS]
 |x::l,[],k,h=>by simp at h
 |x::l,u::a,0,h=>by simp[cS]
 |x::l,u::a,k+1,h=>by
  have b:(gS x u).length=4:=T;simp only[xz,cS,Ho l a k (ak h)];have e:List.take ((k+1)*4) (gS x u)=gS x u:=nv (by rw[b];omega);rw[List.take_append,b,show(k+1)*4-4=k*4 by omega,e]
theorem aM.take:∀{l:jh Val} {a:jh ji} (k:je),aM D w l a->aM D w (l.take k) (a.take k)
 |[],a,k,h=>by rw[aM]at h;subst h;simp[aM]
 |x::l,a,0,h=>by simp[aM]
 |x::l,a,k+1,h=>by
  rw[aM]at h;obtain⟨u,d,rfl,b,c⟩:=h;simp only[xz];rw[aM];exact⟨u,_,T,b,aM.take k c⟩
theorem vA{i:je}(h:w.ownsRow B e m u i f)(n:0<i):∃g c,u=jb (ja ⟨g,0,A⟩) i c/\i<=c/\B<=g/\g<w.heap.size:=by
 rcases h.2 with⟨rfl,j⟩|⟨g,a,k,rfl,b,d,xs,-⟩
 ·omega
 exact⟨g,a,T,xs,b,(jK.1 d).1⟩
theorem zE(c:Cmt):(aR c).length=11:=T
theorem vG.val{c:Cmt}{p:jS jM}(h:vG w a c (jb p B m))(k:je)(f:k<=11):B=11/\aV (·<a.heap.size) a (vL ((aR c).take k)) (jb p k m):=by
 obtain⟨l,w',i⟩:=h;obtain⟨_,_,e⟩:=cN w';injection e with q d r
 subst d;have o:=i.len;refine⟨T,?_⟩;rw[vL,aV];have j:=(aH.of_own (D:=(·<a.heap.size)) w' (λg b=>(w'.lt g b).2)).take f;rw[<-Ho _ _ _ o]at j;refine⟨l.take k,?_,aM.mono (λg b=>b.2) _ _ (i.take k)⟩;rw[qf,zE,qC f];exact j
theorem EN{x:Val}(h:x∈b):(enc x).length<=(encs b).length:=by
 obtain⟨i,a⟩:=xw h;have l:=wG b (i+1);rw[wy a,jL]at l;omega
theorem LW(l:jh Val):l.length<=(enc (vL l)).length:=by
 have:=AT l;rw[pK,jW,jL];omega
theorem cY.lens{c:Cmt}(h:cY (aR c)):c.chg.length<=1000000/\c.path.length<=1000000/\c.box.length<=1000000/\c.wel.length<=1000000:=by
 have g:=h.len;have k:∀l:jh Val,vL l∈aR c->l.length<=1000000:=λl f=>by
  have a:=EN f;have b:=LW l;have d:(encs (aR c)).length<=(enc (vL (aR c))).length:=by rw[pK,jW,jL];omega
  omega
 have a:=k (c.chg.map ap.val) (by simp[aR]);have b:=k (c.path.map vI) (by simp[aR]);have d:=k (c.box.map Bx.val) (by simp[aR]);have e:=k (c.wel.map Wl.val) (by simp[aR]);rw[jD]at a b d e;exact⟨a,b,d,e⟩
structure bQ(w:jg):Prop where
 num:eP w
 start:gM w
theorem bQ.below(h:bQ w)(a:jl w w w'):bQ w':=⟨h.num.below a (jn _),h.start.below a (jn _)⟩
def sI:ByteArray:=⟨#[99,111,109,109,105,116]⟩
def tz:ByteArray:=⟨#[99,111,109,109,105,116,32,115,105,103,110]⟩
def aG(c:Cmt):LBy:=cZ sI (aR c)
def dp(c:Cmt):LBy:=cZ tz ((aR c).take 9)
theorem dX(c):(aG c).length=32:=eT _ _
theorem MJ(c):(dp c).length=32:=eT _ _
theorem mX:(jm.info? 34).map (·.size)=ja 73:=by kernel_rfl
theorem ti(c:Cmt)(q:CQ)(w:jg)(h:aS (·<w.heap.size) w c q)(m:cY (aR c))(n:bQ w):
 jr jm 8 #[jq (aF c q).toArray] w λe w'=>e=jo (jq ((aG c).map v8).toArray)/\jl w w w':=by
 have y:=O h;have o:=O m;have r:=O n;obtain⟨d,i⟩:=J ((aF c q).toArray);rw[<-i];have s:=O i;have p:d.size=73:=by rw[i,jU,dx c q h.plen h.clen]
 have z:=O p;have f:=js w (jc d 34);have g:=js (w.alloc (jc d 34)) (jc a8 23);have a:jl w w ((w.alloc (jc d 34)).alloc (jc a8 23)):=((jy _ w).alloc (jn _) _).alloc ar _;replace f:=av f (ao (w.alloc (jc d 34)) (jc a8 23));rw[jC]at g;obtain⟨B,j⟩:=J ((w.alloc (jc d 34)).alloc (jc a8 23));obtain⟨b,k⟩:=J w.heap.size;rw[<-j]at g a f;rw[<-k]at g f;have t:=O g;have l:=O a;have u:=O f;have v:=O j;have x:=O k;clear g a j k f i p h m n
 go_enter func8,ntmps8
 go_upto_region 1 with fail
 rw[<-v,<-x];clear v
 go_wp2_with (refine o5 T 34 _ T b T 34 d (0,0) _ u.out underlying34 T (by rw[z];exact mX) ?_)
 obtain⟨h,i,j,k⟩:=o.lens;rw[s];refine(tv c q B (y.below l) h i j k).mono ?_;rintro e C ⟨v,rfl,f,a⟩;obtain⟨p,m,rfl⟩:∃p m,v=jb p 11 m:=by obtain⟨K,D,-⟩:=f;exact cN D
 have E:=O f;have n:=ae t a;have g:=ah l a;rw[<-s];clear f a t l u h i j k
 go_wp2_with fail
 refine(mQ sI G (aR c) _ C (E.val 11 (jn _)).2 o (r.below g).num (r.below g).start).mono ?_;rintro e h ⟨rfl,a⟩;have t:=ae n a;have u:=ah g a;have i:((cZ sI (aR c)).map v8).toArray.size=32:=by rw[jU,jD,eT]
 have j:=fi (cZ sI (aR c));obtain⟨f,k⟩:=J (((cZ sI (aR c)).map v8).toArray);rw[<-k]at i j⊢;have F:=O k;have l:=O i;have H:=O j;clear k i j a n g
 go_wp2_with (refine o1 T λ_ a=>o8 23 _ _ T (b+1) f T T 23 _ t.out (by rw[l];rfl) (by rw[l];simp) H (a _ _ ?_))
 have a:(h.setRow (b+1) f).heap[b+1]?=ja (jc f 23 (0,0)):=pz _ _ _ _ _ _ t.out;have g:jl w w (h.setRow (b+1) f):=p6 u.out (by rw[x];omega) _;generalize h.setRow (b+1) f=k at a g⊢;have i:=O g;have j:=O a;clear a g
 go_wp2_with fail
 refine jX (v:=jq f) ?_ T ?_
 ·exact qd T _ _ _ 23 _ (0,0) _ T j wv T (by rw[l];rfl)
 exact⟨by rw[F];rfl,i⟩
theorem wA{P:qN}(t e:jH)(k:je)(a:P.underlying t=ja (.slice e))(b:∀w,(sizeOf e).run P w=.ok k w)(g o n c h:je)(d:h<=c)(W:jg):
 (Instr.sliceAt t (jb (ja ⟨g,o,A⟩) n c) A (ja (I N (h:jd))) A).run P W=.ok (jb (ja ⟨g,o,A⟩) h c) W:=by
 have he:P.elem t=e:=by simp[Program.elem,a]
 rw[run_sliceAt_slice W t _ _ _ _ (by rw[he];exact a),run_slice_h W t _ n c (by rw[he];exact a) .i64 _ Y Y,he];simp[b,Result.andThen,sliced,Addr.add]
 try(split<;>simp_all)
theorem wW:∀w,(sizeOf 165).run jm w=.ok 4 w:=λw=>by go_simp
theorem oe(h:w.heap[B]?=ja (jc (j.map v8).toArray 23 (0,0)))(a:j.length=32):bj w (jb (ja ⟨B,0,A⟩) 32 32) j:=by
 refine⟨_,32,by rw[a],by rw[a];exact jn _,(λh=>by cases h),λ_=>⟨B,0,T,λl b=>ai h ?_⟩⟩;rw[ms];simp[jO,b]
theorem Hr(c:Cmt)(q:CQ)(w:jg)(f:aS (·<w.heap.size) w c q)(l:cY (aR c))(m:bQ w):
 jr jm 32 #[jq (aF c q).toArray] w λe w'=>∃D,e=jo (jb (ja ⟨D,0,A⟩) 32 32)/\bj w' (jb (ja ⟨D,0,A⟩) 32 32) (dp c)/\jl w w w':=by
 have y:=O f;have o:=O l;have p:=O m;obtain⟨i,g⟩:=J ((aF c q).toArray);rw[<-g];have r:=O g;have n:i.size=73:=by rw[g,jU,dx c q f.plen f.clen]
 have z:=O n;have d:=js w (jc i 34);have a:=ao w (jc i 34);obtain⟨B,h⟩:=J (w.alloc (jc i 34));obtain⟨b,j⟩:=J w.heap.size;rw[<-h]at a d;rw[<-j]at d;have k:=O a;have s:=O d;have t:=O h;have C:=O j;clear a h j d g n f l m
 go_enter func32,ntmps32
 go_upto_region 1 with fail
 rw[<-t,<-C];clear t
 go_wp2_with (refine o5 T 34 _ T b T 34 i (0,0) _ s.out underlying34 T (by rw[z];exact mX) ?_)
 obtain⟨m,n,t,u⟩:=o.lens;rw[r];refine(tv c q B (y.below k) m n t u).mono ?_;rintro e E ⟨v,rfl,j,a⟩;obtain⟨l,f,rfl,P⟩:∃g f,v=jb (ja ⟨g,0,A⟩) 11 f/\11<=f:=by
  obtain⟨H,h,-⟩:=j;obtain⟨g,c,x,F,-⟩:=vA h G;exact⟨g,c,x,F⟩
 have F:=O j;have h:=ah k a;have H:∀W,(Instr.sliceAt 113 (jb (ja ⟨l,0,A⟩) 11 f) A (ja (I N 9)) A).run jm W=.ok (jb (ja ⟨l,0,A⟩) 9 f) W:=λW=>wA 113 165 4 wt wW l 0 11 f 9 Y W
 rw[<-r];clear j a k s m n t u
 go_wp2_with fail
 refine(mQ tz G ((aR c).take 9) _ E (F.val 9 G).2 (o.take (by rw[zE];decide) 9) (p.below h).num (p.below h).start).mono ?_;rintro e j ⟨rfl,a⟩;have s:=ah h a;have t:((cZ tz ((aR c).take 9)).map v8).toArray.size=32:=by rw[jU,jD,eT]
 have k:=fi (cZ tz ((aR c).take 9));obtain⟨m,n⟩:=J (((cZ tz ((aR c).take 9)).map v8).toArray);rw[<-n]at t k⊢;have u:=O n;have Q:=zw j a8 m T t k;have x:=js j (jc m 23);have K:=O x;have M:=O (s.trans ((ao j (jc m 23)).mono s.size));clear n a h k x H
 go_wp2_with fail
 go_ret;have h:=K.out;rw[u]at h;have d:=oe h (eT _ _);rw[<-u]at d;refine⟨j.heap.size,T,?_,M⟩;exact d
structure yE(b:je)(a:LBy)(w w':jg):Prop where
 buf:Buf b a w'
 bel:jl b w w'
theorem IF(k:LBy)(g:je){W:jg}{t:jH}(h:W.heap[g]?=ja (jc (k.map v8).toArray t (0,0))):∀j v,(k.map v8)[j]?=ja v->W.cell? ((⟨g,0,A⟩:jM).add j)=ja v:=by
 intro j v a;have e:(⟨g,0,A⟩:jM).add j=⟨g,j,A⟩:=by unfold Addr.add;split<;>simp_all
 rw[e];exact ai h (by rw[List.getElem?_toArray];exact a)
theorem Gw(b:je)(a d:LBy)(g n c:je)(w:jg)(h:Buf b a w)(f:d.length=n)(i:g≠b)(k:∀j v,(d.map v8)[j]?=ja v->w.cell? ((⟨g,0,A⟩:jM).add j)=ja v)(m:a.length+n<=1000000):
 jr jm 158 #[jA (ja ⟨b,0,A⟩),jb (ja ⟨g,0,A⟩) n c] w λe w'=>e=jo (jw #[I N n,.nilIface])/\yE b (a++d) w w':=by
 refine(Tryz.Buffer_Write_at _ _ b b 0 (a.map v8) (d.map v8) ⟨g,0,A⟩ n c w h (sn h.lt) (im _) (by rw[jD];exact f) i k (im _) (by rw[jD];omega)).mono ?_;rintro e w' ⟨rfl,j,l,-⟩;exact⟨T,by unfold Buf;rw[j4];exact j,l⟩
theorem uu(b:je)(a k:LBy)(w:jg)(h:Buf b a w)(o:k.length=32)(r:a.length<=900000):
 jr jm 157 #[jA (ja ⟨b,0,A⟩),jq (k.map v8).toArray] w λe w'=>e=jo (jA (ja ⟨b,0,A⟩))/\yE b (a++k) w w':=by
 obtain⟨i,l⟩:=J ((k.map v8).toArray);rw[<-l];have p:=h.lt;have d:=ao w (jc i 63);have m:=js w (jc i 63);obtain⟨c,f⟩:=J (w.alloc (jc i 63));obtain⟨g,n⟩:=J w.heap.size;have s:=O f;have t:=O n;rw[<-f]at d;rw[<-f,<-n]at m;have u:jk (g≠b):=O Y;have q:=O (h.keep d);have x:=O (d.mono (sn p));have y:jk (∀j v,(k.map v8)[j]?=ja v->c.cell? ((⟨g,0,A⟩:jM).add j)=ja v):=O (IF k g (by rw[<-l];exact m));have v:=O o;have z:jk (a.length+32<=1000000):=O Y;clear l h p d m f n o r
 go_enter func157,ntmps157
 go_upto_region 1 with fail
 rw[<-s,<-t];refine jT ?_;refine di (λd=>True) (.t 0 (.t 1 (.t 2 (.t 3 (.o 4 .done))))) af af af G (λ_ _ _ _ h=>h) trivial ?_;iterate 4 refine aQ ?_
 refine aE T (λd f=>?_);go_simp;refine(Gw b a k g 32 32 c.drew (q.keep (bV c)) v u y z).mono ?_;rintro e l ⟨rfl,d⟩;have j:jk (yE b (a++k) c l):=O ⟨d.buf,((bV c).mono (sn q.lt)).trans d.bel⟩;clear d;refine f _ _ trivial λ_=>?_
 clear f;refine L ?_;refine jR ?_
 go_wp2_with fail
 go_ret;exact⟨T,j.buf,x.trans j.bel⟩
theorem Dj(b:je)(a:LBy)(s:ByteArray)(B:s.size<=100000)(w:jg)(h:Buf b a w)(C:a.length<=900000)(t:bQ w):
 jr jm 159 #[jA (ja ⟨b,0,A⟩),jj s] w λe w'=>e=jo (jq ((dm (co s) a).map v8).toArray)/\jl w w w':=by
 obtain⟨g,i⟩:=J (dm (co s) a);have j:=iN (co s) a;rw[<-i]at j⊢;have k:(g.map v8).toArray.size=32:=by rw[jU,jD,j]
 have l:(g.map v8).toArray.all (·.oneCell')=jf:=by
  rw[List.all_toArray,List.all_eq_true];exact λu c=>im _ u c
 obtain⟨m,n⟩:=J ((g.map v8).toArray);rw[<-n]at k l⊢;have D:=O n;have E:=O i;have o:=O k;have F:=O l;have c:=ao w (jc a8 63);have p:=js w (jc a8 63);obtain⟨H,d⟩:=J (w.alloc (jc a8 63));obtain⟨f,q⟩:=J w.heap.size;have K:=O d;rw[<-d]at c;rw[<-d,<-q]at p;have u:=O (h.keep c);have x:=O (t.below c);have y:=O c;have r:=O p;have z:=O q;clear h c p t n i j k l d q
 go_enter func159,ntmps159
 go_wp2_with fail
 rw[<-K,<-z];refine(Rn b a H u).mono ?_;rintro e l ⟨v,rfl,d,c⟩;have h:=sC s B v a C l (bj.of_own (by rw[jD]at d;exact d)) (x.below c).num (x.below c).start;rw[<-E,<-D]at h;have j:=O h;have i:=O ((c.block _ (jK.1 r).1).trans r);have k:=ah y c;clear c r y u h d
 go_wp2_with fail
 refine j.mono ?_;rintro e h ⟨rfl,c⟩;have d:=O ((c.block _ (jK.1 i).1).trans i);have n:=ah k c;clear c i k j
 go_wp2_with (refine o1 T λ_ c=>o8 63 _ _ T f m T T 63 _ d.out (by rw[o];rfl) (by rw[o];rfl) F (c _ _ ?_))
 have c:(h.setRow f m).heap[f]?=ja (jc m 63 (0,0)):=pz _ _ _ _ _ _ d.out;refine jX (qd T _ _ f 63 _ (0,0) _ T c nn T (by rw[o];rfl)) T ?_;exact⟨T,p6 n.out (by rw[z];exact jn _) _⟩
def lx(s:ByteArray)(nums:jh jd):Val:=vL (.mk 2 0 s []::nums.map vI)
def dZ(k:LBy)(s:ByteArray)(nums:jh jd):LBy:=dm (co ⟨#[100,101,114,105,118,101]⟩) (k++enc (lx s nums))
theorem pH(k s nums):(dZ k s nums).length=32:=iN _ _
def lJ(s:ByteArray)(nums:jh jd):jh ji:=[I N 2,I N 0,jj s,jb A 0 0]++ia nums
theorem SI{s:ByteArray}{nums:jh jd}(a:w.ownsRow B 165 4 u (nums.length+1) (lJ s nums))(b:∀g,u.ownBlock=ja g->D g):aV D w (lx s nums) u:=by
 rw[lx,vL,aV];refine⟨dF::j9 nums.length dF,?_,?_⟩
 ·rw[jW,jD];exact aH.of_own a b
 rw[aM];refine⟨dF,_,T,?_,yg nums⟩;rw[aV];exact⟨[],⟨T,A,0,T,jn _,λ_=>rfl,λh=>jG h G⟩,by rw[aM]⟩
structure AU(s:ByteArray)(nums:jh jd):Prop where
 wf:wfV 16 (lx s nums)
 len:(enc (lx s nums)).length<=800000
 cnt:nums.length<=100000
theorem QU(s:ByteArray)(l:jh jd)(n:jd):lJ s (l++[n])=lJ s l++[I N 1,I N n,jj ⟨#[]⟩,jb A 0 0]:=by
 unfold lJ;rw[IQ,j6]
theorem NN{i:je}(h:w.ownsRow B e m u i f)(l:0<i):∃g c,u=jb (ja ⟨g,0,A⟩) i c/\B<=g/\g<w.heap.size/\∀j v,f[j]?=ja v->w.cell? ((⟨g,0,A⟩:jM).add j)=ja v:=by
 rcases h.2 with⟨rfl,sz⟩|⟨g,d,o,rfl,xs,b,p,q,r,n⟩
 ·omega
 refine⟨g,d,T,xs,(jK.1 b).1,λj v a=>?_⟩;have e:(⟨g,0,A⟩:jM).add j=⟨g,j,A⟩:=by unfold Addr.add;split<;>simp_all
 rw[e];refine ai b ?_;rw[<-n]at a;have k:=(xr.1 a).1;rw[qf]at k;rw[rn Y]at a;rw[<-a];simp
theorem FB(h:∀j u,f[j]?=ja u->w.cell? ((⟨B,0,A⟩:jM).add j)=ja u)(w':a.heap[B]?=w.heap[B]?):∀j u,f[j]?=ja u->a.cell? ((⟨B,0,A⟩:jM).add j)=ja u:=by
 intro j u b;have e:(⟨B,0,A⟩:jM).add j=⟨B,j,A⟩:=by unfold Addr.add;split<;>simp_all
 have:=h j u b;rw[e]at this⊢;exact(dY w').trans this
theorem sK(k:LBy)(r:k.length=32)(s:ByteArray)(l:jh jd)(v:ji)(w:jg)(hv:c8 w v l)(f:AU s l)(K:bQ w):
 jr jm 102 #[jq (k.map v8).toArray,jj s,v] w λe w'=>e=jo (jq ((dZ k s l).map v8).toArray)/\jl w w w':=by
 obtain⟨p,c,rfl,hc,t⟩:=hv;obtain⟨n,u⟩:=J l.length;have hl:=f.cnt;rw[<-u]at hc hl t⊢;have z:=O u;have B:=O f;have S:=O t;have C:=O r;obtain⟨h,g⟩:=J ((k.map v8).toArray);have M:h.size=32:=by rw[g,jU,jD,r]
 have x:=ao w (jc h 63);have y:=js w (jc h 63);have E:=ao (w.alloc (jc h 63)) (jc a8 63);have b:=js (w.alloc (jc h 63)) (jc a8 63);rw[jC]at b;obtain⟨a,i⟩:=J ((w.alloc (jc h 63)).alloc (jc a8 63));obtain⟨d,o⟩:=J w.heap.size;have q:=(E.block _ (jK.1 y).1).trans y;have m:=O (x.trans (E.mono x.size));have P:a.heap.size=d+1+1:=by rw[i,o];simp
 rw[<-o]at q b;rw[<-i]at q b m;rw[<-g];have U:=O g;have VV:=O i;have F:=O o;have Yx:=O q;have U1:=O b;have H:=O K;have Vj:=O M;have j:=O P;clear u f t r g x y E b i o q K M P
 go_enter func102,ntmps102
 go_upto_region 2 with fail
 rw[<-VV,<-F];have b:=ao a (jc #[I N 2,I N 0,jj s,jb A 0 0] 165);have g:(a.alloc (jc #[I N 2,I N 0,jj s,jb A 0 0] 165)).ownsRow a.heap.size 165 4 (jb (ja ⟨d+1+1,0,A⟩) 1 1) 1 (lJ s []):=by
  rw[<-j];refine⟨by simp[lJ,ia,cS],.inr ⟨a.heap.size,1,_,T,jn _,js a _,jn _,by unfold j3;omega,rfl,by simp[lJ,ia,cS]⟩⟩
 obtain⟨W2,i⟩:=J (a.alloc (jc #[I N 2,I N 0,jj s,jb A 0 0] 165));rw[<-i]at b g⊢;have UC:=O b;have V:=O g;obtain⟨v2,o⟩:=J (jP (ja ⟨d+1+1,0,A⟩) 1 1);rw[<-o]at V⊢;have bc:=b.size;clear b g i o
 go_wp2_with fail
 go_loopw [7,18] (λg b wr=>∃(i:je) (K:ji),g=K/\b=I N i/\i<=n/\jk (wr.ownsRow a 165 4 K (i+1) (lJ s (l.take i)))/\jk (jl a a wr)) (λ_ b _=>n-(jv b).toNat)
 case atStart=>exact⟨0,_,T,T,jJ _,O (by rw[List.take_zero];exact V),UC⟩
 obtain⟨i,K,rfl,rfl,hi,t,q⟩:=hrel
 by_cases W:i<n
 ·have X:=aA ((i:jd)<(n:jd))
  have UY:=aA (i<n);obtain⟨g,o,rfl,u⟩:=S Y;have r:i<l.length:=by rw[<-z];exact W
  have E:l.getD i 0=l[i]:=by simp[jO,r]
  obtain⟨y,x⟩:=J (l.getD i 0);have b:=u i W;rw[<-x]at b;have M:wr.cell? ⟨g,o+i,A⟩=ja (I N y):=(dY (q.block g (jN (gg b) m.size))).trans ((dY (m.block g (gg b))).trans b);have H:jk (lJ s (l.take (i+1))=lJ s (l.take i)++[I N 1,I N y,jj ⟨#[]⟩,jb A 0 0]):=O (by
   rw[o3 r,QU,x,E])
  have P:=q.size;clear E x b u r S
  go_wp2_with (at_builtin;refine Hid.out ?_)
  refine O ?_;refine o1 T λ_ x=>ra _ _ T a.heap.size _ _ _ T (cK t (ao wr _)) _ 1 [I N 1,I N y,jj ⟨#[]⟩,jb A 0 0] T (lB wr [I N 1,I N y,jj ⟨#[]⟩,jb A 0 0] _ _ 4 1 1 T (jn _)) (by simp[j1]) (show i+1+1<=4000000 by omega) (by rw[jC];omega) λE w6 b=>x _ _ ?_
  have r:=O (q.trans (((ao wr _).mono (show a.heap.size<=wr.heap.size by omega)).trans (b.below (cK t (ao wr _)) (by rw[jC];omega))));replace b:=O b.own;clear x
  go_wp2_with fail
  refine⟨⟨i+1,_,T,by go_num,by omega,O (by rw[H];exact b),r⟩,?_⟩;simp only[jv];omega
 have X:=az ((i:jd)<(n:jd));have UY:=az (i<n);have o:i=n:=Y;have b:=t.out;rw[o,nv (by rw[<-z];exact jn _),z]at b;obtain⟨p7,c7,rfl⟩:=cN b;have y:=SI (D:=(·<wr.heap.size)) b (λg u=>(b.lt g u).2);have aa:=O (Ff (lx s l) _ 3 wr T B.wf y (cT B.len));have bd:=O o;clear o b y t
 go_wp2_with fail
 refine aa.mono ?_;rintro e u ⟨vb,rfl,ad,b⟩;have o:=ah q b;clear b
 go_upto_region 9 with fail
 have y:=Buf.new u;have g:=ao u (jc #[jb A 0 0,I N 0,.int .i8 0] 253);obtain⟨M,Zl⟩:=J (u.alloc (jc #[jb A 0 0,I N 0,.int .i8 0] 253));obtain⟨b,P⟩:=J u.heap.size;rw[<-Zl]at y g⊢;rw[<-P]at y⊢;have au:=o.size;have Q:M.heap[d]?=ja (jc h 63 (0,0)):=(g.block _ (aI j)).trans ((o.block _ (aI j)).trans Yx);have ax:M.heap[d+1]?=ja (jc a8 63 (0,0)):=(g.block _ (aI j)).trans ((o.block _ (aI j)).trans U1);have ay:=Q;rw[U]at Q;obtain⟨gb,cb,e3,bb,R,t⟩:=NN ad (DW _);subst e3;have a1:gb<b:=by rw[P];exact R
 replace t:=FB t (g.block _ R);obtain⟨E,f⟩:=J (enc (lx s l));have a2:E.length<=800000:=by rw[f];exact B.len
 rw[<-f]at t⊢;have a3:=O y;have a4:=O ay;have YS:=O ax;have YF:=O t;have Z2:=O f;have Wu:=O a1;have a5:=O a2;have UK:=O (m.trans ((o.mono m.size).trans (g.mono (jz m.size au))));have a6:jk (w.heap.size<=b):=O (ee j F);have ba:jk (d+1<b):=O (aI j);clear y g Zl P au Q ax ay ad bb R t a1 f a2 aa o q j X UY;refine qP ?_;refine o5 T 63 _ T d T 63 h (0,0) _ a4.out nn T (by rw[Vj];rfl) ?_
 go_wp2_with fail
 have f:=uu b [] k M a3 C ar;rw[<-U]at f;refine f.mono ?_;clear f;rintro e y ⟨rfl,f⟩;rw[qa]at f;have g:jk (∀j v,(E.map v8)[j]?=ja v->y.cell? ((⟨gb,0,A⟩:jM).add j)=ja v):=O (by
  exact FB YF (f.bel.block _ Wu.out))
 have j:=O ((f.bel.block _ ba.out).trans YS);have q:=O (UK.trans (f.bel.mono a6));have t:=O f.buf;clear f YS UK YF a4 a3
 go_wp2_with fail
 refine(Gw b k E gb E.length cb y t T (Nat.ne_of_lt Wu) g (by have:=a5.out;rw[C];omega)).mono ?_;rintro e w6 ⟨rfl,f⟩;have o:=O ((f.bel.block _ ba.out).trans j);have r:=O (q.trans (f.bel.mono a6));have ad:=O f.buf;clear f j q t g;have f:=Dj b (k++E) ⟨#[100,101,114,105,118,101]⟩ G w6 ad (by have:=a5.out;rw[jL,C];omega) (H.below r);have P:dm (co ⟨#[100,101,114,105,118,101]⟩) (k++E)=dZ k s l:=by rw[Z2];rfl
 rw[P]at f;have Q:=pH k s l;have q:=fi (dZ k s l);obtain⟨g,j⟩:=J (((dZ k s l).map v8).toArray);have R:g.size=32:=by rw[j,jU,jD,Q]
 rw[<-j]at f q;have aa:=O f;have au:=O j;have t:=O R;have ax:=O q;clear f P Q q j R
 go_wp2_with fail
 refine aa.mono ?_;rintro e q ⟨rfl,f⟩;have j:=O ((f.block _ (jK.1 o).1).trans o);have P:=ah r f;clear f o r aa
 go_wp2_with (refine o1 T λ_ x=>o8 63 _ _ T (d+1) g T T 63 _ j.out (by rw[t];rfl) (by rw[t];rfl) ax (x _ _ ?_))
 have f:(q.setRow (d+1) g).heap[d+1]?=ja (jc g 63 (0,0)):=pz _ _ _ _ _ _ j.out;refine jX (qd T _ _ (d+1) 63 _ (0,0) _ T f nn T (by rw[t];rfl)) T ?_;exact⟨by rw[au],p6 P.out (by rw[F];exact Nat.le_succ _) _⟩
def pk(s:ByteArray)(a b:LBy):LBy:=dm (co ⟨#[109,105,120]⟩) ([]++dM (co s)++a++b)
theorem EI(s a b):(pk s a b).length=32:=iN _ _
theorem My:(jm.info? 63).map (·.size)=ja 32:=by kernel_rfl
theorem tB{a:Act}{o:ob}{x:Operand}(e:h.size=32)(f:o.op=.load 63 x)(g:a.eval x=jA (ja ⟨B,0,A⟩))(i:w.heap[B]?=ja (jc h 63 (0,0))):
 (qx a.eval o).run jm w=.ok (.value (jq h)) w:=by
 have c:=fk (P:=jm) o a 63 x f B 0 g h.toList _ (vV (t:=63) (l:=h.toList) (ak i)) nn T (by rw[Array.length_toList,e];exact My)
 simpa using c
theorem Rs(s:ByteArray)(Q:s.size<=100000)(g k2:LBy)(p:g.length=32)(q:k2.length=32)(w:jg)(R:bQ w):
 jr jm 151 #[jj s,jq (g.map v8).toArray,jq (k2.map v8).toArray] w λe w'=>e=jo (jq ((pk s g k2).map v8).toArray)/\jl w w w':=by
 obtain⟨A0,S⟩:=J (((dM (co s)).map v8).toArray);obtain⟨j,r⟩:=J ((g.map v8).toArray);obtain⟨k,t⟩:=J ((k2.map v8).toArray);have U:j.size=32:=by rw[r,jU,jD,p]
 have V:k.size=32:=by rw[t,jU,jD,q]
 have W:=EI s g k2;have y:=fi (pk s g k2);obtain⟨l,u⟩:=J (((pk s g k2).map v8).toArray);have X:l.size=32:=by rw[u,jU,jD,W]
 rw[<-u]at y⊢;rw[<-r,<-t];obtain⟨f,d⟩:=J w.heap.size;obtain⟨i,c⟩:=J (((w.alloc (jc j 63)).alloc (jc k 63)).alloc (jc a8 63));have hp:i.heap[f]?=ja (jc j 63 (0,0)):=by
  rw[c,d];exact(jF _ _ _ (by simp;omega)).trans ((jF _ _ _ ar).trans (js w _))
 have aa:i.heap[f+1]?=ja (jc k 63 (0,0)):=by
  have h:=js (w.alloc (jc j 63)) (jc k 63);rw[jC]at h;rw[c,d];exact(jF _ _ _ ar).trans h
 have hr:i.heap[f+1+1]?=ja (jc a8 63 (0,0)):=by
  have h:=js ((w.alloc (jc j 63)).alloc (jc k 63)) (jc a8 63);rw[jC,jC]at h;rw[c,d];exact h
 have a:jl w w i:=by
  rw[c];exact(((jy _ w).alloc (jn _) _).alloc ar _).alloc (by simp;omega) _
 have ad:i.heap.size=f+1+1+1:=by rw[c,d];simp
 have n:=Buf.new i;have m:=ao i (jc #[jb A 0 0,I N 0,.int .i8 0] 253);obtain⟨W2,z⟩:=J (i.alloc (jc #[jb A 0 0,I N 0,.int .i8 0] 253));rw[<-z]at n m;rw[ad]at n;obtain⟨b,B⟩:=J (f+1+1+1);rw[<-B]at n;have C:jk (w.heap.size<=b):=O Y;have D:jk (f<b):=O Y;have E:jk (f+1<b):=O Y;have F:jk (f+1+1<b):=O Y;have au:=O n;have H:=ae hp m;have K:=ae aa m;have UZ:=ae hr m;have UC:=O (a.trans (m.mono a.size));have HG:=O d;have VV:=O c;have a1:=O z;have Wp:=O B;have Vz:=O S;have U5:=O r;have Vu:=O t;have a2:=O U;have Zm:=O V;have ax:=O u;have M:=O X;have a3:=O y;have o:=O p;have ay:=O q;have P:=O R;have x:jk (s.size<=100000/\(dM (co s)).length=32):=O ⟨Q,mM _⟩;clear d c z B S r t U V u W X y p q R Q hp aa hr a ad n m
 go_enter func151,ntmps151
 go_upto_region 2 with fail
 rw[<-HG,<-VV,<-a1,<-Wp];refine jT ?_;refine di (λc=>c.heap[f]?=ja (jc j 63 (0,0))/\c.heap[f+1]?=ja (jc k 63 (0,0))) (.t 0 (.t 4 (.t 6 (.o 1 (.o 2 (.o 3 (.o 5 (.o 7 (.o 8 (.o 9 .done)))))))))) af af af G (λ_ _ _ _ h=>h) ⟨H,K⟩ ?_;obtain⟨n,d⟩:=J W2.drew;have a:=bV W2;rw[<-d]at a⊢;have u:=O (au.keep a);have y:=ae UZ a;have z:=ae H a;have B:=ae K a;have Q:=ah UC a;clear au UZ H K UC a d;refine aQ ?_
 (refine aW (v:=jq j) T aj (λc d=>tB a2 T T d.1) (L ?_))
 (refine aW (v:=jq k) T aj (λc d=>tB Zm T T d.2) (L ?_))
 refine aE T (λm c=>?_);go_simp;have d:=Ia s n;rw[d];have a:=AW s n n.heap.size (jn _);have h:=BZ s n;obtain⟨x1,r⟩:=J (nP s n);rw[<-r]at a h⊢;clear d r;have H:=O (u.keep a);have K:=ae y a;have r:=ae z a;have t:=ae B a;have d:=ah Q a;clear u y z B Q a;have U:=O h;clear h;go_simp;refine c _ _ ⟨r,t⟩ λ_=>?_
 clear c;refine L ?_;refine aE T (λm c=>?_);go_simp;have h:=uc _ _ (by rw[kT];have:=x.out;omega) x1 U (P.below d).num (P.below d).start;rw[<-Vz]at h;refine h.mono ?_;clear h;rintro e x2 ⟨rfl,a⟩;have z:=O (H.keep a);have B:=ae K a;have u:=ae r a;have y:=ae t a;have Q:=ah d a;clear H K r t d a;refine c _ _ ⟨u,y⟩ λ_=>?_
 clear c;refine L ?_;refine aE T (λm c=>?_);go_simp;have h:=uu b [] (dM (co s)) x2 z (mM _) (by have:=x.out;have:=o.out;simp only[j8,jL];omega);rw[<-Vz]at h;refine h.mono ?_;clear h;rintro e V ⟨rfl,d⟩;have H:=O d.buf;have K:=O ((d.bel.block _ F.out).trans B);have r:=O ((d.bel.block _ D.out).trans u);have t:=O ((d.bel.block _ E.out).trans y);have R:=O (Q.trans (d.bel.mono C));clear d z B u y Q;refine c _ _ ⟨r,t⟩ λ_=>?_
 clear c;refine L ?_;refine aE T (λm c=>?_);go_simp;have h:=uu b ([]++dM (co s)) g V H o (by have:=x.out;have:=o.out;simp only[j8,jL];omega);rw[<-U5]at h;refine h.mono ?_;clear h;rintro e W ⟨rfl,d⟩;have B:=O d.buf;have Q:=O ((d.bel.block _ F.out).trans K);have u:=O ((d.bel.block _ D.out).trans r);have y:=O ((d.bel.block _ E.out).trans t);have S:=O (R.trans (d.bel.mono C));clear d H K r t R;refine c _ _ ⟨u,y⟩ λ_=>?_
 clear c;refine L ?_;refine aE T (λm c=>?_);go_simp;have h:=uu b ([]++dM (co s)++g) k2 W B ay (by have:=x.out;have:=o.out;simp only[j8,jL];omega);rw[<-Vu]at h;refine h.mono ?_;clear h;rintro e K ⟨rfl,d⟩;have h:=O d.buf;have H:=O ((d.bel.block _ F.out).trans Q);have r:=O ((d.bel.block _ D.out).trans u);have t:=O ((d.bel.block _ E.out).trans y);have z:=O (S.trans (d.bel.mono C));clear d B Q u y S;refine c _ _ ⟨r,t⟩ λ_=>?_
 clear c;refine L ?_;refine aE T (λm c=>?_);go_simp;have d:=Dj b ([]++dM (co s)++g++k2) ⟨#[109,105,120]⟩ G K h (by have p:=mM (co s);have q:=o.out;have u:=ay.out;simp only[j8,jL];omega) (P.below z);have u:dm (co ⟨#[109,105,120]⟩) ([]++dM (co s)++g++k2)=pk s g k2:=T;rw[u]at d;rw[<-ax]at d;refine d.mono ?_;clear d u;rintro e d ⟨rfl,a⟩;have R:=O (h.keep a);have u:=ae H a;have y:=ae r a;have B:=ae t a;have Q:=ah z a;clear h H r t z a;refine c _ _ ⟨y,B⟩ λ_=>?_
 clear c;refine L ?_;refine aE T (λm c=>?_);rw[jB aj];refine o8 63 _ _ T (f+1+1) l T T 63 _ u.out (by rw[M];rfl) (by rw[M];rfl) a3 (c _ _ ⟨(qe _ _ _ _ Y).trans y,(qe _ _ _ _ Y).trans B⟩ λ_=>?_);clear c;have a:(d.setRow (f+1+1) l).heap[f+1+1]?=ja (jc l 63 (0,0)):=pz _ _ _ _ _ _ u.out;have c:jl w w (d.setRow (f+1+1) l):=p6 Q.out (by rw[HG];omega) _;generalize d.setRow (f+1+1) l=z at a c⊢;have h:=O a;have m:=O c;clear a c;refine L ?_;refine jR ?_
 go_wp2_with fail
 refine jX (qd T _ _ (f+1+1) 63 _ (0,0) _ T h nn T (by rw[M];rfl)) T ?_;exact⟨by rw[ax],m⟩
theorem zW(w:jg):c8 w (jb A 0 0) []:=⟨A,0,T,jn _,λh=>jG h ar⟩
theorem G4(u:je)(a:u<2^64):(da u).length<=10:=mq u a
theorem AN(s:ByteArray)(b:s.size<=1000):AU s [] where
 wf:=by
  rw[lx,vL,wfV];refine .inr (.inr ⟨T,T,T,by simp,λx a=>?_⟩);simp only[r9,List.mem_cons,List.mem_nil_iff,or_false]at a;subst a;rw[wfV];exact .inr (.inl ⟨T,T,by omega,rfl⟩)
 len:=by
  rw[lx,pK];simp only[r9,encs,enc];rw[jI G,jB trivial];have a:=G4 1 G;have c:=G4 s.size Y;simp only[jW,jL,j8,kT];simp only[j8,ms];omega
 cnt:=by simp
theorem An(h:w.heap[B]?=ja (jc (j.map v8).toArray e (0,0)))(a:j.length=32):bj w (jb (ja ⟨B,0,A⟩) 32 32) j:=by
 refine⟨_,32,by rw[a],by rw[a];exact jn _,(λh=>by cases h),λ_=>⟨B,0,T,λl b=>ai h ?_⟩⟩;rw[ms];simp[jO,b]
def va(k:LBy)(s:ByteArray):je:=o6 (co ⟨#[115,99,97,108,97,114]⟩) (dZ k s [])
theorem G3(k:LBy)(o:k.length=32)(s:ByteArray)(y:s.size<=1000)(w:jg)(h:bQ w):
 jr jm 153 #[jq (k.map v8).toArray,jj s] w λe w'=>e=jo (I N (va k s:je))/\jl w w w':=by
 obtain⟨b,i⟩:=J ((k.map v8).toArray);have p:b.size=32:=by rw[i,jU,jD,o]
 have a:=ao w (jc b 63);have c:=js w (jc b 63);obtain⟨z,j⟩:=J w.heap.size;obtain⟨B,l⟩:=J (w.alloc (jc b 63));rw[<-j]at c;rw[<-l]at c a;have d:=sK k o s [] _ B (zW _) (AN s y) (h.below a);rw[<-i]at d⊢;have m:=pH k s [];have n:=fi (dZ k s []);obtain⟨f,g⟩:=J (((dZ k s []).map v8).toArray);have q:f.size=32:=by rw[g,jU,jD,m]
 rw[<-g]at n d;have C:=O j;have D:=O l;have E:=O a;have r:=O c;have t:=O d;have F:=O g;have u:=O q;have v:=O m;have H:=O n;have K:=O p;have x:=O h;clear i p a c j l d m n g q h
 go_enter func153,ntmps153
 go_upto_region 1 with fail
 rw[<-C,<-D];refine qP ?_;refine o5 T 63 _ T z T 63 b (0,0) _ r.out nn T (by rw[K];rfl) ?_
 go_wp2_with fail
 refine t.mono ?_;rintro e a ⟨rfl,c⟩;have g:=ah E c;clear c t r
 go_wp2_with (refine o1 T λ_ j=>o8 63 _ _ T a.heap.size f T T 63 _ (js a _) (by rw[u];rfl) (by rw[u];rfl) H (j _ _ ?_))
 obtain⟨h,c⟩:=J ((a.alloc (jc a8 63)).setRow a.heap.size f);have i:h.heap[a.heap.size]?=ja (jc f 63 (0,0)):=by rw[c];exact pz _ _ _ _ _ _ (js a _)
 have d:jl w w h:=by rw[c];exact p6 (g.trans ((ao a _).mono g.size)) g.size _
 rw[F]at i;have l:=Ip ⟨#[115,99,97,108,97,114]⟩ G _ _ (by rw[v];decide) h (An i v) (x.below d).num (x.below d).start;rw[<-c];have m:=O d;clear i c j d;refine l.mono ?_;clear l;rintro e i ⟨rfl,c⟩;have d:=ah m c;clear c
 go_wp2_with fail
 go_ret;exact⟨T,d⟩
theorem KJ(n:je)(q:n<=1000000)(w:jg):
 jr jm 212 #[jb A 0 0,I N n] w λe w'=>∃v,e=jo v/\w'.ownsRow w 165 4 v 0 []/\jl w w w':=by
 rcases qH n with b|b
 ·subst b
  go_enter func212,ntmps212
  go_wp2
  go_ret;exact⟨_,T,j0 _ _ _ _,jy _ _⟩
 obtain⟨i,f,g,j,h⟩:=qh De;have a:=Lib.run_append_nil_zeros (P:=jm) w 113 3 113 165 i (jq #[I N 0,I N 0,jj ⟨#[]⟩,jb A 0 0]:ji) .i64 .i64 wt jQ f g n b Y Y (by rw[h];omega);have l:=grownCap_ge w n 0 165;have c:=grownCap_le_maxLen w n 0 165 (by unfold j3;omega);generalize grownCap w n 0 165=C at a l c;have d:(Builtin.zeroCells (jq #[I N 0,I N 0,jj ⟨#[]⟩,jb A 0 0]:ji).cells n++Builtin.zeroCells (jq #[I N 0,I N 0,jj ⟨#[]⟩,jb A 0 0]:ji).cells (C-n)).size=C*4:=by
  rw[Array.size_append,size_zeroCells,size_zeroCells];show n*4+(C-n)*4=C*4;omega
 generalize Builtin.zeroCells (jq #[I N 0,I N 0,jj ⟨#[]⟩,jb A 0 0]:ji).cells n++Builtin.zeroCells (jq #[I N 0,I N 0,jj ⟨#[]⟩,jb A 0 0]:ji).cells (C-n)=Z at a d;have m:=O a;have o:=O d;have p:=O c;clear a d c f g j h;have c:(0:jd)<(n:jd):=Y
 go_enter func212,ntmps212
 go_wp2_with (at_builtin;refine Lib.wpList_append_run _ T _ _ 113 3 T _ _ T T _ _ m.out ?_)
 go_ret;refine⟨_,T,⟨T,.inr ⟨w.heap.size,C,Z,T,jn _,js w.drew _,jJ _,p,o,T⟩⟩,?_⟩;exact⟨T,T,T,by simp,λk a=>jF w.drew _ _ a⟩
def ta(w:jg)(v:ji)(l:jh (jh ji)):Prop:=cF w v 4 l.length l.flatten
def fX(a:jh (jh (jh ji)))(k:je):jh (jh ji):=(a.take k).flatten
theorem Gr(a:jh (jh (jh ji)))(k:je)(b:k<a.length):fX a (k+1)=fX a k++a.getD k []:=by
 unfold fX;rw[List.take_add_one,xA];simp[b,jO]
theorem yY(a:jh (jh (jh ji)))(k:je):(fX a k).length<=a.flatten.length:=by
 have h:a.flatten=fX a k++(a.drop k).flatten:=by
  unfold fX;rw[<-xA,xt]
 rw[h];simp
theorem Qy(g m:je)(t:jH)(h:jh ji)(a:jh (jh (jh ji)))(z:h.length=m)(B:a.length=m)(U:a.flatten.length<=1000000)(w:jg)
 (b:w.heap[g]?=ja (jc h.toArray t (0,0))) (c:∀i,i<m->ta w (h.getD i ju) (a.getD i [])) (V:m<=1000) (d:∀e∈a.flatten,∀u∈e,u.oneCell'=jf):
 jr jm 160 #[jb (ja ⟨g,0,A⟩) m m] w λe w'=>∃v,e=jo v/\w'.ownsRow w 165 4 v a.flatten.length a.flatten.flatten/\jl w w w':=by
 have C:g<w.heap.size:=(jK.1 b).1;have f:jk (∀i,i<m->w.cell? ⟨g,i,A⟩=ja (h.getD i ju)):=O λi D=>by
  simp[j5,b,z,D,jO]
 have r:=O c;have E:=O d;clear c b d
 go_enter func160,ntmps160
 go_wp2_with fail
 go_loopw [3,11] (λs b wr=>∃k:je,b=I N k/\k<=m/\s=I N ((fX a k).length:je)/\wr=w) (λ_ b _=>(m-jv b).toNat)
 case atStart=>exact⟨0,T,by omega,rfl,rfl⟩
 obtain⟨k,rfl,W,rfl,c⟩:=hrel;have F:=c.symm;subst F;clear c
 by_cases s:k<m
 ·have l:=f k s
  have H:=yY a (k+1);have d:=Gr a k Y;obtain⟨n,p,c,j,x,y,q⟩:=r k s;rw[j]at l;have o:(fX a (k+1)).length=(fX a k).length+(a.getD k []).length:=by rw[d];simp
  clear j q d n;generalize(a.getD k []).length=n at l o x;have j:=O o;clear o;generalize(fX a k).length=q at j⊢;have K:¬((q:jd)+(n:jd)<0):=Y;have M:q+n<=1000000:=aI j
  go_wp2
  refine⟨⟨k+1,by go_num,by omega,?_,trivial⟩,by simp[jv];omega⟩;rw[j];simp
 have X:jk (k=m):=O Y;have H:=yY a k
 go_wp2_with fail
 refine(KJ _ Y _).mono ?_;rintro e w1 ⟨v,rfl,K,c⟩;have M:=O c;clear c
 go_wp2_with fail
 go_loopw [6,27] (λl b c=>∃j:je,b=I N j/\j<=m/\c.ownsRow w 165 4 l (fX a j).length (fX a j).flatten/\jk (jl w w c)) (λ_ b _=>(m-jv b).toNat)
 case atStart=>exact⟨0,T,by omega,by simpa [fX]using K,M⟩
 obtain⟨j,rfl,hj,b,c⟩:=hrel
 by_cases x:j<m
 ·have P:=gh (f j x) (c.block _ C)
  have l:=cF.below (r j x) c;have d:=Gr a j Y;have y:=yY a (j+1);generalize h.getD j ju=vj at P l;have n:∀u∈(a.getD j []).flatten,u.oneCell'=jf:=λu p=>by
   obtain⟨e,he,p⟩:=xB.1 p;refine E e (xB.2 ⟨a.getD j [],?_,he⟩) u p;have q:j<a.length:=Y;simp[jO,q]
  generalize a.getD j []=q at d l n;have aa:=c.size;have o:(fX a j).length+q.length<=1000000:=by rw[d,jL]at y;omega
  have Q:=O d;have R:=O n;have S:=O l;clear d l y n
  go_wp2_with (at_builtin;refine Hid.out ?_)
  refine O ?_;refine o1 T λ_ d=>ra _ _ T w.heap.size _ _ _ T b _ q.length q.flatten T S R Y Y λy w4 f=>d _ _ ?_
  have l:=f.own;have n:=f.grown;clear f d
  go_wp2_with fail
  go_roundw
  case rel=>
   refine⟨j+1,by go_num,by omega,?_,c.grown n Y (λk e=>(b.lt k e).1)⟩;rw[Q]
   simpa using l
  case measure=>simp[jv];omega
 have d:j=m:=Y;have l:fX a j=a.flatten:=by rw[d,<-B];simp[fX]
 rw[l]at b;have n:=O b;clear b d l
 go_wp2
 go_ret;exact⟨_,T,n,c⟩
def mP(w:jg):Prop:=w.var? jm "chartroom/schedule.labels" =ja #[jj ⟨#[105,110,105,116]⟩,jj ⟨#[99,111,109,109,105,116]⟩,jj ⟨#[99,104,105,108,100]⟩]
theorem zP:jm.globalNamed "chartroom/schedule.labels" =ja 1:=by kernel_rfl
theorem mP.below(h:mP w)(b:jl w w w'):mP w':=by
 unfold mP World.var? at*;rw[zP]at h⊢;simp only[Option.bind_some]at h⊢;have c:1<w.heap.size:=by
  rcases qE 1 w.heap.size with a|a
  ·exact a
  rw[Array.getElem?_eq_none a]at h
  cases h
 rw[b.block _ c];exact h
theorem mP.c0(h:mP w):w.cell? ⟨1,0,A⟩=ja (jj ⟨#[105,110,105,116]⟩):=by
 have:=xC zP h 0
 simpa using this
theorem mP.c1(h:mP w):w.cell? ⟨1,1,A⟩=ja (jj ⟨#[99,111,109,109,105,116]⟩):=by
 have:=xC zP h 1
 simpa using this
structure iC(w:jg):Prop where
 dig:bQ w
 lab:mP w
theorem iC.below(h:iC w)(a:jl w w w'):iC w':=⟨h.dig.below a,h.lab.below a⟩
def sM(a:ByteArray)(k:LBy):LBy:=dZ k a []
def wZ(init a:LBy):LBy:=pk ⟨#[101,112,111,99,104]⟩ init (sM ⟨#[99,111,109,109,105,116]⟩ a)
def aT(s:LBy):je:=va s ⟨#[110,111,100,101]⟩
theorem yN(l k):(sM l k).length=32:=pH _ _ _
theorem Cd(l k):(wZ l k).length=32:=EI _ _ _
structure Arr(l:LBy)(a:jZ ji):Prop where
 eq:a=(l.map v8).toArray
 sz:a.size=32
 one:a.all (·.oneCell')=jf
theorem Arr.mk'(h:j.length=32):∃a,a=(j.map v8).toArray/\Arr j a:=⟨_,T,T,by rw[jU,jD,h],fi _⟩
theorem Mv(k:LBy)(l:k.length=32)(w:jg)(h:iC w):
 jr jm 152 #[I N 1,jq (k.map v8).toArray] w λe w'=>e=jo (jq ((sM ⟨#[99,111,109,109,105,116]⟩ k).map v8).toArray)/\jl w w w':=by
 obtain⟨c,r,s⟩:=Arr.mk' l;obtain⟨f,t,u⟩:=Arr.mk' (yN ⟨#[99,111,109,109,105,116]⟩ k);rw[<-r,<-t];have C:=O l;have x:=O s;have g:=O u;have D:=O h;have m:=ao w (jc c 63);have y:=js w (jc c 63);have a:=ao (w.alloc (jc c 63)) (jc a8 63);have n:=js (w.alloc (jc c 63)) (jc a8 63);rw[jC]at n;obtain⟨B,o⟩:=J ((w.alloc (jc c 63)).alloc (jc a8 63));obtain⟨b,p⟩:=J w.heap.size;have i:=ae y a;have d:=O (m.trans (a.mono m.size));have j:=O n;rw[<-p]at i j;rw[<-o]at i j d;have E:=O o;have q:=O p;clear m y a n o p;have m:=O (aB h.lab.c1 d);have y:jk (1<b+1):=O (by have:=gg h.lab.c1;rw[q];exact Nat.lt_succ_of_lt this);clear r s t u l h
 go_enter func152,ntmps152
 go_upto_region 1 with fail
 rw[<-E,<-q];refine jT ?_;refine di (λl=>l.heap[b]?=ja (jc c 63 (0,0))/\l.cell? ⟨1,1,A⟩=ja (jj ⟨#[99,111,109,109,105,116]⟩)) (.t 0 (.t 1 (.t 2 (.t 3 (.o 4 (.o 5 .done)))))) af af af G (λ_ _ _ _ h=>h) ⟨i,m⟩ ?_;obtain⟨r,h⟩:=J B.drew;have a:=bV B;rw[<-h]at a⊢;replace d:=ah d a;have n:=ae i a;have o:=ae j a;have p:=O (aB m a);clear a h i j m
 (refine aW (v:=jq c) T aj (λl h=>tB x.sz T T h.1) (L ?_))
 iterate 2 refine aQ ?_
 (refine aW (v:=?_) T aj (λl h=>?_) ?_;rotate_left;(have i:=h.2;go_simp;with_reducible rfl);refine L ?_)
 refine aE T (λm h=>?_);go_simp;have i:=sK k C ⟨#[99,111,109,109,105,116]⟩ [] _ r (zW _) (AN _ G) (D.dig.below d);rw[<-x.eq]at i;have j:((dZ k ⟨#[99,111,109,109,105,116]⟩ []).map v8).toArray=f:=g.eq.symm;rw[j]at i;refine i.mono ?_;clear i j;rintro e x1 ⟨rfl,a⟩;have i:=ae n a;have j:=ae o a;have l:=O (aB p a);have s:=ah d a;clear a n o p d;refine h _ _ ⟨i,l⟩ λ_=>?_
 clear h;refine L ?_;refine aE T (λm h=>?_);rw[jB aj];refine o8 63 _ _ T (b+1) f T T 63 _ j.out (by rw[g.sz];rfl) (by rw[g.sz];rfl) g.one (h _ _ ⟨(qe _ _ _ _ Y).trans i,(dY (qe _ _ _ _ (Nat.ne_of_lt y))).trans l⟩ λ_=>?_);clear h;have a:(x1.setRow (b+1) f).heap[b+1]?=ja (jc f 63 (0,0)):=pz _ _ _ _ _ _ j.out;have d:jl w w (x1.setRow (b+1) f):=p6 s.out (by rw[q];exact Nat.le_succ _) _;generalize x1.setRow (b+1) f=z at a d⊢;have h:=O a;have m:=O d;clear a d;refine L ?_;refine jR ?_
 go_wp2_with fail
 refine jX (qd T _ _ (b+1) 63 _ (0,0) _ T h nn T (by rw[g.sz];rfl)) T ?_;exact⟨T,m⟩
def tc:jh (String×DataW Unit):=[("chartroom/digest.start",Rows.laid_chartroom_digest_start),("chartroom/digest.numbers",Rows.laid_chartroom_digest_numbers),("bytes.ErrTooLarge",Rows.laid_bytes_ErrTooLarge),("chartroom/cipher.constants",Rows.laid_chartroom_cipher_constants),("chartroom/schedule.labels",Rows.laid_chartroom_schedule_labels)]
theorem LR(h:laidMetH jm tc w):lz w/\iC w:=by
 have i:(Rows.laid_chartroom_digest_start:DataW Unit)=Lib.tabData .u32 (fG.map λx=>(x.toNat:jd)):=by kernel_rfl
 have j:(Rows.laid_chartroom_digest_numbers:DataW Unit)=Lib.tabData .u32 (mg.map λx=>(x.toNat:jd)):=by kernel_rfl
 have k:(Rows.laid_chartroom_cipher_constants:DataW Unit)=Lib.tabData .u32 [0x61707865,0x3320646e,0x79622d32,0x6b206574]:=by kernel_rfl
 have l:(Rows.laid_chartroom_schedule_labels:DataW Unit)=vd [[105,110,105,116],[99,111,109,109,105,116],[99,104,105,108,100]]:=by kernel_rfl
 unfold tc at h;rw[MakeChecks.laidMetH_plain _ _ _ af,i,j,k,l]at h;have e:=h.tail;have f:=e.tail.tail;have m:=f.tail;have a:=Lib.tabIs_of_head (g:=4) af af underlying338 wx af af e;have b:=Lib.tabIs_of_head (g:=0) af af underlying295 wx af af h;have c:=Lib.tabIs_of_head (g:=7) af af underlying362 wx af af f;have d:=Ky (g:=1) af af underlying303 underlying9 af af m;exact⟨⟨a,b,c⟩,⟨a,b⟩,d⟩
theorem door_met(os:Os)(args:jZ ji):laidMetH jm tc ((World.doorLaid jm 3000 os).forCall (λ_ _=>0) ⟨#[],args,[]⟩).memory:=
 laidMetH_of_parts3 (fuel:=8) (laidMet_of_run' 8 af af) af af
theorem QY(init d:LBy)(q:init.length=32)(r:d.length=32)(w:jg)(x:iC w):
 jr jm 98 #[jq (init.map v8).toArray,jq (d.map v8).toArray] w λe w'=>e=jo (jq ((wZ init d).map v8).toArray)/\jl w w w':=by
 obtain⟨c,y,z⟩:=Arr.mk' q;obtain⟨i,B,C⟩:=Arr.mk' r;obtain⟨A3,U,D⟩:=Arr.mk' (yN ⟨#[99,111,109,109,105,116]⟩ d);obtain⟨j,E,F⟩:=Arr.mk' (Cd init d);rw[<-y,<-B,<-E];have V:=O q;have W:=O r;have H:=O z;have K:=O C;have M:=O D;have k:=O F;have P:=O x;obtain⟨Q,b⟩:=J ((((w.alloc (jc c 63)).alloc (jc i 63)).alloc (jc a8 63)));obtain⟨f,h⟩:=J w.heap.size;have a:=js w (jc c 63);have l:=ao w (jc c 63);have g:=js (w.alloc (jc c 63)) (jc i 63);have n:=ao (w.alloc (jc c 63)) (jc i 63);have o:=js ((w.alloc (jc c 63)).alloc (jc i 63)) (jc a8 63);have p:=ao ((w.alloc (jc c 63)).alloc (jc i 63)) (jc a8 63);replace a:=av a n;replace a:=av a p;rw[jC]at g;replace g:=av g p;rw[jC,jC]at o;have s:=((l).trans (n.mono (l).size)).trans (p.mono ((l).trans (n.mono (l).size)).size);rw[<-b]at s;rw[<-b,<-h]at a;rw[<-b,<-h]at g;rw[<-b,<-h]at o;have t:=O a;have u:=O g;have R:=O o;have m:=O s;have X:=O b;have S:=O h;clear s b h a l g n o p;clear y z B C U D E F q r x
 go_enter func98,ntmps98
 go_upto_region 1 with fail
 rw[<-X,<-S];refine jT ?_;refine di (λb=>b.heap[f]?=ja (jc c 63 (0,0))/\b.heap[f+1]?=ja (jc i 63 (0,0))) (.t 0 (.t 1 (.o 2 (.o 3 (.o 4 .done))))) af af af G (λ_ _ _ _ h=>h) ⟨t,u⟩ ?_;obtain⟨x,g⟩:=J Q.drew;have a:=bV Q;rw[<-g]at a⊢;replace m:=ah m a;have o:=ae t a;have p:=ae u a;have q:=ae R a;clear a g t u R
 (refine aW (v:=jq c) T aj (λb g=>tB H.sz T T g.1) (L ?_))
 (refine aW (v:=jq i) T aj (λb g=>tB K.sz T T g.2) (L ?_))
 refine aE T (λr g=>?_);go_simp;have b:=Mv d W x (P.below m);rw[<-K.eq]at b;rw[<-M.eq]at b;refine b.mono ?_;clear b;rintro e x1 ⟨rfl,a⟩;have h:=ah m a;have l:=ae o a;have n:=ae p a;have s:=ae q a;clear m o p q;clear a;refine g _ _ ⟨l,n⟩ λ_=>?_
 clear g;refine L ?_;refine aE T (λr g=>?_);go_simp;have b:=Rs ⟨#[101,112,111,99,104]⟩ G init (sM ⟨#[99,111,109,109,105,116]⟩ d) V (yN _ _) x1 (P.dig.below h);rw[<-H.eq]at b;rw[<-M.eq]at b;rw[show((pk ⟨#[101,112,111,99,104]⟩ init (sM ⟨#[99,111,109,109,105,116]⟩ d)).map v8).toArray=j from k.eq.symm]at b;refine b.mono ?_;clear b;rintro e x2 ⟨rfl,a⟩;have q:=ah h a;have m:=ae l a;have o:=ae n a;have p:=ae s a;clear h l n s;clear a;refine g _ _ ⟨m,o⟩ λ_=>?_
 clear g;refine L ?_;refine aE T (λr g=>?_);rw[jB aj];refine o8 63 _ _ T (f+1+1) j T T 63 _ p.out (by rw[k.sz];rfl) (by rw[k.sz];rfl) k.one (g _ _ ⟨(qe _ _ _ _ Y).trans m,(qe _ _ _ _ Y).trans o⟩ λ_=>?_);clear g;have a:(x2.setRow (f+1+1) j).heap[f+1+1]?=ja (jc j 63 (0,0)):=pz _ _ _ _ _ _ p.out;have b:jl w w (x2.setRow (f+1+1) j):=p6 q.out (by rw[S];omega) _;generalize x2.setRow (f+1+1) j=z at a b⊢;have g:=O a;have h:=O b;clear a b;refine L ?_;refine jR ?_
 go_wp2_with fail
 refine jX (qd T _ _ (f+1+1) 63 _ (0,0) _ T g nn T (by rw[k.sz];rfl)) T ?_;exact⟨T,h⟩
theorem Td(k:LBy)(c:k.length=32)(w:jg)(i:iC w):
 jr jm 99 #[jq (k.map v8).toArray] w λe w'=>e=jo (I N (aT k:je))/\jl w w w':=by
 obtain⟨a,j,l⟩:=Arr.mk' c;rw[<-j];have o:=O c;have m:=O l;have p:=O i;obtain⟨q,b⟩:=J ((w.alloc (jc a 63)));obtain⟨r,d⟩:=J w.heap.size;have f:=js w (jc a 63);have n:=ao w (jc a 63);have g:=n;rw[<-b]at g;rw[<-b,<-d]at f;have s:=O f;have h:=O g;have t:=O b;have u:=O d;clear g b d f n;clear j l c i
 go_enter func99,ntmps99
 go_upto_region 1 with fail
 rw[<-t,<-u];refine qP ?_;refine o5 T 63 _ T r T 63 a (0,0) _ s.out nn T (by rw[m.sz];rfl) ?_
 go_wp2_with fail
 have b:=G3 k o ⟨#[110,111,100,101]⟩ G q (p.dig.below h);rw[<-m.eq]at b;refine b.mono ?_;clear b;rintro e d ⟨rfl,b⟩;have c:=ah h b;clear b h
 go_wp2_with fail
 go_ret;exact⟨T,c⟩
theorem D8(k:LBy):1<=aT k/\aT k<2305843009213688669:=zL _ _
def iZ(k body:LBy):LBy:=dm (co ⟨#[99,111,110,102,105,114,109]⟩) (k++body)
theorem sZ(k b):(iZ k b).length=32:=iN _ _
theorem PK(k body:LBy)(j:k.length=32)(l:body.length=32)(w:jg)(y:iC w):
 jr jm 104 #[jq (k.map v8).toArray,jq (body.map v8).toArray] w λe w'=>e=jo (jq ((iZ k body).map v8).toArray)/\jl w w w':=by
 obtain⟨d,z,B⟩:=Arr.mk' j;obtain⟨f,C,D⟩:=Arr.mk' l;obtain⟨g,E,F⟩:=Arr.mk' (sZ k body);rw[<-z,<-C,<-E];have s:=O j;have t:=O l;have Q:=O B;have R:=O D;have m:=O F;have H:=O y;obtain⟨K,c⟩:=J ((((w.alloc (jc d 63)).alloc (jc f 23)).alloc (jc a8 23)));obtain⟨b,i⟩:=J w.heap.size;have a:=js w (jc d 63);have n:=ao w (jc d 63);have h:=js (w.alloc (jc d 63)) (jc f 23);have o:=ao (w.alloc (jc d 63)) (jc f 23);have p:=js ((w.alloc (jc d 63)).alloc (jc f 23)) (jc a8 23);have q:=ao ((w.alloc (jc d 63)).alloc (jc f 23)) (jc a8 23);replace a:=av a o;replace a:=av a q;rw[jC]at h;replace h:=av h q;rw[jC,jC]at p;have u:=((n).trans (o.mono (n).size)).trans (q.mono ((n).trans (o.mono (n).size)).size);rw[<-c]at u;rw[<-c,<-i]at a;rw[<-c,<-i]at h;rw[<-c,<-i]at p;have v:=O a;have x:=O h;have M:=O p;have r:=O u;have S:=O c;have P:=O i;clear u c i a n h o p q;clear z B C D E F j l y
 go_enter func104,ntmps104
 go_upto_region 1 with fail
 rw[<-S,<-P];refine jT ?_;refine di (λa=>a.heap[b]?=ja (jc d 63 (0,0))/\a.heap[b+1]?=ja (jc f 23 (0,0))) (.t 0 (.t 1 (.o 2 (.o 3 (.o 4 (.o 5 .done)))))) af af af G (λ_ _ _ _ h=>h) ⟨v,x⟩ ?_;obtain⟨n,c⟩:=J K.drew;have a:=bV K;rw[<-c]at a⊢;replace r:=ah r a;have u:=ae v a;have y:=ae x a;have z:=ae M a;clear a c v x M;iterate 2 refine aQ ?_
 refine aE T (λq c=>?_);go_simp;have a:=ao n (jc #[jb (ja ⟨b,0,A⟩) 32 32,jb (ja ⟨b+1,0,A⟩) 32 32] 66);have i:=js n (jc #[jb (ja ⟨b,0,A⟩) 32 32,jb (ja ⟨b+1,0,A⟩) 32 32] 66);obtain⟨x1,v⟩:=J (n.alloc (jc #[jb (ja ⟨b,0,A⟩) 32 32,jb (ja ⟨b+1,0,A⟩) 32 32] 66));rw[<-v]at a i⊢;obtain⟨C,o⟩:=J n.heap.size;rw[<-o]at i⊢;have F:=O o;clear o;have x:=ah r a;have o:=ae u a;have p:=ae y a;have B:=ae z a;clear r u y z;have y:=O i;clear i v a;refine c _ _ ⟨o,p⟩ λ_=>?_
 clear c;refine L ?_;refine aE T (λq c=>?_);go_simp;have r:=uP C 2 66 [jb (ja ⟨b,0,A⟩) 32 32,jb (ja ⟨b+1,0,A⟩) 32 32] [k,body] T T (by have j:=s.out;have l:=t.out;simp;omega) x1 y (λi u=>by
  match i,u with
  |0,_=>exact An (by have h:=o.out;rw[Q.eq]at h;exact h) s
  |1,_=>exact An (by have h:=p.out;rw[R.eq]at h;exact h) t) G
 refine r.mono ?_;clear r;rintro e x2 ⟨D,rfl,h,a⟩;have i:[k,body].flatten=k++body:=by simp
 rw[i]at h;have E:=O (bj.of_own h);clear h i;have h:=ah x a;have i:=ae o a;have r:=ae p a;have u:=ae B a;clear x o p B;clear a;refine c _ _ ⟨i,r⟩ λ_=>?_
 clear c;refine L ?_;refine aE T (λq c=>?_);go_simp;have o:=sC ⟨#[99,111,110,102,105,114,109]⟩ G D (k++body) (by have j:=s.out;have l:=t.out;simp;omega) x2 E (H.dig.below h).num (H.dig.below h).start;rw[show((dm (co ⟨#[99,111,110,102,105,114,109]⟩) (k++body)).map v8).toArray=g from m.eq.symm]at o;refine o.mono ?_;clear o;rintro e o ⟨rfl,a⟩;have B:=ah h a;have p:=ae i a;have v:=ae r a;have x:=ae u a;clear h i r u;clear a;refine c _ _ ⟨p,v⟩ λ_=>?_
 clear c;refine L ?_;refine aE T (λq c=>?_);rw[jB aj];refine o8 23 _ _ T (b+1+1) g T T 23 _ x.out (by rw[m.sz];rfl) (by rw[m.sz];rfl) m.one (c _ _ ⟨(qe _ _ _ _ Y).trans p,(qe _ _ _ _ Y).trans v⟩ λ_=>?_);clear c;have a:(o.setRow (b+1+1) g).heap[b+1+1]?=ja (jc g 23 (0,0)):=pz _ _ _ _ _ _ x.out;have c:jl w w (o.setRow (b+1+1) g):=p6 B.out (by rw[P];omega) _;generalize o.setRow (b+1+1) g=z at a c⊢;have h:=O a;have i:=O c;clear a c;refine L ?_;refine jR ?_
 go_wp2_with fail
 refine jX (qd T _ _ (b+1+1) 23 _ (0,0) _ T h wv T (by rw[m.sz];rfl)) T ?_;exact⟨T,i⟩
end Go.Proofs.YtjbiancnijgmgaaGreatDoor
