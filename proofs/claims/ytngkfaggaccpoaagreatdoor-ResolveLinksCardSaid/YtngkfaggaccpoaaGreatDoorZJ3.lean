/- Contracts of functions that the law reaches, part 3 of 7; no condition. -/
import Derived.Handy
import Derived.Lib.SlBytesConst
import Derived.Test.YtngkfaggaccpoaaGreatDoorZJ2
namespace Go.Proofs.YtngkfaggaccpoaaGreatDoor
set_option maxHeartbeats 64000000
set_option maxRecDepth 100000
set_option linter.unusedVariables false
set_option linter.unusedSimpArgs false
set_option linter.unusedSectionVars false
open Go.RowKit
open Go.Proofs.Tryz
open Go.Value renaming int->I
open Go.IntKind renaming i64->N,u32->jV,u64->j7
open _root_ renaming rfl->T,Int->jd,Nat->je,List->jh,if_pos->jB,absurd->jG,if_neg->jI,Option->jS,Array->jZ,congrArg->qO
open _root_.Option renaming none->A,some->ja,isSome_iff_exists->r6,isSome_none->xj
open Go.Value renaming slice->jb,string->jj,agg->jq,tuple->jw,pointer->jA
open Go.Obj renaming cells->jc
open _root_.Bool renaming true->jf,false->jp,false_eq_true->xk
open Go renaming World->jg,Value->ji,Calls->jr,Boxed->jt,undef->ju,TypeId->jH,Addr->jM,wp_region_noPanic->jT,bodyPost_ret->jX,maxLen->j3,Oper->ob,grownBy_setCell'->ow,wpList_plain->o1,wpList_load_row->pz,wp_store_row->p6,setRow_heap->qa,below_setRow->qb,results_cell_row->qf,setRow_other->qg,info_parts->qj,callsIn_wide->qx,execOp->qz,results_none->qN,Program->qP,wp_region_lit->qS,bodyPost_end->qY,callsIn_of_wp->sx,callsIn_of_wp_marks->sy,run_takeDeferred->wq,ownsRow_putObj->wt,wpList_append_own->wv
open Go.RowKit renaming Hid->jk,Below->jl,ownsRow_setCell_below->q7
open Go.Proofs.Tryz renaming prog->jm
open _root_.Nat renaming le_refl->jn,le_trans->jz,zero_le->jJ,lt_of_lt_of_le->jN,zero_add->ms,le_of_eq->qi,reduceAdd->qk,reduceSub->ql,mod_eq_of_lt->qC,min_eq_left->qE,lt_or_ge->qG,mod_lt->qI,eq_zero_or_pos->qJ,zero_mul->qV,pow_le_pow_right->rk,mul_one->rv,mul_le_mul_right->r5,add_assoc->r9,add_mul->sn,le_of_lt->sv,xor_lt_two_pow->xe,lt_of_le_of_lt->xz
open Go.Ending renaming returned->jo
open Go.World renaming alloc_heap_new->js,size_alloc->jC,ownsRow_nil->j0,cell?->j5,frozen?->r7,putObj_heap_other->xh,there_alloc->xo,var?_cell->xE
open Go.Proofs renaming intOf->jv
open Go.RowKit.Below renaming refl->jy,heap_alloc->jF,mono->qv,heap_setCell->q8
open _root_.List renaming length_map->jD,length_append->jL,getD->jO,size_toArray->jU,length_cons->jW,map_append->j4,append_assoc->j6,length_nil->j8,replicate->j9,range->mz,take_of_length_le->nv,getElem?_eq_getElem->oj,take_succ_eq_append_getElem->o8,nil_append->qc,cons_append->qd,length_take->qh,push_toArray->qs,append_toArray->qt,eq_nil_of_length_eq_zero->qu,getElem?_map->qw,getElem_mem->qF,getElem?_append_left->qL,getElem?_append_right->qM,mem_map->qT,map_cons->qX,append_nil->q9,length_filter_le->rn,getElem?_take_of_lt->r4,map_nil->sh,flatMap_cons->sq,length_mergeSort->xi,range_succ->xq,getElem?_take->xt,getElem?_eq_some_iff->xu,take_append_drop->xw,mem_of_getElem?->xx,getElem?_of_mem->xy,length_take_le'->xA,take_succ_cons->xB,flatten_append->xC,mem_flatten->xD
open Go.Value renaming int->jE,slice->jP,oneCell'->j1,ownBlock->qe,pointer->r8
open _root_.Array renaming getElem?_eq_some_iff->jK,replicate_succ->qn,replicate_zero->qo,getElem?_toList->xl
open Go.Proofs.Tryz renaming underlying3->jQ,underlying66->nn,underlying4->n0,underlying154->qy,func207->qA,ntmps207->qB,underlying69->qQ,underlying196->qZ,underlying29->vi,underlying242->wx,underlying124->xa,underlying23->xd
open Go.NoPanic renaming normal->jR
open _root_.BitVec renaming ofNat->jY,toNat_ofNat->qD,ofInt_natCast->xf,toNat_xor->xg,ofInt->xr
open Go.IntKind renaming wrap_i64->qH,u64->qK,i64->qU,wrap_u64->qW
open _root_.Int renaming eq_ofNat_of_zero_le->xm,toNat_natCast->xn
variable{j:LBy}{o:Obj}{p r:Prop}{e:jH}{h:jZ ji}{x y:jd}{B m:je}{D:je->Prop}{a w w':jg}{t:jh (jd×jd)}{f:jh Val}{U:jh jd}{b xs:jh ji}{d:ji}
section
open Go.RowKit Go.Shelf
attribute [local go_sem] Oper.semAt_some
theorem FL(n:je)(h:n<4611686018427387904)(w:jg):
 jr jm 173 #[I N n] w λe w'=>e=jo (I N (n/2:je))/\w=w':=by
 go_enter func173,ntmps173
 go_wp2
 go_ret;exact⟨T,T⟩
def upL:je->je->jh je
 |0,_=>[]
 |k+1,n=>if n>1 then n::upL k (n/2)else []
theorem zo:∀(k n:je),∀x∈upL k n,x<=n
 |0,_,x,h=>by simp[upL]at h
 |k+1,n,x,h=>by
  unfold upL at h
  split at h
  ·rcases List.mem_cons.1 h with rfl|h
   ·omega
   have:=zo k (n/2) x h;omega
  simp at h
theorem Ge:∀(k n:je),(upL k n).length<=k
 |0,_=>by simp[upL]
 |k+1,n=>by
  unfold upL
  split
  ·have:=Ge k (n/2);simp;omega
  simp
theorem uE(d:je)(a:d<512):(upL 10 (512+d)).length=8+1:=by
 have h:∀d:Fin 512,(upL 10 (512+d.val)).length=8+1:=by decide+kernel
 exact h ⟨d,a⟩
theorem FZ(k n:je)(c:n<1024){a:jh je}{x:je}(h:a++[x]<+:upL k n):x<1024/\a.length<k:=by
 have d:=zo k n x (h.subset ar);have b:=h.length_le;have e:=Ge k n;simp at b;omega
theorem FG(n:jd)(w:jg):
 jr jm 226 #[I N n] w λe w'=>e=jo (.func (.func 258) #[] #[jA (ja ⟨w,0,A⟩)])/\w'=w.alloc (jc #[I N n] 271):=by
 go_enter func226,ntmps226
 go_wp2
 go_ret;exact⟨T,T⟩
def wI(w:jg)(b:je):je:=(jv ((w.cell? ⟨b,0,A⟩).getD (I N 0))).toNat
theorem EV{b:je}{t:jH}(h:jt w b t (I N m)):wI w b=m:=by
 unfold wI;rw[h.cell];simp[jv]
theorem Ef(h:1<m)(a:m<2^B):∃i,B=i+1/\upL B m=m::upL i (m/2)/\m/2<2^i:=by
 rcases B with _|i
 ·simp at a;omega
 exact⟨i,T,by simp[upL,h],by rw[Nat.pow_succ]at a;omega⟩
theorem Ft(h:m<=1):upL B m=[]:=by
 rcases B with _|i
 ·rfl
 simp[upL];omega
set_option maxRecDepth 100000 in
theorem ET(n k:je)(B:n<4611686018427387904)(C:n<2^k)(b:je)(w:jg)(t:jt w b 271 (I N n)):
 eQ jm 258 #[jA (ja ⟨b,0,A⟩)] (λm:je=>#[I N (m:jd)]) (·=b) 0 (λxs=>xs=upL k n) (λ_=>True) (λys=>ys<+:upL k n) w:=by
 intro l u X W g h v o p;have D:jt W b 271 (I N n):=(g.block b t.lt).trans t;refine(qx (n:=0)).1 ?_;refine sx func258 T trivial ?_ T;simp only[ntmps258,jU,jW,j8,qk,ql,qn,qo,qs,qt,qc,qd]
 gi_wp2
 gi_loopw [] (λwr=>W.heap.size<=wr.heap.size/\∃(a:jh je) (j m:je),a.length+j=k/\m<2^j/\m<4611686018427387904/\a++upL j m=upL k n/\u a (·=b) wr/\jt wr b 271 (I N m))
  (λwr=>wI wr b)
 case atStart=>
  exact⟨jn _,[],k,n,by simp,C,B,T,p,D⟩
 obtain⟨E,a,j,m,aa,F,ad,c,x,d⟩:=hrel;have hc:=d.cell;have hf:=d.frozen
 by_cases H:1<m
 ·obtain⟨i,rfl,e,K⟩:=Ef H F
  obtain⟨fn,tmps,assign,body,M,y⟩:=o a m (·=b) wr x (by rintro _ rfl;exact d.lt) ⟨upL i (m/2),by rw[<-c,e];simp⟩;have q:jk (a++upL (i+1) m=upL k n):=c;have P:jk (upL (i+1) m=m::upL i (m/2)):=e;clear c e o p v g;have Q:jk (bY W.heap.size u):=h;clear h
  gi_wp2
  refine⟨T,y.mono ?_⟩;rintro e z (⟨rfl,R,r,s⟩|⟨rfl,S,r,s⟩)
  ·have f:jt z b 271 (I N m):=(s b T).trans d
   have au:=f.cell;have Zq:=f.frozen;have U:=r.size;clear s r y M
   gi_wp2_with fail
   refine⟨trivial,T,(callsIn_wide.2 (FL _ Y _)).mono ?_⟩;rintro e w' ⟨rfl,rfl⟩
   gi_wp2
   go_roundw
   case rel=>
    refine⟨by simpa using jz E U,a++[m],i,m/2,by simp;omega,K,by omega,by rw[<-q,P];simp,Q.keep R ?_,f.set _⟩;exact⟨T,T,T,by simp,λk _ V=>.inl (q8 _ _ _ _ V)⟩
   have V:wI (z.setCell ⟨b,0,A⟩ (I N ((m:jd)/2))) b=m/2:=EV (m:=m/2) (f.set _);rw[V,EV d];omega
  gi_wp2
  refine qY (qN T _ _ _) T ?_;exact⟨⟨_,T⟩,.inr ⟨_,_,trivial,S⟩⟩
 have q:jk (a++upL j m=upL k n):=c;clear c o p h v g
 gi_wp2
 refine⟨λ_ h=>(by cases h),?_⟩
 gi_wp2
 refine qY (qN T _ _ _) T ?_;exact⟨⟨_,T⟩,.inl ⟨_,_,by rw[<-q,Ft Y,q9],x⟩⟩
def gV(n:je):je:=n/2
def kC(n:je):je:=n^^^1
theorem JQ(n:je)(h:n<1024)(w:jg):
 jr jm 173 #[I N n] w λe w'=>e=jo (I N (gV n:je))/\w=w':=
 FL n Y w
theorem KX(k:IntKind)(j:je)(f:j<=k.bits)(g:∀n:jd,0<=n->n<2^j->k.wrap n=n)(a b:je)(c:a<2^j)(d:b<2^j):
 bits .xor k a b=((a^^^b:je):jd):=by
 have e:2^j<=2^k.bits:=rk L f;have h:a%2^k.bits=a:=qC (jN c e);have i:b%2^k.bits=b:=qC (jN d e);have l:a^^^b<2^j:=xe c d;simp only[bits,xf,xg,qD,h,i];exact g _ (Int.natCast_nonneg _) (by exact_mod_cast l)
theorem RU(n:je)(h:n<1024):bits .xor .i64 (n:jd) 1=((kC n:je):jd):=
 KX .i64 10 L (λn a b=>IntWalk.i64_in n Y) n 1 Y Y
theorem M6(n:je)(h:n<1024)(w:jg):
 jr jm 176 #[I N n] w λe w'=>e=jo (I N (kC n:je))/\w=w':=by
 go_enter func176,ntmps176
 go_wp2
 go_ret;exact⟨by rw[RU n h];rfl,rfl⟩
def iv(l:jh je):jh ji:=l.map λn:je=>jE .i64 (n:jd)
def kB(d:je):jh je:=(upL 10 (512+d)).map gV
def nL(d:je):jh je:=(upL 10 (512+d)).map kC
theorem JS(d:je):iv (kB d)=(upL 10 (512+d)).map λn=>jE .i64 (gV n:je):=by simp[iv,kB,Function.comp_def]
theorem Tb(d:je):iv (nL d)=(upL 10 (512+d)).map λn=>jE .i64 (kC n:je):=by simp[iv,nL,Function.comp_def]
def yU(w:jg)(v:ji)(xs:jh ji):Prop:=
 (v=jb A 0 0/\xs=[])\/∃b off c,v=jb (ja ⟨b,off,A⟩) xs.length c/\∀j a,xs[j]?=ja a->w.cell? ⟨b,off+j,A⟩=ja a
theorem yU.below{v:ji}(h:yU w v xs)(c:jl w w w'):yU w' v xs:=by
 rcases h with h|⟨b,off,d,rfl,e⟩
 ·exact .inl h
 refine .inr ⟨b,off,d,T,λj f g=>?_⟩;have a:=e j f g;rw[c.cell (p:=⟨b,off+j,A⟩) (World.block_lt_of_cell? w ⟨b,off+j,A⟩ a)];exact a
end
section
open Go.RowKit Go.Shelf
attribute [local go_sem] Oper.semAt_some
theorem B5:(jm.info? 3).map (λi=>(i.zero,i.size,i.bytes))=ja (ja (I N 0),1,8):=by kernel_rfl
set_option maxRecDepth 100000 in
theorem Qu(d:je)(V:d<512)(w:jg):
 jr jm 172 #[I N d,.func (.func 173) #[] #[]] w λe w'=>∃v,e=jo (jw #[v,I N 0])/\
  w'.ownsRow w 3 1 v 9 ((upL 10 (512+d)).map λn=>jE .i64 (gV n:je))/\jl w w w':=by
 obtain⟨X,hi,UJ,aa,ad⟩:=qj B5;refine(qx (n:=0)).1 ?_;refine sy func172 T trivial ?_ T;simp only[ntmps172,jU,jW,j8,qk,ql,qn,qo,qs,qt,qc,qd]
 gi_wp2_with fail
 refine⟨trivial,T,(callsIn_wide.2 (Gs _ Y Y _)).mono ?_⟩;rintro e w' ⟨rfl,rfl⟩
 gi_wp2_with fail
 refine⟨trivial,T,(callsIn_wide.2 (FG _ _)).mono ?_⟩;rintro e w' ⟨rfl,rfl⟩
 gi_wp2_with fail
 have E:jt (((w.alloc (jc #[.func (.func 173) #[] #[]] 269)).alloc (jc #[jb A 0 0] 29)).alloc (jc #[I N (512+d)] 271)) w.heap.size 269 (.func (.func 173) #[] #[]):=
  ((Boxed.new w _ _).alloc _).alloc _
 have F:jt (((w.alloc (jc #[.func (.func 173) #[] #[]] 269)).alloc (jc #[jb A 0 0] 29)).alloc (jc #[I N (512+d)] 271)) (w.heap.size+1) 29 (jb A 0 0):=by
  have:=Boxed.new (w.alloc (jc #[.func (.func 173) #[] #[]] 269)) 29 (jb A 0 0);rw[jC]at this;exact this.alloc _
 have t:jt (((w.alloc (jc #[.func (.func 173) #[] #[]] 269)).alloc (jc #[jb A 0 0] 29)).alloc (jc #[I N (512+d)] 271)) (w.heap.size+1+1) 271 (I N ((512+d:je):jd)):=by
  have:=Boxed.new ((w.alloc (jc #[.func (.func 173) #[] #[]] 269)).alloc (jc #[jb A 0 0] 29)) 271 (I N ((512+d:je):jd));rw[jC,jC]at this;exact this
 have H:jl w w (((w.alloc (jc #[.func (.func 173) #[] #[]] 269)).alloc (jc #[jb A 0 0] 29)).alloc (jc #[I N (512+d)] 271)):=
  (((jy _ w).alloc (jn _) _).alloc ar _).alloc (by simp;omega) _
 have a:(((w.alloc (jc #[.func (.func 173) #[] #[]] 269)).alloc (jc #[jb A 0 0] 29)).alloc (jc #[I N (512+d)] 271)).heap.size=w.heap.size+3:=by simp
 generalize(((w.alloc (jc #[.func (.func 173) #[] #[]] 269)).alloc (jc #[jb A 0 0] 29)).alloc (jc #[I N (512+d)] 271))=o at E F t H a⊢;have a5:jk (o.heap.size=w.heap.size+3):=a;have a6:w.heap.size+3<=o.heap.size:=Y;clear a;refine rm (n:=0) (gf:=258) (lb:=#[jA (ja ⟨w.heap.size+1+1,0,A⟩)]) T (enters_of func258 af T)
  (ET (512+d) 10 Y Y (w.heap.size+1+1) o t) (jJ _) (λ_=>rfl) (by rintro k rfl;exact t.lt)
  (λf Ψ W=>gR (w.heap.size+1) 29 w.heap.size 3 1 f.length (f.map λn=>jE .i64 (gV n:je)) (λ_=>True) Ψ W/\(jt W w.heap.size 269 (.func (.func 173) #[] #[])/\¬Ψ w.heap.size)/\(jl w w W/\∀k,Ψ k->w.heap.size<=k))
  (λ_ _ _ _=>False)
  ((m5 o.heap.size (w.heap.size+1) 29 w.heap.size 3 1 (λf=>f.length) (λf:jh je=>f.map λn=>jE .i64 (gV n:je)) (λ_ _=>True)).and ((iS _ _ _ (λ_=>_)).and (kI _ _ w (jn _) Y)))
  (λ_=>fp _ _)
  ⟨⟨_,F,by omega,j0 _ _ _ _,by simp[qe],trivial⟩,⟨E,by omega⟩,H,by rintro k rfl;omega⟩
  (λx D _ _=>D={tmps:=#[I N d,.func (.func 173) #[] #[],ju,jA (ja ⟨w,0,A⟩),jA (ja ⟨w.heap.size+1,0,A⟩),I N 0,
   I N (512+d),I N x,jw #[I N (512+d),I N 0],I N d,jw #[I N (512+d),I N 0],I N (512+d),I N 0,I N 0,.bool jp,ju,I N (512+d),
   .func (.func 258) #[] #[jA (ja ⟨w.heap.size+1+1,0,A⟩)],I N x,ju,ju,ju,ju,ju,ju,ju],defers:=[]}) (fp _ _)
  ?assign ?body ?done ?stop
 case assign=>
  intro l f x Ψ r K c _ a
  gi_wp2
  exact a _ _ (jy _ _) c T
 case body=>
  rintro l f x Ψ D r ⟨⟨v,c,K,i,M,-⟩,⟨q,P⟩,m,Q⟩ rfl g Ys ba bb;obtain⟨hx,bc⟩:=FZ 10 (512+d) Y g;clear g;have u:=c.cell;have R:=q.cell;have y:=O m;have au:=m.size;clear m
  gi_wp2
  refine IE (λg=>g.cell? ⟨w.heap.size+1,0,A⟩=ja v/\g.cell? ⟨w,0,A⟩=ja (.func (.func 173) #[] #[])) 6
   [(0,jf),(1,jf),(2,jf),(3,jp),(4,jp),(5,jp),(6,jp)] af af af af rfl (λ_ _ _ _ h=>h) (fun⟨_,_,h⟩=>h) ⟨u,R⟩ ?_
  refine fZ (v:=?_) T T (λg j=>?_) ?_
  rotate_left
  ·obtain⟨k,s⟩:=j;go_simp;with_reducible rfl
  refine fZ (v:=?_) T T (λg j=>?_) ?_
  rotate_left
  ·obtain⟨k,s⟩:=j;go_simp;with_reducible rfl
  refine fZ (v:=?_) T T (λg j=>?_) ?_
  rotate_left
  ·go_simp;with_reducible rfl
  refine dq T (λz a=>?_);go_simp;refine(JQ _ Y _).mono ?_;rintro e w' ⟨rfl,rfl⟩;refine a _ _ ⟨u,R⟩ λ_=>?_
  clear a;refine dq T (λz a=>?_);go_simp;have Wg:(r.alloc (jc #[I N (gV x:je)] 3)).cell? ⟨w.heap.size+1,0,A⟩=ja v:=(c.alloc _).cell;have B:(r.alloc (jc #[I N (gV x:je)] 3)).cell? ⟨w,0,A⟩=ja (.func (.func 173) #[] #[]):=(q.alloc _).cell;refine a _ _ ⟨Wg,B⟩ λ_=>?_
  clear a;refine dq T (λz a=>?_);refine step_append_lies _ T (.tmp 19) (.tmp 23) 29 T w.heap.size 3 X (I N 0) 1 8 vi hi UJ aa ad T L v f.length _ T (i.alloc _)
   ⟨r,0,A⟩ 1 1 [I N (gV x:je)] rfl rfl (cell_one_new _ _ _) (by simp[j1]) Y (by unfold j3;omega) Y (by simp;omega) _ rfl ?_
  intro g k S ax ay a1 bd;have C:=BR ay;obtain⟨s,a2⟩:=si (B0:=o.heap.size) c L i au Y K M Ys ax C (by
   intro j U;simp only[qe,Option.some.injEq]at U;subst U;simpa using a1)
  have j:jt S w.heap.size 269 (.func (.func 173) #[] #[]):=(q.alloc _).kept C (by have:=q.not_row (e:=3) L i;exact this);have U:jt S (w.heap.size+1) 29 v:=(c.alloc _).kept C (by have:=c.not_row (e:=3) L i;exact this);have a3:=U.cell;have bf:=U.frozen;have a4:=j.cell;refine a _ _ ⟨a3,a4⟩ λ_=>?_
  clear a;refine pB T (λz a=>?_);go_simp;refine a _ _ ⟨⟨s.1,s.2.1.mono (jJ _),s.2.2⟩,?_,⟨j.other Y _,P⟩,y.trans s.2.1,Q⟩;obtain⟨z,b1,b2,b3,b4,-⟩:=a2;exact⟨z,b1,b2,by simpa using b3,b4,trivial⟩
 case done=>
  rintro D xs Ψ W s rfl ⟨⟨v,c,K,i,M,-⟩,⟨q,P⟩,m,Q⟩ a;have u:=c.cell;have x:=c.frozen;have y:=O m;clear m;have j:=uE d V;rw[j]at i;clear j;obtain⟨g,k,rfl⟩:=ownsRow_succ i
  gi_wp2
  refine⟨by simp,.inl ⟨_,_,T,wq (b:=D) (ds:=[]) ?_,?_⟩⟩
  ·exact(KeepsOthers.setCell W _ _).same D _ a T
  have j:jt (W.setCell ⟨w.heap.size+1,0,A⟩ (jb (ja ⟨g,0,A⟩) 9 k)) (w.heap.size+1) 29 (jb (ja ⟨g,0,A⟩) 9 k):=c.set _;have l:(W.setCell ⟨w.heap.size+1,0,A⟩ (jb (ja ⟨g,0,A⟩) 9 k)).heap[D]?=ja (.deferred (ja [])):=(KeepsOthers.setCell W _ _).same D _ a T;have m:(W.setCell ⟨w.heap.size+1,0,A⟩ (jb (ja ⟨g,0,A⟩) 9 k)).ownsRow w.heap.size 3 1 (jb (ja ⟨g,0,A⟩) 9 k) 9 ((upL 10 (512+d)).map λn=>jE .i64 (gV n:je)):=
   i.kept (ow W _ _) (.inr (c.not_row (e:=3) L i).symm)
  have r:jt ((W.setCell ⟨w.heap.size+1,0,A⟩ (jb (ja ⟨g,0,A⟩) 9 k)).putObj D (.deferred A)) (w.heap.size+1) 29 (jb (ja ⟨g,0,A⟩) 9 k):=
   (xh Y).trans j
  have B:=r.cell;refine⟨jw #[jb (ja ⟨g,0,A⟩) 9 k,I N 0],by simp[results,results172,go_sem,B],_,T,wt m _ l T,?_⟩;exact(y.setCell (p:=⟨w.heap.size+1,0,A⟩) ar _).trans (iC Y)
 intro D c f Ψ W _ _ h;exact h.elim
set_option maxRecDepth 100000 in
theorem JH(d:je)(V:d<512)(w:jg):
 jr jm 172 #[I N d,.func (.func 176) #[] #[]] w λe w'=>∃v,e=jo (jw #[v,I N 0])/\
  w'.ownsRow w 3 1 v 9 ((upL 10 (512+d)).map λn=>jE .i64 (kC n:je))/\jl w w w':=by
 obtain⟨X,hi,UJ,aa,ad⟩:=qj B5;refine(qx (n:=0)).1 ?_;refine sy func172 T trivial ?_ T;simp only[ntmps172,jU,jW,j8,qk,ql,qn,qo,qs,qt,qc,qd]
 gi_wp2_with fail
 refine⟨trivial,T,(callsIn_wide.2 (Gs _ Y Y _)).mono ?_⟩;rintro e w' ⟨rfl,rfl⟩
 gi_wp2_with fail
 refine⟨trivial,T,(callsIn_wide.2 (FG _ _)).mono ?_⟩;rintro e w' ⟨rfl,rfl⟩
 gi_wp2_with fail
 have E:jt (((w.alloc (jc #[.func (.func 176) #[] #[]] 269)).alloc (jc #[jb A 0 0] 29)).alloc (jc #[I N (512+d)] 271)) w.heap.size 269 (.func (.func 176) #[] #[]):=
  ((Boxed.new w _ _).alloc _).alloc _
 have F:jt (((w.alloc (jc #[.func (.func 176) #[] #[]] 269)).alloc (jc #[jb A 0 0] 29)).alloc (jc #[I N (512+d)] 271)) (w.heap.size+1) 29 (jb A 0 0):=by
  have:=Boxed.new (w.alloc (jc #[.func (.func 176) #[] #[]] 269)) 29 (jb A 0 0);rw[jC]at this;exact this.alloc _
 have t:jt (((w.alloc (jc #[.func (.func 176) #[] #[]] 269)).alloc (jc #[jb A 0 0] 29)).alloc (jc #[I N (512+d)] 271)) (w.heap.size+1+1) 271 (I N ((512+d:je):jd)):=by
  have:=Boxed.new ((w.alloc (jc #[.func (.func 176) #[] #[]] 269)).alloc (jc #[jb A 0 0] 29)) 271 (I N ((512+d:je):jd));rw[jC,jC]at this;exact this
 have H:jl w w (((w.alloc (jc #[.func (.func 176) #[] #[]] 269)).alloc (jc #[jb A 0 0] 29)).alloc (jc #[I N (512+d)] 271)):=
  (((jy _ w).alloc (jn _) _).alloc ar _).alloc (by simp;omega) _
 have a:(((w.alloc (jc #[.func (.func 176) #[] #[]] 269)).alloc (jc #[jb A 0 0] 29)).alloc (jc #[I N (512+d)] 271)).heap.size=w.heap.size+3:=by simp
 generalize(((w.alloc (jc #[.func (.func 176) #[] #[]] 269)).alloc (jc #[jb A 0 0] 29)).alloc (jc #[I N (512+d)] 271))=o at E F t H a⊢;have a5:jk (o.heap.size=w.heap.size+3):=a;have a6:w.heap.size+3<=o.heap.size:=Y;clear a;refine rm (n:=0) (gf:=258) (lb:=#[jA (ja ⟨w.heap.size+1+1,0,A⟩)]) T (enters_of func258 af T)
  (ET (512+d) 10 Y Y (w.heap.size+1+1) o t) (jJ _) (λ_=>rfl) (by rintro k rfl;exact t.lt)
  (λf Ψ W=>gR (w.heap.size+1) 29 w.heap.size 3 1 f.length (f.map λn=>jE .i64 (kC n:je)) (λ_=>True) Ψ W/\(jt W w.heap.size 269 (.func (.func 176) #[] #[])/\¬Ψ w.heap.size)/\(jl w w W/\∀k,Ψ k->w.heap.size<=k))
  (λ_ _ _ _=>False)
  ((m5 o.heap.size (w.heap.size+1) 29 w.heap.size 3 1 (λf=>f.length) (λf:jh je=>f.map λn=>jE .i64 (kC n:je)) (λ_ _=>True)).and ((iS _ _ _ (λ_=>_)).and (kI _ _ w (jn _) Y)))
  (λ_=>fp _ _)
  ⟨⟨_,F,by omega,j0 _ _ _ _,by simp[qe],trivial⟩,⟨E,by omega⟩,H,by rintro k rfl;omega⟩
  (λx D _ _=>D={tmps:=#[I N d,.func (.func 176) #[] #[],ju,jA (ja ⟨w,0,A⟩),jA (ja ⟨w.heap.size+1,0,A⟩),I N 0,
   I N (512+d),I N x,jw #[I N (512+d),I N 0],I N d,jw #[I N (512+d),I N 0],I N (512+d),I N 0,I N 0,.bool jp,ju,I N (512+d),
   .func (.func 258) #[] #[jA (ja ⟨w.heap.size+1+1,0,A⟩)],I N x,ju,ju,ju,ju,ju,ju,ju],defers:=[]}) (fp _ _)
  ?assign ?body ?done ?stop
 case assign=>
  intro l f x Ψ r K c _ a
  gi_wp2
  exact a _ _ (jy _ _) c T
 case body=>
  rintro l f x Ψ D r ⟨⟨v,c,K,i,M,-⟩,⟨q,P⟩,m,Q⟩ rfl g Ys ba bb;obtain⟨hx,bc⟩:=FZ 10 (512+d) Y g;clear g;have u:=c.cell;have R:=q.cell;have y:=O m;have au:=m.size;clear m
  gi_wp2
  refine IE (λg=>g.cell? ⟨w.heap.size+1,0,A⟩=ja v/\g.cell? ⟨w,0,A⟩=ja (.func (.func 176) #[] #[])) 6
   [(0,jf),(1,jf),(2,jf),(3,jp),(4,jp),(5,jp),(6,jp)] af af af af rfl (λ_ _ _ _ h=>h) (fun⟨_,_,h⟩=>h) ⟨u,R⟩ ?_
  refine fZ (v:=?_) T T (λg j=>?_) ?_
  rotate_left
  ·obtain⟨k,s⟩:=j;go_simp;with_reducible rfl
  refine fZ (v:=?_) T T (λg j=>?_) ?_
  rotate_left
  ·obtain⟨k,s⟩:=j;go_simp;with_reducible rfl
  refine fZ (v:=?_) T T (λg j=>?_) ?_
  rotate_left
  ·go_simp;with_reducible rfl
  refine dq T (λz a=>?_);go_simp;refine(M6 _ Y _).mono ?_;rintro e w' ⟨rfl,rfl⟩;refine a _ _ ⟨u,R⟩ λ_=>?_
  clear a;refine dq T (λz a=>?_);go_simp;have Wg:(r.alloc (jc #[I N (kC x:je)] 3)).cell? ⟨w.heap.size+1,0,A⟩=ja v:=(c.alloc _).cell;have B:(r.alloc (jc #[I N (kC x:je)] 3)).cell? ⟨w,0,A⟩=ja (.func (.func 176) #[] #[]):=(q.alloc _).cell;refine a _ _ ⟨Wg,B⟩ λ_=>?_
  clear a;refine dq T (λz a=>?_);refine step_append_lies _ T (.tmp 19) (.tmp 23) 29 T w.heap.size 3 X (I N 0) 1 8 vi hi UJ aa ad T L v f.length _ T (i.alloc _)
   ⟨r,0,A⟩ 1 1 [I N (kC x:je)] rfl rfl (cell_one_new _ _ _) (by simp[j1]) Y (by unfold j3;omega) Y (by simp;omega) _ rfl ?_
  intro g k S ax ay a1 bd;have C:=BR ay;obtain⟨s,a2⟩:=si (B0:=o.heap.size) c L i au Y K M Ys ax C (by
   intro j U;simp only[qe,Option.some.injEq]at U;subst U;simpa using a1)
  have j:jt S w.heap.size 269 (.func (.func 176) #[] #[]):=(q.alloc _).kept C (by have:=q.not_row (e:=3) L i;exact this);have U:jt S (w.heap.size+1) 29 v:=(c.alloc _).kept C (by have:=c.not_row (e:=3) L i;exact this);have a3:=U.cell;have bf:=U.frozen;have a4:=j.cell;refine a _ _ ⟨a3,a4⟩ λ_=>?_
  clear a;refine pB T (λz a=>?_);go_simp;refine a _ _ ⟨⟨s.1,s.2.1.mono (jJ _),s.2.2⟩,?_,⟨j.other Y _,P⟩,y.trans s.2.1,Q⟩;obtain⟨z,b1,b2,b3,b4,-⟩:=a2;exact⟨z,b1,b2,by simpa using b3,b4,trivial⟩
 case done=>
  rintro D xs Ψ W s rfl ⟨⟨v,c,K,i,M,-⟩,⟨q,P⟩,m,Q⟩ a;have u:=c.cell;have x:=c.frozen;have y:=O m;clear m;have j:=uE d V;rw[j]at i;clear j;obtain⟨g,k,rfl⟩:=ownsRow_succ i
  gi_wp2
  refine⟨by simp,.inl ⟨_,_,T,wq (b:=D) (ds:=[]) ?_,?_⟩⟩
  ·exact(KeepsOthers.setCell W _ _).same D _ a T
  have j:jt (W.setCell ⟨w.heap.size+1,0,A⟩ (jb (ja ⟨g,0,A⟩) 9 k)) (w.heap.size+1) 29 (jb (ja ⟨g,0,A⟩) 9 k):=c.set _;have l:(W.setCell ⟨w.heap.size+1,0,A⟩ (jb (ja ⟨g,0,A⟩) 9 k)).heap[D]?=ja (.deferred (ja [])):=(KeepsOthers.setCell W _ _).same D _ a T;have m:(W.setCell ⟨w.heap.size+1,0,A⟩ (jb (ja ⟨g,0,A⟩) 9 k)).ownsRow w.heap.size 3 1 (jb (ja ⟨g,0,A⟩) 9 k) 9 ((upL 10 (512+d)).map λn=>jE .i64 (kC n:je)):=
   i.kept (ow W _ _) (.inr (c.not_row (e:=3) L i).symm)
  have r:jt ((W.setCell ⟨w.heap.size+1,0,A⟩ (jb (ja ⟨g,0,A⟩) 9 k)).putObj D (.deferred A)) (w.heap.size+1) 29 (jb (ja ⟨g,0,A⟩) 9 k):=
   (xh Y).trans j
  have B:=r.cell;refine⟨jw #[jb (ja ⟨g,0,A⟩) 9 k,I N 0],by simp[results,results172,go_sem,B],_,T,wt m _ l T,?_⟩;exact(y.setCell (p:=⟨w.heap.size+1,0,A⟩) ar _).trans (iC Y)
 intro D c f Ψ W _ _ h;exact h.elim
theorem SR(d:je)(a:d<512)(w:jg):
 jr jm 119 #[I N d] w λe w'=>∃v,e=jo (jw #[v,I N 0])/\
  w'.ownsRow w 3 1 v 9 (iv (kB d))/\jl w w w':=by
 rw[JS]
 go_enter func119,ntmps119
 go_wp2_with fail
 refine(Qu d a _).mono ?_;rintro e w' ⟨v,rfl,b,c⟩
 go_wp2
 go_ret2;exact⟨v,T,b,c⟩
theorem K8(d:je)(a:d<512)(w:jg):
 jr jm 125 #[I N d] w λe w'=>∃v,e=jo (jw #[v,I N 0])/\
  w'.ownsRow w 3 1 v 9 (iv (nL d))/\jl w w w':=by
 rw[Tb]
 go_enter func125,ntmps125
 go_wp2_with fail
 refine(JH d a _).mono ?_;rintro e w' ⟨v,rfl,b,c⟩
 go_wp2
 go_ret2;exact⟨v,T,b,c⟩
end
section
open Go.RowKit Go.Sort
theorem CH(v:ji)(xs:jh jd)(base b:je)(w:jg)(h:w.ownsRow base 3 1 v xs.length (xs.map (jE .i64)))(o:b<=base)(p:xs.length<=1000000):
 jr jm 121 #[v] w λe w'=>e=jo (jw #[])/\w'.ownsRow base 3 1 v xs.length ((xs.mergeSort leI).map (jE .i64))/\jl b w w':=by
 rcases h.2 with⟨rfl,c⟩|⟨g,d,q,rfl,f,a,i,j,l,m⟩
 ·refine(Tryzx.slices_Sort_int_none A 0 w).mono ?_
  rintro e w' ⟨rfl,rfl⟩;have:xs=[]:=qu c;subst this;exact⟨T,by simpa using h,jy _ _⟩
 refine(Tryzx.slices_Sort_int g 0 d xs w (holds_of_block_i a (ak m)) (jK.1 a).1 Y).mono ?_;rintro e w' ⟨rfl,n,os,rfl⟩;exact⟨T,ownsRow_sorted_i ar f a i j l,(jy b w).grown (grownBy_sorted_i _) (by have:=(jK.1 a).1;omega) (λk e=>by cases e;omega)⟩
theorem Fl{gf:je}{lb:jZ ji}(d:∀args w,(callFunc gf args).run jm w=.ok (.enter gf args) w){c:je->Prop}{f:je}{S n V:jh jd->Prop}{w:jg}
 (g:eQ jm gf lb (λx:jd=>#[I N x]) c f S n V w) (h:f<=w.heap.size) (i:∀k,c k->k<w.heap.size) (j:∀ys,V ys->ys.length<=1000000) (a:∀xs,S xs->xs.length<=1000000) (b:je) (l:b<=w.heap.size) (m:∀k,c k->b<=k):
 jr jm 136 #[.func (.func gf) #[] lb] w λe w'=>∃v xs,e=jo v/\S xs/\w'.ownsRow w 3 1 v xs.length ((xs.mergeSort leI).map (jE .i64))/\jl b w w':=by
 have k:=O (DF d g h i j b l m);have o:=O a;clear d g h i j m a
 go_enter func136,ntmps136
 go_wp2_with fail
 refine k.mono ?_;rintro e h ⟨v,xs,rfl,a,d,g⟩;have i:=O (CH v xs w.heap.size b h d l (o xs a));have j:=O g;clear d g
 go_wp2_with fail
 refine i.mono ?_;rintro e q ⟨rfl,d,g⟩;have m:=O d;have p:=O g;clear d g
 go_wp2
 go_ret;exact⟨v,xs,T,a,m,j.trans p⟩
theorem JG(v:ji)(xs:jh jd)(base a:je)(w:jg)(h:w.ownsRow base 3 1 v xs.length (xs.map (jE .i64)))(y:a<=base)(z:xs.length<=1000000):
 jr jm 122 #[v] w λe w'=>∃c,e=jo c/\w'.ownsRow base 3 1 c (Lib.compact xs).length ((Lib.compact xs).map (jE .i64))/\jl a w w':=by
 rcases h.2 with⟨rfl,o⟩|⟨g,d,p,rfl,r,b,B,s,f,t⟩
 ·refine(Tryzx.slices_Compact_int_empty A 0 w).mono ?_
  rintro e w' ⟨rfl,rfl⟩;have:xs=[]:=qu o;subst this;exact⟨_,T,by simpa [Lib.compact,Lib.compactUpTo]using h,jy _ _⟩
 have C:=(jK.1 b).1;refine(Tryzx.slices_Compact_int g 0 d xs w (holds_of_block_i b (ak t)) Y Y).mono ?_;rintro e w' ⟨rfl,q,rfl⟩;have u:(Lib.compact xs).length<=xs.length:=by
  unfold Lib.compact Lib.compactUpTo;rw[jD];exact jz (rn _ _) ar
 have x:∀W:jg,grow W #[]=W:=λW=>by simp[grow]
 have i:=heap_sorted_i (n:=q) (os:=#[]) (Lib.compact xs++j9 (xs.length-(Lib.compact xs).length) 0).toArray b;have j:=grownBy_sorted_i (w:=w) (g:=g) (n:=q) (os:=#[]) (Lib.compact xs++j9 (xs.length-(Lib.compact xs).length) 0).toArray;rw[x]at i j;refine⟨_,T,⟨by simp,.inr ⟨g,d,_,T,r,i,by omega,s,by simp[putCells,f],?_⟩⟩,(jy a w).grown j Y (λk e=>by cases e;omega)⟩;have k:(Lib.compact xs++j9 (xs.length-(Lib.compact xs).length) 0).length=xs.length:=by simp;omega
 have l:=take_putCells_i p (Lib.compact xs++j9 (xs.length-(Lib.compact xs).length) 0) (by rw[k,f];omega);rw[k]at l;have m:=qO (List.take (Lib.compact xs).length) l;rw[List.take_take,qE u]at m;rw[rv,m,<-List.map_take,List.take_left']
 rfl
end
theorem By(t:jh (jd×jd))(a p:jd):gE (t++[(a,p)])=gE t++if 512<=a/\a<=1023 then [a-512]else []:=by
 unfold gE;rw[List.filter_append,j4]
 congr 1
 by_cases h:512<=a/\a<=1023
 ·simp[h.1,h.2]
 rw[jI h];simp only[List.filter_cons,List.filter_nil];rw[jI (ak h)]
 rfl
theorem yu(t:jh (jd×jd)):(gE t).length<=t.length:=by
 unfold gE;rw[jD];exact rn _ _
theorem tJ{wr:jg}{g o k:je}(l:∀j,j<t.length->w.cell? ⟨g,o+j*2,A⟩=ja (I N (t.getD j (0,0)).1)/\w.cell? ⟨g,o+j*2+1,A⟩=ja (I N (t.getD j (0,0)).2))
 (e:∀x∈t,aP x.1/\aP x.2) (b:k<t.length) (f:jl w w wr):
 ∃a p,wr.cell? ⟨g,o+k*2,A⟩=ja (I N a)/\wr.cell? ⟨g,o+k*2+1,A⟩=ja (I N p)/\aP a/\aP p/\t.getD k (0,0)=(a,p)/\t.take (k+1)=t.take k++[(a,p)]/\(a,p)∈t:=by
 obtain⟨h,i⟩:=l k b;have c:t.getD k (0,0)=t[k]:=by simp[jO,b]
 have d:t[k]∈t:=qF b;refine⟨t[k].1,t[k].2,?_,?_,(e _ d).1,(e _ d).2,c,by rw[o8 b],d⟩
 ·rw[<-c];exact cH h (f.block g (eK h))
 rw[<-c];exact cH i (f.block g (eK i))
theorem tF(t:jh (jd×jd))(v:ji)(w:jg)(f:bJ w v t)(u:t.length<=1000000):
 jr jm 68 #[jq #[v]] w λe w'=>∃b,e=jo b/\w'.ownsRow w 3 1 b (cr t).length ((cr t).map (jE .i64))/\jl w w w':=by
 obtain⟨p,c,rfl,F,j,d,g⟩:=f;obtain⟨H,K,M,P,Q⟩:=qj Dt
 go_enter func68,ntmps68
 go_wp2_with fail
 obtain⟨x,a⟩:=J (w.alloc (jc #[jb p t.length c] 39));have i:jl w w x:=by rw[a];exact(jy _ w).alloc (jn _) _
 have R:=O (j0 x w.heap.size 3 1);rw[<-a];clear a;have S:=O i;have U:=O d;have V:=O g;have y:=O (λk=>jz (yu (t.take k)) (by rw[qh];exact Nat.min_le_left k _));obtain⟨n,a⟩:=J t.length;have h:=O a;rw[<-a]at u F⊢;clear i d g a j
 go_loopw [2,8] (λb i wr=>∃k:je,i=I N k/\k<=n/\jk (wr.ownsRow w 3 1 b (gE (t.take k)).length ((gE (t.take k)).map (jE .i64)))/\jk (jl w w wr)) (λ_ i _=>n-(jv i).toNat)
 case atStart=>exact⟨0,T,jJ _,R,S⟩
 obtain⟨k,rfl,hk,z,d⟩:=hrel
 by_cases W:k<n
 ·have X:=aw ((k:jd)<(n:jd))
  have UL:=aw (k<n);obtain⟨g,o,rfl,j⟩:=U.out (by rw[<-h];omega);obtain⟨a,m,c1,c2,B,q,-,f,-⟩:=tJ j V.out (by rw[<-h];exact W) d;have r:=O f;have ad:=y k;have s:=O (d.alloc d.size (jc #[I N a,I N m] 167));have i:=O (z.alloc (jc #[I N a,I N m] 167));have au:w.heap.size<=wr.heap.size:=d.size;clear j f B q
  by_cases h5:512<=a
  ·have aa:=aw (512<=a)
   by_cases h6:a<=1023
   ·have hd2:=aw (a<=1023)
    have C:=O (cell_one_new (wr.alloc (jc #[I N a,I N m] 167)) (I N (a-512)) 3);rw[jC]at C
    go_wp2_with (at_builtin;refine wv _ T _ _ 29 T w.heap.size 3 H (I N 0) 1 8 vi K M P Q T L _ _ _ T (i.alloc _) ⟨wr.heap.size+1,0,A⟩ 1 1 [I N (a-512)] T T C (by simp[j1]) (by unfold j3;omega) Y (by simp;omega) ?_;intro v' B D E _)
    have VI:=O D;have l:=s.out;have Up:=O ((Below.alloc l l.size (jc #[I N (a-512)] 3)).grown E (by have:=l.size;simp;omega) (λj hj=>(i.lt j hj).1));clear D E l;refine⟨⟨k+1,by go_num,by omega,?_,Up⟩,by simp only[jv];omega⟩;rw[r,By,jB ⟨h5,h6⟩,jL,j4];exact VI
   have hd2:=az (a<=1023)
   go_wp2
   refine⟨⟨k+1,by go_num,by omega,?_,s⟩,by simp only[jv];omega⟩;rw[r,By,jI Y,q9];exact i
  have aa:=az (512<=a)
  go_wp2
  refine⟨⟨k+1,by go_num,by omega,?_,s⟩,by simp only[jv];omega⟩;rw[r,By,jI Y,q9];exact i
 have X:=az ((k:jd)<(n:jd));have UL:=az (k<n);obtain rfl:k=n:=Y;have a:=z.out;rw[h,List.take_length]at a;have i:=y k;have g:(gE t).length<=1000000:=jz (yu t) (by rw[<-h];exact u);have j:=O (CH _ (gE t) w.heap.size w.heap.size wr a (jn _) g);have l:=O g;clear a i g
 go_wp2_with fail
 refine j.mono ?_;rintro e q ⟨rfl,g,i⟩;have a:((gE t).mergeSort leI).length=(gE t).length:=xi _;have m:=O (JG _ ((gE t).mergeSort leI) w.heap.size w.heap.size q (by rw[a];exact g) (jn _) (by rw[a];exact l));have o:=O i;clear g i a
 go_wp2_with fail
 refine m.mono ?_;rintro e s ⟨b,rfl,a,g⟩;have i:=O a;have r:=O g;clear a g
 go_wp2
 go_ret;exact⟨b,T,i,d.trans (o.trans r)⟩
theorem JL(t:jh (jd×jd))(v:ji)(x:jd)(w:jg)(d:bJ w v t)(h:t.length<=1000000)(g:aP x):
 jr jm 99 #[jq #[v],I N x] w λe w'=>e=jo (jw #[I N ((bG t x).getD 0),.bool (bG t x).isSome])/\jl w w w':=by
 have a:jl w w (w.alloc (jc #[v] 39)):=(jy _ w).alloc (jn _) _;have i:=O (zg t v (w.alloc (jc #[v] 39)) (d.below a) h);obtain⟨p,c,rfl,-,-,-,-⟩:=d;have j:=O g;have k:=O a;obtain⟨f,b⟩:∃f,bG t x=f:=⟨_,T⟩;rw[b];have l:=O b;clear g a b
 go_enter func99,ntmps99
 go_wp2_with fail
 refine i.mono ?_;rintro e q ⟨b,rfl,m,a,g⟩;have n:=O a;have o:=ah k g;clear a g m
 go_wp2_with (at_lookup;refine vF (he:=jQ) T _ _ 154 T jQ qy (pL _) b t.length _ T n x T j ?_;rw[l])
 go_ret2;exact⟨T,o⟩
theorem pK{v:ji}{l:jh jd}(h:w.ownsRow B 3 1 v l.length (l.map (jE .i64))):
 ∃p c,v=jb p l.length c/\l.length<=c/\(0<l.length->∃g,p=ja ⟨g,0,A⟩/\B<=g/\g<w.heap.size/\∀j,j<l.length->w.cell? ⟨g,j,A⟩=ja (I N (l.getD j 0))):=by
 rcases h.2 with⟨rfl,d⟩|⟨g,f,n,rfl,i,a,k,o,q,m⟩
 ·exact⟨A,0,by rw[d],by omega,λh=>by omega⟩
 refine⟨_,f,T,k,λ_=>⟨g,T,i,(jK.1 a).1,λj b=>?_⟩⟩;have e:=qO (λz:jh ji=>z[j]?) m;simp only[rv]at e;rw[r4 b]at e;unfold j5;rw[a];simp only[xj,xk,if_false];rw[<-xl,e];simp[jO,b]
def ef(a:jh jd)(y:jd):jS Bool:=if y∈a then ja jf else A
theorem zk(a:jh jd)(z:jd):(λy=>if y=z then ja jf else ef a y)=ef (a++[z]):=by
 funext y
 unfold ef
 by_cases h:y=z
 ·simp[h]
 simp[h]
def bU(d:jd):jh jd:=(kB d.toNat).map λn:je=>(n:jd)
def fN(a:jh jd):jh jd:=a.flatMap λd=>(512+d)::bU d
theorem MK(a:jh jd)(d:jd):fN (a++[d])=(fN a++[512+d])++bU d:=by
 simp[fN,List.flatMap_append]
theorem tT(d:jd)(a:0<=d)(b:d<512):(bU d).length=9:=by
 unfold bU kB;rw[jD,jD,uE _ Y]
theorem Ah(d:jd)(c:0<=d)(e:d<512):∀x∈bU d,0<=x/\x<1024:=by
 intro x a;unfold bU kB at a;simp only[qT]at a;obtain⟨n,⟨m,b,rfl⟩,rfl⟩:=a;have:=zo 10 (512+d.toNat) m b;unfold gV;omega
theorem Cr(d:jd)(a:0<=d)(b:d<512)(w:jg):
 jr jm 119 #[I N d] w λe w'=>∃v,e=jo (jw #[v,I N 0])/\w'.ownsRow w 3 1 v (bU d).length ((bU d).map (jE .i64))/\jl w w w':=by
 obtain⟨n,rfl⟩:=xm a;refine(SR n Y w).mono ?_;rintro e w' ⟨v,rfl,c,f⟩;refine⟨v,T,?_,f⟩;rw[tT _ a b];have e:iv (kB n)=(bU (n:jd)).map (jE .i64):=by simp[iv,bU,Function.comp_def]
 rw[<-e];exact c
def mN(t:jh (jd×jd))(U:jh jd)(i:je):Prop:=
 (t.getD i (0,0)).1<1\/1023<(t.getD i (0,0)).1\/(0<i/\(t.getD i (0,0)).1<=(t.getD (i-1) (0,0)).1)\/¬bP (t.getD i (0,0)).2\/(t.getD i (0,0)).1∉U
def L0(t:jh (jd×jd)):Prop:=∃i,i<t.length/\mN t (fN (cr t)) i
noncomputable def de(t:jh (jd×jd)):jd:=by classical exact if L0 t then 210 else 0
theorem zj(h:jl B w a)(n:je):jl B w (a.drewN n):=h.trans ⟨T,T,T,jn _,λ_ _=>rfl⟩
theorem nA(h:x=y):Ending.returned (I N y)=jo (I N x):=by rw[h]
theorem BZ(h:t.getD B (0,0)=(x,y))(e:1<=x)(f:x<=1023)(b:¬(0<B/\x<=(t.getD (B-1) (0,0)).1))(c:bP y)(d:x∈U):¬mN t U B:=by
 unfold mN;rw[h];rintro(a|a|a|a|a)
 ·exact jG a (by show ¬x<1;omega)
 ·exact jG a (by show ¬1023<x;omega)
 ·exact b a
 ·exact a c
 exact a d
theorem Eb(h:∀j,j<B->¬mN t U j)(b:¬mN t U B):∀j,j<B+1->¬mN t U j:=by
 intro j c
 rcases qG j B with a|a
 ·exact h j a
 obtain rfl:j=B:=Y;exact b
theorem Bh(w:jg):(zeroValue 4).run jm w=.ok (.bool jp) w:=by kernel_rfl
theorem nP{k:je}(a:U=fN (cr t))(b:k<t.length)(h:mN t U k):de t=210:=by
 unfold de;rw[jB];subst a;exact⟨k,b,h⟩
theorem B2(a:U=fN (cr t))(h:∀j,j<t.length->¬mN t U j):de t=0:=by
 unfold de;rw[jI];subst a;rintro⟨i,b,c⟩;exact h i b c
theorem wY(t:jh (jd×jd))(v:ji)(w:jg)(ht:bJ w v t)(hl:t.length<=1000000):
 jr jm 63 #[jq #[v]] w λe w'=>e=jo (I N (de t))/\jl w w w':=by
 have a:jl w w ((w.alloc (jc #[v] 39)).alloc (.map #[] 0)):=((jy _ w).alloc (jn _) _).alloc ar _;have j:=O (tF t v ((w.alloc (jc #[v] 39)).alloc (.map #[] 0)) (ht.below a) hl);have b:aZ (ik n0) 3 ((w.alloc (jc #[v] 39)).alloc (.map #[] 0)) (w.heap.size+1) 0 (λ_=>A):=by
  have h:=aZ.made (ik n0) 3 (w.alloc (jc #[v] 39));rw[jC]at h;exact h
 have X:=O ht;obtain⟨p,c,rfl,hc,-,-,-⟩:=ht;obtain⟨W0,i⟩:=J ((w.alloc (jc #[jb p t.length c] 39)).alloc (.map #[] 0));have k:W0.heap[w.heap.size]?=ja (jc #[jb p t.length c] 39 (0,0)):=by
  rw[i];exact(jF _ _ _ ar).trans (js w _)
 have d:=@run_makeMap jm
 go_enter func63,ntmps63
 go_wp2_with fail
 rw[<-i]at j a b⊢;clear d;refine j.mono ?_;rintro e w1 ⟨bk,rfl,ad,g⟩;obtain⟨pu,cu,rfl,a5,q⟩:=pK ad;have D:=O q;have F:=O (b.below g b.lt);have UM:=O ((g.block _ (jK.1 k).1).trans k);have Up:=O (a.trans (g.mono a.size));have bc:w.heap.size+1<w1.heap.size:=jN b.lt g.size;obtain⟨B,m⟩:=J (w.heap.size+1);rw[<-m]at F bc⊢;have bl:w.heap.size<B:=Y;have bm:B<W0.heap.size:=by rw[i,m];simp
 have Y6:=O (jz (show(cr t).length<=(gE t).length by
  unfold cr Lib.compact Lib.compactUpTo;rw[jD];exact jz (rn _ _) ar) (yu t))
 have H:=O (λd=>(oC t d).1);obtain⟨M,o⟩:=J (cr t);rw[<-o]at D Y6 H a5⊢;have bd:=O o;obtain⟨n,f⟩:=J M.length;have bn:n<=1000000:=by rw[f];exact jz Y6 hl
 have r:=O f;rw[<-f]at a5⊢;clear i k a b ad g q j m f o
 go_wp2_with fail
 go_loopw [16] (λi wr=>∃k:je,i=I N k/\k<=n/\jk (aZ (ik n0) 3 wr B (k*10) (ef (fN (M.take k))))/\jk (jl w w wr)/\jk (∀b,b<w1.heap.size->b≠B->wr.heap[b]?=w1.heap[b]?)/\w1.heap.size<=wr.heap.size) (λi _=>n-(jv i).toNat)
 case atStart=>exact⟨0,T,jJ _,O (F.congr (λx _=>by simp[fN,ef])),Up,O (λ_ _ _=>rfl),jn _⟩
 obtain⟨k,rfl,hk,HM,HB,q,bb⟩:=hrel
 by_cases V:k<n
 ·have hd:=aw ((k:jd)<(n:jd))
  have UL:=aw (k<n);obtain⟨g,rfl,bo,Yk,s⟩:=D.out (by rw[<-r];omega);have a:k<M.length:=by rw[<-r];exact V
  have j:=s k a;have m:M.getD k 0=M[k]:=by simp[jO,a]
  have U:=O (o8 a);obtain⟨u,y,-⟩:=H M[k] (qF a);rw[m]at j;obtain⟨d,o⟩:=J (M[k]);rw[<-o]at j u y U;have P:wr.cell? ⟨g,k,A⟩=ja (I N d):=cH j (q g Yk Y);clear j m a s o;have Vk:g<wr.heap.size:=Y;have a6:=O (Cr d u y);have K:=O (tT d u y);have ba:=O (Ah d u y);have a:aP (512+d):=aP.of Y;have HI:=O a;clear a
  go_wp2_with fail
  refine(a6 _).mono ?_;rintro e w2 ⟨pv,rfl,ad,a⟩;obtain⟨pp,cp,rfl,bf,j⟩:=pK ad;rw[K]at bf j⊢;obtain⟨o,rfl,bp,bg,z⟩:=j Y;have C:=O (HM.below a Y);have S:=ah HB a;have W:jk (∀b,b<w1.heap.size->b≠B->w2.heap[b]?=w1.heap[b]?):=O λb m f=>(a.block b Y).trans (q b m f)
  have bq:=a.size;have UH:=O z;clear ad a j z P
  go_wp2_with (at_mapUpdate;refine ox (E:=ik n0) T _ _ _ 196 T jQ qZ B _ _ T C (by unfold j3;omega) (512+d) T HI jf T trivial ?_;intro a aa Q;have R:=O aa;have z:=O Q;have j:=Q.grown.size;clear aa Q)
  have R:jk (aZ (ik n0) 3 a B (k*10+1+0) (ef (fN (M.take k)++[512+d]++(bU d).take 0))):=O (by
   have h:=R.out;rw[zk]at h
   simpa using h)
  have YJ:jk (∀b,b<w1.heap.size->b≠B->a.heap[b]?=w1.heap[b]?):=O λb m f=>(z.grown.block b Y (ak f)).trans (W b m f)
  have Ut:jk (jl w w a):=O (S.grown z.grown Y (λj e=>by cases e;omega));have U2:jk (∀j,j<9->a.cell? ⟨o,j,A⟩=ja (I N ((bU d).getD j 0))):=O λj hj=>cH (UH j hj) (z.grown.block o bg (by simp;omega))
  have br:o<a.heap.size:=Y;clear z W S UH C
  go_wp2_with fail
  go_loopw [30] (λi wr=>∃j:je,i=I N j/\j<=9/\jk (aZ (ik n0) 3 wr B (k*10+1+j) (ef (fN (M.take k)++[512+d]++(bU d).take j)))/\jk (jl w w wr)/\jk (∀b,b<a.heap.size->b≠B->wr.heap[b]?=a.heap[b]?)/\a.heap.size<=wr.heap.size) (λi _=>9-(jv i).toNat)
  case atStart=>exact⟨0,T,jJ _,R,Ut,O (λ_ _ _=>rfl),jn _⟩
  obtain⟨j,rfl,hj,au,ax,S,bs⟩:=hrel
  by_cases ay:j<9
  ·have bh:=aw ((j:jd)<9)
   have cy:wr.cell? ⟨o,j,A⟩=ja (I N ((bU d).getD j 0)):=cH (U2 j ay) (S o Y Y);have C:j<(bU d).length:=by rw[K];exact ay
   have W:(bU d).getD j 0=(bU d)[j]:=by simp[jO,C]
   have a1:=O (o8 C);have a2:=O (ba _ (qF C));rw[W]at cy;obtain⟨z,hz⟩:=J ((bU d)[j]);rw[<-hz]at cy a1 a2;have bi:jk (aP z):=O (aP.of (x:=z) (aJ a2));have bu:o<wr.heap.size:=Y;clear C W hz
   go_wp2_with (at_mapUpdate;refine ox (E:=ik n0) T _ _ _ 196 T jQ qZ B _ _ T au (by unfold j3;omega) z T bi jf T trivial ?_;intro w5 a3 C;have W:=O a3;have a4:=O C;have bv:=C.grown.size;clear a3 C)
   refine⟨⟨j+1,by go_num,by omega,O ?_,O (ax.grown a4.grown Y (λj e=>by cases e;omega)),O λb m f=>(a4.grown.block b Y (ak f)).trans (S b m f),by omega⟩,by simp only[jv];omega⟩;have h:=W.out;rw[zk]at h;rw[a1,<-j6];exact h
  have bh:=az ((j:jd)<9);obtain rfl:j=9:=Y
  go_wp2_with fail
  refine⟨⟨k+1,by go_num,by omega,O ?_,ax,O λb m f=>(S b Y f).trans (YJ b m f),by omega⟩,by simp only[jv];omega⟩;have h:=au.out;rw[nv (l:=bU d) (by rw[K];exact jn _)]at h;rw[U,MK];exact h.mono (n':=(k+1)*10) Y
 have hd:=az ((k:jd)<(n:jd));have UL:=az (k<n);obtain rfl:k=n:=Y;have Wr:jk (wr.heap[w.heap.size]?=ja (jc #[jb p t.length c] 39 (0,0))):=O ((q w.heap.size Y Y).trans UM);have ax:jk (aZ (ik n0) 3 wr B (k*10) (ef (fN M))):=O (by
  have h:=HM.out;rw[nv (by rw[<-r];exact jn _)]at h;exact h)
 have b:=O (X.below HB);have a6:B<wr.heap.size:=Y;obtain⟨U,a⟩:=J (fN M);rw[<-a]at ax;have HU:jk (U=fN (cr t)):=O (by rw[a,bd]);obtain⟨k',d⟩:=J k;rw[<-d]at ax;clear a HM q D H X UM Up F r d;have cb:wr.cell? ⟨w,0,A⟩=ja (jb p t.length c):=by unfold j5;rw[Wr];rfl
 obtain⟨p',c',he,-,-,a,d⟩:=b.out
 cases he
 have HC:=O a;have ba:=O d;clear a d;obtain⟨n,f⟩:=J t.length;have r:=O f;obtain⟨W3,a⟩:=J wr;have ay:w.heap.size<wr.heap.size:=Y;rw[<-a]at Wr ax HC a6 cb HB ay⊢;rw[<-f]at hc hl cb Wr⊢;clear f a bb b
 go_wp2_with fail
 go_loopw [41] (λi wr=>∃k:je,i=I N k/\k<=n/\jk (∀j,j<k->¬mN t U j)/\jk (jl W3 W3 wr)) (λi _=>n-(jv i).toNat)
 case atStart=>exact⟨0,T,jJ _,O (λ_ h=>jG h Y),O (jy _ _)⟩
 obtain⟨k,rfl,hk,HG,WP⟩:=hrel
 by_cases V:k<n
 ·have hd:=aw ((k:jd)<(n:jd))
  have UL:=aw (k<n);obtain⟨g,o,rfl,s⟩:=HC.out (by rw[<-r];omega);obtain⟨a,q,P,j,i,m,hgt,-,-⟩:=tJ s ba.out (by rw[<-r];exact V) WP;have u:wr.cell? ⟨w,0,A⟩=ja (jb (ja ⟨g,o,A⟩) n c):=cH cb (WP.block _ ay);have X:=O hgt;have Wc:=O s;have Ya:=O i;have b:=WP.alloc WP.size (jc #[I N a,I N q] 167);have C:w.heap.size<wr.heap.size:=jN ay WP.size;have x:wr.heap.size<(wr.alloc (jc #[I N a,I N q] 167)).heap.size:=by simp
  have y:(wr.alloc (jc #[I N a,I N q] 167)).cell? ⟨wr,0,A⟩=ja (I N a):=by
   unfold j5;rw[js];rfl
  have z:(wr.alloc (jc #[I N a,I N q] 167)).cell? ⟨wr,1,A⟩=ja (I N q):=by
   unfold j5;rw[js];rfl
  have d:(wr.alloc (jc #[I N a,I N q] 167)).cell? ⟨w,0,A⟩=ja (jb (ja ⟨g,o,A⟩) n c):=cH cb (b.block _ ay);have W:jk (aZ (ik n0) 3 (wr.alloc (jc #[I N a,I N q] 167)) B (k'*10) (ef U)):=O (ax.below b a6);have H:=ah HB b;have aa:=O b;clear s hgt i m b
  go_upto_region 16 with fail
  obtain⟨K,b⟩:=J (wr.alloc (jc #[I N a,I N q] 167));rw[<-b]at x y z d W H aa⊢;clear b P j u C
  by_cases h1:a<1
  ·have bf:=aw (a<1)
   have s:jk (de t=210):=O<|nP HU.out (by rw[<-r];exact V) (.inl (by rw[X];exact h1))
   go_quiet (fail)
   go_wp2_with fail
   go_ret;exact⟨nA s,zj H _⟩
  have bf:=az (a<1)
  by_cases h2:1023<a
  ·have hd2:=aw (1023<a)
   have s:jk (de t=210):=O<|nP HU.out (by rw[<-r];exact V) (.inr (.inl (by rw[X];exact h2)))
   go_quiet (fail)
   go_wp2_with fail
   go_ret;exact⟨nA s,zj H _⟩
  have hd2:=az (1023<a)
  by_cases h3:0<k
  ·have hd3:=aw (0<(k:jd))
   have bg:=aw (0<k);obtain⟨m,b⟩:=J (k-1);have bo:(k:jd)-1=(m:jd):=Y;have bh:m<n:=Y;obtain⟨a2,q2,c3,-,-,-,i,-,-⟩:=tJ Wc ba (k:=m) (by rw[<-r];exact bh) aa;have bb:=O i;have HM:=O b;clear i b
   by_cases h4:a<=a2
   ·have bi:=aw (a<=a2)
    have s:jk (de t=210):=O<|nP HU.out (by rw[<-r];exact V) (.inr (.inr (.inl (by rw[<-HM,X,bb];exact⟨h3,h4⟩))))
    go_quiet (fail)
    go_wp2_with fail
    go_ret;exact⟨nA s,zj H _⟩
   have bi:=az (a<=a2);have au:B<K.heap.size:=by have:=WP.size;omega
   have P:=O (gD q);have bp:qU.wrap (m:jd)=(m:jd):=by rw[qH];omega
   have bq:(0:jd)<=(m:jd):=Y;have br:(m:jd)<(n:jd):=Y;have bs:(m:jd)<=(n:jd):=Y;have a1:jk (¬(0<k/\a<=(t.getD (k-1) (0,0)).1)):=O (by rw[<-HM,bb];exact λh=>h4 h.2)
   by_cases C:bP q
   ·have Q:cS q=0:=gF C
    rw[Q]at P;have a3:=O C;clear Q C;have u:∀w',aZ (ik n0) 3 w' B (k'*10) (ef U)->(Instr.lookup 196 (.map (ja B)) (I N a) jp).run jm w'=.ok (.bool ((ef U a).getD jp)) w':=λw' h=>h.look jQ qZ (Bh w') Ya jp
    have D:=u K.drew (aZ.of_block (w':=K.drew) W T)
    by_cases F:a∈U
    ·have R:(ef U a).getD jp=jf:=by unfold ef;rw[jB F];rfl
     rw[R]at D u;have a4:=O F;clear R F;refine jT ?_;refine lJ (λw'=>w'.cell? ⟨w,0,A⟩=ja (jb (ja ⟨g,o,A⟩) n c)/\w'.cell? ⟨g,o+m*2,A⟩=ja (I N a2)/\w'.cell? ⟨wr,0,A⟩=ja (I N a)/\w'.cell? ⟨wr,1,A⟩=ja (I N q)/\(Instr.lookup 196 (.map (ja B)) (I N a) jp).run jm w'=.ok (.bool jf) w') 100 [(0,jf),(1,jf),(2,jf),(3,jf),(4,jf),(5,jf),(6,jf),(7,jf),(8,jf),(9,jf),(10,jf),(11,jf),(12,jf),(13,jf),(14,jf),(15,jf),(16,jf),(17,jf),(18,jf),(19,jf),(20,jf),(21,jf),(22,jf),(23,jf),(24,jf),(25,jf),(26,jf),(27,jp),(28,jf),(29,jf),(30,jf),(31,jf),(32,jf),(33,jf),(34,jf),(35,jf),(36,jf)]
      af af af rfl (λ_ _ _ _ h=>h) ⟨d,c3,y,z,D⟩ ?_
     iterate 27 refine wA ?_
     refine dq T (λK' j=>?_);go_simp;refine(P _).mono ?_;rintro e i ⟨rfl,b⟩;refine j _ _ ⟨cH d (b.block _ (eK d)),cH c3 (b.block _ (eK c3)),cH y (b.block _ x),cH z (b.block _ x),u i (aZ.of_block (w':=i) W (b.block B au))⟩ λ_=>?_
     clear j;refine G ?_;iterate 9 refine wA ?_
     refine jR ?_;have S:jk (jl W3 W3 i):=O (aa.trans (qv (w:=K) ⟨b.os,b.tape,b.output,b.size,b.block⟩ aa.size));clear b u D
     go_wp2_with fail
     refine⟨⟨k+1,by go_num,by omega,O (Eb HG (BZ X Y Y a1 a3 a4)),S⟩,by simp only[jv];omega⟩
    have R:(ef U a).getD jp=jp:=by unfold ef;rw[jI F];rfl
    rw[R]at D u;have s:jk (de t=210):=O<|nP HU.out (by rw[<-r];exact V) (.inr (.inr (.inr (.inr (by rw[X];exact F)))));clear R F;refine jT ?_;refine lJ (λw'=>w'.cell? ⟨w,0,A⟩=ja (jb (ja ⟨g,o,A⟩) n c)/\w'.cell? ⟨g,o+m*2,A⟩=ja (I N a2)/\w'.cell? ⟨wr,0,A⟩=ja (I N a)/\w'.cell? ⟨wr,1,A⟩=ja (I N q)/\(Instr.lookup 196 (.map (ja B)) (I N a) jp).run jm w'=.ok (.bool jp) w') 100 [(0,jf),(1,jf),(2,jf),(3,jf),(4,jf),(5,jf),(6,jf),(7,jf),(8,jf),(9,jf),(10,jf),(11,jf),(12,jf),(13,jf),(14,jf),(15,jf),(16,jf),(17,jf),(18,jf),(19,jf),(20,jf),(21,jf),(22,jf),(23,jf),(24,jf),(25,jf),(26,jf),(27,jp),(28,jf),(29,jf),(30,jf),(31,jf),(32,jf),(33,jf),(34,jf),(35,jf),(36,jf)]
     af af af rfl (λ_ _ _ _ h=>h) ⟨d,c3,y,z,D⟩ ?_
    iterate 27 refine wA ?_
    refine dq T (λK' j=>?_);go_simp;refine(P _).mono ?_;rintro e i ⟨rfl,b⟩;refine j _ _ ⟨cH d (b.block _ (eK d)),cH c3 (b.block _ (eK c3)),cH y (b.block _ x),cH z (b.block _ x),u i (aZ.of_block (w':=i) W (b.block B au))⟩ λ_=>?_
    clear j;refine G ?_;iterate 9 refine wA ?_
    refine jR ?_;have S:jk (jl w w i):=O (H.trans (qv (w:=K) ⟨b.os,b.tape,b.output,b.size,b.block⟩ H.size));clear b u D
    go_wp2_with fail
    go_ret;exact⟨nA s,S⟩
   have Q:cS q=40:=k7 C;rw[Q]at P;have s:jk (de t=210):=O<|nP HU.out (by rw[<-r];exact V) (.inr (.inr (.inr (.inl (by rw[X];exact C)))));clear Q C;refine jT ?_;refine lJ (λw'=>w'.cell? ⟨w,0,A⟩=ja (jb (ja ⟨g,o,A⟩) n c)/\w'.cell? ⟨g,o+m*2,A⟩=ja (I N a2)/\w'.cell? ⟨wr,0,A⟩=ja (I N a)/\w'.cell? ⟨wr,1,A⟩=ja (I N q)) 100 [(0,jf),(1,jf),(2,jf),(3,jf),(4,jf),(5,jf),(6,jf),(7,jf),(8,jf),(9,jf),(10,jf),(11,jf),(12,jf),(13,jf),(14,jf),(15,jf),(16,jf),(17,jf),(18,jf),(19,jf),(20,jf),(21,jf),(22,jf),(23,jf),(24,jf),(25,jf),(26,jf),(27,jp),(28,jf),(29,jf),(30,jf),(31,jf),(32,jf),(33,jf),(34,jf),(35,jf),(36,jf)]
    af af af rfl (λ_ _ _ _ h=>h) ⟨d,c3,y,z⟩ ?_
   iterate 27 refine mp ?_
   refine dq T (λK' j=>?_);go_simp;refine(P _).mono ?_;rintro e i ⟨rfl,b⟩;refine j _ _ ⟨cH d (b.block _ (eK d)),cH c3 (b.block _ (eK c3)),cH y (b.block _ x),cH z (b.block _ x)⟩ λ_=>?_
   clear j;refine G ?_;iterate 3 refine mp ?_
   iterate 5 refine sL ?_
   refine mp ?_;refine jR ?_;have S:jk (jl w w i):=O (H.trans (qv (w:=K) ⟨b.os,b.tape,b.output,b.size,b.block⟩ H.size));clear b
   go_wp2_with fail
   go_ret;exact⟨nA s,S⟩
  have hd3:=az (0<(k:jd));have bg:=az (0<k);have au:B<K.heap.size:=by have:=WP.size;omega
  have P:=O (gD q);have a1:jk (¬(0<k/\a<=(t.getD (k-1) (0,0)).1)):=O (λh=>h3 h.1);clear h3
  by_cases C:bP q
  ·have Q:cS q=0:=gF C
   rw[Q]at P;have a3:=O C;clear Q C;have u:∀w',aZ (ik n0) 3 w' B (k'*10) (ef U)->(Instr.lookup 196 (.map (ja B)) (I N a) jp).run jm w'=.ok (.bool ((ef U a).getD jp)) w':=λw' h=>h.look jQ qZ (Bh w') Ya jp
   have D:=u K.drew (aZ.of_block (w':=K.drew) W T)
   by_cases F:a∈U
   ·have R:(ef U a).getD jp=jf:=by unfold ef;rw[jB F];rfl
    rw[R]at D u;have a4:=O F;clear R F;refine jT ?_;refine lJ (λw'=>w'.cell? ⟨w,0,A⟩=ja (jb (ja ⟨g,o,A⟩) n c)/\w'.cell? ⟨wr,0,A⟩=ja (I N a)/\w'.cell? ⟨wr,1,A⟩=ja (I N q)/\(Instr.lookup 196 (.map (ja B)) (I N a) jp).run jm w'=.ok (.bool jf) w') 100 [(0,jf),(1,jf),(2,jf),(3,jf),(4,jf),(5,jf),(6,jf),(7,jf),(8,jf),(9,jf),(10,jf),(11,jf),(12,jf),(13,jf),(14,jf),(15,jf),(16,jf),(17,jf),(18,jf),(19,jf),(20,jf),(21,jf),(22,jf),(23,jf),(24,jf),(25,jf),(26,jf),(27,jp),(28,jf),(29,jf),(30,jf),(31,jf),(32,jf),(33,jf),(34,jf),(35,jf),(36,jf)]
     af af af rfl (λ_ _ _ _ h=>h) ⟨d,y,z,D⟩ ?_
    iterate 12 refine mp ?_
    iterate 10 refine sL ?_
    iterate 5 refine mp ?_
    refine dq T (λK' j=>?_);go_simp;refine(P _).mono ?_;rintro e i ⟨rfl,b⟩;refine j _ _ ⟨cH d (b.block _ (eK d)),cH y (b.block _ x),cH z (b.block _ x),u i (aZ.of_block (w':=i) W (b.block B au))⟩ λ_=>?_
    clear j;refine G ?_;iterate 9 refine mp ?_
    refine jR ?_;have S:jk (jl W3 W3 i):=O (aa.trans (qv (w:=K) ⟨b.os,b.tape,b.output,b.size,b.block⟩ aa.size));clear b u D
    go_wp2_with fail
    refine⟨⟨k+1,by go_num,by omega,O (Eb HG (BZ X Y Y a1 a3 a4)),S⟩,by simp only[jv];omega⟩
   have R:(ef U a).getD jp=jp:=by unfold ef;rw[jI F];rfl
   rw[R]at D u;have s:jk (de t=210):=O<|nP HU.out (by rw[<-r];exact V) (.inr (.inr (.inr (.inr (by rw[X];exact F)))));clear R F;refine jT ?_;refine lJ (λw'=>w'.cell? ⟨w,0,A⟩=ja (jb (ja ⟨g,o,A⟩) n c)/\w'.cell? ⟨wr,0,A⟩=ja (I N a)/\w'.cell? ⟨wr,1,A⟩=ja (I N q)/\(Instr.lookup 196 (.map (ja B)) (I N a) jp).run jm w'=.ok (.bool jp) w') 100 [(0,jf),(1,jf),(2,jf),(3,jf),(4,jf),(5,jf),(6,jf),(7,jf),(8,jf),(9,jf),(10,jf),(11,jf),(12,jf),(13,jf),(14,jf),(15,jf),(16,jf),(17,jf),(18,jf),(19,jf),(20,jf),(21,jf),(22,jf),(23,jf),(24,jf),(25,jf),(26,jf),(27,jp),(28,jf),(29,jf),(30,jf),(31,jf),(32,jf),(33,jf),(34,jf),(35,jf),(36,jf)]
    af af af rfl (λ_ _ _ _ h=>h) ⟨d,y,z,D⟩ ?_
   iterate 12 refine mp ?_
   iterate 10 refine sL ?_
   iterate 5 refine mp ?_
   refine dq T (λK' j=>?_);go_simp;refine(P _).mono ?_;rintro e i ⟨rfl,b⟩;refine j _ _ ⟨cH d (b.block _ (eK d)),cH y (b.block _ x),cH z (b.block _ x),u i (aZ.of_block (w':=i) W (b.block B au))⟩ λ_=>?_
   clear j;refine G ?_;iterate 9 refine mp ?_
   refine jR ?_;have S:jk (jl w w i):=O (H.trans (qv (w:=K) ⟨b.os,b.tape,b.output,b.size,b.block⟩ H.size));clear b u D
   go_wp2_with fail
   go_ret;exact⟨nA s,S⟩
  have Q:cS q=40:=k7 C;rw[Q]at P;have s:jk (de t=210):=O<|nP HU.out (by rw[<-r];exact V) (.inr (.inr (.inr (.inl (by rw[X];exact C)))));clear Q C;refine jT ?_;refine lJ (λw'=>w'.cell? ⟨w,0,A⟩=ja (jb (ja ⟨g,o,A⟩) n c)/\w'.cell? ⟨wr,0,A⟩=ja (I N a)/\w'.cell? ⟨wr,1,A⟩=ja (I N q)) 100 [(0,jf),(1,jf),(2,jf),(3,jf),(4,jf),(5,jf),(6,jf),(7,jf),(8,jf),(9,jf),(10,jf),(11,jf),(12,jf),(13,jf),(14,jf),(15,jf),(16,jf),(17,jf),(18,jf),(19,jf),(20,jf),(21,jf),(22,jf),(23,jf),(24,jf),(25,jf),(26,jf),(27,jp),(28,jf),(29,jf),(30,jf),(31,jf),(32,jf),(33,jf),(34,jf),(35,jf),(36,jf)]
   af af af rfl (λ_ _ _ _ h=>h) ⟨d,y,z⟩ ?_
  iterate 12 refine vJ ?_
  iterate 10 refine sL ?_
  iterate 5 refine vJ ?_
  refine dq T (λK' j=>?_);go_simp;refine(P _).mono ?_;rintro e i ⟨rfl,b⟩;refine j _ _ ⟨cH d (b.block _ (eK d)),cH y (b.block _ x),cH z (b.block _ x)⟩ λ_=>?_
  clear j;refine G ?_;iterate 3 refine vJ ?_
  iterate 5 refine sL ?_
  refine vJ ?_;refine jR ?_;have S:jk (jl w w i):=O (H.trans (qv (w:=K) ⟨b.os,b.tape,b.output,b.size,b.block⟩ H.size));clear b
  go_wp2_with fail
  go_ret;exact⟨nA s,S⟩
 have hd:=az ((k:jd)<(n:jd));have UL:=az (k<n);obtain rfl:k=n:=Y;have s:jk (de t=0):=O<|B2 HU.out (by rw[<-r];exact HG)
 go_wp2_with fail
 go_ret;exact⟨nA s,HB.trans (WP.mono HB.size)⟩
def hgt(n:je):je:=9-n.log2
theorem vO{n:je}(g:1<=n)(i:n<1024):512<=n*2^hgt n/\n*2^hgt n<1024:=by
 have a:2^n.log2<=n:=Nat.log2_self_le Y;have b:n<2^(n.log2+1):=Nat.lt_log2_self;have c:n.log2<=9:=by
  rcases qG 9 n.log2 with h|h
  ·have:=rk (n:=2) Y (show 10<=n.log2 from h)
   omega
  exact h
 unfold hgt;obtain⟨l,d⟩:=J n.log2;rw[<-d]at a b c⊢;have e:2^l*2^(9-l)=512:=by rw[<-Nat.pow_add,Nat.add_sub_cancel' c]
 have f:2^(l+1)*2^(9-l)=1024:=by rw[<-Nat.pow_add,show l+1+(9-l)=10 by omega]
 refine⟨?_,?_⟩
 ·rw[<-e];exact r5 _ a
 rw[<-f];exact Nat.mul_lt_mul_of_pos_right b (Nat.two_pow_pos _)
theorem S9(a:1<=B)(b:B*2^m<1024):2^m<=1000000:=by
 have:1*2^m<=B*2^m:=r5 _ a;omega
noncomputable def lR(t:jh (jd×jd))(x:jd):jd:=if de t=0 then(if x<1\/1023<x then 200 else 0)else de t
noncomputable def ff(t:jh (jd×jd))(x:jd):jh jd:=if lR t x=0 then di (bG t) (hgt x.toNat) x.toNat else []
theorem uH{a:je}{size:je}{v:ji}{n:je}(h:w.ownsRow B e size v n xs)(b:a<=B):w.ownsRow a e size v n xs:=by
 refine⟨h.1,?_⟩
 rcases h.2 with c|⟨g,d,f,i,j,k⟩
 ·exact .inl c
 exact .inr ⟨g,d,f,i,jz b j,k⟩
theorem ui(h:x=y):Ending.returned (jw #[d,I N y])=jo (jw #[d,I N x]):=by rw[h]
theorem NI(t:jh (jd×jd))(v:ji)(x:jd)(w:jg)(c:bJ w v t)(f:t.length<=1000000):
 jr jm 126 #[jq #[v],I N x] w λe w'=>∃j,e=jo (jw #[j,I N (lR t x)])/\w'.ownsRow w 3 1 j (ff t x).length ((ff t x).map (jE .i64))/\jl w w w':=by
 have a:jl w w (w.alloc (jc #[v] 39)):=(jy _ w).alloc (jn _) _;have g:=O (wY t v (w.alloc (jc #[v] 39)) (c.below a) f);have h:=O (c.below a);have C:=O f;obtain⟨s,b⟩:=J (w.alloc (jc #[v] 39));have o:s.cell? ⟨w,0,A⟩=ja v:=by rw[b];unfold j5;rw[js];rfl
 have q:s.heap.size=w.heap.size+1:=by rw[b];simp
 obtain⟨E,k⟩:=J (lR t x);obtain⟨V,m⟩:=J (ff t x);have d:=O k;have l:=O m;rw[<-k,<-m];obtain⟨p,n⟩:=J (de t);have i:=O n;rw[<-b,<-n]at g;rw[<-b]at h a;clear c f k m n
 go_enter func126,ntmps126
 go_wp2_with fail
 rw[<-b];clear b;refine g.mono ?_;rintro e D ⟨rfl,b⟩;have W:=cH o (b.block _ (by show w.heap.size<_;omega));have m:=O (a.trans (b.mono a.size));have F:=O (h.below b);clear b a g h o q
 by_cases q:p=0
 ·subst q
  by_cases H:x<1
  ·have K:=aw (x<1)
   have c:jk (E=200):=O (by rw[d];unfold lR;rw[jB i.symm,jB (.inl H)]);have f:jk (V=[]):=O (by rw[l];unfold ff;rw[jI (by rw[<-d,c];decide)])
   go_wp2_with fail
   go_ret2;exact⟨jb A 0 0,ui c,by rw[f];exact j0 _ _ _ _,m⟩
  have K:=az (x<1)
  by_cases M:1023<x
  ·have hd2:=aw (1023<x)
   have c:jk (E=200):=O (by rw[d];unfold lR;rw[jB i.symm,jB (.inr M)]);have f:jk (V=[]):=O (by rw[l];unfold ff;rw[jI (by rw[<-d,c];decide)])
   go_wp2_with fail
   go_ret2;exact⟨jb A 0 0,ui c,by rw[f];exact j0 _ _ _ _,m⟩
  have hd2:=az (1023<x);have c:jk (E=0):=O (by rw[d];unfold lR;rw[jB i.symm,jI Y]);have f:jk (V=di (bG t) (hgt x.toNat) x.toNat):=O (by rw[l];unfold ff;rw[jB (by rw[<-d,c])]);obtain⟨n,a⟩:=J x.toNat;have P:jk (x=(n:jd)):=O Y;have g:jk (1<=n/\n<1024):=O Y;rw[<-a]at f;clear a
  go_wp2_with fail
  refine(zg t v D F C).mono ?_;rintro e a ⟨b,rfl,r,h,k⟩;have Q:=O h;have o:=ah m k;have R:b<a.heap.size:=h.lt;clear r h k
  go_wp2_with fail
  refine(zB (ja b) x a).mono ?_;rintro e S ⟨rfl,rfl⟩;have u:a.heap.size+2=((a.alloc (jc #[.map (ja b)] 154)).alloc (jc #[I N x] 3)).heap.size:=by simp
  have y:=O ((o.alloc o.size (jc #[.map (ja b)] 154)).alloc (by have:=o.size;simp;omega) (jc #[I N x] 3));have k:jt ((a.alloc (jc #[.map (ja b)] 154)).alloc (jc #[I N x] 3)) a.heap.size 154 (.map (ja b)):=(jF _ _ _ ar).trans (js a _);have z:jt ((a.alloc (jc #[.map (ja b)] 154)).alloc (jc #[I N x] 3)) (a.heap.size+1) 3 (I N (n:jd)):=by
   have h:=js (a.alloc (jc #[.map (ja b)] 154)) (jc #[I N x] 3);rw[jC]at h;rw[<-P];exact h
  have r:=O (AR (bG t) b t.length (hgt n) n (vO g.1 g.2).1 (vO g.1 g.2).2 a.heap.size (a.heap.size+1) a.heap.size _ ((Q.alloc _).alloc _) R k z (by rw[<-u];omega));obtain⟨S,B⟩:=J ((a.alloc (jc #[.map (ja b)] 154)).alloc (jc #[I N x] 3));rw[<-B]at r y u⊢;clear k z B;have z:=O (S9 g.1 (vO g.1 g.2).2);have X:w.heap.size<=a.heap.size:=o.size;have B:=O (DF (λ_ _=>rfl) r Y (by rintro k (rfl|rfl)<;>omega) (λys h=>jz (jz h.length_le (sZ _ _ _)) z) w.heap.size Y (by rintro k (rfl|rfl)<;>omega));clear r
  go_wp2_with fail
  refine B.mono ?_;rintro e w4 ⟨j,xs,rfl,rfl,h,k⟩;have r:=O h;have U:=O (y.trans k);clear h k
  go_wp2_with fail
  go_ret2;refine⟨j,ui c,?_,U⟩;rw[f];exact uH r Y
 have a:=az (p=0);have c:jk (E=p):=O (by rw[d];unfold lR;rw[jI (by rw[<-i];exact q)];exact i.symm);have f:jk (V=[]):=O (by rw[l];unfold ff;rw[jI (by rw[<-d,c];exact q)])
 go_wp2_with fail
 go_ret2;exact⟨jb A 0 0,ui c,by rw[f];exact j0 _ _ _ _,m⟩
theorem Ga(b n:je)(f:jd->jS jd)(z:jd)(a:aP z)(w:jg)(h:aZ (dS jQ) 3 w b n f):
 jr jm 134 #[.map (ja b),I N z] w λe w'=>e=jo (jw #[])/\aZ (dS jQ) 3 w' b n (λy=>if y=z then A else f y)/\w.mapTurned w' b:=by
 have c:=O h;have d:=O a;clear h a
 go_enter func134,ntmps134
 go_wp2_with (refine Ju (E:=dS jQ) T _ _ 154 T jQ qy b n f T c z T d ?_;intro h a g)
 go_end0
 exact⟨T,a,g⟩
def gL(f:jd->jS jd)(a:jh jd)(y:jd):jS jd:=if y∈a then A else f y
theorem NM(f:jd->jS jd)(a:jh jd)(z:jd):(λy=>if y=z then A else gL f a y)=gL f (a++[z]):=by
 funext y
 unfold gL
 by_cases h:y=z
 ·simp[h]
 simp[h]
noncomputable def dI(t:jh (jd×jd))(d:jd)(a:Bool):jd:=
 if de t=0 then(if d<0\/512<=d\/(a=jf/\bG t (512+d)=A)then 200 else 0)else de t
theorem vg{v:ji}(h:x=y):Ending.returned (jw #[d,v,I N y])=jo (jw #[d,v,I N x]):=by rw[h]
def pj(t:jh (jd×jd))(d:jd)(w:jg)(E:jd)(e:Ending)(w':jg):Prop:=
 jl w w w'/\(E≠0->e=jo (jw #[.map A,jb A 0 0,I N E]))/\
 (E=0->∃b p c,e=jo (jw #[.map (ja b),jb p 9 c,I N 0])/\w.heap.size<=b/\aZ (dS jQ) 3 w' b t.length (gL (bG t) ((512+d)::bU d))/\w'.ownsRow w 3 1 (jb p 9 c) 9 ((bU d).map (jE .i64)))
theorem pj.bad{e:Ending}(w':jl w w a)(b:y≠0)(h:e=jo (jw #[.map A,jb A 0 0,I N y])):pj t x w y e a:=
 ⟨w',λ_=>h,λc=>jG c b⟩
theorem An(t:jh (jd×jd))(v:ji)(d:jd)(g:Bool)(w:jg)(f:bJ w v t)(h:t.length<=1000000)(r:aP d):
 jr jm 85 #[jq #[v],I N d,.bool g] w λe w'=>pj t d w (dI t d g) e w':=by
 have a:jl w w (w.alloc (jc #[v] 39)):=(jy _ w).alloc (jn _) _;have i:=O (wY t v (w.alloc (jc #[v] 39)) (f.below a) h);have j:=O (f.below a);have HL:=O h;obtain⟨K,b⟩:=J (w.alloc (jc #[v] 39));have p:K.cell? ⟨w,0,A⟩=ja v:=by rw[b];unfold j5;rw[js];rfl
 have y:K.heap.size=w.heap.size+1:=by rw[b];simp
 obtain⟨E,k⟩:=J (dI t d g);have n:=O k;rw[<-k];obtain⟨s,o⟩:=J (de t);have m:=O o;rw[<-b,<-o]at i;rw[<-b]at j a;obtain⟨z,c⟩:=J (qU.wrap (512+d));have M:jk (aP z):=O (aP.of (x:=z) (by rw[c,qH];omega));have Zj:jk (0<=d->d<512->z=512+d):=O (λq P=>by rw[c,qH];omega);have Q:=c.symm;clear f h k o r c
 go_enter func85,ntmps85
 go_wp2_with fail
 rw[<-b];clear b;refine i.mono ?_;rintro e w1 ⟨rfl,b⟩;have bf:=cH p (b.block _ (by show w.heap.size<_;omega));have u:=O (a.trans (b.mono a.size));have Vu:=O (j.below b);clear b a i j p y
 by_cases q:s=0
 ·subst q
  go_wp2_with fail
  refine(zg t v w1 Vu HL).mono ?_;rintro e o ⟨b,rfl,c,a,f⟩;have y:=O a;have i:=ah u f;have ax:b<o.heap.size:=a.lt;have r:jk (w.heap.size<=b):=O (jz u.size c);clear c a f
  go_upto_region 6 with(at_lookup;refine vF (he:=jQ) T _ _ 154 T jQ qy (pL _) b t.length _ T y z (by first|rfl|(simp only[Q])) M ?_)
  obtain⟨B,a⟩:=J ((bG t z).isSome);obtain⟨gv,c⟩:=J ((bG t z).getD 0);rw[<-a,<-c];have R:=O a;clear a c Q
  by_cases P:d<0
  ·have ay:=aw (d<0)
   have a:jk (E=200):=O (by rw[n];unfold dI;rw[jB m.symm,jB (.inl P)])
   go_wp2_with fail
   go_ret3
   exact pj.bad i.out (by rw[a];decide) (vg a)
  have ay:=az (d<0)
  by_cases h2:512<=d
  ·have hd2:=aw (512<=d)
   have a:jk (E=200):=O (by rw[n];unfold dI;rw[jB m.symm,jB (.inr (.inl h2))])
   go_wp2_with fail
   go_ret3
   exact pj.bad i.out (by rw[a];decide) (vg a)
  have hd2:=az (512<=d);have a1:=Zj Y Y;subst a1
  by_cases c:g=jf/\B=jp
  ·obtain⟨rfl,rfl⟩:=c
   have p:bG t (512+d)=A:=by
    have:=R.out
    cases h:bG t (512+d)with
    |none=>rfl
    |some x=>rw[h]at this;cases this
   have a:jk (E=200):=O (by
    rw[n];unfold dI;rw[jB m.symm,jB (.inr (.inr ⟨T,p⟩))])
   clear p
   go_wp2_with fail
   go_ret3
   exact pj.bad i.out (by rw[a];decide) (vg a)
  have a:jk (E=0):=O (by
   rw[n];unfold dI;rw[jB m.symm,jI];rintro(h|h|⟨h,f⟩)
   ·omega
   ·omega
   exact c ⟨h,by rw[R,f];rfl⟩)
  have a2:g=jp\/(g=jf/\B=jf):=by cases g<;>cases B<;>simp_all
  have HI:=M;have a3:=O (Cr d Y Y o);have C:=O (tT d Y Y);have a4:=O (Ah d Y Y);have Yt:qU.wrap (512+d)=512+d:=by rw[qH];omega
  clear c
  rcases a2 with rfl|⟨rfl,rfl⟩
  all_goals
   go_upto_region 8 with fail
   go_wp2_with fail
   refine a3.mono ?_;rintro e w3 ⟨pv,rfl,j,f⟩;have D:=O j;obtain⟨pp,F,rfl,a5,k⟩:=pK j;rw[C]at a5 k D⊢;obtain⟨c,rfl,bg,a6,S⟩:=k Y;have U:=O (y.below f ax);have H:=ah i f;have V:=O S;have Wt:=f.size;clear j f k S
   go_wp2_with fail
   refine(Ga b t.length _ (512+d) HI w3 U).mono ?_;rintro e f ⟨rfl,S,k⟩;have ba:jk (aZ (dS jQ) 3 f b t.length (gL (bG t) ([512+d]++(bU d).take 0))):=O (S.congr (λx _=>by simp[gL]));have bh:=k.grown.size;have UA:jk (jl w w f):=O (H.grown k.grown (cT H.size) (λj e=>by cases e;exact r));have Yl:jk (∀j,j<9->f.cell? ⟨c,j,A⟩=ja (I N ((bU d).getD j 0))):=O λj W=>cH (V j W) (k.grown.block c a6 (by simp;omega))
   have YL:jk (f.ownsRow o 3 1 (jb (ja ⟨c,0,A⟩) 9 F) 9 ((bU d).map (jE .i64))):=O (D.kept k.grown (.inr (by simp[qe];omega)));have bi:c<f.heap.size:=Y;clear S k y U i H V D
   go_wp2_with fail
   go_loopw [55] (λi wr=>∃j:je,i=I N j/\j<=9/\jk (aZ (dS jQ) 3 wr b t.length (gL (bG t) ([512+d]++(bU d).take j)))/\jk (jl w w wr)/\jk (wr.ownsRow o 3 1 (jb (ja ⟨c,0,A⟩) 9 F) 9 ((bU d).map (jE .i64)))/\jk (∀k,k<f.heap.size->k≠b->wr.heap[k]?=f.heap[k]?)/\f.heap.size<=wr.heap.size) (λi _=>9-(jv i).toNat)
   case atStart=>exact⟨0,T,jJ _,ba,UA,YL,O (λ_ _ _=>rfl),jn _⟩
   obtain⟨j,rfl,W,S,D,U,V,bk⟩:=hrel
   by_cases X:j<9
   ·have bb:=aw ((j:jd)<9)
    have cy:wr.cell? ⟨c,j,A⟩=ja (I N ((bU d).getD j 0)):=cH (Yl j X) (V c Y Y);have i:j<(bU d).length:=by rw[C];exact X
    have H:(bU d).getD j 0=(bU d)[j]:=by simp[jO,i]
    have aa:=O (o8 i);have ad:=O (a4 _ (qF i));rw[H]at cy;obtain⟨y,hy⟩:=J ((bU d)[j]);rw[<-hy]at cy aa ad;have bc:jk (aP y):=O (aP.of (x:=y) (aJ ad));have bl:c<wr.heap.size:=Y;clear i H hy
    go_wp2_with fail
    refine(Ga b t.length _ y bc wr S).mono ?_;rintro e w5 ⟨rfl,au,i⟩;have bd:=O au;have H:=O i;have bm:=i.grown.size;clear au i
    go_wp2_with fail
    refine⟨⟨j+1,by go_num,by omega,O ?_,O (D.grown H.grown (cT D.size) (λj e=>by cases e;exact r)),O (U.kept H.grown (.inr (by simp[qe];omega))),O λk i p=>(H.grown.block k Y (ak p)).trans (V k i p),by omega⟩,by simp only[jv];omega⟩;have h:=bd.out;rw[NM]at h;rw[aa,<-j6];exact h
   have bb:=az ((j:jd)<9);obtain rfl:j=9:=Y;have i:jk (aZ (dS jQ) 3 wr b t.length (gL (bG t) ((512+d)::bU d))):=O (by
    have h:=S.out;rw[nv (l:=bU d) (by rw[C];exact jn _)]at h;exact h)
   have k:w.heap.size<=o.heap.size:=jz r Y
   go_wp2_with fail
   go_ret3
   exact⟨D,λh=>jG a h,λ_=>⟨b,_,F,T,r,i,uH U k⟩⟩
 have b:=az (s=0);have a:jk (E=s):=O (by rw[n];unfold dI;rw[jI (by rw[<-m];exact q)];exact m.symm)
 go_wp2_with fail
 go_ret3
 exact pj.bad u.out (by rw[a];exact q) (vg a)
theorem Pm:(jm.info? 167).map (λi=>(i.zero,i.size,i.bytes))=ja (ja (jq #[I N 0,I N 0]),2,16):=by kernel_rfl
theorem FD(w:jg)(l:jh ji)(t:jH):∀j a,l[j]?=ja a->(w.alloc (jc l.toArray t)).cell? ((⟨w,0,A⟩:jM).add j)=ja a:=by
 intro j a b;have c:(⟨w,0,A⟩:jM).add j=⟨w,j,A⟩:=by unfold Addr.add;split<;>simp_all
 rw[c];have d:=js w (jc l.toArray t);simp only[j5,d]
 simpa using b
def dK(f:jd->jS jd)(a:jh jd):jh (jd×jd):=a.map λx=>(x,(f x).getD 0)
def kh(t:jh (jd×jd)):jh ji:=t.flatMap λx=>[I N x.1,I N x.2]
theorem Sf(t:jh (jd×jd)):∀j,j<t.length->(kh t)[j*2]?=ja (I N (t.getD j (0,0)).1)/\(kh t)[j*2+1]?=ja (I N (t.getD j (0,0)).2):=by
 induction t with
 |nil=>intro j b;simp at b
 |cons a t c=>
  intro j b;have e:kh (a::t)=I N a.1::I N a.2::kh t:=T
  rcases j with _|j
  ·rw[e];exact⟨T,T⟩
  obtain⟨p,q⟩:=c j (ak b);rw[e,show(j+1)*2=j*2+1+1 by omega];exact⟨p,q⟩
def Fr(n:je)(v:ji):Prop:=∀p k c,v=jb p k c->∀a,p=ja a->n<=a.block
theorem Fr.of_own{sz:je}{v:ji}{n:je}(h:w.ownsRow B e sz v n xs):Fr B v:=by
 rintro p k c rfl a rfl
 rcases h.2 with⟨e,-⟩|⟨g,f,i,e,d,-⟩
 ·cases e
 injection e with b
 injection b with b
 subst b;exact d
theorem Fr.mono{n:je}{v:ji}(h:Fr n v)(b:m<=n):Fr m v:=λp k c e a d=>jz b (h p k c e a d)
theorem Fr.nil(n:je):Fr n (jb A 0 0):=by
 rintro p k c e a rfl
 cases e
theorem zF{v:ji}(h:w.ownsRow B 167 2 v t.length (kh t))(b:∀x∈t,aP x.1/\aP x.2):bJ w v t:=by
 rcases h.2 with⟨rfl,c⟩|⟨g,f,r,rfl,s,k,l,u,x,m⟩
 ·exact⟨A,0,by rw[c],by omega,λ_=>c,λh=>by omega,b⟩
 refine⟨_,f,T,l,(λh=>by cases h),λy=>⟨g,0,T,λj n=>?_⟩,b⟩;obtain⟨p,q⟩:=Sf t j n;have e:∀i a,i<t.length*2->(kh t)[i]?=ja a->w.cell? ⟨g,i,A⟩=ja a:=λi a o d=>by
  rw[<-m,r4 o]at d;unfold j5;rw[k];simp only[xj,xk,if_false];rw[<-xl,d]
 rw[ms];exact⟨e _ _ Y p,e _ _ Y q⟩
theorem uX(h:w.ownsRow B 167 2 d m b):∃p c,d=jb p m c:=by
 rcases h.2 with⟨rfl,a⟩|⟨g,xs,v,rfl,e,f,i,j,k,l⟩
 ·exact⟨A,0,by rw[a]⟩
 exact⟨_,xs,T⟩
theorem BA(b n:je)(f:jd->jS jd)(w:jg)(c:aZ (dS jQ) 3 w b n f)(d:n<=1000000)(g:∀xs,k8 f xs->xs.length<=1000000)(h:∀x v,aP x->f x=ja v->aP v):
 jr jm 88 #[.map (ja b)] w λe w'=>∃v xs,e=jo (jq #[v])/\k8 f xs/\(w'.ownsRow w 167 2 v (dK f (xs.mergeSort leI)).length (kh (dK f (xs.mergeSort leI)))/\∀x∈dK f (xs.mergeSort leI),aP x.1/\aP x.2)/\jl w w w':=by
 obtain⟨W,X,UJ,aa,ad⟩:=qj Pm;have HM:=O c;have HN:=O d;have M:=O g;have HV:=O h;have bb:b<w.heap.size:=c.lt;clear c d g h
 go_enter func88,ntmps88
 go_wp2_with fail
 have h:jt (w.alloc (jc #[jb A 0 0] 39)) w.heap.size 39 (jb A 0 0):=js w _;have d:jl w w (w.alloc (jc #[jb A 0 0] 39)):=(jy _ w).alloc (jn _) _;have i:=HM.alloc (jc #[jb A 0 0] 39);have au:w.heap.size<(w.alloc (jc #[jb A 0 0] 39)).heap.size:=by simp
 obtain⟨l,c⟩:=J (w.alloc (jc #[jb A 0 0] 39));rw[<-c]at h d i au⊢;clear c;refine(EI (ja b) l).mono ?_;rintro e w1 ⟨rfl,rfl⟩;have ax:l.heap.size<(l.alloc (jc #[.map (ja b)] 154)).heap.size:=by simp
 have g:jt (l.alloc (jc #[.map (ja b)] 154)) l.heap.size 154 (.map (ja b)):=js l _;have j:jt (l.alloc (jc #[.map (ja b)] 154)) w.heap.size 39 (jb A 0 0):=(jF _ _ _ Y).trans h;have c:=i.alloc (jc #[.map (ja b)] 154);have k:=d.alloc d.size (jc #[.map (ja b)] 154);obtain⟨D,m⟩:=J (l.alloc (jc #[.map (ja b)] 154));rw[<-m]at ax g j c k⊢;clear m h i d;have m:=O (Fl (λ_ _=>rfl) (NW b n l.heap.size D.heap.size f D c g c.lt g.lt) (jn _) (λ_ h=>h.elim) (λys h=>jz h HN) M D.heap.size (jn _) (λ_ h=>h.elim));have q:=O c;have r:=O k;have u:=O j;clear c k j g
 go_wp2_with fail
 refine m.mono ?_;rintro e o ⟨bc,xs,rfl,g,i,d⟩;have j:(xs.mergeSort leI).length=xs.length:=xi _;have t:jk (∀x∈xs.mergeSort leI,aP x):=O (λx p=>(g.2.1 x ((uP xs x).1 p)).1);have s:=O (M xs g);have Yz:=O g;obtain⟨c,k⟩:=J (xs.mergeSort leI);rw[<-k]at i t j;rw[<-j]at i s;have Vx:=O k;clear g k j m;obtain⟨pu,cu,rfl,ay,j⟩:=pK i;have a1:=O j;have VL:=O (q.below d (cT q.lt));have Ur:=O (r.trans (d.mono Y));have a2:jk (jt o w.heap.size 39 (jb A 0 0)):=O ((d.block _ Y).trans u);have bd:=d.size;obtain⟨m,g⟩:=J c.length;rw[<-g]at ay s⊢;have E:=O g;clear i j d g q r u
 go_wp2_with fail
 go_loopw [9] (λi wr=>∃(k:je) (q:jS jM) (d:je),i=I N k/\k<=m/\jk (jt wr w.heap.size 39 (jb q k d))/\jk (wr.ownsRow o 167 2 (jb q k d) k (kh (dK f (c.take k))))/\jk (∀k,k<o.heap.size->k≠w.heap.size->wr.heap[k]?=o.heap[k]?)/\jk (jl w w wr)/\o.heap.size<=wr.heap.size) (λi _=>m-(jv i).toNat)
 case atStart=>exact⟨0,A,0,T,jJ _,a2,O (j0 _ _ _ _),O (λ_ _ _=>rfl),Ur,jn _⟩
 obtain⟨k,q,d,rfl,hk,i,P,F,r,bf⟩:=hrel
 by_cases a3:k<m
 ·have hd:=aw ((k:jd)<(m:jd))
  have UL:=aw (k<m);have bg:m<=1000000:=s.out;have j:k<c.length:=by rw[<-E];exact a3
  obtain⟨g,rfl,bh,Yk,B⟩:=a1 Y;have u:=B k j;have C:c.getD k 0=c[k]:=by simp[jO,j]
  have Q:=O (o8 j);have R:=O (t c[k] (qF j));rw[C]at u;obtain⟨x,p⟩:=J (c[k]);rw[<-p]at u Q R;have c1:wr.cell? ⟨g,k,A⟩=ja (I N x):=cH u (F g Yk Y);have a4:=O (VL.of_block (F b Y Y));have Vk:g<wr.heap.size:=Y;have cb:=i.cell;have cf:=i.frozen;obtain⟨y,H⟩:=J ((f x).getD 0);have S:=O H;have z:=O (P.alloc (jc #[I N x,I N y] 167));have YB:=O (FD wr [I N x,I N y] 167);clear u C j B p H
  go_upto_region 4 with fail
  go_wp2_with (first
   |(at_lookup;refine NJ (he:=jQ) T _ _ 154 T jQ qy (pL _) b n _ T a4 x T R ?_;rw[<-S])
   |(at_builtin;refine wv _ T _ _ 37 T o.heap.size 167 W (jq #[I N 0,I N 0]) 2 16 underlying37 X UJ aa ad T L _ _ _ T z ⟨wr,0,A⟩ 1 1 [I N x,I N y] T T YB (by simp[j1]) (by have:=s.out;unfold j3;omega) (aJ s) (by simp;omega) ?_;intro v' H K j _;have a5:=O K;have U:jk ((wr.alloc (jc #[I N x,I N y] 167)).grownBy H (jP q k d).ownBlock):=O j;obtain⟨u,B,rfl⟩:=uX K;have a6:=j.size;have C:jt H w.heap.size 39 (jb q k d):=(j.block w.heap.size (by simp;omega) (λe=>by have:=(z.lt _ e.symm).1;omega)).trans ((jF _ _ _ Y).trans i);have V:=C.cell;have ba:=C.frozen;have YE:=O (Boxed.set (jb u (k+1) B) C);clear K j C))
  have ba:=O (q7 a5 (a:=⟨w,0,A⟩) (by show w.heap.size<o.heap.size;omega) (jb u (k+1) B));have C:=O (ow H w.heap.size (jb u (k+1) B));have bi:=C.size;rw[jC]at a6;have e1:kh (dK f (c.take (k+1)))=kh (dK f (c.take k))++[I N x,I N y]:=by rw[Q,S];simp[dK,kh]
  refine⟨⟨k+1,u,B,by go_num,by omega,YE,O (by rw[e1];exact ba),O (λj hj K=>?_),O ?_,by omega⟩,by simp only[jv];omega⟩
  ·refine(C.block j Y (ak K)).trans ((U.block j (by rw[jC];omega) (λe=>by have:=(z.lt _ e.symm).1;omega)).trans ((jF _ _ _ Y).trans (F j hj K)))
  exact((r.alloc r.size (jc #[I N x,I N y] 167)).grown U (by have:=r.size;rw[jC];omega) (λj e=>by have:=(z.lt _ e).1;omega)).grown C (cT r.size) (λj e=>by cases e;exact jn _)
 have hd:=az ((k:jd)<(m:jd));have UL:=az (k<m);obtain rfl:k=m:=Y;have cb:=i.cell;have cf:=i.frozen;have u:jk (wr.ownsRow o 167 2 (jb q k d) (dK f c).length (kh (dK f c))):=O (by
  have h:=P.out;rw[nv (by rw[<-E];exact jn _)]at h;have e:(dK f c).length=k:=by unfold dK;rw[jD,<-E]
  rw[e];exact h)
 have B:=O (ow wr w.heap.size (jb q k d));have C:w.heap.size<=wr.heap.size:=r.size
 go_wp2_with fail
 have V:=(Boxed.set (jb q k d) i).cell;refine jX (v:=jq #[jb q k d]) (by simp[results,results88,go_sem,V]) T ?_;refine⟨jb q k d,xs,T,Yz,?_,r.grown B C (λj e=>by cases e;exact jn _)⟩;rw[<-Vx];refine⟨uH (q7 u (a:=⟨w,0,A⟩) (by show w.heap.size<o.heap.size;omega) _) Y,?_⟩;intro x p;obtain⟨z,g,rfl⟩:=qT.1 p;refine⟨t z g,?_⟩;show aP ((f z).getD 0)
 cases h:f z with
 |none=>exact aP.of ar
 |some y=>exact HV z y (t z g) h
theorem oH(h:bG t x=ja y):(x,y)∈t:=by
 unfold bG at h
 cases hf:t.find? (λv=>v.1==x)with
 |none=>rw[hf]at h;cases h
 |some v=>
  rw[hf]at h;have c:=List.find?_some hf;have d:=List.mem_of_find?_eq_some hf;obtain⟨a,b⟩:=v;simp at h c;subst h;subst c;exact d
def iQ(t:jh (jd×jd))(d x:jd)(y:jd):jS jd:=if y=512+d then ja x else gL (bG t) ((512+d)::bU d) y
theorem rP{f:jd->jS jd}(h:gL f U x=ja y):f x=ja y/\x∉U:=by
 unfold gL at h
 split at h
 ·cases h
 exact⟨h,by assumption⟩
theorem Sa(h:k8 (iQ t x y) U):U.length<=t.length+1:=by
 have b:U⊆(512+x)::t.map (·.1):=by
  intro d c;obtain⟨-,a⟩:=h.2.1 d c
  by_cases e:d=512+x
  ·rw[e];exact List.mem_cons_self ..
  unfold iQ at a;rw[jI e]at a;obtain⟨v,f⟩:=r6.1 a;exact List.mem_cons_of_mem _ (qT.2 ⟨_,oH (rP f).1,T⟩)
 have:=h.1.length_le_of_subset b
 simpa using this
theorem PE(a:∀e∈t,aP e.1/\aP e.2)(b:aP y):∀d v,aP d->iQ t x y d=ja v->aP v:=by
 intro d v _ h;unfold iQ at h
 split at h
 ·cases h;exact b
 exact(a _ (oH (rP h).1)).2
theorem zd{m:Bool}(h:dI t x m=0):0<=x/\x<512:=by
 unfold dI at h
 split at h
 ·split at h
  ·exact jG h L
  omega
 rename_i a;exact jG h a
noncomputable def gK(t:jh (jd×jd))(d x:jd):jd:=if dI t d jp=0 then(if cS x=0 then 0 else 50)else dI t d jp
def KF(t:jh (jd×jd))(d x:jd)(w:jg)(E:jd)(e:Ending)(w':jg):Prop:=
 jl w w w'/\(E≠0->e=jo (jw #[jq #[jb A 0 0],I N E]))/\
 (E=0->∃v xs,e=jo (jw #[jq #[v],I N 0])/\k8 (iQ t d x) xs/\bJ w' v (dK (iQ t d x) (xs.mergeSort leI)))
theorem TM(t:jh (jd×jd))(v:ji)(d x:jd)(w:jg)(b:bJ w v t)(g:t.length<=900000)(j:aP d)(l:aP x):
 jr jm 90 #[jq #[v],I N d,I N x] w λe w'=>KF t d x w (gK t d x) e w':=by
 have o:∀e∈t,aP e.1/\aP e.2:=by obtain⟨p,c,-,-,-,-,h⟩:=b;exact h
 have i:jl w w ((w.alloc (jc #[v] 39)).alloc (jc #[jb A 0 0] 39)):=((jy _ w).alloc (jn _) _).alloc ar _;have m:=O (An t v d jp ((w.alloc (jc #[v] 39)).alloc (jc #[jb A 0 0] 39)) (b.below i) Y j);have k:jt ((w.alloc (jc #[v] 39)).alloc (jc #[jb A 0 0] 39)) (w.heap.size+1) 39 (jb A 0 0):=by
  have h:=js (w.alloc (jc #[v] 39)) (jc #[jb A 0 0] 39);rw[jC]at h;exact h
 have ay:=O o;have R:=O l;have D:=O g;obtain⟨E,f⟩:=J (dI t d jp);have n:=O f;rw[<-f]at m;clear b g f o l j
 go_enter func90,ntmps90
 go_wp2_with fail
 obtain⟨W0,b⟩:=J ((w.alloc (jc #[v] 39)).alloc (jc #[jb A 0 0] 39));rw[<-b]at m k i⊢;clear b;refine m.mono ?_;rintro e r ⟨s,F,H⟩;have f:jt r (w.heap.size+1) 39 (jb A 0 0):=(s.block _ k.lt).trans k;have u:=O (i.trans (s.mono i.size));have S:=O f;have a3:w.heap.size+1<r.heap.size:=f.lt
 by_cases l:E=0
 ·obtain⟨b,p,c,rfl,g,o,-⟩:=H l
  have j:=O o;have a4:w.heap.size+1<b:=jN k.lt g;clear F H s i k f m o g;have a1:=zd (n.symm.trans l);have HZ:jk (aP (512+d)):=O (aP.of (x:=512+d) Y);have Yt:qU.wrap (512+d)=512+d:=by rw[qH];omega
  subst l;obtain⟨d0,d1⟩:=a1
  go_wp2_with fail
  refine(gD x r).mono ?_;rintro e U ⟨rfl,g⟩;have VL:=O (j.below g j.lt);have y:jk (jt U (w.heap.size+1) 39 (jb A 0 0)):=O ((g.block _ S.lt).trans S);have a5:=g.size;have z:=ah u g;obtain⟨V,o⟩:=J (cS x);rw[<-o];have W:=O o;clear g o j u
  by_cases X:V=0
  ·subst X
   go_wp2_with (at_mapUpdate;refine ox (E:=dS jQ) T _ _ _ 154 T jQ qy b _ _ T VL (by have:=D.out;unfold j3;omega) (512+d) T HZ x T R ?_;intro C aa K;have Wy:=O aa;have ZZ:=O K;have g:=K.grown.size;clear aa K)
   have Wk:jk (jt C (w.heap.size+1) 39 (jb A 0 0)):=O ((ZZ.grown.block _ Y (by simp;omega)).trans y);have Ut:=O (z.grown ZZ.grown (cT z.size) (λj e=>by cases e;omega));refine(BA b (t.length+1) (iQ t d x) C Wy (aJ D) (λxs h=>jz (Sa h) (aJ D)) (PE ay R)).mono ?_;rintro e w4 ⟨v',xs,rfl,ad,⟨M,au⟩,o⟩;obtain⟨q,P,rfl⟩:=uX M;have Q:jk (jt w4 (w.heap.size+1) 39 (jb A 0 0)):=O ((o.block _ Y).trans Wk);have UA:=ah Ut o;have Yz:=O ad;have YD:=O M;have a2:=O au;have a6:=o.size;have cb:=Q.cell;have cf:=Q.frozen;have ax:gK t d x=0:=by unfold gK;rw[jB n.symm,jB W.symm]
   have g:=O ax;clear ad M au o ax
   go_wp2_with fail
   have M:=O (ow w4 (w.heap.size+1) (jb q (dK (iQ t d x) (xs.mergeSort leI)).length P));have o:=(Boxed.set (jb q (dK (iQ t d x) (xs.mergeSort leI)).length P) Q).cell;refine jX (v:=jw #[jq #[jb q (dK (iQ t d x) (xs.mergeSort leI)).length P],I N 0]) (by simp[results,results90,go_sem,o]) T ?_;refine⟨UA.grown M (cT UA.size) (λj e=>by cases e;omega),λh=>jG g h,λ_=>⟨_,xs,T,Yz,?_⟩⟩;exact zF (B:=C.heap.size) (q7 YD (a:=⟨w.heap.size+1,0,A⟩) (by show w.heap.size+1<C.heap.size;omega) _) a2
  have q:=az (V=0);have cb:=y.cell;have cf:=y.frozen;have o:=(Boxed.set (jb A 0 0) y).cell;have g:jk (gK t d x=50):=O (by unfold gK;rw[jB n.symm,jI (by rw[<-W];exact X)])
  go_wp2_with fail
  refine jX (v:=jw #[jq #[jb A 0 0],I N 50]) (by simp[results,results90,go_sem,o]) T ?_;exact⟨z.grown (ow U (w.heap.size+1) _) (cT z.size) (λj e=>by cases e;omega),λ_=>by rw[g],λh=>jG (g.symm.trans h) L⟩
 obtain rfl:=F l;have b:=az (E=0);have cb:=f.cell;have cf:=f.frozen;have o:=(Boxed.set (jb A 0 0) f).cell;clear F H s i k f m
 go_wp2_with fail
 have g:jk (gK t d x=E):=O (by unfold gK;rw[jI (by rw[<-n];exact l)];exact n.symm);refine jX (v:=jw #[jq #[jb A 0 0],I N E]) (by simp[results,results90,go_sem,o]) T ?_;exact⟨u.grown (ow r (w.heap.size+1) _) (cT u.size) (λj e=>by cases e;omega),λ_=>by rw[g],λh=>jG (g.symm.trans h) l⟩
theorem O7(a c:je)(w:jg)(d:jt w a 154 (.map A))(q:a<c):
 eQ jm 191 #[jA (ja ⟨a,0,A⟩)] (λx:jd=>#[I N x]) (λ_=>False) c (λxs=>xs=[]) (λ_=>True) (λys=>ys.length<=0) w:=by
 intro l g r W i f j b m;have o:jt W a 154 (.map A):=(i.block a d.lt).trans d;have s:=o.cell;refine(qx (n:=0)).1 ?_;refine sx func191 T trivial ?_ T;simp only[ntmps191,jU,jW,j8,qk,ql,qn,qo,qs,qt,qc,qd];clear b;have t:=run_range_nilMap (P:=jm) W 154 3 3 qy;have u:∀b,(Instr.next (jA (ja ⟨W,0,A⟩)) jp b).run jm (W.alloc (.mapIter A 0 #[] 0))=_:=λb=>run_next_nilMap W b 0 0 #[]
 have p:jk (g [] (λk=>k=W.heap.size) (W.alloc (.mapIter A 0 #[] 0))):=O (f [] _ _ W _ m (bQ.ofGrown (World.grownBy_alloc W _ A) (λk e=>by cases e)) (λ_ h=>h.elim) (λk e=>.inr (by have:=jC W (.mapIter A 0 #[] 0);omega)));clear f j
 gi_wp2
 gi_loopw [3] (λ_ wr=>wr=W.alloc (.mapIter A 0 #[] 0)) (λ_ wr=>0)
 case atStart=>rfl
 subst hrel
 gi_wp2
 refine qY (qN T _ _ _) T ?_;exact⟨⟨_,T⟩,.inl ⟨[],_,T,p⟩⟩
theorem MY(w:jg):jr jm 88 #[.map A] w λe w'=>e=jo (jq #[jb A 0 0])/\jl w w w':=by
 go_enter func88,ntmps88
 go_wp2_with fail
 have d:jt (w.alloc (jc #[jb A 0 0] 39)) w.heap.size 39 (jb A 0 0):=js w _;have b:jl w w (w.alloc (jc #[jb A 0 0] 39)):=(jy _ w).alloc (jn _) _;have m:w.heap.size<(w.alloc (jc #[jb A 0 0] 39)).heap.size:=by simp
 obtain⟨a,c⟩:=J (w.alloc (jc #[jb A 0 0] 39));rw[<-c]at d b m⊢;clear c;refine(EI A a).mono ?_;rintro e p ⟨rfl,rfl⟩;have n:a.heap.size<(a.alloc (jc #[.map A] 154)).heap.size:=by simp
 have c:jt (a.alloc (jc #[.map A] 154)) a.heap.size 154 (.map A):=js a _;have f:jt (a.alloc (jc #[.map A] 154)) w.heap.size 39 (jb A 0 0):=(jF _ _ _ Y).trans d;have g:=b.alloc b.size (jc #[.map A] 154);obtain⟨k,h⟩:=J (a.alloc (jc #[.map A] 154));rw[<-h]at n c f g⊢;clear h d b;have i:=O (Fl (V:=λys=>ys.length<=0) (λ_ _=>rfl) (O7 a.heap.size k.heap.size k c c.lt) (jn _) (λ_ h=>h.elim) (λys h=>by omega) (λxs h=>by rw[h];simp) k.heap.size (jn _) (λ_ h=>h.elim));have h:=O g;have o:=O f;clear g f c
 go_wp2_with fail
 refine i.mono ?_;rintro e f ⟨q,xs,rfl,rfl,b,c⟩;rw[show([]:jh jd).mergeSort leI=[]from by simp]at b;obtain⟨r,s,rfl,-,-⟩:=pK (l:=[]) b;have d:jk (jt f w.heap.size 39 (jb A 0 0)):=O ((c.block _ Y).trans o);have g:=O (h.trans (c.mono Y));have t:=d.cell;have u:=d.frozen;clear b c i
 go_wp2_with fail
 go_loopw [9] (λi wr=>i=I N 0/\wr=f) (λi _=>0)
 case atStart=>exact⟨T,T⟩
 obtain⟨rfl,rfl⟩:=hrel
 go_wp2_with fail
 have b:=(Boxed.set (jb A 0 0) d).cell;refine jX (v:=jq #[jb A 0 0]) (by simp[results,results88,go_sem,b]) T ?_;exact⟨T,g.grown (ow _ w.heap.size _) (cT g.size) (λj e=>by cases e;exact jn _)⟩
def mA(t:jh (jd×jd))(d:jd):jd->jS jd:=gL (bG t) ((512+d)::bU d)
theorem Li(h:k8 (mA t x) U):U.length<=t.length:=by
 have a:U⊆t.map (·.1):=by
  intro y b;obtain⟨-,c⟩:=h.2.1 y b;obtain⟨v,e⟩:=r6.1 c;exact qT.2 ⟨_,oH (rP e).1,T⟩
 have:=h.1.length_le_of_subset a
 simpa using this
theorem Oe(a:∀e∈t,aP e.1/\aP e.2):∀y v,aP y->mA t x y=ja v->aP v:=
 λy v _ h=>(a _ (oH (rP h).1)).2
def Lv(t:jh (jd×jd))(d:jd)(w:jg)(E:jd)(e:Ending)(w':jg):Prop:=
 jl w w w'/\(E≠0->e=jo (jw #[jq #[jb A 0 0],I N E]))/\
 (E=0->∃v xs,e=jo (jw #[jq #[v],I N 0])/\k8 (mA t d) xs/\bJ w' v (dK (mA t d) (xs.mergeSort leI)))
theorem J7(t:jh (jd×jd))(v:ji)(d:jd)(w:jg)(b:bJ w v t)(g:t.length<=900000)(i:aP d):
 jr jm 89 #[jq #[v],I N d] w λe w'=>Lv t d w (dI t d jf) e w':=by
 have j:∀e∈t,aP e.1/\aP e.2:=by obtain⟨p,c,-,-,-,-,h⟩:=b;exact h
 have k:jl w w ((w.alloc (jc #[v] 39)).alloc (jc #[jb A 0 0] 39)):=((jy _ w).alloc (jn _) _).alloc ar _;have l:=O (An t v d jf ((w.alloc (jc #[v] 39)).alloc (jc #[jb A 0 0] 39)) (b.below k) Y i);have m:jt ((w.alloc (jc #[v] 39)).alloc (jc #[jb A 0 0] 39)) (w.heap.size+1) 39 (jb A 0 0):=by
  have h:=js (w.alloc (jc #[v] 39)) (jc #[jb A 0 0] 39);rw[jC]at h;exact h
 have M:=O j;have D:=O g;obtain⟨E,f⟩:=J (dI t d jf);rw[<-f]at l;rw[<-f];clear b g f j i
 go_enter func89,ntmps89
 go_wp2_with fail
 obtain⟨W,b⟩:=J ((w.alloc (jc #[v] 39)).alloc (jc #[jb A 0 0] 39));rw[<-b]at l m k⊢;clear b;refine l.mono ?_;rintro e g ⟨s,x,y⟩;have u:jt g (w.heap.size+1) 39 (jb A 0 0):=(s.block _ m.lt).trans m;have F:=O (k.trans (s.mono k.size));have H:=O u;have X:w.heap.size+1<g.heap.size:=u.lt
 by_cases n:E=0
 ·obtain⟨b,p,c,rfl,i,f,-⟩:=y n
  have P:jk (aZ (dS jQ) 3 g b t.length (mA t d)):=O f;subst n;clear x y s k m u l f i
  go_wp2_with fail
  refine(BA b t.length (mA t d) g P (aJ D) (λxs h=>jz (Li h) (aJ D)) (Oe M)).mono ?_;rintro e o ⟨v',xs,rfl,C,⟨j,K⟩,f⟩;obtain⟨q,z,rfl⟩:=uX j;have i:jk (jt o (w.heap.size+1) 39 (jb A 0 0)):=O ((f.block _ Y).trans H);have r:=ah F f;have Q:=O C;have R:=O j;have S:=O K;have aa:=f.size;have U:=i.cell;have V:=i.frozen;clear C j K f
  go_wp2_with fail
  have K:=O (ow o (w.heap.size+1) (jb q (dK (mA t d) (xs.mergeSort leI)).length z));have C:=(Boxed.set (jb q (dK (mA t d) (xs.mergeSort leI)).length z) i).cell;refine jX (v:=jw #[jq #[jb q (dK (mA t d) (xs.mergeSort leI)).length z],I N 0]) (by simp[results,results89,go_sem,C]) T ?_;refine⟨r.grown K (cT r.size) (λj e=>by cases e;omega),λh=>jG T h,λ_=>⟨_,xs,T,Q,?_⟩⟩;exact zF (B:=g.heap.size) (q7 R (a:=⟨w.heap.size+1,0,A⟩) (by show w.heap.size+1<g.heap.size;omega) _) S
 obtain rfl:=x n;have b:=O n;clear x y s k m u l n
 go_wp2_with fail
 refine(MY g).mono ?_;rintro e o ⟨rfl,f⟩;have i:jk (jt o (w.heap.size+1) 39 (jb A 0 0)):=O ((f.block _ Y).trans H);have r:=ah F f;have U:=i.cell;have V:=i.frozen;clear f
 go_wp2_with fail
 have C:=(Boxed.set (jb A 0 0) i).cell;refine jX (v:=jw #[jq #[jb A 0 0],I N E]) (by simp[results,results89,go_sem,C]) T ?_;exact⟨r.grown (ow o (w.heap.size+1) _) (cT r.size) (λj e=>by cases e;omega),λ_=>rfl,λh=>jG h b⟩
def df(w:jg)(v:ji)(l:jh jd):Prop:=
 ∃p c,v=jb p l.length c/\l.length<=c/\(0<l.length->∃g o,p=ja ⟨g,o,A⟩/\∀j,j<l.length->w.cell? ⟨g,o+j,A⟩=ja (I N (l.getD j 0)))
theorem Ra(x:jd)(w:jg):jr jm 87 #[I N x] w λe w'=>e=jo (.bool (decide (cS x≠0)))/\jl w w w':=by
 go_enter func87,ntmps87
 go_wp2_with fail
 refine(gD x w).mono ?_;rintro e f ⟨rfl,a⟩;have b:=O a;clear a;obtain⟨c,a⟩:=J (cS x);rw[<-a];have d:=O a;clear a
 by_cases h:c=0
 ·subst h
  go_wp2_with fail
  go_ret;exact⟨by rw[<-d];rfl,b⟩
 have g:=az (c=0);have a:=O h;clear h
 go_wp2_with fail
 go_ret;exact⟨by rw[<-d];simp[a.out,bne],b⟩
def iz(l:jh jd):Prop:=∀j,j<l.length->cS (l.getD j 0)=0
theorem LF(l:jh jd)(v:ji)(w:jg)(h:df w v l)(B:l.length<=1000000):
 jr jm 135 #[v,.func (.func 87) #[] #[]] w λe w'=>∃r,e=jo (I N r)/\jk ((iz l->r= -1)/\(¬iz l->0<=r))/\jl w w w':=by
 obtain⟨p,c,rfl,C,b⟩:=h;have D:=O b;obtain⟨n,a⟩:=J l.length;have f:=O a;rw[<-a]at B C⊢;clear b a
 go_enter func135,ntmps135
 go_wp2_with fail
 go_loopw [8] (λi wr=>∃k:je,i=I N k/\k<=n/\jk (∀j,j<k->cS (l.getD j 0)=0)/\jk (jl w w wr)) (λi _=>n-(jv i).toNat)
 case atStart=>exact⟨0,T,jJ _,O (λ_ h=>jG h Y),O (jy _ _)⟩
 obtain⟨k,rfl,K,q,i⟩:=hrel
 by_cases s:k<n
 ·have E:=aw ((k:jd)<(n:jd))
  have F:=aw (k<n);obtain⟨g,o,rfl,b⟩:=D.out (by rw[<-f];omega);have a:=b k (by rw[<-f];exact s);have H:wr.cell? ⟨g,o+k,A⟩=ja (I N (l.getD k 0)):=cH a (i.block g (eK a));obtain⟨x,d⟩:=J (l.getD k 0);rw[<-d]at H;have t:=O d;clear b a d
  go_wp2_with fail
  refine(Ra x wr).mono ?_;rintro e M ⟨rfl,a⟩;have u:=ah i a;clear a
  by_cases a:cS x=0
  ·have d:decide (cS x≠0)=jp:=by simp[a]
   rw[d];have m:=O a;clear d a
   go_wp2_with fail
   refine⟨⟨k+1,by go_num,by omega,O (λj y=>?_),u⟩,by simp only[jv];omega⟩
   rcases qG j k with z|z
   ·exact q j z
   obtain rfl:j=k:=Y;rw[<-t];exact m
  have d:decide (cS x≠0)=jf:=by simp[a]
  rw[d];have m:=O a;clear d a
  go_wp2_with fail
  go_ret;exact⟨_,T,O ⟨λh=>jG (by rw[t];exact h k (by rw[<-f];exact s)) m,λ_=>by omega⟩,u⟩
 have E:=az ((k:jd)<(n:jd));have F:=az (k<n);obtain rfl:k=n:=Y
 go_wp2_with fail
 go_ret;exact⟨_,T,O ⟨λ_=>rfl,λh=>jG (λj y=>q j (by rw[f];exact y)) h⟩,i⟩
theorem TH(l:jh jd)(v:ji)(w:jg)(h:df w v l)(i:l.length<=1000000):
 jr jm 86 #[v,.func (.func 87) #[] #[]] w λe w'=>∃b,e=jo (.bool b)/\jk ((iz l->b=jp)/\(¬iz l->b=jf))/\jl w w w':=by
 have d:=O (LF l v w h i);obtain⟨p,c,rfl,-,-⟩:=h
 go_enter func86,ntmps86
 go_wp2_with fail
 refine d.mono ?_;rintro e k ⟨r,rfl,a,f⟩;have g:=O f;clear f d
 by_cases f:0<=r
 ·have j:=aw (0<=r)
  have d:jk (¬iz l):=O (λh=>by have:=a.1 h;omega);clear a
  go_wp2_with fail
  go_ret;exact⟨jf,T,O ⟨λh=>jG h d,λ_=>rfl⟩,g⟩
 have j:=az (0<=r);have d:jk (¬¬iz l):=O (λh=>jG (a.2 h) f);clear a
 go_wp2_with fail
 go_ret;exact⟨jp,T,O ⟨λ_=>rfl,λh=>jG h d⟩,g⟩
def InQ(x:jd):Prop:=0<=x/\x<2305843009213688669
instance(x:jd):Decidable (InQ x):=by unfold InQ;infer_instance
theorem JR(x:jd)(w:jg):jr jm 187 #[I N x] w λe w'=>e=jo (.bool (decide (¬InQ x)))/\jl w w w':=by
 obtain⟨r,a⟩:=J (decide (¬InQ x));rw[<-a]
 by_cases c:x<0
 ·have b:=aw (x<0)
  obtain rfl:r=jf:=by rw[a];simp[InQ];omega
  clear a
  go_enter func187,ntmps187
  go_wp2
  go_ret;exact⟨T,jy _ _⟩
 have b:=az (x<0);obtain rfl:r=decide (2305843009213688669<=x):=by rw[a];simp[InQ];omega
 clear a
 go_enter func187,ntmps187
 go_wp2
 go_ret;exact⟨T,jy _ _⟩
def iK(l:jh jd):Prop:=∀j,j<l.length->InQ (l.getD j 0)
theorem RS(l:jh jd)(v:ji)(w:jg)(h:df w v l)(B:l.length<=1000000):
 jr jm 135 #[v,.func (.func 187) #[] #[]] w λe w'=>∃r,e=jo (I N r)/\jk ((iK l->r= -1)/\(¬iK l->0<=r))/\jl w w w':=by
 obtain⟨p,c,rfl,C,b⟩:=h;have D:=O b;obtain⟨n,a⟩:=J l.length;have f:=O a;rw[<-a]at B C⊢;clear b a
 go_enter func135,ntmps135
 go_wp2_with fail
 go_loopw [8] (λi wr=>∃k:je,i=I N k/\k<=n/\jk (∀j,j<k->InQ (l.getD j 0))/\jk (jl w w wr)) (λi _=>n-(jv i).toNat)
 case atStart=>exact⟨0,T,jJ _,O (λ_ h=>jG h Y),O (jy _ _)⟩
 obtain⟨k,rfl,K,q,i⟩:=hrel
 by_cases s:k<n
 ·have E:=aw ((k:jd)<(n:jd))
  have F:=aw (k<n);obtain⟨g,o,rfl,b⟩:=D.out (by rw[<-f];omega);have a:=b k (by rw[<-f];exact s);have H:wr.cell? ⟨g,o+k,A⟩=ja (I N (l.getD k 0)):=cH a (i.block g (eK a));obtain⟨x,d⟩:=J (l.getD k 0);rw[<-d]at H;have t:=O d;clear b a d
  go_wp2_with fail
  refine(JR x wr).mono ?_;rintro e M ⟨rfl,a⟩;have u:=ah i a;clear a
  by_cases a:InQ x
  ·have d:decide (¬InQ x)=jp:=by simp[a]
   rw[d];have m:=O a;clear d a
   go_wp2_with fail
   refine⟨⟨k+1,by go_num,by omega,O (λj y=>?_),u⟩,by simp only[jv];omega⟩
   rcases qG j k with z|z
   ·exact q j z
   obtain rfl:j=k:=Y;rw[<-t];exact m
  have d:decide (¬InQ x)=jf:=by simp[a]
  rw[d];have m:=O a;clear d a
  go_wp2_with fail
  go_ret;exact⟨_,T,O ⟨λh=>jG (by rw[t];exact h k (by rw[<-f];exact s)) m,λ_=>by omega⟩,u⟩
 have E:=az ((k:jd)<(n:jd));have F:=az (k<n);obtain rfl:k=n:=Y
 go_wp2_with fail
 go_ret;exact⟨_,T,O ⟨λ_=>rfl,λh=>jG (λj y=>q j (by rw[f];exact y)) h⟩,i⟩
theorem Pj(l:jh jd)(v:ji)(w:jg)(h:df w v l)(i:l.length<=1000000):
 jr jm 86 #[v,.func (.func 187) #[] #[]] w λe w'=>∃b,e=jo (.bool b)/\jk ((iK l->b=jp)/\(¬iK l->b=jf))/\jl w w w':=by
 have d:=O (RS l v w h i);obtain⟨p,c,rfl,-,-⟩:=h
 go_enter func86,ntmps86
 go_wp2_with fail
 refine d.mono ?_;rintro e k ⟨r,rfl,a,f⟩;have g:=O f;clear f d
 by_cases f:0<=r
 ·have j:=aw (0<=r)
  have d:jk (¬iK l):=O (λh=>by have:=a.1 h;omega);clear a
  go_wp2_with fail
  go_ret;exact⟨jf,T,O ⟨λh=>jG h d,λ_=>rfl⟩,g⟩
 have j:=az (0<=r);have d:jk (¬¬iK l):=O (λh=>jG (a.2 h) f);clear a
 go_wp2_with fail
 go_ret;exact⟨jp,T,O ⟨λ_=>rfl,λh=>jG h d⟩,g⟩
theorem Br(l:jh jd)(v:ji)(w:jg)(h:df w v l)(f:l.length<=1000000):
 jr jm 128 #[v] w λe w'=>∃a,e=jo (.bool a)/\jk ((iK l->a=jp)/\(¬iK l->a=jf))/\jl w w w':=by
 have b:=O (Pj l v w h f);obtain⟨p,c,rfl,-,-⟩:=h
 go_enter func128,ntmps128
 go_wp2_with fail
 refine b.mono ?_;rintro e j ⟨r,rfl,g,d⟩;have i:=O d;clear d b
 go_wp2_with fail
 go_ret;exact⟨_,T,g,i⟩
theorem oh(w:jg)(x:jd):df (w.alloc (jc #[I N x] 3)) (jb (ja ⟨w,0,A⟩) 1 1) [x]:=
 ⟨_,_,rfl,jn _,λ_=>⟨_,_,rfl,λj a=>by
  obtain rfl:j=0:=by simp at a;omega
  exact ai (js w _) T⟩⟩
theorem mw(w:jg)(x y:jd):df (w.alloc (jc #[I N x,I N y] 3)) (jb (ja ⟨w,0,A⟩) 2 2) [x,y]:=
 ⟨_,_,rfl,jn _,λ_=>⟨_,_,rfl,λj a=>by
  simp at a
  rcases(show j=0\/j=1 by omega)with rfl|rfl
  ·exact ai (js w _) T
  exact ai (js w _) T⟩⟩
theorem J5(x:jd):iK [x]↔InQ x:=⟨λh=>h 0 ar,λh j a=>by
 obtain rfl:j=0:=by simp at a;omega
 exact h⟩
theorem ES(x y:jd):iK [x,y]↔InQ x/\InQ y:=⟨λh=>⟨h 0 ar,h 1 ar⟩,λh j a=>by
 simp at a
 rcases(show j=0\/j=1 by omega)with rfl|rfl
 ·exact h.1
 exact h.2⟩
theorem A8[Decidable p]{l:jh jd}{b:Bool}(h:(iK l->b=jp)/\(¬iK l->b=jf))(e:iK l↔p):b=decide (¬p):=by
 by_cases a:p
 ·rw[h.1 (e.2 a)];simp[a]
 rw[h.2 (λg=>a (e.1 g))];simp[a]
def lQ(x:jd):jd:=if InQ x then 0 else 1
theorem Oo(x:jd)(w:jg):
 jr jm 79 #[I N x] w λe w'=>e=jo (I N (lQ x))/\jl w w w':=by
 have a:=O (Br [x] _ _ (oh w x) ar);have b:=O (ao w (jc #[I N x] 3))
 go_enter func79,ntmps79
 go_wp2_with fail
 refine a.mono ?_;rintro e h ⟨r,rfl,c,d⟩;have f:=ah b d;have g:=O (A8 c (J5 x));clear d a b c
 cases r
 ·go_wp2_with fail
  go_ret;exact⟨by have:=g.out;simp at this;rw[lQ,jB this];rfl,f⟩
 go_wp2_with fail
 go_ret;exact⟨by have:=g.out;simp at this;rw[lQ,jI this];rfl,f⟩
theorem KU(x y:jd)(w:jg)(a:InQ x)(b:InQ y):
 jr jm 162 #[I N x,I N y] w λe w'=>e=jo (jw #[I N ((x+y)%2305843009213688669),I N 0])/\jl w w w':=by
 have c:=O (Br [x,y] _ _ (mw w x y) ar);have d:=O (ao w (jc #[I N x,I N y] 3));have f:=O a;have g:=O b;have j:0<=x+y:=by have:=a.1;have:=b.1;omega
 have k:x+y<4611686018427377338:=by have:=a.2;have:=b.2;omega
 have l:(x+y).tmod 2305843009213688669=(x+y)%2305843009213688669:=Int.tmod_eq_emod_of_nonneg Y;have m:=a.1;have n:=a.2;have o:=b.1;have p:=b.2;clear a b
 go_enter func162,ntmps162
 go_wp2_with fail
 refine c.mono ?_;rintro e q ⟨r,rfl,a,b⟩;have h:=ah d b;have i:=O (A8 a (ES x y));obtain rfl:r=jp:=by rw[i];simp[f.out,g.out]
 clear b c d a
 go_wp2_with fail
 go_ret2;exact⟨T,h⟩
theorem Qv(a b:je)(f:a<2305843009213688669)(g:b<2305843009213688669)(w:jg):
 jr jm 189 #[I j7 a,I j7 b] w λe w'=>∃c d:je,e=jo (jw #[I j7 c,I j7 d])/\c<2305843009213688669/\d<18446744073709551616/\jk (c*18446744073709551616+d=a*b)/\w=w':=by
 refine(B7 a b Y Y w).mono ?_;rintro e w' ⟨rfl,rfl⟩;have h:a*b<=2305843009213688668*2305843009213688668:=Nat.mul_le_mul Y Y;refine⟨_,_,T,?_,qI _ L,O (by rw[Nat.mul_comm];exact Nat.div_add_mod _ _),T⟩;generalize a*b=m at h;omega
theorem Qr(a b:je)(f:a<2305843009213688669)(d:b<18446744073709551616)(w:jg):
 jr jm 190 #[I j7 a,I j7 b,I j7 2305843009213688669] w λe w'=>
  ∃(q:jd) (r:je),e=jo (jw #[I j7 q,I j7 r])/\(r:jd)<2305843009213688669/\jk (r=(a*18446744073709551616+b)%QN)/\jl w w w':=by
 rcases qJ a with rfl|h
 ·refine(DivQ.div64_0 b d w).mono ?_
  rintro e w' ⟨q,rfl,c⟩;exact⟨q,_,T,by omega,O (by rw[qV,ms];rfl),c⟩
 refine(DivQ.div64_1 a b h f d w).mono ?_;rintro e w' ⟨q,rfl,c⟩;exact⟨q,_,T,by omega,O rfl,c⟩
theorem Qg(a b:je)(c:a<2305843009213688669)(d:b<2305843009213688669)(w:jg):
 jr jm 206 #[I N a,I N b] w λe w'=>e=jo (I N ((a*b%QN:je):jd))/\jl w w w':=by
 have h:=O (Qv a b c d)
 go_enter func206,ntmps206
 go_wp2_with fail
 refine(h _).mono ?_;rintro e m ⟨i,j,rfl,f,g,k,rfl⟩;have l:=O (Qr i j f g);clear f g c d
 go_wp2_with fail
 refine(l _).mono ?_;rintro e g ⟨q,r,rfl,n,d,c⟩;have f:=O c;clear c
 go_wp2_with fail
 go_ret;exact⟨by rw[<-k,<-d];rfl,f⟩
theorem Jc(x y:je)(w:jg)(a:x<2305843009213688669)(b:y<2305843009213688669):
 jr jm 161 #[I N x,I N y] w λe w'=>e=jo (jw #[I N ((x*y%QN:je):jd),I N 0])/\jl w w w':=by
 have c:=O (Br [(x:jd),(y:jd)] _ _ (mw w x y) ar);have d:=O (ao w (jc #[I N x,I N y] 3));have f:jk (InQ (x:jd)):=O ⟨by omega,by omega⟩;have g:jk (InQ (y:jd)):=O ⟨by omega,by omega⟩;have h:=O (Qg x y a b);clear a b
 go_enter func161,ntmps161
 go_wp2_with fail
 refine c.mono ?_;rintro e k ⟨r,rfl,a,b⟩;have i:=ah d b;have j:=O (A8 a (ES x y));obtain rfl:r=jp:=by rw[j];simp[f.out,g.out]
 clear b c d a
 go_wp2_with fail
 refine(h _).mono ?_;rintro e c ⟨rfl,a⟩;have b:=ah i a;clear a
 go_wp2_with fail
 go_ret2;exact⟨T,b⟩
def aY(a k:je):je:=a^k%PN
theorem Mz(a k b P:je)(c:1<P)(h:a^b%P=1):(a^k%P)^b%P=1:=by
 rw[<-Nat.pow_mod,<-Nat.pow_mul,Nat.mul_comm,Nat.pow_mul,Nat.pow_mod,h,Nat.one_pow,qC c]
theorem o7{a:je}(h:bP a)(k:je):bP (aY a k:je):=by
 have c:a^QN%PN=1:=by have:=h.2.2;rwa [xn]at this
 have b:(aY a k)^QN%PN=1:=Mz a k QN PN (by rw[fq];decide) c;have d:aY a k<PN:=qI _ (by rw[fq];decide);have e:1<=aY a k:=by
  rcases qJ (aY a k)with h|h
  ·rw[h,Nat.zero_pow (by unfold QN;decide)]at b
   exact jG b (by rw[Nat.zero_mod];decide)
  exact h
 rw[fq]at d;exact⟨by omega,by omega,by rw[xn];exact b⟩
theorem AY(a k:je)(b:bP a)(l:k<2305843009213688669)(w:jg):
 jr jm 81 #[I N a,I N k] w λe w'=>e=jo (jw #[I N (aY a k:je),I N 0])/\jl w w w':=by
 have c:=O (gD a w);rw[gF b]at c;have m:=b.2.1;have f:=O (DZ a k (by rw[fq];omega) Y);have n:decide ((k:jd)<0)=jp:=by simp
 have hd2:=az ((2305843009213688669:jd)<=(k:jd));clear b
 go_enter func81,ntmps81
 go_wp2_with fail
 refine c.mono ?_;rintro e o ⟨rfl,b⟩;have g:=O b;clear b c
 go_wp2_with fail
 refine(f _).mono ?_;rintro e p ⟨c,rfl,b,d⟩;have i:=ah g d;have q:(c:jd)<4611686018427377339:=by
  have h:=b.out;have j:c<PN:=by rw[h];exact qI _ (by rw[fq];decide)
  rw[fq]at j;omega
 clear d
 go_wp2_with fail
 go_ret2;exact⟨by rw[aY,<-b];rfl,i⟩
theorem mV:bP 4:=by
 refine⟨by decide,by decide,?_⟩;rw[<-wu _ QN 62 L]
 decide+kernel
theorem Tp:bP 4:=mV
theorem ww(k:je)(b:k<2305843009213688669)(w:jg):
 jr jm 80 #[I N k] w λe w'=>e=jo (jw #[I N (aY 4 k:je),I N 0])/\jl w w w':=by
 have c:=O (AY 4 k Tp b)
 go_enter func80,ntmps80
 go_wp2_with fail
 refine(c _).mono ?_;rintro e f ⟨rfl,a⟩;have d:=O a;clear a
 go_wp2_with fail
 go_ret2;exact⟨T,d⟩
theorem Ph(a b:je)(c:bP a)(d:bP b)(w:jg):
 jr jm 83 #[I N a,I N b] w λe w'=>e=jo (jw #[I N (a*b%PN:je),I N 0])/\jl w w w':=by
 have o:∀W:jg,(Instr.index 208 (jq #[I N a,I N b]) (I N 0)).run jm W=.ok (I N a) W:=λW=>by
  have f:=underlying208;unfold Instr.index;simp[asIntOf,run_underlying f,part]
 have p:∀W:jg,(Instr.index 208 (jq #[I N a,I N b]) (I N 1)).run jm W=.ok (I N b) W:=λW=>by
  have f:=underlying208;unfold Instr.index;simp[asIntOf,run_underlying f,part]
 have g:=O (gD a);have j:=O (gD b);rw[gF c]at g;rw[gF d]at j;have q:=c.2.1;have r:=d.2.1;have l:=O (AN a b (by rw[fq];omega) (by rw[fq];omega));clear c d
 go_enter func83,ntmps83
 go_wp2_with fail
 go_loopw [12] (λi wr=>∃k:je,i=I N k/\k<=2/\jk (jl w w wr)) (λi _=>(2-jv i).toNat)
 case atStart=>exact⟨0,T,by omega,O (jy _ _)⟩
 obtain⟨k,rfl,s,d⟩:=hrel
 rcases(show k=0\/k=1\/k=2 by omega)with rfl|rfl|rfl
 ·go_wp2_with fail
  refine(g _).mono ?_;rintro e h ⟨rfl,c⟩;have f:=ah d c;clear c
  go_wp2_with fail
  go_roundw
  case rel=>exact⟨1,T,by omega,f⟩
  case measure=>simp only[jv];omega
 ·go_wp2_with fail
  refine(j _).mono ?_;rintro e h ⟨rfl,c⟩;have f:=ah d c;clear c
  go_wp2_with fail
  go_roundw
  case rel=>exact⟨2,T,by omega,f⟩
  case measure=>simp only[jv];omega
 go_wp2_with fail
 refine(l _).mono ?_;rintro e t ⟨c,rfl,f,i⟩;have m:=ah d i;have u:(c:jd)<4611686018427377339:=by
  have h:=f.out;have n:c<PN:=by rw[h];exact qI _ (by rw[fq];decide)
  rw[fq]at n;omega
 clear i
 go_wp2_with fail
 go_ret2;exact⟨by rw[<-f];rfl,m⟩
theorem Ij(s:ByteArray)(g:s.size<=100000)(v:ji)(l:LBy)(h:l.length<=900000)(w:jg)(b:bD w v l)(a:eO w)(c:gO w):
 jr jm 129 #[jj s,v] w λe w'=>e=jo (I N (oV (bZ s) l:je))/\jl w w w':=by
 have d:=O (sj s g v l h w b a c);have i:jk ((dp (bZ s) l).length=32):=O (iP _ _);obtain⟨m,n,rfl,-,-,-⟩:=b;clear a c
 go_enter func129,ntmps129
 go_wp2_with fail
 refine d.mono ?_;rintro e j ⟨rfl,c⟩;have a:=O (Sk (dp (bZ s) l) i j);obtain⟨o,f⟩:=J (((dp (bZ s) l).map v8).toArray);rw[<-f]at a⊢;have k:=O c;clear c d f
 go_wp2_with fail
 refine a.mono ?_;rintro e p ⟨rfl,c⟩;have f:=ah k c;have d:=yi (dp (bZ s) l);rw[tk]at d;clear c a;obtain⟨r,a⟩:=J (kw (dp (bZ s) l));rw[<-a]at d⊢;have c:=O a;clear a
 go_wp2_with fail
 go_ret;exact⟨by rw[oV,<-c];simp,f⟩
def ln(b c a d:LBy):LBy:=b++c++ir a.length 8++a++d
def oB(a b c d:LBy):LBy:=(dp gT (ln a b c d)).take 16
theorem rz(kb nb hb cb):(oB kb nb hb cb).length=16:=by simp[oB,iP]
theorem Kj(n:je)(c:n<9223372036854775808)(w:jg):
 jr jm 248 #[I N n] w λe w'=>∃g a,e=jo (jb (ja ⟨g,0,A⟩) 8 a)/\jk (bD w' (jb (ja ⟨g,0,A⟩) 8 a) (ir n 8))/\jl w w w':=by
 refine(KJ n c w).mono ?_;rintro e w' ⟨v,rfl,b,d⟩;have f:bD w' v (ir n 8):=bD.of_own (B:=w.heap.size) (by rw[Dk];exact b)
 rcases b.2 with⟨rfl,h⟩|⟨g,a,i,rfl,j⟩
 ·exact jG h L
 exact⟨g,a,T,f,d⟩
theorem Below.al(h:jl w w a)(o:Obj):jl w w (a.alloc o):=h.alloc h.size o
theorem Below.tr{b:jg}(h:jl w w a)(k:jl a a b):jl w w b:=h.trans (k.mono h.size)
theorem Below.dr(h:jl w w a):jl w w a.drew:=⟨h.os,h.tape,h.output,h.size,h.block⟩
theorem NN(b j X:jg)(c d a f:LBy)(k l m n o:ji)(q:bD b k c)(r:bD b l d)(s:bD j m (ir a.length 8))(u:bD b n a)(w:bD b o f)
 (h:jl b b X) (x:jl j j X) (g:je) (t:jH) (y:X.heap[g]?=ja (jc #[k,l,m,n,o] t (0,0))) (B:(ln c d a f).length<=900000):
 jr jm 160 #[jb (ja ⟨g,0,A⟩) 5 5] X λe w'=>∃v,e=jo v/\jk (bD w' v (ln c d a f))/\jl X X w':=by
 have p:[c,d,ir a.length 8,a,f].flatten=ln c d a f:=by simp[ln]
 refine(uK g 5 t [k,l,m,n,o] [c,d,ir a.length 8,a,f] T T (by rw[p];omega) X y ?_ L).mono ?_
 ·intro i z
  match i,z with
  |0,_=>exact q.below h
  |1,_=>exact r.below h
  |2,_=>exact s.below x
  |3,_=>exact u.below h
  |4,_=>exact w.below h
 rintro e w' ⟨v,rfl,i,z⟩;rw[p]at i;exact⟨v,T,bD.of_own i,z⟩
theorem Mc(a b c d:LBy)(e:a.length=32)(f:b.length=12):(ln a b c d).length=52+c.length+d.length:=by
 simp[ln,e,f,Dk];omega
theorem wG(w:jg)(o a:Obj):((w.alloc o).alloc a).heap[w.heap.size+1]?=ja a:=by
 have:=js (w.alloc o) a
 rwa [jC]at this
theorem tq(w:jg)(Z:jZ ji)(t:jH)(n:je)(h:Z.size=n):(w.alloc (jc Z t)).there w.heap.size 0 n:=λj c=>by
 have a:=js w (jc Z t);have b:j<Z.size:=Y;simp only[j5,r7,a];simp[b]
theorem pY{b n:je}(h:w.there b 0 n)(a:jl w w w'):w'.there b 0 n:=λj e=>by
 obtain⟨f,g⟩:=h j e;obtain⟨v,c⟩:=r6.1 f;have d:=l8 c;exact⟨by rw[gj c (a.block _ d)];rfl,by rw[<-g];simp only[r7,a.block _ d]⟩
theorem thA(w':jl (w.alloc (jc h e)).drew.heap.size (w.alloc (jc h e)).drew a)(b:h.size=32):a.there w.heap.size 0 32:=
 pY (w:=(w.alloc (jc h e)).drew) ((World.there_drew _ _ _ _).2 (tq w h e 32 b)) w'
theorem thN(w':jl (w.alloc (jc h e)).heap.size (w.alloc (jc h e)) a)(b:h.size=32):a.there w.heap.size 0 32:=pY (tq w h e 32 b) w'
theorem PP(w':jl ((w.alloc (jc h e)).alloc o).heap.size ((w.alloc (jc h e)).alloc o) a)(b:h.size=32):a.there w.heap.size 0 32:=
 pY (xo (tq w h e 32 b) o) w'
theorem QM(w':jl ((w.alloc o).alloc (jc h e)).heap.size ((w.alloc o).alloc (jc h e)) a)(b:h.size=32):a.there (w.heap.size+1) 0 32:=by
 have Z:=tq (w.alloc o) h e 32 b;rw[jC]at Z;exact pY Z w'
theorem thK(h:w.there B 0 32)(w':jl (w.alloc o).heap.size (w.alloc o) a):a.there B 0 32:=pY (xo h o) w'
theorem Below.cellsFrom(h:jl w w a)(b:je)(c:w.heap.size<=b):∀(w':jh ji) (o:je),jl w w (a.setCells b o w'):=by
 intro w'
 induction w' generalizing a with
 |nil=>intro o;exact h
 |cons v w' d=>intro o;exact d (h.setCell c _) (o+1)
theorem KI(a b c f:LBy)(x y:ji)(w:jg)(n:a.length=32)(q:b.length=12)(ax:c.length<=70000)(ay:f.length<=70000)
 (z:bD w x c) (B:bD w y f) (j:eO w) (k:gO w):
 jr jm 200 #[jq (a.map v8).toArray,jq (b.map v8).toArray,x,y] w λe w'=>
  ∃v,e=jo v/\bD w' v (oB a b c f)/\jl w w w':=by
 have d:(a.map v8).toArray.size=32:=by simp[n]
 have h:(b.map v8).toArray.size=12:=by simp[q]
 generalize l:(a.map v8).toArray=g at d⊢;generalize m:(b.map v8).toArray=i at h⊢;have C:=O z;have D:=O B;obtain⟨ph,ch,rfl,-,-,-⟩:=z;obtain⟨pc,cc,rfl,-,-,-⟩:=B;have E:=O l;have F:=O m;have H:=O j;have K:=O k;have P:=O d;have Q:=O h;clear l m d h j k
 go_enter func200,ntmps200
 go_upto_region 1 with fail
 have d:jl w w ((w.alloc (jc g 66)).alloc (jc i 242)):=
  ⟨rfl,rfl,rfl,by simp;omega,λk n=>by rw[jF _ _ _ (by simp;omega),jF _ _ _ n]⟩
 have k:bD ((w.alloc (jc g 66)).alloc (jc i 242)) (jb (ja ⟨w,0,A⟩) 32 32) a:=by
  refine⟨_,32,by rw[n],by rw[n];exact jn _,λh=>(by cases h),λ_=>⟨w.heap.size,0,T,λj l=>?_⟩⟩;have h:cI ((w.alloc (jc g 66)).alloc (jc i 242)) w.heap.size 66 a:=by
   show _ =ja (Obj.cells (a.map v8).toArray 66 (0,0));rw[E,jF _ _ _ ar];exact js w _
  rw[ms];exact h.cell l
 have m:bD ((w.alloc (jc g 66)).alloc (jc i 242)) (jb (ja ⟨w.heap.size+1,0,A⟩) 12 12) b:=by
  refine⟨_,12,by rw[q],by rw[q];exact jn _,λh=>(by cases h),λ_=>⟨w.heap.size+1,0,T,λj l=>?_⟩⟩;have h:cI ((w.alloc (jc g 66)).alloc (jc i 242)) (w.heap.size+1) 242 b:=by
   show _ =ja (Obj.cells (b.map v8).toArray 242 (0,0));rw[F];have:=js (w.alloc (jc g 66)) (jc i 242)
   simpa using this
  rw[ms];exact h.cell l
 have o:=C.below d;have r:=D.below d;have s:eO ((w.alloc (jc g 66)).alloc (jc i 242)):=H.below d (jn _);have t:gO ((w.alloc (jc g 66)).alloc (jc i 242)):=K.below d (jn _);obtain⟨p,u⟩:=J ((w.alloc (jc g 66)).alloc (jc i 242));rw[<-u]at d k m o r s t⊢;have M:=O d;have R:=O k;have S:=O m;have U:=O o;have V:=O r;have W:=O s;have X:=O t;have aa:jk (w.heap.size+2<=p.heap.size):=O (by rw[u];simp);clear d k m o r s t u C D H K E F P Q;have d:(ln a b c f).length<=900000:=by rw[Mc _ _ _ _ n q];omega
 have t:=O d;clear d;obtain⟨r,d⟩:=J ((dp gT (ln a b c f)).map v8);have k:∀v w,bD w v (ln a b c f)->eO w->gO w->
  jr jm 109 #[jj ⟨#[116,97,103]⟩,v] w λe w'=>e=jo (jq r.toArray)/\jl w w w':=λv w m o s=>by
  rw[d];exact Jn v _ t.out w m o s
 have u:r.length=32:=by rw[d,jD,iP]
 have C:∀v∈r,v.oneCell'=jf:=by rw[d];exact iU _
 have D:(jm.info? 23).map (·.size)=ja 32:=vx;have E:=O k;have F:=O d;have H:=O u;clear k d;have a1:w.heap.size+2<=p.heap.size:=aa.out
 go_cut [9] (λv d=>∃o,v=jA (ja ⟨o,0,A⟩)/\d.rangeAt o 0 r/\jl p p d)
 case first=>
  go_region_held3 (λw'=>True) (trivial) (first
   |(go_at_call 248;refine(Kj c.length Y _).mono ?_;rintro e K ⟨g1,a2,rfl,P,m⟩;try(have Q:=thA m aj))
   |(go_at_call 160;refine(NN p K _ a b c f _ _ _ _ _ R.out S P U V (by repeat (first|exact jy _ _ |refine Below.al ?_ _ |refine Below.dr ?_|refine Below.tr ?_ k|refine Below.tr ?_ d|refine Below.tr ?_ m)) (by repeat (first|exact jy _ _ |refine Below.al ?_ _ |refine Below.dr ?_|refine Below.tr ?_ k|refine Below.tr ?_ d|refine Below.tr ?_ m)) _ 69 (by first|exact js _ _ |exact wG _ _ _ |exact(jF _ _ _ ar).trans (js _ _)) t).mono ?_;rintro e w2 ⟨v2,rfl,ad,d⟩;first|(have s:=thK Q d)|(have s:=PP d aj)|(have s:=QM d aj)|skip)
   |(go_at_call 109;refine(E _ _ (ad.below (by repeat (first|exact jy _ _ |refine Below.al ?_ _ |refine Below.dr ?_|refine Below.tr ?_ k|refine Below.tr ?_ d|refine Below.tr ?_ m))) (W.below (by repeat (first|exact jy _ _ |refine Below.al ?_ _ |refine Below.dr ?_|refine Below.tr ?_ k|refine Below.tr ?_ d|refine Below.tr ?_ m)) (jn _)) (X.below (by repeat (first|exact jy _ _ |refine Below.al ?_ _ |refine Below.dr ?_|refine Below.tr ?_ k|refine Below.tr ?_ d|refine Below.tr ?_ m)) (jn _))).mono ?_;rintro e Q ⟨rfl,k⟩;have a3:=tq Q (a8) 23 32 aj;first|(have au:=pY s k)|(have au:=thN k aj)|skip))
  all_goals
   go_wp2_with fail
   go_meet
   refine⟨_,T,World.rangeAt_setCells_same _ _ _ _ (by rw[H];assumption),Below.cellsFrom ?_ _ ?_ _ _⟩
   ·repeat (first|exact jy _ _ |refine Below.al ?_ _ |refine Below.dr ?_|refine Below.tr ?_ k|refine Below.tr ?_ d|refine Below.tr ?_ m)
   have s:=m.size;have K:=d.size;have P:=k.size;simp only[jC,World.drew]at s K P;omega
 obtain⟨o,rfl,d,k⟩:=hcut;have m:∀j,j<16->wc.cell? ⟨o,0+j,A⟩=ja (I .u8 ((oB a b c f).getD j 0).toNat):=λj l=>by
  have s:j<(dp gT (ln a b c f)).length:=by rw[iP];omega
  refine d j _ ?_;rw[F];simp[s,oB,jO,l]
 have s:=O m;have K:=O k;clear m k d u C D
 go_wp2
 go_ret;refine⟨_,T,⟨ja ⟨o,0,A⟩,32,by rw[rz];rfl,by rw[rz];decide,λh=>(by cases h),λ_=>⟨o,0,rfl,λj l=>s j (by rw[rz]at l;exact l)⟩⟩,?_⟩;exact M.trans (K.mono M.size)
def nck(a:je):je:=(a+63)/64
def ckl(a j:je):je:=min 64 (a-64*j)
theorem K7(p:jS jM)(n c:je)(w:jg):
 jr jm 246 #[jb p n c,I N 64] w λe w'=>
  e=jo (.func (.func 263) #[] #[jA (ja ⟨w,0,A⟩),jA (ja ⟨w.heap.size+1,0,A⟩)])/\
  w'=(w.alloc (jc #[jb p n c] 69)).alloc (jc #[I N 64] 3):=by
 go_enter func246,ntmps246
 go_wp2
 go_ret;exact⟨T,T⟩
theorem PK{P:qP}(t e:jH)(a:P.underlying t=ja (.slice e))(b:∀w,(sizeOf e).run P w=.ok 1 w)(g n c l h:je)(d:l<=h)(f:h<=c)(i:l<h)(W:jg):
 (Instr.sliceAt t (jb (ja ⟨g,0,A⟩) n c) (ja (I N (l:jd))) (ja (I N (h:jd))) (ja (I N (h:jd)))).run P W=.ok (jb (ja ⟨g,l,A⟩) (h-l) (h-l)) W:=by
 have he:P.elem t=e:=by simp[Program.elem,a]
 rw[run_sliceAt_slice W t _ _ _ _ (by rw[he];exact a),run_slice_lhm W t _ n c (by rw[he];exact a) .i64 .i64 .i64 _ _ _ Y Y Y Y,he];simp[b,Result.andThen,sliced,Addr.add];rw[jI Y]
 split<;>simp[*]
theorem S7(p:jS jM)(a d f:je)(hp:0<a->p=ja ⟨f,0,A⟩)(hL:a<=d)(ay:a<=100000)(b c:je)(w:jg)
 (e:jt w b 69 (jb p a d)) (h:jt w c 3 (I N 64)):
 eQ jm 263 #[jA (ja ⟨b,0,A⟩),jA (ja ⟨c,0,A⟩)] (λj:je=>#[jb (ja ⟨f,64*j,A⟩) (ckl a j) (ckl a j)])
  (λk=>k=b\/k=c) 0 (λxs=>xs=mz (nck a)) (λ_=>True) (λys=>ys<+:mz (nck a)) w:=by
 intro l g Jx W m r z s t;have B:jt W b 69 (jb p a d):=(m.block b e.lt).trans e;have C:jt W c 3 (I N 64):=(m.block c h.lt).trans h;clear e h;refine(qx (n:=0)).1 ?_;refine sx func263 T trivial ?_ T;simp only[ntmps263,jU,jW,j8,qk,ql,qn,qo,qs,qt,qc,qd]
 gi_wp2
 gi_loopw [4] (λi wr=>W.heap.size<=wr.heap.size/\∃j:je,i=I N ((64*j:je):jd)/\j<=nck a/\jk (g (mz j) (λk=>k=b\/k=c) wr)/\jt wr b 69 (jb p a d)/\jt wr c 3 (I N 64))
  (λi _=>100064-(jv i).toNat)
 case atStart=>
  exact⟨jn _,0,T,jJ _,t,B,C⟩
 obtain⟨D,j,rfl,hj,i,u,v⟩:=hrel;have F:=u.cell;have H:=v.cell
 by_cases a1:64*j<a
 ·have x:j<nck a:=by unfold nck;omega
  obtain rfl:p=ja ⟨f,0,A⟩:=hp Y;have e:mz j++[j]<+:mz (nck a):=by
   rw[<-xq];have:mz (j+1)=(mz (nck a)).take (j+1):=by
    rw[List.take_range,qE Y]
   rw[this];exact List.take_prefix _ _
  have HJ:jk (bY W.heap.size g):=r;have HY:=O s;have aa:=O e;have hd:=aw (((64*j:je):jd)<(a:jd));have hd2:=aw (64*(j:jd)<(a:jd));have E:∀W,(Instr.sliceAt 69 (jb (ja ⟨f,0,A⟩) a d) (ja (I N (64*(j:jd)))) A A).run jm W=.ok (jb (ja ⟨f,64*j,A⟩) (a-64*j) (d-64*j)) W:=λW=>by
   have h:=yj (P:=jm) 69 5 qQ iL f 0 a d (64*j) Y Y W
   simpa using h
  clear s t z m r e B C
  gi_wp2
  gi_region
  have e:(Min.min 64 ((a-64*j:je):jd))=((ckl a j:je):jd):=by unfold ckl;omega
  rw[e];have ad:1<=ckl a j:=by unfold ckl;omega
  have au:ckl a j<=64:=by unfold ckl;omega
  have ax:64*j+ckl a j<=a:=by unfold ckl;omega
  have K:jk (g (mz j) (λk=>k=b\/k=c) wr.drew):=HJ.keep i ⟨T,T,T,jn _,λ_ _ _=>.inl T⟩;have o:jt wr.drew b 69 (jb (ja ⟨f,0,A⟩) a d):=u;have q:jt wr.drew c 3 (I N 64):=v;have M:W.heap.size<=wr.drew.heap.size:=D;obtain⟨wo,y⟩:=J wr.drew;rw[<-y]at K o q M⊢;clear y i u v D F H E e;obtain⟨fn,tmps,assign,body,Q,R⟩:=HY (mz j) j (λk=>k=b\/k=c) wo K (by rintro _ (rfl|rfl);exact o.lt;exact q.lt) aa;have F:=o.cell;have H:=q.cell;generalize ckl a j=E at Q ad au ax⊢;have a2:∀W,(Instr.sliceAt 69 (jb (ja ⟨f,0,A⟩) a d) (ja (I N (64*(j:jd)))) (ja (I N (64*(j:jd)+(E:jd)))) (ja (I N (64*(j:jd)+(E:jd))))).run jm W=.ok (jb (ja ⟨f,64*j,A⟩) E E) W:=λW=>by
   have h:=PK (P:=jm) 69 5 qQ iL f a d (64*j) (64*j+E) Y Y Y W;rw[show 64*j+E-64*j=E by omega]at h
   simpa using h
  gi_wp2
  refine⟨T,R.mono ?_⟩;rintro e S (⟨rfl,U,y,h⟩|⟨rfl,ZT,y,h⟩)
  ·have V:jt S b 69 (jb (ja ⟨f,0,A⟩) a d):=(h b (.inl T)).trans o
   have X:jt S c 3 (I N 64):=(h c (.inr T)).trans q;have a3:=V.cell;have a4:=X.cell;have Wt:=y.size;clear h y R Q
   gi_wp2
   go_roundw
   case rel=>
    rw[<-xq]at U;exact⟨jz M Wt,j+1,by go_num,by omega,U,V,X⟩
   case measure=>simp[jv];omega
  gi_wp2
  refine jX (qN T _ _ _) T ?_;exact⟨⟨_,T⟩,.inr ⟨_,_,trivial,ZT⟩⟩
 have x:j=nck a:=by unfold nck at*;omega
 have hd2:=az (64*(j:jd)<(a:jd));have e:jk (g (mz (nck a)) (λk=>k=b\/k=c) wr):=x▸i;clear i x s t r z m hj
 gi_wp2
 refine qY (qN T _ _ _) T ?_;exact⟨⟨_,T⟩,.inl ⟨_,_,T,e⟩⟩
section
variable{w:jg}{a:jh ji}
attribute [local go_sem] Oper.semAt_some
def ksB(a b:LBy)(i:je):BitVec 8:=(oQ a b (jY 32 (1+i/64))).getD (i%64) 0
def fF(a b l:LBy):je->LBy
 |0=>l
 |n+1=>(fF a b l n).set n ((fF a b l n).getD n 0^^^ksB a b n)
theorem Px(kb nb l n):(fF kb nb l n).length=l.length:=by induction n with
 |zero=>rfl
 |succ n a=>simp[fF,a]
def kZ(a b l:LBy):LBy:=fF a b l l.length
theorem Ak(kb nb l):(kZ kb nb l).length=l.length:=Px _ _ _ _
theorem Tn(x y:BitVec 8):bits .xor .u8 (x.toNat:jd) (y.toNat:jd)=((x^^^y).toNat:jd):=by
 have a:=x.isLt;have b:=y.isLt;have c:x.toNat%2^8=x.toNat:=qC a;have d:y.toNat%2^8=y.toNat:=qC b;have e:x.toNat^^^y.toNat<2^8:=xe a b;show IntKind.u8.wrap ((xr 8 (x.toNat:jd)^^^xr 8 (y.toNat:jd)).toNat:jd)=_;simp only[xf,xg,qD,c,d];exact IntWalk.u8_in _ Y
section
variable {P:qP} {F:Fence} {nF:je}
theorem oD{i:jZ ob}{j:jh ob}{o:ob}{a:Act}{w:jg}{k:Exit->Act->jg->Prop}(m:o.guard=A)(b:jH)(x:Operand)(f:o.op=.load b x)
 (g:je) (n:a.eval x=jA (ja ⟨g,0,A⟩)) (t:jH) (e:jZ ji) (l:je×je) (d:TypeDesc) (p:w.heap[g]?=ja (jc e t l))
 (q:P.underlying b=ja d) (r:(match d with| .struct _ | .array _ _=>jf|_=>jp)=jf) (s:(P.info? b).map (·.size)=ja e.size)
 (h:wpListIn F nF P i k j (a.put o.dst (jq e)) w):wpListIn F nF P i k (o::j) a w:=by
 refine wpListIn_plain m λy u=>?_
 unfold Oper.wpIn;refine⟨by simp[Oper.about,f],?_⟩;rw[Oper.semAt_plain F _ _ (by rw[f];intro c v;cases v)];simp only[qz,f,n,Instr.loadAt,Instr.sureAddr,Sem.run_bind,Sem.run_pure,Result.andThen_ok,run_loadVar_row w g t b e l d p q r s];exact u _ _ h
end
theorem Je{B:je}{e:jH}{g xs n:je}(h:w.ownsRow B e 1 (jb (ja ⟨g,0,A⟩) n xs) n a)(i:je)(s:i<n)(x:ji):
 (w.setCell ⟨g,i,A⟩ x).ownsRow B e 1 (jb (ja ⟨g,0,A⟩) n xs) n (a.set i x):=by
 refine⟨by simpa using h.1,?_⟩
 rcases h.2 with⟨c,_⟩|⟨g',d,f,j,k,b,l,m,o,p⟩
 ·cases c
 obtain⟨rfl,rfl⟩:g=g'/\xs=d:=ak j;have q:=(jK.1 b).1;have r:w.heap[g]=_:=(jK.1 b).2;refine .inr ⟨g,xs,f.setIfInBounds i x,T,k,?_,l,m,by simpa using o,?_⟩
 ·show(w.heap.modify g _)[g]?=_
  rw[Array.getElem?_modify];simp[q,r]
 rw[Array.toList_setIfInBounds,List.take_set,p]
theorem II{B:je}{g b n:je}{l:LBy}(h:w.ownsRow B 5 1 (jb (ja ⟨g,0,A⟩) n b) n (l.map v8))(i:je)(o:i<n):
 w.cell? ⟨g,i,A⟩=ja (I .u8 (l.getD i 0).toNat)/\w.frozen? ⟨g,i,A⟩=jp:=by
 rcases h.2 with⟨d,_⟩|⟨g',e,f,j,p,k,q,r,s,m⟩
 ·cases d
 obtain⟨rfl,rfl⟩:g=g'/\b=e:=ak j;have t:l.length=n:=ak h.1;have a:(f.toList.take (n*1))[i]?=(l.map v8)[i]?:=by rw[m]
 have c:i<l.length:=Y;simp only[j5,r7,k];rw[xt,jB Y]at a;simp[c]at a;simp[a,v8,jO,c]
theorem Mj{B n:je}{e:jH}{b:ji}(h:w.ownsRow B e 1 b n a)(k:je)(xs:ja k≠b.ownBlock)(x:ji):(w.setCell ⟨k,0,A⟩ x).ownsRow B e 1 b n a:=by
 refine⟨h.1,?_⟩
 rcases h.2 with v|⟨g,c,d,rfl,f,i,j⟩
 ·exact .inl v
 exact .inr ⟨g,c,d,T,f,(q8 _ _ _ _ (show g≠k from λe=>xs (by rw[<-e];rfl))).trans i,j⟩
theorem Hv{w':jg}{B n m:je}{e:jH}{b:ji}(h:w.ownsRow B e 1 b n a)(xs:jl m w w')(v:∀j,b.ownBlock=ja j->j<m):w'.ownsRow B e 1 b n a:=by
 refine⟨h.1,?_⟩
 rcases h.2 with c|⟨g,d,f,rfl,i,j,k⟩
 ·exact .inl c
 exact .inr ⟨g,d,f,T,i,(xs.block _ (v g T)).trans j,k⟩
theorem Ja{a:jh je}{x n:je}(h:a++[x]<+:mz n):x=a.length/\a.length<n:=by
 have b:a.length<n:=by have:=h.length_le;simp at this;omega
 refine⟨?_,b⟩;obtain⟨t,d⟩:=h;have c:=qO (λm=>m[a.length]?) d;simp[b]at c;exact c
theorem LH{β:Type}(B0 base:je)(e:jH)(size:je)(v:ji)(n:β->je)(f:β->jh ji):
 bY B0 (λs Ψ W=>W.ownsRow base e size v (n s) (f s)/\∀j,v.ownBlock=ja j->¬Ψ j):=by
 rintro s Ψ d l B ⟨a,g⟩ i m k;have b:∀j,v.ownBlock=ja j->¬d j:=λj c h=>by
  rcases k _ h with h|h
  ·exact g j c h
  have:=(a.lt j c).2;omega
 exact⟨i.row a b,b⟩
theorem FN{β:Type}(B0 b:je)(C:jZ ji)(t:jH)(d:je×je):bY B0 (fun(_:β) Ψ W=>W.heap[b]?=ja (jc C t d)/\¬Ψ b):=by
 rintro s Ψ e j B ⟨a,f⟩ g k i;have c:¬e b:=λh=>by rcases i _ h with h|h;exact f h;have:=(jK.1 a).1;omega
 exact⟨g.cells a c,c⟩
theorem OU(d:jM)(c:je)(w:jg):
 jr jm 245 #[jb (ja d) 0 c] w λe w'=>∃v,e=jo v/\w'.ownsRow w 5 1 v 0 []/\jl w w w':=by
 have r:∀(w:jg) (a:jS jM) (n c n' b:je),(binOp .eql 69 (jb a n c) (jb A n' b)).run jm w=.ok (.bool a.isNone) w:=λw a n c n' b=>Lib.run_eql_slice_nil w _ _ a n c n' b qQ
 obtain⟨i,l,m,o,p⟩:=qj tP;have f:(w.alloc (jc #[] 5)).ownsRow w.heap.size 5 1 (jb (ja ⟨w,0,A⟩) 0 0) 0 []:=
  ⟨rfl,.inr ⟨w.heap.size,0,#[],rfl,jn _,js w _,jn _,by unfold j3;omega,rfl,rfl⟩⟩
 have g:=O f;clear f
 go_enter func245,ntmps245
 go_wp2_with (at_builtin;refine wv _ T _ _ 69 T w.heap.size 5 i (I .u8 0) 1 1 qQ l m o p T L _ _ _ T g d 0 c [] T T (λj f h=>(by cases h)) (λf h=>(by cases h)) (by unfold j3;omega) Y ar ?_;intro f s h j _)
 go_ret;refine⟨f,T,by simpa using h,?_⟩;exact Below.grown (w:=w.alloc (jc #[] 5)) ⟨T,T,T,by simp,λk q=>jF _ _ _ q⟩ j ar (λk e=>(g.lt k e).1)
theorem zI{B n:je}{b:ji}(h:w.ownsRow B 5 1 b n a):
 ∃p c,b=jb p n c/\n<=c/\(0<n->∃g,p=ja ⟨g,0,A⟩/\B<=g/\g<w.heap.size):=by
 rcases h.2 with⟨rfl,xs⟩|⟨g,v,i,rfl,d,e,f,j,k,l⟩
 ·exact⟨A,0,by rw[xs],by omega,λh=>by omega⟩
 exact⟨_,v,T,f,λ_=>⟨g,T,d,(jK.1 e).1⟩⟩
theorem Kc(v:ji)(l:LBy)(i:l.length<=1000000)(w:jg)(h:bD w v l):
 jr jm 245 #[v] w λe w'=>∃p c,e=jo (jb p l.length c)/\jk (w'.ownsRow w 5 1 (jb p l.length c) l.length (l.map v8))/\jl w w w'/\l.length<=c/\
  jk (0<l.length->∃g,p=ja ⟨g,0,A⟩/\w.heap.size<=g/\g<w'.heap.size):=by
 have a:∀(e:Ending) (w':jg),(∃v,e=jo v/\w'.ownsRow w 5 1 v l.length (l.map v8)/\jl w w w')->∃p c,e=jo (jb p l.length c)/\jk (w'.ownsRow w 5 1 (jb p l.length c) l.length (l.map v8))/\jl w w w'/\l.length<=c/\
  jk (0<l.length->∃g,p=ja ⟨g,0,A⟩/\w.heap.size<=g/\g<w'.heap.size):=by
  rintro e w' ⟨v,rfl,f,j⟩;obtain⟨p,c,rfl,b,d⟩:=zI f;exact⟨p,c,T,f,j,b,d⟩
 obtain⟨p,c,rfl,n,j,k⟩:=h
 rcases qJ l.length with f|f
 ·obtain rfl:l=[]:=qu f
  rcases p with _|m
  ·obtain rfl:=j T
   exact(Kp w).mono λe w' ⟨b,d⟩=>a e w' ⟨_,b,j0 _ _ _ _,d▸jy _ _⟩
  exact(OU m c w).mono a
 obtain⟨g,o,rfl,b⟩:=k f;exact(Ty g o c l i w b).mono a
theorem Qw(f i l:LBy)(v:ji)(w:jg)(t:f.length=32)(hn:i.length=12)(hl:l.length<=65536)(hv:bD w v l)(j:sN w):
 jr jm 199 #[jq (f.map v8).toArray,jq (i.map v8).toArray,v] w λe w'=>
  ∃a,e=jo (jw #[a,I N 0])/\w'.ownsRow w 5 1 a l.length ((kZ f i l).map v8)/\jl w w w':=by
 have d:(f.map v8).toArray.size=32:=by simp[t]
 have g:(i.map v8).toArray.size=12:=by simp[hn]
 have a:=λc w h=>JD f i c w t hn h
 generalize o:(f.map v8).toArray=C at d a⊢;generalize p:(i.map v8).toArray=F at g a⊢;have m:jl w w ((w.alloc (jc C 66)).alloc (jc F 242)):=
  ⟨rfl,rfl,rfl,by simp;omega,λk t=>by rw[jF _ _ _ (by simp;omega),jF _ _ _ t]⟩
 have HB:=O m;have HF:=O a;have HV:=O hv;have HT:=O j;have Yz:=O d;have bl:=O g;obtain⟨pv,cv,rfl,-,-,-⟩:=hv;have h1:=az ((65536:jd)<(l.length:jd));clear a j o p d g m;refine(qx (n:=0)).1 ?_;refine sy func199 T trivial ?_ T;simp only[ntmps199,jU,jW,j8,qk,ql,qn,qo,qs,qt,qc,qd]
 gi_wp2_with fail
 refine⟨trivial,T,(callsIn_wide.2 (Kc _ l Y _ (HV.below HB))).mono ?_⟩;rintro e r ⟨p,c,rfl,s,d,bm,x⟩;have a:=O d;clear d
 gi_wp2_with fail
 refine⟨trivial,T,(callsIn_wide.2 (K7 p l.length c _)).mono ?_⟩;rintro e w' ⟨rfl,rfl⟩
 gi_wp2_with fail
 have a4:jl w w (((r.alloc (jc #[I jV 1] 226)).alloc (jc #[jb p l.length c] 69)).alloc (jc #[I N 64] 3)):=by
  have h:=HB.trans (a.mono HB.size);exact((h.alloc h.size _).alloc (by have:=h.size;simp;omega) _).alloc (by have:=h.size;simp;omega) _
 have a5:(((r.alloc (jc #[I jV 1] 226)).alloc (jc #[jb p l.length c] 69)).alloc (jc #[I N 64] 3)).heap[w.heap.size]?=ja (jc C 66 (0,0)):=by
  have Q:=a.size;simp at Q;rw[jF _ _ _ (by simp;omega),jF _ _ _ (by simp;omega),jF _ _ _ Y,a.block _ (by simp;omega)];exact(jF _ _ _ ar).trans (js w _)
 have a6:(((r.alloc (jc #[I jV 1] 226)).alloc (jc #[jb p l.length c] 69)).alloc (jc #[I N 64] 3)).heap[w.heap.size+1]?=ja (jc F 242 (0,0)):=by
  have Q:=a.size;simp at Q;rw[jF _ _ _ (by simp;omega),jF _ _ _ (by simp;omega),jF _ _ _ Y,a.block _ ar];exact wG w _ _
 have au:jt (((r.alloc (jc #[I jV 1] 226)).alloc (jc #[jb p l.length c] 69)).alloc (jc #[I N 64] 3)) r.heap.size 226 (I jV ((jY 32 (1+0)).toNat:jd)):=
  ((Boxed.new r _ _).alloc _).alloc _
 have V:jt (((r.alloc (jc #[I jV 1] 226)).alloc (jc #[jb p l.length c] 69)).alloc (jc #[I N 64] 3)) (r.heap.size+1) 69 (jb p l.length c):=by
  have:=Boxed.new (r.alloc (jc #[I jV 1] 226)) 69 (jb p l.length c);rw[jC]at this;exact this.alloc _
 have X:jt (((r.alloc (jc #[I jV 1] 226)).alloc (jc #[jb p l.length c] 69)).alloc (jc #[I N 64] 3)) (r.heap.size+1+1) 3 (I N 64):=by
  have:=Boxed.new ((r.alloc (jc #[I jV 1] 226)).alloc (jc #[jb p l.length c] 69)) 3 (I N 64);rw[jC,jC]at this;exact this
 have ax:=(((s.alloc (jc #[I jV 1] 226)).alloc (jc #[jb p l.length c] 69)).alloc (jc #[I N 64] 3));have ay:(((r.alloc (jc #[I jV 1] 226)).alloc (jc #[jb p l.length c] 69)).alloc (jc #[I N 64] 3)).heap.size=r.heap.size+3:=by simp
 have bn:w.heap.size+2<=r.heap.size:=by have Q:=a.size;simp at Q;omega
 have u:((w.alloc (jc C 66)).alloc (jc F 242)).heap.size=w.heap.size+2:=by simp
 rw[u]at ax;obtain⟨W0,y⟩:=J ((((r.alloc (jc #[I jV 1] 226)).alloc (jc #[jb p l.length c] 69)).alloc (jc #[I N 64] 3)));rw[<-y]at a4 a5 a6 au V X ax ay⊢;obtain⟨q,m⟩:=J r.heap.size;have z:0<l.length->∃g,p=ja ⟨g,0,A⟩/\w.heap.size+2<=g/\g<q:=by rw[m,<-u];exact x
 rw[<-m]at au V X ay bn⊢;obtain⟨d,B,D⟩:∃d,(0<l.length->p=ja ⟨d,0,A⟩)/\(0<l.length->d<q):=by
  rcases qJ l.length with j|j
  ·exact⟨0,λh=>by omega,λh=>by omega⟩
  obtain⟨g,o,_,E⟩:=z j;exact⟨g,λ_=>o,λ_=>E⟩
 have bo:∀j,(jP p l.length c).ownBlock=ja j->j<q:=by
  rw[m];intro j o;exact(s.lt j o).2
 have a1:=O ay;have Va:=O B;have a2:=O bo;clear y m s a x z u D B;refine rm (n:=0) (gf:=263) (lb:=#[jA (ja ⟨q+1,0,A⟩),jA (ja ⟨q+1+1,0,A⟩)]) T (enters_of func263 af T)
  (S7 p l.length c d Va bm Y (q+1) (q+1+1) W0 V X) (jJ _) (λ_=>rfl) (by rintro k (rfl|rfl);exact V.lt;exact X.lt)
  (λs Ψ W=>(W.ownsRow (w.heap.size+2) 5 1 (jb p l.length c) l.length ((fF f i l (min (64*s.length) l.length)).map v8)/\∀j,(jP p l.length c).ownBlock=ja j->¬Ψ j)/\
   (jt W q 226 (I jV ((jY 32 (1+s.length)).toNat:jd))/\¬Ψ q)/\
   (W.heap[w.heap.size]?=ja (jc C 66 (0,0))/\¬Ψ w.heap.size)/\(W.heap[w.heap.size+1]?=ja (jc F 242 (0,0))/\¬Ψ (w.heap.size+1))/\
   (jl w w W/\∀k,Ψ k->w.heap.size<=k))
  (λ_ _ _ _=>False)
  ((LH W0.heap.size (w.heap.size+2) 5 1 (jb p l.length c) (λ_=>l.length) (λs:jh je=>(fF f i l (min (64*s.length) l.length)).map v8)).and ((iS _ _ _ (λs:jh je=>I jV ((jY 32 (1+s.length)).toNat:jd))).and
   ((FN _ _ _ _ _).and ((FN _ _ _ _ _).and (kI _ _ w (jn _) (aJ a1))))))
  (λ_=>fp _ _)
  ⟨⟨by simpa [fF]using ax,λj o=>by have:=a2 j o;omega⟩,⟨au,by omega⟩,⟨a5,by omega⟩,⟨a6,by omega⟩,a4,by rintro k (rfl|rfl)<;>omega⟩
  (λx ba _ _=>ba={tmps:=((Value.agg C)::(Value.agg F)::(jP pv l.length cv)::(r8 (ja ⟨w,0,A⟩))::(r8 (ja ⟨w.heap.size+1,0,A⟩))::ju::(jP p l.length c)::(jE .i64 0)::(r8 (ja ⟨q,0,A⟩))::(jP (ja ⟨d,64*x,A⟩) (ckl l.length x) (ckl l.length x))::ju::ju::(jP pv l.length cv)::(jE .i64 l.length)::(Value.bool jp)::(jP pv l.length cv)::(jP p l.length c)::(jP p l.length c)::(Value.func (.func 263) #[] #[jA (ja ⟨q+1,0,A⟩),jA (ja ⟨q+1+1,0,A⟩)])::(jP (ja ⟨d,64*x,A⟩) (ckl l.length x) (ckl l.length x))::ju::ju::ju::ju::ju::ju::ju::ju::ju::ju::ju::ju::ju::ju::ju::ju::ju::ju::ju::ju::ju::ju::ju::ju::[]).toArray,defers:=[]}) (fp _ _)
  ?assign ?body ?done ?stop
 case assign=>
  intro ll s x Ψ u K a _ R
  gi_wp2
  exact R _ _ (jy _ _) a T
 case body=>
  rintro ll s x Ψ ba u ⟨⟨B,ZQ⟩,⟨H,a3⟩,⟨R,bb⟩,⟨hN,bc⟩,K,hΨ⟩ rfl y Ys bK bM;obtain⟨rfl,bd⟩:=Ja y;obtain⟨a,m⟩:=J s.length;have z:(s++[a]).length=a+1:=by rw[m];simp
  have U3:=O z;rw[<-m]at B H bd⊢;have hL:64*a<l.length:=by unfold nck at bd;omega
  obtain rfl:p=ja ⟨d,0,A⟩:=Va Y;clear y m z;obtain⟨y,m⟩:=J (jY 32 (1+a));rw[<-m]at H;have bf:=O m;clear m;have m:sN u:=(Lib.tabBelow_of_tabIs HT) _ K;have bp:=O m;have YS:=O K;have z:=O B;have bg:=O ZQ;have HK:=O R;have HN:=O hN;have YH:=H.cell;have HC:=O H;clear m K B ZQ R hN H
  gi_upto_region 7 with fail
  refine wpIn_region_lit ?_;refine oD T 66 _ T w.heap.size T 66 C (0,0) _ HK.out nn T (by rw[Yz];rfl) ?_;refine oD T 242 _ T (w.heap.size+1) T 242 F (0,0) _ HN.out wx T (by rw[bl];rfl) ?_
  gi_wp2_with fail
  refine⟨trivial,T,CallsIn.inRound ll (callsIn_wide.2 ((HF y u bp).mono ?_))⟩;rintro e S ⟨vb,rfl,M,E⟩;obtain⟨p2,c2,rfl,bN,bq⟩:=zI M;obtain⟨D,rfl,Yk,bO⟩:=bq L;have U:∀m,m<64->S.cell? ⟨D,m,A⟩=ja (I .u8 ((oQ f i y).getD m 0).toNat):=λm hm=>(II M m hm).1
  have bT:d<u.heap.size:=(z.lt d T).2;have br:q<u.heap.size:=HC.lt;have aa:S.ownsRow (w.heap.size+2) 5 1 (jb (ja ⟨d,0,A⟩) l.length c) l.length ((fF f i l (64*a+0)).map v8):=by
   have h:=z.out;rw[qE Y]at h;exact Hv h E (by intro j o;exact(z.lt j o).2)
  have o:jt S q 226 (I jV (y.toNat:jd)):=(E.block _ br).trans HC;have bs:=O U;have bu:=O aa;have UH:=O o;have Ur:=O E;have bv:1<=ckl l.length a:=by unfold ckl;omega
  have bw:ckl l.length a<=64:=by unfold ckl;omega
  have ad:64*a+ckl l.length a=min (64*(a+1)) l.length:=by unfold ckl;omega
  have bA:64*a+ckl l.length a<=l.length:=by unfold ckl;omega
  have bh:=O ad;have b0:d<S.heap.size:=Y;clear ad U aa o E M YH;generalize ckl l.length a=E at bv bw bh bA⊢;have aa:∀W,(Instr.sliceAt 69 (jb (ja ⟨D,0,A⟩) 64 c2) A (ja (I N (E:jd))) A).run jm W=.ok (jb (ja ⟨D,0,A⟩) E c2) W:=
   uw (P:=jm) 69 5 qQ iL D 0 64 c2 E Y Y
  gi_wp2_with fail
  clear aa
  gi_loopw [28] (λo M=>∃m:je,o=I N m/\m<=E/\jk (M.ownsRow (w.heap.size+2) 5 1 (jb (ja ⟨d,0,A⟩) l.length c) l.length ((fF f i l (64*a+m)).map v8))/\jk (bR d S M)) (λo _=>(64-jv o).toNat)
  case atStart=>exact⟨0,T,by omega,bu,bR.refl _ _⟩
  obtain⟨m,rfl,hm,o,M⟩:=hrel
  by_cases b1:m<E
  ·have hd:=aw ((m:jd)<(E:jd))
   have WX:wr.cell? ⟨D,m,A⟩=ja (I .u8 ((oQ f i y).getD m 0).toNat):=gj (bs m Y) (M.block _ (by show D≠d;omega));obtain⟨VB,bi⟩:=II o (64*a+m) Y;have U:fF f i l (64*a+(m+1))=(fF f i l (64*a+m)).set (64*a+m) ((fF f i l (64*a+m)).getD (64*a+m) 0^^^(oQ f i y).getD m 0):=by
    show(fF f i l (64*a+m)).set _ (_ ^^^ksB f i (64*a+m))=_;rw[ksB,show(64*a+m)/64=a by omega,show(64*a+m)%64=m by omega,bf]
    rfl
   generalize(oQ f i y).getD m 0=kx at WX U;generalize(fF f i l (64*a+m)).getD (64*a+m) 0=px at VB U;have ad:=O U;clear U
   gi_wp2
   go_roundw
   case rel=>
    refine⟨m+1,by go_num,by omega,?_,M.trans (bR.setCell _ _ _ _)⟩;have h:=Je o (64*a+m) Y (I .u8 (px^^^kx).toNat);rw[Tn,ad,List.map_set];exact h
   case measure=>simp[jv];omega
  have hd:=az ((m:jd)<(E:jd));have ad:m=E:=Y;have U5:jk (wr.ownsRow (w.heap.size+2) 5 1 (jb (ja ⟨d,0,A⟩) l.length c) l.length ((fF f i l (min (64*(a+1)) l.length)).map v8)):=by
   have h:=o;rw[ad,bh]at h;exact h
  have U:jt wr q 226 (I jV (y.toNat:jd)):=(M.block _ (by have:=a2 d T;show q≠d;omega)).trans UH;have b2:=U.cell;have b3:=U.frozen;have bB:=O U;clear ad o U
  gi_wp2
  have bC:((y.toNat:jd)+1)%4294967296=((jY 32 (1+(a+1))).toNat:jd):=by rw[bf,qD,qD];omega
  rw[bC];have bI:¬Ψ d:=bg d T;have U:∀k,k<u.heap.size->k≠d->k≠q->(wr.setCell ⟨q,0,A⟩ (I jV ((jY 32 (1+(a+1))).toNat:jd))).heap[k]?=u.heap[k]?:=λk h1 h2 h3=>by
   rw[q8 _ _ _ _ (show k≠q from h3),M.block k h2,Ur.block k h1]
  have bi:u.heap.size<=(wr.setCell ⟨q,0,A⟩ (I jV ((jY 32 (1+(a+1))).toNat:jd))).heap.size:=by
   have h1:=Ur.size;have h2:=M.size;simp only[World.setCell,Array.size_modify];omega
  have b4:=a1.out;have b5:=a2 d T;have bk:=U3.out;have ad:jl 0 u (wr.setCell ⟨q,0,A⟩ (I jV ((jY 32 (1+(a+1))).toNat:jd))):=
   ((Ur.mono (jJ _)).trans (M.below (jJ _))).setCell (jJ _) _
  refine⟨⟨⟨bi,λk o t hA ho=>?_⟩,ad,λk t=>?_⟩,⟨?_,bg⟩,⟨?_,a3⟩,⟨?_,bb⟩,⟨?_,bc⟩,?_,hΨ⟩
  ·exact(U k (jK.1 hA).1 Y Y).trans hA
  ·exact U k (Ys k t) (λe=>bI (e▸t)) (λe=>a3 (e▸t))
  ·show World.ownsRow _ _ _ _ _ _ (List.map v8 (fF f i l (min (64*(s++[a]).length) l.length)))
   rw[bk];exact Mj U5 q (λe=>by
    have h:d=q:=by simpa [qe]using e.symm
    omega) _
  ·show jt _ _ _ (I jV ((jY 32 (1+(s++[a]).length)).toNat:jd))
   rw[bk];exact bB.set _
  ·exact(U _ (jK.1 HK).1 (by have:=(z.lt d T).1;omega) Y).trans HK
  ·exact(U _ (jK.1 HN).1 (by have:=(z.lt d T).1;omega) Y).trans HN
  refine YS.trans ⟨ad.os,ad.tape,ad.output,bi,λk t=>?_⟩;exact U k (cT YS.size) (by have:=(z.lt d T).1;omega) Y
 case done=>
  rintro D xs Ψ W k rfl ⟨⟨B,ZQ⟩,⟨H,a3⟩,⟨R,bb⟩,⟨hN,bc⟩,K,hΨ⟩ a;have aa:fF f i l (min (64*(mz (nck l.length)).length) l.length)=kZ f i l:=by
   rw[List.length_range,Nat.min_eq_right (by unfold nck;omega)];rfl
  rw[aa]at B;have z:=O B;have YS:=O K;clear B K aa
  gi_wp2
  refine⟨by simp,.inl ⟨_,_,T,wq (b:=D) (ds:=[]) a,?_⟩⟩;refine⟨jw #[jb p l.length c,I N 0],by simp[results,results199,go_sem],_,T,?_,?_⟩
  ·exact sw (wt z _ a T) Y
  exact YS.trans (iC (aJ a1))
 intro D a s Ψ W _ _ h;exact h.elim
end
def oN(a b c l:LBy):LBy:=kZ a b l++oB a b c (kZ a b l)
theorem SD(kb nb hb l):(oN kb nb hb l).length=l.length+16:=by simp[oN,Ak,rz]
structure lx(w:jg):Prop where
 num:eO w
 start:gO w
 const:sN w
theorem lx.below(h:lx w)(a:jl w w w'):lx w':=
 ⟨h.num.below a (jn _),h.start.below a (jn _),(Lib.tabBelow_of_tabIs h.const) _ a⟩
theorem Nx(a b d l:LBy)(r v:ji)(w:jg)(f:a.length=32)(s:b.length=12)(S:d.length<=70000)(U:l.length<=65536)(q:bD w r d)(x:bD w v l)(y:lx w):
 jr jm 154 #[jq (a.map v8).toArray,jq (b.map v8).toArray,r,v] w λe w'=>
  ∃t,e=jo (jw #[t,I N 0])/\w'.ownsRow w 5 1 t (l.length+16) ((oN a b d l).map v8)/\jl w w w':=by
 have m:(a.map v8).toArray.size=32:=by simp[f]
 have n:(b.map v8).toArray.size=12:=by simp[s]
 have c:=λv w h p=>Qw a b l v w f s U h p
 have j:=λV w C p D W=>KI a b d (kZ a b l) r V w f s S (by rw[Ak];omega) C p D W
 generalize z:(a.map v8).toArray=g at m c j⊢;generalize B:(b.map v8).toArray=i at n c j⊢;have o:jl w w ((w.alloc (jc g 66)).alloc (jc i 242)):=
  ⟨rfl,rfl,rfl,by simp;omega,λk f=>by rw[jF _ _ _ (by simp;omega),jF _ _ _ f]⟩
 have E:=O o;have X:=O c;have HG:=O j;have HV:=O (x.below o);have aa:=O q;have u:=O y;have F:=O m;have H:=O n;clear c j y z B m n o x q
 go_enter func154,ntmps154
 go_upto_region 1 with fail
 refine qS ?_;refine pz T 66 _ T w.heap.size T 66 g (0,0) _ ((jF _ _ _ ar).trans (js w _)) nn T (by rw[F];rfl) ?_;refine pz T 242 _ T (w.heap.size+1) T 242 i (0,0) _ (wG w _ _) wx T (by rw[H];rfl) ?_
 go_wp2_with fail
 refine(X v _ HV.out (u.below E).const).mono ?_;rintro e m ⟨t,rfl,n,q⟩;obtain⟨x,y,rfl,ay,-⟩:=zI n;have z:l.length=(kZ a b l).length:=(Ak _ _ _).symm;have c:m.ownsRow (w.heap.size+2) 5 1 (jb x l.length y) (kZ a b l).length ((kZ a b l).map v8):=by
  rw[<-z];have j:((w.alloc (jc g 66)).alloc (jc i 242)).heap.size=w.heap.size+2:=by simp
  rw[j]at n;exact n
 have K:bD m (jb x l.length y) (kZ a b l):=bD.of_own c;have M:∀j,(jP x l.length y).ownBlock=ja j->j<m.heap.size:=λj B=>(n.lt j B).2
 have P:m.heap[w.heap.size]?=ja (jc g 66 (0,0)):=(q.block _ (by simp;omega)).trans ((jF _ _ _ ar).trans (js w _));have Q:m.heap[w.heap.size+1]?=ja (jc i 242 (0,0)):=(q.block _ ar).trans (wG w _ _);have ad:=O c;have au:=O K;have ax:=O M;have Ym:=O P;have R:=O Q;have o:=ah E q;have Vx:=O z;clear n c K M P Q q z
 go_upto_region 4 with fail
 refine qS ?_;refine wpList_step (λK n=>?_);go_simp;refine n _ _ ?_;clear n K;refine pz T 66 _ T w.heap.size T 66 g (0,0) _ Ym.out nn T (by rw[F];rfl) ?_;refine pz T 242 _ T (w.heap.size+1) T 242 i (0,0) _ R.out wx T (by rw[H];rfl) ?_
 go_wp2_with fail
 refine(HG _ _ (aa.below o) au (u.below o).num (u.below o).start).mono ?_;rintro e M ⟨vt,rfl,z,n⟩;have q:=Hv ad n (λj B=>ax j B);rw[<-Vx]at q;have P:w.heap.size+2<=M.heap.size:=by
  have C:=o.size;have p:=n.size;have D:=(jK.1 R).1;omega
 have Q:=O z;have K:=O q;have Ur:=ah o n;clear z q n
 go_wp2_with (at_builtin;refine Dy T _ _ T (w.heap.size+2) _ _ _ T K _ (oB a b d (kZ a b l)) T Q.out (by rw[rz];omega) P ?_;intro n z c q)
 go_ret2;refine⟨n,T,?_,Ur.grown q Y (λk e=>jz Y (K.lt k e).1)⟩;rw[rz,<-j4]at c;exact sw c Y
theorem vP{b:je}{l:jh ji}{t:jH}(h:w.heap[b]?=ja (jc l.toArray t (0,0))):w.rangeAt b 0 l:=λj v a=>by
 simp[j5,h,a]
theorem eF{P:qP}(o:ob)(a:Act)(c:jH)(x:Operand)(g:o.op=.load c x)(b f:je)(h:a.eval x=jA (ja ⟨b,f,A⟩)){w:jg}(e:jh ji)(d:TypeDesc)(i:w.rangeAt b f e)
 (j:P.underlying c=ja d) (k:d.isRow=jf) (l:(P.info? c).map (·.size)=ja e.length):(qz a.eval o).run P w=.ok (.value (jq e.toArray)) w:=by
 unfold qz;simp only[g,h,Sem.run_bind,run_loadAt_mid w b f c e d i j k l,Result.andThen_ok,Sem.run_pure]

theorem Kk(n:jd)(a:0<=n)(b:n<9223372036854775808):iG n=2*n.toNat:=by unfold iG;rw[jB a]
theorem M7(n:jd)(a:n<0):iG n=2*(-(n+1)).toNat+1:=by unfold iG;rw[jI Y]
theorem P8(a:je)(b:a<18446744073709551616):bits .xor .u64 (a:jd) 0=(a:jd):=by
 have h:=bits_xor_u64_nat a 0 b Y
 simpa using h
theorem QE(a:je)(b:a<18446744073709551616):bits .xor .u64 (a:jd) 18446744073709551615=((18446744073709551615-a:je):jd):=by
 have h:=bits_xor_u64_nat a 18446744073709551615 b Y;have e:a^^^18446744073709551615=18446744073709551615-a:=by
  apply Nat.eq_of_testBit_eq
  intro i;rw[Nat.testBit_xor,show(18446744073709551615:je)=2^64-1 by decide,Nat.testBit_two_pow_sub_one,show 2^64-1-a=2^64-(a+1) by omega,Nat.testBit_two_pow_sub_succ b]
  by_cases c:i<64
  ·simp[c]
  have:a.testBit i=jp:=Nat.testBit_lt_two_pow (jN b (rk Y (Nat.le_of_not_lt c):2^64<=2^i));simp[c,this]
 rw[e]at h;exact h
theorem Iu{k:IntKind}(h:x=y):Ending.returned (.int k x)=jo (.int k y):=by rw[h]
theorem Lb(n:jd)(f: -9223372036854775808<=n)(a:n<9223372036854775808)(w:jg):
 jr jm 210 #[I N n] w λe w'=>e=jo (I j7 (iG n))/\w=w':=by
 by_cases h:0<=n
 ·rw[Kk n h a]
  go_enter func210,ntmps210
  go_wp2
  go_ret;refine⟨Iu ?_,T⟩;have e:n/9223372036854775808=0:=Y;obtain⟨m,rfl⟩:=xm h;rw[e,show(m:jd)*2=((2*m:je):jd) by omega,P8 _ Y]
  rfl
 have b:n<0:=Y;rw[M7 n b];have g:n<= -1:=Y
 go_enter func210,ntmps210
 go_wp2
 go_ret;refine⟨Iu ?_,T⟩;obtain⟨m,i⟩:∃m:je,m=(2*n+18446744073709551616).toNat:=⟨_,T⟩;have c:qK.wrap (qK.wrap n*2)=(m:jd):=by simp only[qW];omega
 have d:qK.wrap (n/9223372036854775808)=18446744073709551615:=by simp only[qW];omega
 rw[c,d,QE _ Y];omega
theorem M8(k:je):bits .or .u8 ((k:jd)%256) 128=(((jY 8 (k%128+128)).toNat:je):jd):=by
 have h:∀j:Fin 256,bits .or .u8 ((j.val:je):jd) 128=(((jY 8 (j.val%128+128)).toNat:je):jd):=by decide+kernel
 have e:=h ⟨k%256,qI _ Y⟩;have a:(k%256)%128=k%128:=Y;simp only[a]at e;rw[<-e]
 rfl
theorem rQ(W:jg)(x:ji):cE (W.alloc (jc #[x] 5)) (jb (ja ⟨W,0,A⟩) 1 1) 1 1 [x]:=
 lz W [x] 5 (0,0) 1 1 1 rfl (jn _)
theorem Pu(f:je):∀a,a<128^(f+1)->(cY a).length<=f+1:=by
 induction f with
 |zero=>intro a b;rw[tt Y];simp
 |succ f c=>
  intro a b
  by_cases h:a<128
  ·rw[tt h];simp
  rw[ID h];have:=c (a/128) (by rw[Nat.div_lt_iff_lt_mul Y];rw[Nat.pow_succ]at b;omega);simp;omega
theorem mi(a:je)(b:a<18446744073709551616):(cY a).length<=10:=Pu 9 a (Nat.lt_trans b L)
theorem Ai(B n b:je)(v:ji)(xs:jh ji)(w:jg)(c:w.ownsRow B 5 1 v n xs)(d:B<=w.heap.size)(s:b<18446744073709551616)(D:n<=3000000):
 jr jm 209 #[v,I j7 b] w λe w'=>∃g,e=jo g/\cD B 5 1 w w' v g (n+(cY b).length) (xs++(cY b).map v8):=by
 obtain⟨i,a⟩:=J (cY b);have p:=O (mi b s);rw[<-a]at p⊢;have t:=O a;have u:=O c;have x:=O d;clear a c d
 go_enter func209,ntmps209
 go_wp2_with fail
 go_loopw [0,1] (λd c wr=>∃(a:LBy) (k:je) (j:ji),d=j/\c=I j7 k/\k<=18446744073709551615/\jk (i=a++cY k)/\jk (cD B 5 1 w wr v j (n+a.length) (xs++a.map v8))) (λ_ c _=>(jv c).toNat)
 case atStart=>exact⟨[],b,v,T,T,by omega,O t,O (by simpa using cD.refl u)⟩
 obtain⟨a,k,j,rfl,rfl,E,l,d⟩:=hrel;have F:a.length<=10:=by have y:=p.out;rw[l,jL]at y;omega
 have q:=O (jz x d.grown.size)
 by_cases r:k<128
 ·have z:=az ((128:jd)<=(k:jd))
  have m:=O (show i=a++[jY 8 k] by rw[l,tt r]);have c:(k:jd)=(((jY 8 k).toNat:je):jd):=by rw[qD];omega
  have o:=O c;clear c
  go_wp2_with (at_builtin;refine Hid.out ?_)
  refine O ?_;refine o1 T λ_ f=>oM _ _ T B _ _ _ T (cL d.own (ao wr _)) _ 1 [_] T (rQ wr _) (by simp[j1]) (show n+a.length+1<=4000000 by omega) (jz q (ao wr _).size) λg C c=>f _ _ ?_
  replace c:=O c;clear f
  go_wp2_with fail
  go_ret;refine⟨_,T,?_⟩;have h:=d.trans (cD.after (ao wr _) c);rw[show [jE IntKind.u8 (k:jd)]=[jY 8 k].map v8 by rw[o];rfl,j6]at h;rw[m,jL,j4,<-r9];exact h
 have z:=aw ((128:jd)<=(k:jd));have m:=O (show i=(a++[jY 8 (k%128+128)])++cY (k/128) by rw[l,ID r];simp);have o:=O (M8 k)
 go_wp2_with (at_builtin;refine Hid.out ?_)
 refine O ?_;refine o1 T λ_ f=>oM _ _ T B _ _ _ T (cL d.own (ao wr _)) _ 1 [_] T (rQ wr _) (by simp[j1]) (show n+a.length+1<=4000000 by omega) (jz q (ao wr _).size) λg C c=>f _ _ ?_
 replace c:=O c;clear f
 go_wp2_with fail
 refine⟨⟨a++[jY 8 (k%128+128)],k/128,_,T,?_,by omega,m,O ?_⟩,?_⟩
 ·exact qO (jE .u64) Y
 ·have h:=d.trans (cD.after (ao wr _) c)
  rw[o,j6]at h;rw[jL,j4,<-r9];exact h
 simp only[jv];omega
section
variable{i:je}
section
variable {P:qP} {ops:jZ ob} {Q:Exit->Act->jg->Prop} {md:Region.Mode} {S:jg->Prop}
abbrev eE:=eN
theorem dj{i:je}{a:Act}{w:jg}(S:jg->Prop)(t:bE)(d:P.follows .mixedOrders=jf)(e:Region.noSelect ops=jf)
 (f:gC .any ops t (Array.replicate ops.size jp)=jf) (g:t.len<=ops.size) (b:∀c a h w,Q (.panic c) a w->Q (.panic c) h w)
 (c:S w.drew) (h:eE P ops Q S t a w.drew):(Code.region i ops jf).wp P Q a w:=
 I4 S t d e f g b c h
theorem aS{o:ob}{v:ji}{r:bE}{a:Act}{w:jg}(b:ops[i]?=ja o)(c:Region.wanted o (yielded ops a.tmps)=jf)
 (d:∀w,S w->(qz a.eval o).run P w=.ok (.value v) w) (h:eE P ops Q S r (a.put o.dst v) w):eE P ops Q S (.t i r) a w:=
 Sj b c d h
theorem TN{o:ob}{r:bE}{a:Act}{w:jg}(b:ops[i]?=ja o)(c:Region.wanted o (yielded ops a.tmps)=jp)
 (h:eE P ops Q S r (a.put o.dst ju) w):eE P ops Q S (.t i r) a w:=
 MG b c h
theorem aF{o:ob}{r:bE}{a:Act}{w:jg}(c:ops[i]?=ja o)
 (h:∀b:Act->jg->Prop,Shut (∀a w,S w->(S w->eE P ops Q S r a w)->b a w)->if Region.wanted o (yielded ops a.tmps)=jf then Oper.wp P o a w b Q else b (a.put o.dst ju) w):
 eE P ops Q S (.o i r) a w:=
 MX c h
theorem N0{o:ob}{v:ji}{r:bE}{a:Act}{w:jg}{f:FuncId}{args:jZ ji}(b:ops[i]?=ja o)(c:Region.wanted o (yielded ops a.tmps)=jf)
 (he:∀w,(qz a.eval o).run P w=.ok (.enter f args) w) (d:∀w,S w->jr P f args w λe w'=>e=jo v/\w'=w) (h:eE P ops Q S r (a.put o.dst v) w):eE P ops Q S (.t i r) a w:=
 SN b c he d h
theorem iX{j:je}{r y:bE}{a:Act}{w:jg}(b:eE P ops Q S (.o i r) a w)(c:eE P ops Q S (.o j y) a w):eE P ops Q S (.w i j r y) a w:=
 Ta b c
end
theorem fk{p q:Prop}(k:q)(h:q->p:=by intro k;refine aS (v:=?_) rfl (by rfl) (λW' hS=>?_) ?_;rotate_left;(go_simp;with_reducible rfl);refine G ?_;exact k):p:=h k
theorem aO{p q:Prop}(k:q)(h:q->p:=by intro k;refine aS (v:=?_) rfl (by rfl) (λW' hS=>?_) ?_;rotate_left;(clear hS;go_simp;with_reducible rfl);refine G ?_;exact k):p:=h k
theorem Ff{p q:Prop}(k:q)(h:q->p:=by intro k;refine aS (v:=?_) rfl (by rfl) (λW' hS=>?_) ?_;rotate_left;(obtain⟨k0,k1,k2,k3⟩:=hS;go_simp;with_reducible rfl);refine G ?_;exact k):p:=h k
theorem Fc{p q:Prop}(k:q)(h:q->p:=by intro k;refine aS (v:=?_) rfl (by rfl) (λW' hS=>?_) ?_;rotate_left;(obtain⟨k0,k1,k2,k3,k4,k5⟩:=hS;go_simp;with_reducible rfl);refine G ?_;exact k):p:=h k
theorem wO{p q:Prop}(k:q)(h:q->p:=by intro k;refine aS (v:=?_) rfl (by rfl) (λW' hS=>?_) ?_;rotate_left;(have b0:=hS.1.1;have b1:=hS.1.2;clear hS;go_simp;with_reducible rfl);refine G ?_;exact k):p:=h k
theorem io{p q:Prop}(k:q)(h:q->p:=by intro k;refine TN rfl (by rfl) ?_;refine G ?_;exact k):p:=h k
end
def aG(D:je->Prop)(w:jg)(v:ji)(sz n:je)(xs:jh ji):Prop:=
 xs.length=n*sz/\∃(p:jS jM) (c:je),v=jb p n c/\n<=c/\(p=A->c=0)/\
  (0<n->∃g o,p=ja ⟨g,o,A⟩/\D g/\∀(j:je) a,xs[j]?=ja a->w.cell? ⟨g,o+j,A⟩=ja a)
theorem aG.row{D:je->Prop}{w:jg}{v:ji}{sz n:je}{xs:jh ji}(h:aG D w v sz n xs):cE w v sz n xs:=by
 obtain⟨a,p,c,b,d,f,i⟩:=h;refine⟨a,p,c,b,d,f,λj=>?_⟩;obtain⟨g,o,e,-,k⟩:=i j;exact⟨g,o,e,k⟩
theorem dY{w w':jg}{a:jM}(h:w'.heap[a.block]?=w.heap[a.block]?):w'.cell? a=w.cell? a:=by unfold j5;rw[h]
theorem aG.keep{D:je->Prop}{w w':jg}{v:ji}{sz n:je}{xs:jh ji}(h:aG D w v sz n xs)(d:∀g,D g->w'.heap[g]?=w.heap[g]?):aG D w' v sz n xs:=by
 obtain⟨f,p,c,i,k,l,m⟩:=h;refine⟨f,p,c,i,k,l,λq=>?_⟩;obtain⟨g,o,e,b,r⟩:=m q;exact⟨g,o,e,b,λj s t=>(dY (a:=⟨g,o+j,A⟩) (d g b)).trans (r j s t)⟩
theorem aG.mono{D D':je->Prop}{w:jg}{v:ji}{sz n:je}{xs:jh ji}(h:aG D w v sz n xs)(a:∀g,D g->D' g):aG D' w v sz n xs:=by
 obtain⟨b,p,c,d,f,i,j⟩:=h;refine⟨b,p,c,d,f,i,λk=>?_⟩;obtain⟨g,o,e,l,h⟩:=j k;exact⟨g,o,e,a g l,h⟩
def gU(x:Val)(a:ji):jh ji:=[I N x.k,I N x.n,jj x.s,a]
def cR:jh Val->jh ji->jh ji
 |x::xs,a::b=>gU x a++cR xs b
 |_,_=>[]
mutual
def aV(D:je->Prop)(w:jg):Val->ji->Prop
 | .mk _ _ _ l,b=>∃a,aG D w b 4 l.length (cR l a)/\aN D w l a
def aN(D:je->Prop)(w:jg):jh Val->jh ji->Prop
 |[],a=>a=[]
 |x::xs,a=>∃b c,a=b::c/\aV D w x b/\aN D w xs c
end
mutual
theorem aV.keep{D:je->Prop}{w w':jg}(b:∀g,D g->w'.heap[g]?=w.heap[g]?):∀(x:Val) (a:ji),aV D w x a->aV D w' x a
 | .mk k n s l,a,h=>by
  rw[aV]at h⊢;obtain⟨c,d,e⟩:=h;exact⟨c,d.keep b,aN.keep b l c e⟩
theorem aN.keep{D:je->Prop}{w w':jg}(b:∀g,D g->w'.heap[g]?=w.heap[g]?):∀(l:jh Val) (a:jh ji),aN D w l a->aN D w' l a
 |[],a,h=>by rw[aN]at h⊢;exact h
 |x::l,a,h=>by
  rw[aN]at h⊢;obtain⟨c,d,e,f,g⟩:=h;exact⟨c,d,e,aV.keep b x c f,aN.keep b l d g⟩
end
mutual
theorem aV.mono{D D':je->Prop}{w:jg}(b:∀g,D g->D' g):∀(x:Val) (a:ji),aV D w x a->aV D' w x a
 | .mk k n s l,a,h=>by
  rw[aV]at h⊢;obtain⟨c,d,e⟩:=h;exact⟨c,d.mono b,aN.mono b l c e⟩
theorem aN.mono{D D':je->Prop}{w:jg}(b:∀g,D g->D' g):∀(l:jh Val) (a:jh ji),aN D w l a->aN D' w l a
 |[],a,h=>by rw[aN]at h⊢;exact h
 |x::l,a,h=>by
  rw[aN]at h⊢;obtain⟨c,d,e,f,g⟩:=h;exact⟨c,d,e,aV.mono b x c f,aN.mono b l d g⟩
end
theorem aN.len{D:je->Prop}{w:jg}:∀{l:jh Val} {a:jh ji},aN D w l a->a.length=l.length
 |[],a,h=>by rw[aN]at h;rw[h];rfl
 |x::l,a,h=>by
  rw[aN]at h;obtain⟨c,d,rfl,e,b⟩:=h;simp[aN.len b]
theorem aN.at{D:je->Prop}{w:jg}:∀{l:jh Val} {a:jh ji} {i:je} {x:Val},aN D w l a->l[i]?=ja x->∃b,a[i]?=ja b/\aV D w x b
 |[],a,i,x,h,c=>by simp at c
 |y::l,a,i,x,h,c=>by
  rw[aN]at h;obtain⟨b,k,rfl,d,f⟩:=h
  cases i with
  |zero=>
   have e:y=x:=ak c;subst e;exact⟨b,T,d⟩
  |succ i=>
   obtain⟨e,g,j⟩:=aN.at (i:=i) f (ak c);exact⟨e,by simpa using g,j⟩
theorem aN.append{D:je->Prop}{w:jg}:∀{l m:jh Val} {b a:jh ji},aN D w l b->aN D w m a->aN D w (l++m) (b++a)
 |[],m,b,a,h,k=>by rw[aN]at h;rw[h];exact k
 |x::l,m,b,a,h,k=>by
  rw[aN]at h;obtain⟨c,d,rfl,e,f⟩:=h;show aN D w (x::(l++m)) (c::(d++a));rw[aN];exact⟨c,_,T,e,aN.append f k⟩
theorem aN.one{D:je->Prop}{w:jg}{x:Val}{a:ji}(h:aV D w x a):aN D w [x] [a]:=by
 rw[aN];exact⟨a,[],T,h,by rw[aN]⟩
theorem sM:∀(l m:jh Val) (a b:jh ji),a.length=l.length->cR (l++m) (a++b)=cR l a++cR m b
 |[],m,a,b,h=>by
  have:a=[]:=qu (ak h);subst this
  cases m<;>cases b<;>simp[cR]
 |x::l,m,[],b,h=>by simp at h
 |x::l,m,c::a,b,h=>by
  simp only[qd,cR,sM l m a b (ak h),j6]
theorem BE:∀(l:jh Val) (a:jh ji) (j i:je) (x:Val) (b:ji),l[j]?=ja x->a[j]?=ja b->i<4->(cR l a)[j*4+i]?=(gU x b)[i]?
 |[],a,j,i,x,b,h,_,_=>by simp at h
 |y::l,[],j,i,x,b,_,h,_=>by simp at h
 |y::l,v::a,0,i,x,b,h,c,d=>by
  have e:y=x:=ak h;have f:v=b:=ak c;subst e;subst f;show(gU y v++cR l a)[0*4+i]?=_;rw[qV,ms,qL (by simp[gU];omega)]
 |y::l,v::a,j+1,i,x,b,h,c,d=>by
  show(gU y v++cR l a)[(j+1)*4+i]?=_;have e:(gU y v).length=4:=T;rw[qM (by rw[e];omega),e,show(j+1)*4+i-4=j*4+i by omega];exact BE l a j i x b (ak h) (ak c) d
theorem aV.slice{D:je->Prop}{w:jg}{x:Val}{a:ji}(h:aV D w x a):∃b,aG D w a 4 x.l.length (cR x.l b)/\aN D w x.l b:=by
 obtain⟨k,n,s,l⟩:=x;rw[aV]at h;exact h
theorem aV.form{D:je->Prop}{w:jg}{x:Val}{a:ji}(h:aV D w x a):∃p c,a=jb p x.l.length c:=by
 obtain⟨b,⟨-,p,c,e,-⟩,-⟩:=h.slice;exact⟨p,c,e⟩
structure mS(a b:je)(w:jg):Prop where
 tab:∃z,w.heap[a]?=ja (jc #[z,.func (.func 208) #[] #[],.func (.func 211) #[] #[],.func (.func 212) #[] #[jA (ja ⟨b,0,A⟩)]] 309 (0,0))
 ptr:w.heap[b]?=ja (jc #[jA (ja ⟨a,0,A⟩)] 262 (0,0))
theorem Oc(w:jg):
 jr jm 164 #[] w λe w'=>∃l s,e=jo (jA (ja ⟨l,0,A⟩))/\mS l s w'/\jl w w w':=by
 have B:∀(fn:Fn) (first m:jZ ji) (w:jg),(Instr.makeFunc fn first m).run jm w=.ok (.func fn first m) w:=λ_ _ _ _=>rfl
 obtain⟨b,a⟩:=J ((w.alloc (jc #[.nilFunc,.nilFunc,.nilFunc,.nilFunc] 309)).alloc (jc #[jA (ja ⟨w,0,A⟩)] 262));have t:b.heap.size=w.heap.size+2:=by rw[a];simp
 have n:b.heap[w.heap.size]?=ja (jc #[.nilFunc,.nilFunc,.nilFunc,.nilFunc] 309 (0,0)):=by
  rw[a,jF _ _ _ ar];exact js w _
 have c:b.heap[w.heap.size+1]?=ja (jc #[jA (ja ⟨w,0,A⟩)] 262 (0,0)):=by
  rw[a];have:=js (w.alloc (jc #[.nilFunc,.nilFunc,.nilFunc,.nilFunc] 309)) (jc #[jA (ja ⟨w,0,A⟩)] 262);rw[jC]at this;exact this
 have o:jl w w b:=by rw[a];exact((jy _ w).alloc (jn _) _).alloc ar _
 obtain⟨C,r2,p,d⟩:=yK (P:=jm) (i:=1) (v:=.func (.func 208) #[] #[]) n L T;obtain⟨D,r3,q,f⟩:=yK (P:=jm) (i:=2) (v:=.func (.func 211) #[] #[]) p L T;obtain⟨u,E,r,g⟩:=yK (P:=jm) (i:=3) (v:=.func (.func 212) #[] #[jA (ja ⟨w.heap.size+1,0,A⟩)]) q L T;have h:=(d.block (w.heap.size+1) Y).trans c;have j:=(f.block (w.heap.size+1) Y).trans h;have k:=(g.block (w.heap.size+1) Y).trans j;have F:=ai (i:=0) h T;have H:=ai (i:=0) j T;have K:=ai (i:=0) k T;have x:=O (((o.trans (d.below (jn _))).trans (f.below (jn _))).trans (g.below (jn _)));have y:jk (mS w.heap.size (w.heap.size+1) u):=O ⟨⟨_,r⟩,k⟩;have z:=ai (i:=0) c T;rw[a]at r2 z;clear t n c o p q r d f g h j k a
 go_enter func164,ntmps164
 go_wp2
 go_ret;exact⟨_,_,T,y,x⟩
theorem aD{a:jM}{v:ji}(h:w.cell? a=ja v)(b:jl w w w'):w'.cell? a=ja v:=
 (dY (b.block _ (gh h))).trans h
theorem fW{w':jM}{b:jS je}(h:w.cell? w'=ja d)(c:w.grownBy a b)(v:b≠ja w'.block):a.cell? w'=ja d:=
 (dY (c.block _ (gh h) (λe=>v e.symm))).trans h
theorem bV(W:jg):jl W W W.drew:=⟨T,T,T,jn _,λ_ _=>rfl⟩
theorem Mx(B n:je)(v:ji)(xs:jh ji)(m:jd)(s:ByteArray)(l:ji)(w:jg)(a:w.ownsRow B 5 1 v n xs)(h:B<=w.heap.size)(z: -9223372036854775808<=m)(C:m<9223372036854775808)(S:n<=2900000):
 jr jm 208 #[v,jq #[I N 1,I N m,jj s,l]] w λe w'=>∃r,e=jo r/\cD B 5 1 w w' v r (n+(enc (.mk 1 m s [])).length) (xs++(enc (.mk 1 m s [])).map v8):=by
 have b:enc (.mk 1 m s [])=1#8::cY (iG m):=by rw[enc,jB T]
 have K:=O b;clear b;have j:=js w (jc #[I N 1,I N m,jj s,l] 184);have b:=ai (i:=1) j T;have k:=O (cL a (ao w (jc #[I N 1,I N m,jj s,l] 184)));have g:=O (ao w (jc #[I N 1,I N m,jj s,l] 184));have t:jk (v.ownBlock≠ja w.heap.size):=O (eY a (.inl (jn _)));have M:=O h;obtain⟨p,c,rfl⟩:=cK a;obtain⟨v,d⟩:=J (jP p n c);rw[<-d]at k t a;have D:=O d;clear j h a d
 go_enter func208,ntmps208
 go_upto_region 1 with fail
 obtain⟨u,d⟩:=J w.heap.size;obtain⟨a,h⟩:=J (w.alloc (jc #[I N 1,I N m,jj s,l] 184));have j:u<a.heap.size:=by rw[h,d];simp
 rw[<-h]at b k g⊢;rw[<-d]at b t⊢;have y:jk (B<=a.drew.heap.size):=O (jz M g.size);have E:jk (u<a.drew.heap.size):=O j;replace k:jk (a.drew.ownsRow B 5 1 v n xs):=O (cL k (bV a));replace g:jk (jl w w a.drew):=O (g.trans (bV a|>.mono g.size));replace b:a.drew.cell? ⟨u,1,A⟩=ja (I N m):=b;clear d h j;refine jT ?_;refine dj (λx=>x.cell? ⟨u,1,A⟩=ja (I N m)) (.t 0 (.t 3 (.t 4 (.o 1 (.o 2 (.t 5 (.o 6 (.t 7 .done)))))))) af af af L (λ_ _ _ _ h=>h) b ?_;generalize a.drew=o at b k g y E⊢;have P:=O k;rw[<-D];iterate 3 refine fk ?_
 refine aF T (λF d=>?_);go_simp;refine d _ _ (aD b (ao _ _)) λ_=>?_
 clear d;refine G ?_;refine aF T (λF d=>?_);rw[jB aj];refine oM _ _ T B v _ _ T (cL P (ao o _)) _ 1 [_] T (rQ o _) (by simp[j1]) Y (jz y (ao o _).size) λr Q j=>?_
 have q:=t.out;have H:=fW (aD b (ao o (jc #[I .u8 1] 5))) j.grown q;replace j:=O (cD.after (ao o _) j);refine d _ _ H λ_=>?_
 clear d q;refine G ?_
 (refine N0 (v:=I j7 (iG m)) (f:=210) (args:=#[I N m]) T aj (λx=>?_) (λx _=>(Lb m z C x).mono λe w' h=>⟨h.1,h.2.symm⟩) ?_;·(go_simp;try with_reducible rfl))
 refine G ?_;refine aF T (λF d=>?_);go_simp;have F:=j.grown.size;have q:=j.ne E t;refine(Ai B _ (iG m) r _ Q j.own (jz y F) (zi m z C) Y).mono ?_;rintro e U ⟨V,rfl,x⟩;have R:=fW H x.grown q;replace x:=O (j.trans x);refine d _ _ R λ_=>?_
 clear d F q;refine G ?_;refine fk ?_;refine jR ?_
 go_wp2_with fail
 go_ret;refine⟨_,T,?_⟩;have h:=cD.after g x;rw[K,jW,qX,<-D];rw[j6,show n+1+(cY (iG m)).length=n+((cY (iG m)).length+1) by omega]at h;exact h
theorem Jm(B n:je)(v:ji)(xs:jh ji)(m:jd)(s:ByteArray)(l:ji)(w:jg)(a:w.ownsRow B 5 1 v n xs)(g:B<=w.heap.size)(S:n+s.size<=2900000):
 jr jm 211 #[v,jq #[I N 2,I N m,jj s,l]] w λe w'=>∃o,e=jo o/\cD B 5 1 w w' v o (n+(enc (.mk 2 m s [])).length) (xs++(enc (.mk 2 m s [])).map v8):=by
 have b:enc (.mk 2 m s [])=2#8::(cY s.size++bZ s):=by rw[enc,jI L,jB T]
 have K:=O b;clear b;have u:=js w (jc #[I N 2,I N m,jj s,l] 184);have d:=ai (i:=2) u T;have k:=O (cL a (ao w (jc #[I N 2,I N m,jj s,l] 184)));have f:=O (ao w (jc #[I N 2,I N m,jj s,l] 184));have q:jk (v.ownBlock≠ja w.heap.size):=O (eY a (.inl (jn _)));have M:=O g;obtain⟨p,c,rfl⟩:=cK a;obtain⟨v,b⟩:=J (jP p n c);rw[<-b]at k q a;have D:=O b;clear u g a b
 go_enter func211,ntmps211
 go_upto_region 1 with fail
 obtain⟨x,a⟩:=J w.heap.size;obtain⟨b,g⟩:=J (w.alloc (jc #[I N 2,I N m,jj s,l] 184));have h:x<b.heap.size:=by rw[g,a];simp
 rw[<-g]at d k f⊢;rw[<-a]at d q⊢;have y:jk (B<=b.drew.heap.size):=O (jz M f.size);have z:jk (x<b.drew.heap.size):=O h;replace k:jk (b.drew.ownsRow B 5 1 v n xs):=O (cL k (bV b));replace f:jk (jl w w b.drew):=O (f.trans (bV b|>.mono f.size));replace d:b.drew.cell? ⟨x,2,A⟩=ja (jj s):=d;clear a g h;refine jT ?_;refine dj (λa=>a.cell? ⟨x,2,A⟩=ja (jj s)) (.t 0 (.t 3 (.t 4 (.t 5 (.t 6 (.t 8 (.t 9 (.o 1 (.o 2 (.o 7 (.o 10 (.t 11 .done)))))))))))) af af af L (λ_ _ _ _ h=>h) d ?_;generalize b.drew=r at d k f y z⊢;have P:=O k;rw[<-D];iterate 7 refine fk ?_
 refine aF T (λC a=>?_);go_simp;refine a _ _ (aD d (ao _ _)) λ_=>?_
 clear a;refine G ?_;refine aF T (λC a=>?_);rw[jB aj];refine oM _ _ T B v _ _ T (cL P (ao r _)) _ 1 [_] T (rQ r _) (by simp[j1]) Y (jz y (ao r _).size) λo Q g=>?_
 have t:=q.out;have E:=fW (aD d (ao r (jc #[I .u8 2] 5))) g.grown t;replace g:=O (cD.after (ao r _) g);refine a _ _ E λ_=>?_
 clear a t;refine G ?_;refine aF T (λC a=>?_);go_simp;rw[show qK.wrap (s.size:jd)=(s.size:jd)from by rw[qW];omega];have F:=g.grown.size;have t:=g.ne z q;refine(Ai B _ s.size o _ Q g.own (jz y F) Y Y).mono ?_;rintro e U ⟨R,rfl,j⟩;have V:=mi s.size Y;have H:=fW E j.grown t;replace j:=O (g.trans j);refine a _ _ H λ_=>?_
 clear a F t;refine G ?_;refine aF T (λC a=>?_);rw[jB aj];refine Nr _ _ T B R _ _ T j.own s T Y (jz y j.grown.size) λo F t=>?_
 have C:=fW H t.grown (j.ne z q);replace t:=O (j.trans t);refine a _ _ C λ_=>?_
 clear a;refine G ?_;refine fk ?_;refine jR ?_
 go_wp2_with fail
 go_ret;refine⟨_,T,?_⟩;have h:=cD.after f t;have u:(s.data.toList.map UInt8.toBitVec)=bZ s:=T;rw[K,jW,qX,jL,j4,kR,<-D];rw[u,j6,j6,show n+1+(cY s.size).length+s.size=n+((cY s.size).length+s.size+1) by omega]at h;exact h
def Buf(b:je)(a:LBy)(w:jg):Prop:=LibA.IsBuffer 248 (λ_=>A) 5 b b 0 (a.map v8) w
theorem Buf.lt(h:Buf B j w):B<w.heap.size:=LibA.IsBuffer.lt h
theorem Buf.keep{b:je}{a:LBy}(h:Buf b a w)(c:jl w w w'):Buf b a w':=by
 obtain⟨e,v,f,d,g,i⟩:=h;exact⟨e,v,f,d.of_heap (c.block _ d.lt),cL g c,i⟩
theorem Buf.new(w:jg):Buf w.heap.size [] (w.alloc (jc #[jb A 0 0,I N 0,.int .i8 0] 248)):=
 LibA.zero_isBuffer (jn _) (LibA.three_whole (js w _))
theorem uL(k:r)(h:r->p:=by intro k;refine aS (v:=?_) rfl aj (λW' hS=>?_) ?_;rotate_left;(obtain⟨c0,c1⟩:=hS;go_simp;with_reducible rfl);refine G ?_;exact k):p:=h k
theorem Ri(b:je)(d:LBy)(w:jg)(h:Buf b d w):
 jr jm 203 #[jA (ja ⟨b,0,A⟩)] w λe w'=>∃v,e=jo v/\w'.ownsRow b 5 1 v (d.map v8).length (d.map v8)/\jl w w w':=by
 obtain⟨l,K,x⟩:=LibA.IsBuffer.cases h
 rcases x with⟨m,a⟩|⟨g,o,y,a,p,q,r,i,s,t,z⟩
 ·have f:=a.c0
  have j:=a.c1;rw[m];clear a l m h
  go_enter func203,ntmps203
  go_wp2
  refine jT ?_;refine dj (λc=>c.cell? ⟨b,0,A⟩=ja (jb A 0 0)/\c.cell? ⟨b,0+1,A⟩=ja (I N 0)) (.t 0 (.t 1 (.t 2 (.t 3 (.t 4 (.t 5 (.t 6 (.t 7 (.t 8 (.t 9 .done)))))))))) af af af L (λ_ _ _ _ h=>h) ⟨f,j⟩ ?_;iterate 3 refine aO ?_
  refine uL ?_;iterate 3 refine aO ?_
  refine uL ?_;iterate 2 refine aO ?_
  refine jR ?_
  go_wp2_with fail
  go_ret;exact⟨_,T,j0 _ _ _ _,bV _⟩
 have f:=a.c0;have j:=a.c1;have B:=i;unfold j3 at B;have C:=O q;have D:=O p;have E:=O i;have F:=O s;have H:=O t;obtain⟨n,k⟩:=J ((d.map v8).length);rw[<-k]at r f⊢;have u:=O k;clear a l h q p i s t z k
 go_enter func203,ntmps203
 go_wp2
 refine jT ?_;refine dj (λc=>c.cell? ⟨b,0,A⟩=ja (jb (ja ⟨g,0,A⟩) n o)/\c.cell? ⟨b,0+1,A⟩=ja (I N 0)) (.t 0 (.t 1 (.t 2 (.t 3 (.t 4 (.t 5 (.t 6 (.t 7 (.t 8 (.t 9 .done)))))))))) af af af L (λ_ _ _ _ h=>h) ⟨f,j⟩ ?_;iterate 3 refine aO ?_
 refine uL ?_;iterate 3 refine aO ?_
 refine uL ?_;iterate 2 refine aO ?_
 refine jR ?_
 go_wp2_with fail
 go_ret;exact⟨_,T,⟨by simp[u.out],.inr ⟨g,o,y,T,D,C,r,E,by rw[F];simp,by rw[rv,u];exact H⟩⟩,bV _⟩
def wrF(k:jd):je:=if k=1 then 208 else if k=2 then 211 else 212
def wrL(a:je)(k:jd):jZ ji:=if k=1 then #[]else if k=2 then #[]else #[jA (ja ⟨a,0,A⟩)]
def rY(b a:je)(x:Val):Prop:=
 ∀(B n:je) (v:ji) (xs:jh ji) (c:ji) (d:jd) (w:jg),x.k=d->w.ownsRow B 5 1 v n xs->B<=w.heap.size->aV (·<B) w x c->mS b a w->b<B->a<B->n+(enc x).length<=2900000->
  jr jm (wrF x.k) (#[v,jq #[I N d,I N x.n,jj x.s,c]]++wrL a x.k) w λe w'=>∃f,e=jo f/\cD B 5 1 w w' v f (n+(enc x).length) (xs++(enc x).map v8)
theorem Dj(k:jd)(args:jZ ji)(w:jg):(callFunc (wrF k) args).run jm w=.ok (.enter (wrF k) args) w:=by
 unfold wrF
 split
 ·rfl
 split<;>rfl
theorem mS.at{a b:je}(h:mS a b w){k:jd}{m:je}(c:k=(m:jd))(e:1<=m)(f:m<=3):w.cell? ⟨a,m,A⟩=ja (.func (.func (wrF k)) #[] (wrL b k)):=by
 obtain⟨z,d⟩:=h.tab;subst c;have:m=1\/m=2\/m=3:=Y
 rcases this with rfl|rfl|rfl<;>exact ai d T
theorem mS.keep{a b:je}(h:mS a b w)(c:jl B w w')(d:a<B)(e:b<B):mS a b w':=by
 obtain⟨⟨z,f⟩,g⟩:=h;exact⟨⟨z,(c.block _ d).trans f⟩,(c.block _ e).trans g⟩
theorem wm{u:Val}(h:f[B]?=ja u):encs (f.take (B+1))=encs (f.take B)++enc u:=by
 obtain⟨a,e⟩:=xu.1 h;rw[o8 a,zb,e];simp[encs]
theorem wC(l:jh Val)(i:je):(encs (l.take i)).length<=(encs l).length:=by
 have h:=zb (l.take i) (l.drop i);rw[xw]at h;rw[h,jL];omega
theorem Py(z t:je)(m:jd)(s:ByteArray)(l:jh Val)(j:∀x∈l,(1<=x.k/\x.k<=3)/\rY z t x):rY z t (.mk 3 m s l):=by
 intro B n v xs u kk w bi e k Q o q r b;obtain rfl:(3:jd)=kk:=bi;have a:enc (.mk 3 m s l)=3#8::(cY l.length++encs l):=by rw[enc,jI L,jI L]
 have HE:=O a;show jr jm 212 #[v,jq #[I N 3,I N m,jj s,u],jA (ja ⟨t,0,A⟩)] w _;have a4:n+((cY l.length).length+(encs l).length+1)<=2900000:=by rw[a,jW,jL]at b;omega
 have bk:=AS l;clear a b;have M:=js w (jc #[I N 3,I N m,jj s,u] 184);have a:=ai (i:=3) M T;have f:=O (cL e (ao w (jc #[I N 3,I N m,jj s,u] 184)));have b:=O (ao w (jc #[I N 3,I N m,jj s,u] 184));have HN:jk (v.ownBlock≠ja w.heap.size):=O (eY e (.inl (jn _)));have R:=O k;have Zf:=O e;have Vx:=O j;obtain⟨us,a3,g⟩:=Q.slice;replace a3:aG (·<B) w u 4 l.length (cR l us):=a3;replace g:aN (·<B) w l us:=g;obtain⟨E,pu,S,y,C,F,D⟩:=a3;have a5:=O g;have a6:=O D;have hu:u=jb pu l.length S:=y;have bl:l.length<=S:=C;obtain⟨d,h⟩:=J l.length;rw[<-h]at hu bl a4 bk;have U:=O h;subst hu;have bm:jk (n+((cY d).length+(encs l).length+1)<=2900000):=O a4;have HT:=O o;have V:=O q;have W:=O r;obtain⟨p,c,rfl⟩:=cK e;obtain⟨v,Q⟩:=J (jP p n c);rw[<-Q]at f HN Zf;have HV:=O Q;have bv:=mi d Y;have bw:d<=2900000:=Y;have H:n+30<=3000000\/2999970<n:=Y;clear M k e Q j E y C F D g h o q r H
 go_enter func212,ntmps212
 go_upto_region 1 with fail
 obtain⟨X,e⟩:=J w.heap.size;obtain⟨C,g⟩:=J (w.alloc (jc #[I N 3,I N m,jj s,jb pu d S] 184));have h:X<C.heap.size:=by rw[g,e];simp
 rw[<-g]at a f b⊢;rw[<-e]at a HN⊢;have bA:jk (X=w.heap.size):=O e;have j:jk (B<=C.drew.heap.size):=O (jz R b.size);have o:jk (X<C.drew.heap.size):=O h;replace f:jk (C.drew.ownsRow B 5 1 v n xs):=O (cL f (bV C));replace b:jk (jl w w C.drew):=O (b.trans (bV C|>.mono b.size));replace a:C.drew.cell? ⟨X,3,A⟩=ja (jb pu d S):=a;clear e g h;refine jT ?_;refine dj (λE=>E.cell? ⟨X,3,A⟩=ja (jb pu d S)) (.t 0 (.t 3 (.t 4 (.t 5 (.t 6 (.o 1 (.o 2 (.o 7 (.t 8 .done))))))))) af af af L (λ_ _ _ _ h=>h) a ?_;generalize C.drew=W1 at a f b j o⊢;have y:=O f;rw[<-HV];iterate 5 refine fk ?_
 refine aF T (λK' k=>?_);go_simp;refine k _ _ (aD a (ao _ _)) λ_=>?_
 clear k;refine G ?_;refine aF T (λK' k=>?_);rw[jB aj];refine oM _ _ T B v _ _ T (cL y (ao W1 _)) _ 1 [_] T (rQ W1 _) (by simp[j1]) Y (jz j (ao W1 _).size) λv' w5 H=>?_
 have g:=HN.out;have q:=fW (aD a (ao W1 (jc #[I .u8 3] 5))) H.grown g;replace H:=O (cD.after (ao W1 _) H);refine k _ _ q λ_=>?_
 clear k g;refine G ?_;refine aF T (λK' k=>?_);go_simp;rw[show qK.wrap (d:jd)=(d:jd)from by rw[qW];omega];have r:=H.grown.size;have g:=H.ne o HN;refine(Ai B _ d v' _ w5 H.own (jz j r) Y Y).mono ?_;rintro e w6 ⟨v6,rfl,K⟩;have c6:=fW q K.grown g;have bB:=K.ne (jN o r) g;replace K:=O (H.trans K);refine k _ _ c6 λ_=>?_
 clear k r g;refine G ?_;refine fk ?_;refine jR ?_;replace K:jk (cD B 5 1 w w6 v v6 (n+1+(cY d).length) (xs++[I .u8 3]++(cY d).map v8)):=O (cD.after b K);clear a q f y b j o
 go_wp2_with fail
 go_loopw [0,19] (λb a wr=>∃(i:je) (vr:ji),b=vr/\a=I N i/\i<=d/\jk (cD B 5 1 w wr v vr (n+1+(cY d).length+(encs (l.take i)).length) (xs++[I .u8 3]++(cY d).map v8++(encs (l.take i)).map v8))) (λ_ a _=>d-(jv a).toNat)
 case atStart=>exact⟨0,v6,T,T,jJ _,by simpa [encs]using K⟩
 obtain⟨i,vr,rfl,rfl,hi,r⟩:=hrel
 by_cases ba:i<d
 ·have hd:=aw ((i:jd)<(d:jd))
  have UL:=aw (i<d);obtain⟨g,o,rfl,ax,j⟩:=a6 (aJ U);obtain⟨x,y⟩:∃x,l[i]?=ja x:=⟨l[i]'(by rw[<-U];exact ba),oj (by rw[<-U];exact ba)⟩;obtain⟨D,P,au⟩:=a5.at y;have F:=λq hq=>BE l us i q x D y P hq
  have Vk:=r.below Zf R;have Wh:∀a u,a.block<B->w.cell? a=ja u->wr.cell? a=ja u:=λa u ha hu=>(dY (Vk.block _ ha)).trans hu
  have d0:wr.cell? ⟨g,o+i*4,A⟩=ja (I N x.k):=Wh _ _ ax (j (i*4+0) _ (F 0 L));have d1:wr.cell? ⟨g,o+i*4+1,A⟩=ja (I N x.n):=Wh _ _ ax (j (i*4+1) _ (F 1 L));have d2:wr.cell? ⟨g,o+i*4+2,A⟩=ja (jj x.s):=Wh _ _ ax (j (i*4+2) _ (F 2 L));have d3:wr.cell? ⟨g,o+i*4+3,A⟩=ja D:=Wh _ _ ax (j (i*4+3) _ (F 3 L));have HI:=O y;have Vg:x∈l:=xx y;obtain⟨⟨a1,U9⟩,hw⟩:=Vx x Vg;have HW:=O hw;have HX:=O (aV.keep (λb M=>Vk.block b M) x D au);have bb:=O (HT.keep Vk V W);obtain⟨aa,ad,bn⟩:=au.form;obtain⟨f,ay⟩:∃f:je,x.k=(f:jd):=⟨x.k.toNat,by omega⟩;have bc:=O ay;have bo:1<=f:=Y;have bp:f<=3:=Y;have bq:z<wr.heap.size:=jN V (jz R r.grown.size);have br:t<wr.heap.size:=jN W (jz R r.grown.size);have bd:u0.ownBlock≠ja z:=eY r.own (.inr V);have bf:u0.ownBlock≠ja t:=eY r.own (.inr W);rw[ay]at d0;subst bn;clear y P au F Vk Wh j Vg hw a1 U9 ay a5 a6
  go_upto_region 5 with fail
  obtain⟨y,ay⟩:=J wr.heap.size;have F:=js wr (jc #[I N f,I N x.n,jj x.s,jb aa x.l.length ad] 184);have UZ:=ao wr (jc #[I N f,I N x.n,jj x.s,jb aa x.l.length ad] 184);have bg:(wr.alloc (jc #[I N f,I N x.n,jj x.s,jb aa x.l.length ad] 184)).heap.size=y+1:=by rw[ay];simp
  have bs:jk (u0.ownBlock≠ja y):=O (eY r.own (.inl (qi ay.symm)));rw[<-ay]at F⊢;obtain⟨j,Zl⟩:=J (wr.alloc (jc #[I N f,I N x.n,jj x.s,jb aa x.l.length ad] 184));rw[<-Zl]at F UZ bg⊢;obtain⟨D,P⟩:=J (jP aa x.l.length ad);rw[<-P]at HX F;have bC:=O P;have au:jl wr wr j.drew:=UZ.trans ((bV j).mono UZ.size);have UT:jk (cD B 5 1 w j.drew v u0 (n+1+(cY d).length+(encs (l.take i)).length) (xs++[I .u8 3]++(cY d).map v8++(encs (l.take i)).map v8)):=O (r.trans (cD.after au (cD.refl (cL r.own au))));have a1:B<=wr.heap.size:=jz R r.grown.size;have Zz:jk (aV (·<B) j.drew x D):=O (aV.keep (λb M=>au.block b (jN M a1)) x D HX);have a2:jk (mS z t j.drew):=O (bb.keep (au.mono a1) V W);have YW:j.drew.cell? ⟨t,0,A⟩=ja (jA (ja ⟨z,0,A⟩))/\j.drew.cell? ⟨y,0,A⟩=ja (I N f)/\j.drew.cell? ⟨y,1,A⟩=ja (I N x.n)/\j.drew.cell? ⟨y,2,A⟩=ja (jj x.s)/\j.drew.cell? ⟨y,3,A⟩=ja D/\j.drew.cell? ⟨z,f,A⟩=ja (.func (.func (wrF x.k)) #[] (wrL t x.k)):=
   ⟨ai a2.ptr rfl,ai F rfl,ai F rfl,ai F rfl,ai F rfl,a2.at bc bo bp⟩
  have bh:jk (B<=j.drew.heap.size):=O (jz a1 UZ.size);have bu:=O bf;have YB:=O bd;have bI:(f:jd)<4:=Y;clear F UZ bg au a1 bf bd HX bb r bq br d0 d1 d2 d3 Zl c6 P ay;refine jT ?_;refine dj (λE=>E.cell? ⟨t,0,A⟩=ja (jA (ja ⟨z,0,A⟩))/\E.cell? ⟨y,0,A⟩=ja (I N f)/\E.cell? ⟨y,1,A⟩=ja (I N x.n)/\E.cell? ⟨y,2,A⟩=ja (jj x.s)/\E.cell? ⟨y,3,A⟩=ja D/\E.cell? ⟨z,f,A⟩=ja (.func (.func (wrF x.k)) #[] (wrL t x.k))) (.t 0 (.t 1 (.t 2 (.t 3 (.t 4 (.t 5 (.t 6 (.t 7 (.t 8 (.o 9 (.t 10 .done))))))))))) af af af L (λ_ _ _ _ h=>h) YW ?_;generalize j.drew=wb at YW UT Zz a2 bh⊢;iterate 9 refine Fc ?_
  refine aF T (λK' k=>?_);have EG:=Dj x.k;go_simp;refine(HW B _ u0 _ D _ wb bc UT.own bh Zz a2 V W (by have E:=bm.out;have b:=wC l (i+1);rw[wm HI,jL]at b;omega)).mono ?_;rintro e w7 ⟨v7,rfl,b⟩;obtain⟨k0,k1,k2,k3,k4,k5⟩:=YW;have F:=bu.out;have E:=bs.out;have P:=YB.out;refine k _ _ ⟨fW k0 b.grown F,fW k1 b.grown E,fW k2 b.grown E,fW k3 b.grown E,fW k4 b.grown E,fW k5 b.grown P⟩ λ_=>?_
  replace b:=O (UT.trans b);clear k EG F E P;refine G ?_;refine Fc ?_;refine jR ?_
  go_wp2_with fail
  refine⟨⟨i+1,v7,T,by go_num,by omega,O ?_⟩,?_⟩
  ·have h:=b.out
   rw[wm HI,jL,j4,<-r9,<-j6];exact h
  simp only[jv];omega
 have hd:=az ((i:jd)<(d:jd));have UL:=az (i<d);have a:l.take i=l:=nv (by rw[<-U];omega);have b:=O a;clear a
 go_wp2_with fail
 go_ret;refine⟨_,T,?_⟩;have h:=r.out;rw[b]at h;rw[HE,jW,qX,jL,j4,<-U,<-HV];rw[j6,j6,show n+1+(cY d).length+(encs l).length=n+((cY d).length+(encs l).length+1) by omega]at h;exact h
theorem Pr(e g:je):∀(f:je) (x:Val),wfV f x->(1<=x.k/\x.k<=3)/\rY e g x:=by
 have p:∀(m:jd) (s:ByteArray) (l:jh Val),-9223372036854775808<=m->m<9223372036854775808->s=emS->l=[]->rY e g (.mk 1 m s l):=by
  intro m s l a b d c B n v xs h i w j k o r t u y z;obtain rfl:(1:jd)=i:=j;subst c;have C:(enc (.mk 1 m s [])).length<=11:=by
   rw[enc,jB T,jW];have:=mi _ (zi m a b);omega
  exact Mx B n v xs m s h w k o a b Y
 have q:∀(m:jd) (s:ByteArray) (l:jh Val),l=[]->rY e g (.mk 2 m s l):=by
  intro m s l c B n v xs h i w j k o r t u y z;obtain rfl:(2:jd)=i:=j;subst c;have C:(enc (.mk 2 m s [])).length=(cY s.size).length+s.size+1:=by
   rw[enc,jI L,jB T,jW,jL,kR]
  exact Jm B n v xs m s h w k o Y
 intro f
 induction f with
 |zero=>
  rintro⟨k,m,s,l⟩ h;rw[wfV]at h
  rcases h with⟨rfl,a,b,d,c⟩|⟨rfl,rfl,a,c⟩|⟨-,-,-,-,h⟩
  ·exact⟨by simp[Val.k],p m s l a b d c⟩
  ·exact⟨by simp[Val.k],q 0 s l c⟩
  exact h.elim
 |succ f i=>
  rintro⟨k,m,s,l⟩ h;rw[wfV]at h
  rcases h with⟨rfl,a,b,d,c⟩|⟨rfl,rfl,a,c⟩|⟨rfl,rfl,d,-,h⟩
  ·exact⟨by simp[Val.k],p m s l a b d c⟩
  ·exact⟨by simp[Val.k],q 0 s l c⟩
  exact⟨by simp[Val.k],Py e g 0 s l λx j=>i x (h x j)⟩
theorem Oj(n:jd)(b:ji)(w:jg)(d:∃p c,b=jb p 0 c):
 jr jm 207 #[jq #[I N 1,I N n,jj ⟨#[]⟩,b]] w λe w'=>e=jo (jw #[I N 0,.bool jf])/\jl w w w':=by
 obtain⟨p,c,rfl⟩:=d
 by_cases a:n=0
 ·subst a
  go_enter qA,qB
  go_wp2_with fail
  go_ret2;exact⟨T,((jy _ w).alloc (jn _) _).alloc ar _⟩
 have f:((n==0):Bool)=jp:=ak a;have g:decide (n=0)=jp:=ak a;clear a
 go_enter qA,qB
 go_wp2_with fail
 go_ret2;exact⟨T,((jy _ w).alloc (jn _) _).alloc ar _⟩
theorem NT(s:ByteArray)(b:ji)(w:jg)(d:∃p c,b=jb p 0 c):
 jr jm 207 #[jq #[I N 2,I N 0,jj s,b]] w λe w'=>e=jo (jw #[I N 0,.bool jf])/\jl w w w':=by
 obtain⟨p,c,rfl⟩:=d
 by_cases a:s.toList=[]
 ·have f:(s.toList==([]:jh UInt8))=jf:=ak a
  clear a
  go_enter qA,qB
  go_wp2_with fail
  go_ret2;exact⟨T,((jy _ w).alloc (jn _) _).alloc ar _⟩
 have f:(s.toList==([]:jh UInt8))=jp:=ak a;have hd2:decide (s.toList=[])=jp:=ak a
 go_enter qA,qB
 go_wp2_with fail
 go_ret2;exact⟨T,((jy _ w).alloc (jn _) _).alloc ar _⟩
def sR(f:je)(x:Val):Prop:=∀(a:ji) (b:jd) (w:jg),x.k=b->aV (·<w.heap.size) w x a->
 jr jm 207 #[jq #[I N b,I N x.n,jj x.s,a]] w λe w'=>∃d:je,e=jo (jw #[I N d,.bool jf])/\d<=f/\jl w w w'
theorem SY(f:je)(hf:f<=1000)(l:jh Val)(i:∀x∈l,sR f x)(au:l.length<=3000000):sR (f+1) (.mk 3 0 emS l):=by
 intro h kk w ax m;obtain rfl:(3:jd)=kk:=ax;show jr jm 207 #[jq #[I N 3,I N 0,jj ⟨#[]⟩,h]] w _;obtain⟨z,B,d⟩:=m.slice;replace B:aG (·<w.heap.size) w h 4 l.length (cR l z):=B;replace d:aN (·<w.heap.size) w l z:=d;obtain⟨r,S,C,n,o,s,p⟩:=B;have D:=O d;have E:=O p;have ay:l.length<=C:=o;obtain⟨c,e⟩:=J l.length;have F:h=jb S c C:=by rw[e];exact n
 rw[<-e]at ay au;have H:=O e;subst F;have Vx:=O i;have a:jl w w ((w.alloc (jc #[I N 3,I N 0,jj ⟨#[]⟩,jb S c C] 184)).alloc (jc #[.bool jp,.bool (decide (c=0)),.bool (decide (c=0)),.bool jf] 344)):=((jy _ w).alloc (jn _) _).alloc ar _
 by_cases j:c=0
 ·have g:decide (c=0)=jf:=decide_eq_true j
  subst j;rw[g]at a;have K:=O a;clear r n o s p d e i m a g E D
  go_enter qA,qB
  go_wp2_with fail
  go_loopw [2,57] (λq b wr=>q=I N 0/\b=I N 0/\jk (jl w w wr)) (λ_ b _=>0)
  case atStart=>exact⟨T,T,K⟩
  obtain⟨rfl,rfl,k⟩:=hrel
  go_wp2_with fail
  go_ret2;exact⟨1,T,by omega,k⟩
 have g:decide (c=0)=jp:=decide_eq_false j;have ba:decide ((c:jd)=0)=jp:=ak j;have hd2:(((c:jd)==0):Bool)=jp:=ak j;rw[g]at a;have K:=O a;clear r n o s p d e i m a g
 go_enter qA,qB
 go_wp2_with fail
 go_loopw [2,57] (λq b wr=>∃i d:je,q=I N d/\b=I N i/\i<=c/\d<=f/\jk (jl w w wr)) (λ_ b _=>c-(jv b).toNat)
 case atStart=>exact⟨0,0,T,T,jJ _,jJ _,K⟩
 obtain⟨i,d,rfl,rfl,hi,hd,k⟩:=hrel
 by_cases U:i<c
 ·have a1:=aw ((i:jd)<(c:jd))
  have a2:=aw (i<c);obtain⟨g,o,rfl,r,m⟩:=E (aJ H);obtain⟨x,s⟩:∃x,l[i]?=ja x:=⟨l[i]'(by rw[<-H];exact U),oj (by rw[<-H];exact U)⟩;obtain⟨t,V,M⟩:=D.at s;have n:=λq hq=>BE l z i q x t s V hq
  have u:=k.out;have p:∀a h,a.block<w.heap.size->w.cell? a=ja h->wr.cell? a=ja h:=λa h ha F=>(dY (u.block _ ha)).trans F
  have d0:wr.cell? ⟨g,o+i*4,A⟩=ja (I N x.k):=p _ _ r (m (i*4+0) _ (n 0 L));have d1:wr.cell? ⟨g,o+i*4+1,A⟩=ja (I N x.n):=p _ _ r (m (i*4+1) _ (n 1 L));have d2:wr.cell? ⟨g,o+i*4+2,A⟩=ja (jj x.s):=p _ _ r (m (i*4+2) _ (n 2 L));have d3:wr.cell? ⟨g,o+i*4+3,A⟩=ja t:=p _ _ r (m (i*4+3) _ (n 3 L));have HF:=O (Vx x (xx s));have W:=u.size;have X:=O (aV.mono (D':=(·<wr.heap.size)) (λb (e:b<w.heap.size)=>jN e W) x t (aV.keep (λb e=>u.block b e) x t M));obtain⟨aa,ad,a3⟩:=M.form;obtain⟨v,P⟩:∃v,x.k=v:=⟨_,T⟩;obtain⟨nx,Q⟩:∃nx,x.n=nx:=⟨_,T⟩;obtain⟨y,R⟩:∃y,x.s=y:=⟨_,T⟩;rw[P]at d0;rw[Q]at d1;rw[R]at d2;have a4:=O P;have a5:=O Q;have a6:=O R;subst a3;clear s V M n u p m P Q R D E W
  go_upto_region 9 with fail
  have m:=ao wr (jc #[I N v,I N nx,jj y,jb aa x.l.length ad] 184);have s:=O (aV.mono (D':=(·<(wr.alloc (jc #[I N v,I N nx,jj y,jb aa x.l.length ad] 184)).heap.size)) (λb (e:b<wr.heap.size)=>jN e m.size) x _ (aV.keep (λb e=>m.block b e) x _ X.out));have u:=ah k m;clear m X
  go_wp2_with fail
  have b:=HF _ _ _ a4.out s;rw[a5,a6]at b;refine b.mono ?_;rintro e R ⟨n,rfl,V,p⟩;have M:=ah u p;obtain⟨m,P⟩:∃m:je,max (d:jd) (n:jd)=(m:jd):=⟨max d n,by omega⟩;have Q:m<=f:=Y;clear p b
  go_wp2_with fail
  refine⟨⟨i+1,m,?_,by go_num,by omega,Q,M⟩,?_⟩
  ·first|exact T|exact qO (jE .i64) P
  simp only[jv];omega
 have a1:=az ((i:jd)<(c:jd));have a2:=az (i<c)
 go_wp2_with fail
 go_ret2;exact⟨d+1,T,by omega,k⟩
theorem Tv:∀(f:je),f<=1000->∀x,wfV f x->(enc x).length<=3000000->sR f x:=by
 have g:∀(f:je) (m:jd),sR f (.mk 1 m emS []):=by
  intro f m a b w c d;obtain rfl:(1:jd)=b:=c;exact(Oj m a w d.form).mono λe w' h=>⟨0,h.1,jJ _,h.2⟩
 have j:∀(f:je) (s:ByteArray),sR f (.mk 2 0 s []):=by
  intro f s a b w c d;obtain rfl:(2:jd)=b:=c;exact(NT s a w d.form).mono λe w' h=>⟨0,h.1,jJ _,h.2⟩
 intro f
 induction f with
 |zero=>
  rintro -⟨k,m,s,l⟩ h d;rw[wfV]at h
  rcases h with⟨rfl,a,b,rfl,rfl⟩|⟨rfl,rfl,a,rfl⟩|⟨-,-,-,-,h⟩
  ·exact g 0 m
  ·exact j 0 s
  exact h.elim
 |succ f n=>
  rintro q ⟨k,m,s,l⟩ h d;rw[wfV]at h
  rcases h with⟨rfl,a,b,rfl,rfl⟩|⟨rfl,rfl,a,rfl⟩|⟨rfl,rfl,rfl,-,h⟩
  ·exact g _ m
  ·exact j _ s
  have e:(enc (.mk 3 0 emS l)).length=(cY l.length).length+(encs l).length+1:=by
   rw[enc,jI L,jI L,jW,jL]
  have r:=AS l;refine SY f Y l (λx c=>n Y x (h x c) ?_) Y;have:(enc x).length<=(encs l).length:=by
   obtain⟨i,o⟩:=xy c;have p:=wC l (i+1);rw[wm o,jL]at p;omega
  omega
theorem J0(x:Val)(h:ji)(a:jd)(w:jg)(i:x.k=a)(j:wfV 16 x)(f:aV (·<w.heap.size) w x h)(l:(enc x).length<=2900000):
 jr jm 163 #[jq #[I N a,I N x.n,jj x.s,h]] w λe w'=>e=jo (I N 0)/\jl w w w':=by
 obtain⟨p,c,rfl⟩:=f.form;have d:=ao w (jc #[I N a,I N x.n,jj x.s,jb p x.l.length c] 184);have k:=O (aV.mono (D':=(·<(w.alloc (jc #[I N a,I N x.n,jj x.s,jb p x.l.length c] 184)).heap.size)) (λb (g:b<w.heap.size)=>jN g d.size) x _ (aV.keep (λb g=>d.block b g) x _ f));have g:=O (Tv 16 L x j Y _ _ _ i k);have m:=O d;clear f d k;generalize x.n=k at*;generalize x.s=xs at*;generalize x.l.length=n at*;clear i j l
 go_enter func163,ntmps163
 go_wp2_with fail
 refine g.mono ?_;rintro e i ⟨d,rfl,j,b⟩;have f:=ah m b;have l:=az ((16:jd)<(d:jd));clear b
 go_wp2_with fail
 go_ret;exact⟨T,f⟩
theorem EZ(x:Val)(u:ji)(q:jd)(w:jg)(h:x.k=q)(j:wfV 16 x)(a:aV (·<w.heap.size) w x u)(H:(enc x).length<=2900000):
 jr jm 107 #[jq #[I N q,I N x.n,jj x.s,u]] w λe w'=>∃v,e=jo (jw #[v,I N 0])/\w'.ownsRow w 5 1 v (enc x).length ((enc x).map v8)/\jl w w w':=by
 obtain⟨p,c,rfl⟩:=a.form;have y:=O (λr s=>Pr r s 16 x j);obtain⟨o,t⟩:=(y 0 0).1;obtain⟨d,K⟩:∃d:je,q=(d:jd):=⟨q.toNat,by omega⟩;have M:1<=d:=Y;have P:d<=3:=Y;have aa:(d:jd)<4:=Y;subst K;have B:=O h;have g:=ao w (jc #[I N d,I N x.n,jj x.s,jb p x.l.length c] 184);have k:=js w (jc #[I N d,I N x.n,jj x.s,jb p x.l.length c] 184);have C:=O a;have l:=O (J0 x _ _ _ h j (aV.mono (D':=(·<(w.alloc (jc #[I N d,I N x.n,jj x.s,jb p x.l.length c] 184)).heap.size)) (λb (f:b<w.heap.size)=>jN f g.size) x _ (aV.keep (λb f=>g.block b f) x _ a)) H);have m:=O g;have n:=O k;clear a g k o t h j;obtain⟨D,a⟩:=J x.n;obtain⟨xs,g⟩:=J x.s;obtain⟨E,h⟩:=J x.l.length;rw[<-a,<-g,<-h]at l n m⊢;rw[<-h]at C;have Q:=O a;have R:=O g;clear a g h
 go_enter func107,ntmps107
 go_wp2_with fail
 refine l.mono ?_;rintro e k ⟨rfl,g⟩;obtain⟨b,f⟩:=J w.heap.size;have a:=(g.block w.heap.size ar).trans n;rw[<-f]at a⊢;have j:=ai (i:=0) a T;have o:=ai (i:=1) a T;have t:=ai (i:=2) a T;have z:=ai (i:=3) a T;have h:=ah m g;clear g a f n l m
 go_upto_region 4 with fail
 have F:jk (jl w w k.drew):=O (h.trans ((bV k).mono h.size));have l:k.drew.cell? ⟨b,0,A⟩=ja (I N d)/\k.drew.cell? ⟨b,1,A⟩=ja (I N D)/\k.drew.cell? ⟨b,2,A⟩=ja (jj xs)/\k.drew.cell? ⟨b,3,A⟩=ja (jb p E c):=⟨j,o,t,z⟩;clear j o t z h;refine jT ?_;refine dj (λa=>a.cell? ⟨b,0,A⟩=ja (I N d)/\a.cell? ⟨b,1,A⟩=ja (I N D)/\a.cell? ⟨b,2,A⟩=ja (jj xs)/\a.cell? ⟨b,3,A⟩=ja (jb p E c)) (.t 1 (.t 2 (.t 7 (.o 0 (.o 3 (.o 4 (.o 5 (.o 6 (.o 8 (.t 9 (.t 10 .done))))))))))) af af af L (λ_ _ _ _ h=>h) l ?_;generalize k.drew=S at l F⊢;iterate 3 refine Ff ?_
 refine aF T (λm a=>?_);go_simp;refine(Oc S).mono ?_;rintro e t ⟨r,s,rfl,n,j⟩;have g:=And.intro (aD l.1 j) (And.intro (aD l.2.1 j) (And.intro (aD l.2.2.1 j) (aD l.2.2.2 j)));have U:=O n;have o:=ah F j;have V:=O (aV.keep (λb f=>o.block b f) x _ C.out);have hgt:=(jK.1 n.ptr).1;have W:r<t.heap.size:=by obtain⟨z,X⟩:=n.tab;exact(jK.1 X).1
 have ad:=n.at B M P;refine a _ _ g λ_=>?_
 clear a j n;refine G ?_;refine aF T (λm a=>?_);go_simp;refine a _ _ g λ_=>?_
 clear a;refine G ?_;refine aF T (λm a=>?_);go_simp;refine a _ _ g λ_=>?_
 clear a;refine G ?_;refine aF T (λm a=>?_);go_simp;refine a _ _ g λ_=>?_
 clear a;refine G ?_;refine aF T (λm a=>?_);go_simp;refine a _ _ g λ_=>?_
 clear a;refine G ?_;refine aF T (λm a=>?_);have EG:=Dj x.k;go_simp;have n:=y r s|>.2 t.heap.size 0 (jb A 0 0) [] _ _ t B (j0 _ _ _ _) (jn _) (aV.mono (λb (f:b<w.heap.size)=>jN f o.size) x _ V.out) U W hgt Y;rw[<-Q,<-R]at n;refine n.mono ?_;rintro e W3 ⟨v3,rfl,j⟩;have Ut:=O (o.trans ((j.below (j0 _ _ _ _) (jn _)).mono o.size));have m:(jP A 0 0).ownBlock≠ja b:=by simp[qe]
 have c3:=And.intro (fW g.1 j.grown m) (And.intro (fW g.2.1 j.grown m) (And.intro (fW g.2.2.1 j.grown m) (fW g.2.2.2 j.grown m)));replace j:=O j;refine a _ _ c3 λ_=>?_
 clear a EG n;refine G ?_;iterate 2 refine Ff ?_
 refine jR ?_
 go_wp2_with fail
 go_ret2;refine⟨_,T,?_,Ut⟩;have h:=j.own;rw[ms,qc]at h;exact sw h o.size
theorem Q8(l:LBy):Bu l=ofB l:=by
 unfold Bu ofB strOfNums rK;rw[List.map_map]
 congr 1
 congr 1
 refine List.map_congr_left λb _=>?_
 apply UInt8.eq_of_toBitVec_eq
 simp
theorem kO(n:jd)(w:jg):
 jr jm 111 #[I N n] w λe w'=>e=jo (jq #[I N 1,I N n,jj ⟨#[]⟩,jb A 0 0])/\jl w w w':=by
 go_enter func111,ntmps111
 go_wp2_with fail
 exact jX (v:=jq #[I N 1,I N n,jj ⟨#[]⟩,jb A 0 0]) (by simp[results,results111,go_sem]) T ⟨T,(jy _ _).alloc (jn _) _⟩
theorem mT(p:jS jM)(n c:je)(w:jg):
 jr jm 108 #[jb p n c] w λe w'=>e=jo (jq #[I N 3,I N 0,jj ⟨#[]⟩,jb p n c])/\jl w w w':=by
 go_enter func108,ntmps108
 go_wp2_with fail
 exact jX (v:=jq #[I N 3,I N 0,jj ⟨#[]⟩,jb p n c]) (by simp[results,results108,go_sem]) T ⟨T,(jy _ _).alloc (jn _) _⟩
theorem vS(v:ji)(l:LBy)(w:jg)(a:bD w v l):
 jr jm 112 #[v] w λe w'=>e=jo (jq #[I N 2,I N 0,jj (ofB l),jb A 0 0])/\jl w w w':=by
 have b:=Jo (a.below (ao w (jc #[I N 0,I N 0,jj ⟨#[]⟩,jb A 0 0] 184)));rw[Q8]at b;obtain⟨p,c,rfl,-,-,-⟩:=a;obtain⟨s,d⟩:=J (ofB l);rw[<-d]at b⊢;clear d
 go_enter func112,ntmps112
 go_wp2_with fail
 exact jX (v:=jq #[I N 2,I N 0,jj s,jb A 0 0]) (by simp[results,results112,go_sem]) T ⟨T,(jy _ _).alloc (jn _) _⟩
theorem Dc:(jm.info? 184).map (λi=>(i.zero,i.size,i.bytes))=ja (ja (jq #[I N 0,I N 0,jj ⟨#[]⟩,jb A 0 0]),4,56):=by kernel_rfl
theorem pW{w:jg}{o:ob}{a:Act}{K:Act->jg->Prop}{d:Exit->Act->jg->Prop}(s x:Operand)
 (e:o.op=.call {callee:=.builtin .append,args:=#[s,x],argTypes:=#[124,124]})
 (B:je) (v:ji) (n:je) (xs:jh ji) (f:a.eval s=v) (g:w.ownsRow B 184 4 v n xs) (b:ji) (m:je) (ys:jh ji) (i:a.eval x=b) (j:cE w b 4 m ys) (k:∀b∈ys,b.oneCell'=jf)
 (D:n+m<=4000000) (l:B<=w.heap.size) (h:∀c w',cD B 184 4 w w' v c (n+m) (xs++ys)->K (a.put o.dst c) w'):o.wp jm a w K d:=by
 obtain⟨p,q,r,t,u⟩:=qj Dc;exact nT s x 124 e B 184 p _ 4 56 xa q r t u T L v n xs f g b m ys i j k (by unfold j3;omega) Y l
  λc w' y z C=>h c w' (ot y z C)
abbrev dJ:ji:=jb A 0 0
theorem lg(n:jd):aV D w (vI n) dJ:=by
 rw[vI,aV];exact⟨[],⟨T,A,0,T,jn _,λ_=>rfl,λh=>jG h L⟩,by rw[aN]⟩
theorem vz(b:LBy):aV D w (vT b) dJ:=by
 rw[vT,aV];exact⟨[],⟨T,A,0,T,jn _,λ_=>rfl,λh=>jG h L⟩,by rw[aN]⟩
theorem wZ:∀(l:jh jd),aN D w (l.map vI) (j9 l.length dJ)
 |[]=>by rw[sh,aN];rfl
 |x::l=>by
  rw[qX,aN];exact⟨dJ,_,T,lg x,wZ l⟩
def ie(l:jh jd):jh ji:=cR (l.map vI) (j9 l.length dJ)
theorem IM(l:jh jd)(n:jd):ie (l++[n])=ie l++[I N 1,I N n,jj ⟨#[]⟩,jb A 0 0]:=by
 unfold ie;rw[j4,jL,show j9 (l.length+[n].length) dJ=j9 l.length dJ++[dJ] by simp[List.replicate_succ']];rw[sM _ _ _ _ ar]
 rfl
theorem tE(l:jh jd)(v:ji)(w:jg)(u:df w v l)(x:l.length<=1000000):
 jr jm 110 #[v] w λe w'=>∃j,e=jo j/\w'.ownsRow w 184 4 j l.length (ie l)/\jl w w w':=by
 obtain⟨p,c,rfl,z,a⟩:=u;obtain⟨n,b⟩:=J l.length;rw[<-b]at z x a⊢;have k:=O b;have m:=O a;clear b a
 go_enter func110,ntmps110
 go_wp2_with fail
 go_loopw [3,8] (λa v8 wr=>∃(i:je) (f:ji),a=f/\v8=I N i/\i<=n/\jk (wr.ownsRow w 184 4 f i (ie (l.take i)))/\jk (jl w w wr)) (λ_ v8 _=>n-(jv v8).toNat)
 case atStart=>exact⟨0,_,T,T,jJ _,O (by simpa [ie,cR]using j0 w w.heap.size 184 4),O (jy _ _)⟩
 obtain⟨i,f,rfl,rfl,H,q,b⟩:=hrel
 by_cases r:i<n
 ·have B:=aw ((i:jd)<(n:jd))
  have C:=aw (i<n);obtain⟨g,o,rfl,s⟩:=m Y;have d:i<l.length:=by rw[<-k];exact r
  have t:l.getD i 0=l[i]:=by simp[jO,d]
  obtain⟨y,h⟩:=J (l.getD i 0);have a:=s i r;rw[<-h]at a;have K:wr.cell? ⟨g,o+i,A⟩=ja (I N y):=(dY (b.block g (gh a))).trans a;have D:jk (ie (l.take (i+1))=ie (l.take i)++[I N 1,I N y,jj ⟨#[]⟩,jb A 0 0]):=O (by
   rw[o8 d,IM,h,t])
  have E:=b.size;clear t h a s d m
  go_wp2_with fail
  refine(kO y wr).mono ?_;rintro e a ⟨rfl,d⟩;have h:=bj q d;have t:=O (b.trans (d.mono E));have M:=d.size;clear d
  go_wp2_with (at_builtin;refine Hid.out ?_)
  refine O ?_;refine o1 T λ_ s=>pW _ _ T w.heap.size _ _ _ T (cL h (ao a _)) _ 1 [I N 1,I N y,jj ⟨#[]⟩,jb A 0 0] T (lz a [I N 1,I N y,jj ⟨#[]⟩,jb A 0 0] _ _ 4 1 1 T (jn _)) (by simp[j1]) (show i+1<=4000000 by omega) (by rw[jC];omega) λP Q d=>s _ _ ?_
  have F:=O (t.trans (((ao a _).mono (show w.heap.size<=a.heap.size by omega)).trans (d.below (cL h (ao a _)) (by rw[jC];omega))));replace d:=O d.own;clear s
  go_wp2_with fail
  refine⟨⟨i+1,_,T,by go_num,by omega,O (by rw[D];exact d),F⟩,?_⟩;simp only[jv];omega
 have B:=az ((i:jd)<(n:jd));have C:=az (i<n);have a:i=n:=Y;have d:=O a;clear a
 go_wp2_with fail
 go_ret;refine⟨_,T,?_,b⟩;have h:=q.out;rw[d,nv (by rw[<-k];exact jn _)]at h;exact h
section
variable{b:je}{D:je->Prop}{w w':jg}
section
variable {α:Type}
def dU(f:α->ji->jh ji):jh α->jh ji->jh ji
 |x::xs,a::b=>f x a++dU f xs b
 |_,_=>[]
theorem Dl(f:α->ji->jh ji):∀(l m:jh α) (a b:jh ji),a.length=l.length->dU f (l++m) (a++b)=dU f l a++dU f m b
 |[],m,a,b,h=>by
  have:a=[]:=qu (ak h);subst this
  cases m<;>cases b<;>simp[dU]
 |x::l,m,[],b,h=>by simp at h
 |x::l,m,c::a,b,h=>by
  simp only[qd,dU,Dl f l m a b (ak h),j6]
theorem wT(f:α->ji->jh ji)(k:je)(c:∀x a,(f x a).length=k):∀(l:jh α) (b:jh ji) (j i:je) (x:α) (a:ji),l[j]?=ja x->b[j]?=ja a->i<k->(dU f l b)[j*k+i]?=(f x a)[i]?
 |[],b,j,i,x,a,h,_,_=>by simp at h
 |y::l,[],j,i,x,a,_,h,_=>by simp at h
 |y::l,v::b,0,i,x,a,h,d,g=>by
  have e:y=x:=ak h;have m:v=a:=ak d;subst e;subst m;show(f y v++dU f l b)[0*k+i]?=_;rw[qV,ms,qL (by rw[c];exact g)]
 |y::l,v::b,j+1,i,x,a,h,d,g=>by
  show(f y v++dU f l b)[(j+1)*k+i]?=_;have m:(f y v).length=k:=c _ _;have e:(j+1)*k=k+j*k:=by rw[sn];omega
  rw[qM (by rw[m,e];omega),m,show(j+1)*k+i-k=j*k+i by omega];exact wT f k c l b j i x a (ak h) (ak d) g
theorem flat_length(f:α->jh ji)(k:je)(a:∀x,(f x).length=k)(l:jh α):(l.flatMap f).length=l.length*k:=by
 induction l with
 |nil=>simp
 |cons x l b=>rw[sq,jL,b,a,jW,sn];omega
theorem flat_get(f:α->jh ji)(k:je)(a:∀x,(f x).length=k):∀(l:jh α) (j i:je) (x:α),l[j]?=ja x->i<k->(l.flatMap f)[j*k+i]?=(f x)[i]?
 |[],j,i,x,h,_=>by simp at h
 |y::l,0,i,x,h,b=>by
  have e:y=x:=ak h;subst e;rw[sq,qV,ms,qL (by rw[a];exact b)]
 |y::l,j+1,i,x,h,b=>by
  have e:(j+1)*k=k+j*k:=by rw[sn];omega
  rw[sq,qM (by rw[a,e];omega),a,show(j+1)*k+i-k=j*k+i by omega];exact flat_get f k a l j i x (ak h) b
end
def ez(D:je->Prop)(w:jg):jh (LBy)->jh ji->Prop
 |[],a=>a=[]
 |b::e,a=>∃c d,a=c::d/\aG D w c 1 b.length (b.map v8)/\ez D w e d
theorem ez.keep(d:∀g,D g->w'.heap[g]?=w.heap[g]?):∀{c:jh (LBy)} {a:jh ji},ez D w c a->ez D w' c a
 |[],a,h=>h
 |b::c,a,⟨e,f,g,i,j⟩=>⟨e,f,g,i.keep d,j.keep d⟩
theorem ez.mono{D':je->Prop}(d:∀g,D g->D' g):∀{c:jh (LBy)} {a:jh ji},ez D w c a->ez D' w c a
 |[],a,h=>h
 |b::c,a,⟨e,f,g,i,j⟩=>⟨e,f,g,i.mono d,j.mono d⟩
theorem ez.len:∀{c:jh (LBy)} {a:jh ji},ez D w c a->a.length=c.length
 |[],a,h=>by rw[show a=[]from h];rfl
 |b::c,a,⟨f,g,d,i,e⟩=>by rw[d];simp[e.len]
theorem ez.at:∀{f:jh (LBy)} {a:jh ji} {i:je} {b:LBy},ez D w f a->f[i]?=ja b->∃c,a[i]?=ja c/\aG D w c 1 b.length (b.map v8)
 |[],a,i,x,h,d=>by simp at d
 |y::l,a,i,x,⟨c,o,g,j,k⟩,d=>by
  subst g
  rcases i with _|i
  ·have e:y=x:=ak d
   subst e;exact⟨c,T,j⟩
  obtain⟨e,m,n⟩:=k.at (i:=i) (ak d);exact⟨e,by simpa using m,n⟩
theorem ez.snoc{b:LBy}{f:ji}(e:aG D w f 1 b.length (b.map v8)):∀{d:jh (LBy)} {a:jh ji},ez D w d a->ez D w (d++[b]) (a++[f])
 |[],a,h=>by rw[show a=[]from h];exact⟨f,[],T,e,T⟩
 |x::d,a,⟨v,c,g,i,j⟩=>⟨v,c++[f],by rw[g];rfl,i,j.snoc e⟩
theorem aG.bytes{v:ji}{l:LBy}(h:aG D w v 1 l.length (l.map v8)):bD w v l:=by
 obtain⟨-,p,c,b,d,f,i⟩:=h;refine⟨p,c,b,d,f,λk=>?_⟩;obtain⟨g,o,e,-,m⟩:=i k;refine⟨g,o,e,λj a=>m j _ ?_⟩;rw[qw,oj a];simp[jO,a]
theorem aG.form{f:ji}{j:je}{d:jh ji}(h:aG D w f b j d):∃p c,f=jb p j c:=by
 obtain⟨-,p,c,a,-⟩:=h;exact⟨p,c,a⟩
theorem aG.of_own{B sz n:je}{e:jH}{v:ji}{xs:jh ji}(h:w.ownsRow B e sz v n xs)(a:∀g,v.ownBlock=ja g->D g):aG D w v sz n xs:=by
 obtain⟨b,p,c,rfl,d,f,i⟩:=cE.of_own h;refine⟨b,p,c,T,d,f,λj=>?_⟩;obtain⟨g,o,rfl,k⟩:=i j;exact⟨g,o,T,a g T,k⟩
def ap.cells(x:ap):jh ji:=[I N x.k,I N x.d,I N x.p,I N x.v,I N x.c]
def Bx.cells(x:Bx)(a:ji):jh ji:=[I N x.node,I N x.lev,I N x.u,a]
def Wl.cells(x:Wl)(a:ji):jh ji:=[I N x.dev,I N x.u,a]
structure CQ where
 vc:ji
 vp:ji
 vb:ji
 vw:ji
def aE(c:Cmt)(q:CQ):jh ji:=
 I N c.folder::I N c.epoch::(c.parent.map v8++(I N c.author::q.vc::q.vp::q.vb::q.vw::(c.confirm.map v8++[I N c.r,I N c.s])))
structure aW(D:je->Prop)(w:jg)(c:Cmt)(q:CQ):Prop where
 chg:aG D w q.vc 5 c.chg.length (c.chg.flatMap ap.cells)
 path:aG D w q.vp 1 c.path.length (c.path.map (jE .i64))
 box:∃a,aG D w q.vb 4 c.box.length (dU Bx.cells c.box a)/\ez D w (c.box.map Bx.body) a
 wel:∃a,aG D w q.vw 3 c.wel.length (dU Wl.cells c.wel a)/\ez D w (c.wel.map Wl.body) a
 plen:c.parent.length=32
 clen:c.confirm.length=32
theorem aW.keep{c:Cmt}{q:CQ}(h:aW D w c q)(a:∀g,D g->w'.heap[g]?=w.heap[g]?):aW D w' c q:=by
 obtain⟨b,d,⟨e,f,g⟩,⟨i,j,k⟩,l,m⟩:=h;exact⟨b.keep a,d.keep a,⟨e,f.keep a,g.keep a⟩,⟨i,j.keep a,k.keep a⟩,l,m⟩
theorem aW.mono{D':je->Prop}{c:Cmt}{q:CQ}(h:aW D w c q)(a:∀g,D g->D' g):aW D' w c q:=by
 obtain⟨b,d,⟨e,f,g⟩,⟨i,j,k⟩,l,m⟩:=h;exact⟨b.mono a,d.mono a,⟨e,f.mono a,g.mono a⟩,⟨i,j.mono a,k.mono a⟩,l,m⟩
theorem aW.below{c:Cmt}{q:CQ}(h:aW (·<w.heap.size) w c q)(b:jl w w w'):aW (·<w'.heap.size) w' c q:=
 (h.keep λg a=>b.block g a).mono λg (a:g<w.heap.size)=>jN a b.size
structure dW(w:jg)(b:je)(c:Cmt)(q:CQ):Prop where
 blk:w.heap[b]?=ja (jc (aE c q).toArray 48 (0,0))
 plen:c.parent.length=32
 clen:c.confirm.length=32
theorem dl(c:Cmt)(q:CQ)(a:c.parent.length=32)(b:c.confirm.length=32):(aE c q).length=73:=by
 unfold aE;simp[a,b]
theorem dW.keep{c:Cmt}{q:CQ}(h:dW w b c q)(a:w'.heap[b]?=w.heap[b]?):dW w' b c q:=⟨a.trans h.blk,h.plen,h.clen⟩
theorem dW.get{a:Cmt}{q:CQ}(h:dW w b a q){i:je}{v:ji}(c:(aE a q)[i]?=ja v):w.cell? ⟨b,i,A⟩=ja v:=
 ai h.blk (ak c)
theorem iO(c:Cmt)(q:CQ)(d:c.parent.length=32)(e:c.confirm.length=32):
 (aE c q)[0]?=ja (I N c.folder)/\(aE c q)[1]?=ja (I N c.epoch)/\(aE c q)[34]?=ja (I N c.author)/\(aE c q)[35]?=ja q.vc/\(aE c q)[36]?=ja q.vp/\
 (aE c q)[37]?=ja q.vb/\(aE c q)[38]?=ja q.vw/\(aE c q)[71]?=ja (I N c.r)/\(aE c q)[72]?=ja (I N c.s):=by
 have k:∀(l r:jh ji) (i:je),l.length=32->(l++r)[32+i]?=r[i]?:=λl r i f=>by
  rw[qM Y,f];congr 1;omega
 have a:(c.parent.map v8).length=32:=by rw[jD];exact d
 have b:(c.confirm.map v8).length=32:=by rw[jD];exact e
 unfold aE;refine⟨T,T,?_,?_,?_,?_,?_,?_,?_⟩
 ·exact k _ _ 0 a
 ·exact k _ _ 1 a
 ·exact k _ _ 2 a
 ·exact k _ _ 3 a
 ·exact k _ _ 4 a
 ·exact(k _ _ (5+32) a).trans (k _ _ 0 b)
 exact(k _ _ (5+33) a).trans (k _ _ 1 b)
theorem C5(c:Cmt)(q:CQ)(d:c.parent.length=32){j:je}(f:j<32):(aE c q)[2+j]?=ja (I .u8 (c.parent.getD j 0).toNat):=by
 unfold aE;have e:∀(a b:ji) (l:jh ji),(a::b::l)[2+j]?=l[j]?:=λa b l=>by rw[show 2+j=j+1+1 by omega];rfl
 rw[e,qL (by rw[jD];omega),qw,oj Y];simp[jO,d,f]
theorem NR(c:Cmt)(q:CQ)(g:c.parent.length=32)(h:c.confirm.length=32){j:je}(i:j<32):(aE c q)[39+j]?=ja (I .u8 (c.confirm.getD j 0).toNat):=by
 unfold aE;have e:∀(a b:ji) (l:jh ji),(a::b::l)[39+j]?=l[37+j]?:=λa b l=>by rw[show 39+j=37+j+1+1 by omega];rfl
 have k:(c.parent.map v8).length=32:=by rw[jD];exact g
 have m:∀(a b c d f:ji) (l:jh ji),(a::b::c::d::f::l)[5+j]?=l[j]?:=λa b c d f l=>by rw[show 5+j=j+1+1+1+1+1 by omega];rfl
 rw[e,qM Y,k,show 37+j-32=5+j by omega,m,qL (by rw[jD];omega),qw,oj Y];simp[jO,h,i]
theorem dW.parent{c:Cmt}{q:CQ}(h:dW w b c q):bD w (jb (ja ⟨b,2,A⟩) 32 32) c.parent:=
 ⟨_,32,by rw[h.plen],by rw[h.plen];exact jn _,(λe=>by cases e),λ_=>⟨b,2,T,λj a=>h.get (C5 c q h.plen (by rw[h.plen]at a;exact a))⟩⟩
theorem dW.confirm{c:Cmt}{q:CQ}(h:dW w b c q):bD w (jb (ja ⟨b,39,A⟩) 32 32) c.confirm:=
 ⟨_,32,by rw[h.clen],by rw[h.clen];exact jn _,(λe=>by cases e),λ_=>⟨b,39,T,λj a=>h.get (NR c q h.plen h.clen (by rw[h.clen]at a;exact a))⟩⟩
structure Bld(M b:je)(w0 wr:jg)(l:jh Val)(a:ji)(c:jh ji):Prop where
 box:wr.heap[b]?=ja (jc #[I N 3,I N 0,jj ⟨#[]⟩,a] 184 (0,0))
 own:wr.ownsRow M 184 4 a l.length (cR l c)
 kids:aN (λg=>M<=g/\g<wr.heap.size/\a.ownBlock≠ja g) wr l c
 but:dy b M w0 wr
 sz:M<=wr.heap.size
theorem Bld.start{M a:je}(b:w.heap[a]?=ja (jc #[I N 3,I N 0,jj ⟨#[]⟩,dJ] 184 (0,0)))(c:M<=w.heap.size):Bld M a w w [] dJ []:=
 ⟨b,by simpa [cR]using j0 w M 184 4,by rw[aN],dy.refl _ _ _,c⟩
theorem Bld.later{j:je}{e wr:jg}{l:jh Val}{f:ji}{d:jh ji}(h:Bld b j w e l f d)(i:j<b)(a:jl e e wr):Bld b j w wr l f d:=
 ⟨(a.block j (jN i h.sz)).trans h.box,cL h.own a,aN.mono (λg M=>⟨M.1,jN M.2.1 a.size,M.2.2⟩) l d (aN.keep (λg M=>a.block g M.2.1) l d h.kids),
  h.but.trans (dy.of_below (a.mono h.sz)) (jn _),jz h.sz a.size⟩
theorem Bld.push{M j:je}{w0 c p m:jg}{l:jh Val}{n o:ji}{f:jh ji}(h:Bld M j w0 c l n f)(D:j<M){x:Val}{i:ji}
 (t:aV (λg=>M<=g/\g<c.heap.size/\n.ownBlock≠ja g) c x i) (a:cD M 184 4 c p n o (l.length+1) (cR l f++gU x i))
 (u:m.heap[j]?=ja (jc #[I N 3,I N 0,jj ⟨#[]⟩,o] 184 (0,0))) (b:pU j p m):Bld M j w0 m (l++[x]) o (f++[i]):=by
 have v:=h.kids.len;have q:∀g,(M<=g/\g<c.heap.size/\n.ownBlock≠ja g)->m.heap[g]?=c.heap[g]?:=λg d=>
  (b.block g Y).trans (a.grown.block g d.2.1 (λe=>d.2.2 e.symm))
 have r:∀g,(M<=g/\g<c.heap.size/\n.ownBlock≠ja g)->(M<=g/\g<m.heap.size/\o.ownBlock≠ja g):=λg d=>
  ⟨d.1,by rw[b.size];exact jN d.2.1 a.grown.size,a.ne d.2.1 d.2.2⟩
 refine⟨u,?_,aN.append (aN.mono r _ _ (aN.keep q _ _ h.kids)) (aN.one (aV.mono r _ _ (aV.keep q _ _ t))),?_,?_⟩
 ·have e:cR (l++[x]) (f++[i])=cR l f++gU x i:=by
   rw[sM l [x] f [i] v];simp[cR]
  rw[e,jL];have s:=a.own;refine⟨s.1,?_⟩
  rcases s.2 with k|⟨g,w,y,z,k,B,C⟩
  ·exact .inl k
  exact .inr ⟨g,w,y,z,k,(b.block g Y).trans B,C⟩
 ·refine h.but.trans ⟨b.os.trans a.grown.os,b.tape.trans a.grown.tape,b.output.trans a.grown.output,by rw[b.size];exact a.grown.size,λk s w=>?_⟩ (jn _)
  refine(b.block k w).trans (a.grown.block k (jN s h.sz) (λe=>?_));have:=(h.own.lt k e.symm).1;omega
 rw[b.size];exact jz h.sz a.grown.size
end
theorem lf{w':jS je}(h:w.heap[B]?=ja o)(b:w.grownBy a w')(c:w'≠ja B):a.heap[B]?=ja o:=
 (b.block B (jK.1 h).1 (λe=>c e.symm)).trans h
theorem av(h:w.heap[B]?=ja o)(w':jl w w a):a.heap[B]?=ja o:=
 (w'.block B (jK.1 h).1).trans h
theorem Bld.fresh{i:jg}(h:Bld B m w a f d b)(p:jl a a i){e:jH}{sz n:je}{c:ji}{xs:jh ji}(j:i.ownsRow a e sz c n xs):
 ∀g,c.ownBlock=ja g->B<=g/\g<i.heap.size/\d.ownBlock≠ja g:=λg k=>by
 obtain⟨l,o⟩:=j.lt g k;exact⟨jz h.sz l,o,λe=>by have:=(h.own.lt g e).2;omega⟩
theorem Bld.fin(h:Bld B m w a f d b):aV (λg=>B<=g/\g<a.heap.size) a (vL f) d:=by
 rw[vL,aV];exact⟨b,aG.of_own h.own (λg wr=>h.own.lt g wr),aN.mono (λg wr=>⟨wr.1,wr.2.1⟩) f b h.kids⟩
theorem se{a:ji}{l:jh jd}(b:w.ownsRow B 184 4 a l.length (ie l))(c:∀g,a.ownBlock=ja g->D g):aV D w (vL (l.map vI)) a:=by
 rw[vL,aV];exact⟨j9 l.length dJ,by rw[jD];exact aG.of_own b c,wZ l⟩
theorem PY(W:jg)(l:jh jd)(t:jH):df (W.alloc (jc (l.map (jE .i64)).toArray t)) (jb (ja ⟨W,0,A⟩) l.length l.length) l:=by
 refine⟨_,l.length,T,jn _,λ_=>⟨W.heap.size,0,T,λj a=>?_⟩⟩;refine ai (js W _) ?_;rw[ms];simp[jO,a]
theorem zq(W:jg)(xs:jh ji)(t:jH)(sz n B:je)(b:B<=W.heap.size)(a:xs.length=n*sz)(c:n<=j3):(W.alloc (jc xs.toArray t)).ownsRow B t sz (jb (ja ⟨W,0,A⟩) n n) n xs:=by
 refine⟨a,.inr ⟨W.heap.size,n,xs.toArray,T,b,js W _,jn _,c,by simpa using a,?_⟩⟩;simp[<-a]
theorem wR{α:Type}{l:jh α}{j:je}(h:j<l.length):∃x,l[j]?=ja x/\l.take (j+1)=l.take j++[x]:=
 ⟨l[j],oj h,o8 h⟩
theorem aN.nil:aN D w [] []:=by rw[aN]
theorem aN.cons{u:Val}(h:aV D w u d)(t:aN D w f b):aN D w (u::f) (d::b):=by
 rw[aN];exact⟨d,b,T,h,t⟩
theorem aG.ints{v:ji}{l:jh jd}(h:aG D w v 1 l.length (l.map (jE .i64))):df w v l:=by
 obtain⟨-,p,c,b,d,m,f⟩:=h;refine⟨p,c,b,d,λi=>?_⟩;obtain⟨g,o,e,-,k⟩:=f i;refine⟨g,o,e,λj a=>k j _ ?_⟩;rw[qw,oj a];simp[jO,a]
def vB(w w':jg)(c:Cmt)(v:ji):Prop:=∃a,w'.ownsRow w 184 4 v 11 (cR (aR c) a)/\aN (λg=>w.heap.size<=g/\g<w'.heap.size) w' (aR c) a
theorem rj(k:r)(h:r->p:=by intro k;refine fZ (v:=?_) rfl aj (λW' hS=>?_) ?_;rotate_left;(have k3:=ai (i:=3) hS.1 rfl;have e0:=ai (i:=0) hS.2 rfl;have e1:=ai (i:=1) hS.2 rfl;have e2:=ai (i:=2) hS.2 rfl;have e3:=ai (i:=3) hS.2 rfl;have e4:=ai (i:=4) hS.2 rfl;go_simp;with_reducible rfl);refine G ?_;exact k):p:=h k
theorem tX(k:r)(h:r->p:=by intro k;refine fZ (v:=?_) rfl aj (λW' hS=>?_) ?_;rotate_left;(have k3:=ai (i:=3) hS.1 rfl;have e0:=ai (i:=0) hS.2 rfl;have e1:=ai (i:=1) hS.2 rfl;have e2:=ai (i:=2) hS.2 rfl;have e3:=ai (i:=3) hS.2 rfl;go_simp;with_reducible rfl);refine G ?_;exact k):p:=h k
theorem wy(k:r)(h:r->p:=by intro k;refine fZ (v:=?_) rfl aj (λW' hS=>?_) ?_;rotate_left;(have k3:=ai (i:=3) hS.1 rfl;have e0:=ai (i:=0) hS.2 rfl;have e1:=ai (i:=1) hS.2 rfl;have e2:=ai (i:=2) hS.2 rfl;go_simp;with_reducible rfl);refine G ?_;exact k):p:=h k
theorem tm(c:Cmt)(q:CQ)(w:jg)(d:aW (·<w.heap.size) w c q)(l1:c.chg.length<=1000000)(l2:c.path.length<=1000000)(l3:c.box.length<=1000000)(l4:c.wel.length<=1000000):
 jr jm 51 #[jq (aE c q).toArray] w λe w'=>∃v,e=jo v/\vB w w' c v/\jl w w w':=by
 have h:dW (w.alloc (jc (aE c q).toArray 48)) w.heap.size c q:=⟨js w _,d.plen,d.clen⟩;have i:=ao w (jc (aE c q).toArray 48);have X:=O d;have y:=O h;have C:=O i;obtain⟨UI,f⟩:=J ((aE c q).toArray);rw[<-f]at y C⊢;have bh:=O f;obtain⟨b,g⟩:=J w.heap.size;rw[<-g]at y;have cm:=O g;clear h i d f g
 go_enter func51,ntmps51
 go_wp2_with fail
 refine(mT A 0 0 _).mono ?_;rintro e w1 ⟨rfl,d⟩;replace y:=O (y.keep (d.block b (by rw[cm];simp)));replace C:=ah C d;clear d
 go_wp2_with fail
 refine(mT A 0 0 _).mono ?_;rintro e w2 ⟨rfl,d⟩;have f:=(jK.1 y.blk).1;replace y:=O (y.keep (d.block b f));replace C:=ah C d;clear d f
 go_wp2_with fail
 refine(mT A 0 0 _).mono ?_;rintro e w3 ⟨rfl,d⟩;have f:=(jK.1 y.blk).1;replace y:=O (y.keep (d.block b f));replace C:=ah C d;clear d f
 go_upto_region 2 with fail
 obtain⟨r,h⟩:=J w3.heap.size;have m:=js w3 (jc #[I N 3,I N 0,jj ⟨#[]⟩,jb A 0 0] 184);have bk:=js (w3.alloc (jc #[I N 3,I N 0,jj ⟨#[]⟩,jb A 0 0] 184)) (jc #[I N 3,I N 0,jj ⟨#[]⟩,jb A 0 0] 184);have Yk:=js ((w3.alloc (jc #[I N 3,I N 0,jj ⟨#[]⟩,jb A 0 0] 184)).alloc (jc #[I N 3,I N 0,jj ⟨#[]⟩,jb A 0 0] 184)) (jc #[I N 3,I N 0,jj ⟨#[]⟩,jb A 0 0] 184);have k:jl w3 w3 (((w3.alloc (jc #[I N 3,I N 0,jj ⟨#[]⟩,jb A 0 0] 184)).alloc (jc #[I N 3,I N 0,jj ⟨#[]⟩,jb A 0 0] 184)).alloc (jc #[I N 3,I N 0,jj ⟨#[]⟩,jb A 0 0] 184)):=(((jy _ w3).alloc (jn _) _).alloc ar _).alloc (by simp;omega) _;obtain⟨W,i⟩:=J ((((w3.alloc (jc #[I N 3,I N 0,jj ⟨#[]⟩,jb A 0 0] 184)).alloc (jc #[I N 3,I N 0,jj ⟨#[]⟩,jb A 0 0] 184)).alloc (jc #[I N 3,I N 0,jj ⟨#[]⟩,jb A 0 0] 184)));have n:W.heap[r]?=ja (jc #[I N 3,I N 0,jj ⟨#[]⟩,dJ] 184 (0,0)):=by
  rw[i,h,jF _ _ _ (by simp;omega),jF _ _ _ ar];exact m
 have o:W.heap[r+1]?=ja (jc #[I N 3,I N 0,jj ⟨#[]⟩,dJ] 184 (0,0)):=by
  rw[i,h,jF _ _ _ ar];simpa using bk
 have p:W.heap[r+2]?=ja (jc #[I N 3,I N 0,jj ⟨#[]⟩,dJ] 184 (0,0)):=by
  rw[i,h];simpa using Yk
 have s:W.heap.size=r+3:=by rw[i,h];simp
 rw[<-i]at k⊢;have f:=(jK.1 y.blk).1;replace y:=O (y.keep (k.block b f));have t:w.heap.size<=r:=by rw[h];exact C.size
 replace C:=ah C k;have x:b<r:=by rw[h];exact f
 have u:=O t;have YS:=O x;have cs:=O n;have U7:=O o;have Vn:=O p;have U8:=O s;rw[<-h,<-cm];have cp:jk (∀g,g<w.heap.size->W.heap[g]?=w.heap[g]?):=O (λg B=>C.block g B);clear m bk Yk n o p k f t x s i h;obtain⟨c0,c1,ZA,Y8,bi,a2,a3,bl,bm⟩:=iO c q X.plen X.clen;replace Y8:=y.get Y8;obtain⟨bC,p1,q1,a4,bI,bK,Wg⟩:=X.chg;obtain⟨n1,a5⟩:=J c.chg.length;rw[a4]at Y8;rw[<-a5]at Y8 l1 bI;have b2:=O a5;have V:=O Wg;clear c0 c1 ZA bi a2 a3 bl bm bC a4 bK a5 Wg
 go_wp2_with fail
 have Wd:=O (Bld.start (M:=(r+3)) cs (qi U8.symm))
 go_loopw [18] (λv wr=>∃(i:je) (vr:ji) (us:jh ji),v=I N i/\i<=n1/\jk (Bld (r+3) r W wr ((c.chg.take i).map ap.val) vr us)) (λv _=>n1-(jv v).toNat)
 case atStart=>exact⟨0,dJ,[],T,jJ _,Wd⟩
 clear Wd Y8;obtain⟨i,vr,us,rfl,hi,m⟩:=hrel
 by_cases bn:i<n1
 ·have hd:=aw ((i:jd)<(n1:jd))
  have UL:=aw (i<n1);obtain⟨g,o,rfl,b3,bo⟩:=V (aJ b2);obtain⟨x,hx,bp⟩:=wR (l:=c.chg) (j:=i) (by rw[<-b2];exact bn);have bq:g<(r+3):=aJ u;have br:g≠r:=aJ u;have Vk:=(m.but.block g bq br).trans (cp g b3);have aa:=λk hk=>(dY (a:=⟨g,o+(i*5+k),A⟩) Vk).trans (bo (i*5+k) _ ((flat_get ap.cells 5 (λ_=>rfl) c.chg i k x hx hk).trans (show x.cells[k]?=ja (x.cells.getD k (I N 0)) by have:x.cells.length=5:=T;simp[jO,oj (show k<x.cells.length by omega)])))
  have d0:wr.cell? ⟨g,o+i*5,A⟩=ja (I N x.k):=aa 0 L;have d1:wr.cell? ⟨g,o+i*5+1,A⟩=ja (I N x.d):=aa 1 L;have d2:wr.cell? ⟨g,o+i*5+2,A⟩=ja (I N x.p):=aa 2 L;have p:wr.cell? ⟨g,o+i*5+3,A⟩=ja (I N x.v):=aa 3 L;have f:wr.cell? ⟨g,o+i*5+4,A⟩=ja (I N x.c):=aa 4 L;have b4:=O bp;clear bq br Vk aa bo hx bp;obtain⟨P,Q,ad⟩:=cK m.own;have a6:((c.chg.take i).map ap.val).length=i:=by rw[jD,qh,<-b2];omega
  rw[a6]at ad;have bs:=O a6;subst ad;clear a6
  go_upto_region 5 with fail
  obtain⟨bx,ba⟩:=J wr.heap.size;have ay:=js wr (jc #[I N x.k,I N x.d,I N x.p,I N x.v,I N x.c] 62);have n:=ao wr (jc #[I N x.k,I N x.d,I N x.p,I N x.v,I N x.c] 62);have YC:jk ((jP P i Q).ownBlock≠ja bx):=O (eY m.own (.inl (qi ba.symm)));rw[<-ba]at ay⊢;obtain⟨R,Zl⟩:=J (wr.alloc (jc #[I N x.k,I N x.d,I N x.p,I N x.v,I N x.c] 62));rw[<-Zl]at ay n⊢;have bb:=n.trans ((bV R).mono n.size);have a1:jk (Bld (r+3) r W R.drew ((c.chg.take i).map ap.val) (jb P i Q) us):=O (m.later Y bb);have E:R.drew.heap[r]?=ja (jc #[I N 3,I N 0,jj ⟨#[]⟩,jb P i Q] 184 (0,0))/\R.drew.heap[bx]?=ja (jc #[I N x.k,I N x.d,I N x.p,I N x.v,I N x.c] 62 (0,0)):=⟨a1.box,ay⟩;clear ay n Zl ba m bb d0 d1 d2 p f;refine jT ?_;refine lJ (λF=>F.heap[r]?=ja (jc #[I N 3,I N 0,jj ⟨#[]⟩,jb P i Q] 184 (0,0))/\F.heap[bx]?=ja (jc #[I N x.k,I N x.d,I N x.p,I N x.v,I N x.c] 62 (0,0))) 18 [(0,jf),(1,jf),(2,jf),(3,jf),(4,jf),(5,jf),(6,jf),(7,jf),(8,jf),(9,jf),(10,jf),(11,jf),(12,jp),(13,jp),(14,jp),(15,jp),(16,jp),(17,jf),(18,jp)] af af af L (λ_ _ _ _ h=>h) E ?_;generalize R.drew=wa at E a1⊢;refine fD ?_;refine rj ?_;refine fD ?_;refine rj ?_;refine fD ?_;refine rj ?_;refine fD ?_;refine rj ?_;refine fD ?_;refine rj ?_;refine fD ?_;refine rj ?_;refine dq T (λt f=>?_);go_simp;have n:=ao wa (jc #[I N x.k,I N x.d,I N x.p,I N x.v,I N x.c] 3);have s:df (wa.alloc (jc #[I N x.k,I N x.d,I N x.p,I N x.v,I N x.c] 3)) (jb (ja ⟨wa,0,A⟩) 5 5) [x.k,x.d,x.p,x.v,x.c]:=PY wa [x.k,x.d,x.p,x.v,x.c] 3;refine f _ _ ⟨av E.1 n,av E.2 n⟩ λS=>?_
  clear f;generalize wa.alloc (jc #[I N x.k,I N x.d,I N x.p,I N x.v,I N x.c] 3)=wb at n s S⊢;have z:=O n;have H:=O s;clear n s;refine G ?_;refine dq T (λt f=>?_);go_simp;refine(tE _ _ wb H ar).mono ?_;rintro e wc ⟨u1,rfl,D,d⟩;obtain⟨s,cu,rfl⟩:=cK D;refine f _ _ ⟨av S.1 d,av S.2 d⟩ λU=>?_
  have VI:jk (wc.ownsRow wa 184 4 (jb s 5 cu) 5 (ie [x.k,x.d,x.p,x.v,x.c])):=O (sw D z.size);have bu:=ah z d;clear f D d H z S;refine G ?_;refine dq T (λt f=>?_);go_simp;refine(mT s 5 cu wc).mono ?_;rintro e wd ⟨rfl,d⟩;refine f _ _ ⟨av U.1 d,av U.2 d⟩ λau=>?_
  have Vm:=bj VI d;have bv:=ah bu d;clear f d VI bu U;refine G ?_;refine dq T (λt f=>?_);go_simp;have n:=ao wd (jc #[I N 3,I N 0,jj ⟨#[]⟩,jb s 5 cu] 184);have ax:=lz wd [I N 3,I N 0,jj ⟨#[]⟩,jb s 5 cu] 184 (0,0) 4 1 1 T (jn _);refine f _ _ ⟨av au.1 n,av au.2 n⟩ λH=>?_
  clear f;replace ax:cE (wd.alloc (jc #[I N 3,I N 0,jj ⟨#[]⟩,jb s 5 cu] 184)) (jb (ja ⟨wd,0,A⟩) 1 1) 4 1 [I N 3,I N 0,jj ⟨#[]⟩,jb s 5 cu]:=ax;generalize wd.alloc (jc #[I N 3,I N 0,jj ⟨#[]⟩,jb s 5 cu] 184)=we at n ax H⊢;have Yy:=bj Vm n;have Yx:=ah bv n;have Vb:=O ax;have U5:=O (a1.later Y Yx);have b5:=O (se (l:=[x.k,x.d,x.p,x.v,x.c]) Yy (a1.fresh Yx Yy));clear n ax Vm bv au;refine G ?_;refine dq T (λt f=>?_);rw[jB aj];refine pW _ _ T (r+3) (jb P i Q) _ _ T U5.own _ 1 _ T Vb (by simp[j1]) (by rw[bs];omega) U5.sz λv' wf K=>?_
  have UC:=K.own;rw[bs]at UC;obtain⟨pn,cn,rfl⟩:=cK UC;have bk:=lf H.1 K.grown (eY U5.own (.inr Y));have Yk:=lf H.2 K.grown YC;refine f _ _ ⟨bk,Yk⟩ λbM=>?_
  replace K:=O K;clear f H UC;refine G ?_;refine fD ?_;refine pB T (λt f=>?_);obtain⟨⟨vo,c3⟩,f3,bw,bA⟩:=kp (i:=3) (jb pn (i+1) cn) bM.1 ar;go_simp;refine f _ _ ?_;have b6:=O (U5.push Y (x:=ap.val x) b5 K bw bA);clear f c3 f3 bw bA;refine jR ?_
  go_wp2_with fail
  refine⟨⟨i+1,_,_,by go_num,by omega,by rw[b4,j4];exact b6⟩,?_⟩;simp only[jv];omega
 have hd:=az ((i:jd)<(n1:jd));have UL:=az (i<n1);have bB:c.chg.take i=c.chg:=nv (by rw[<-b2];omega);replace m:jk (Bld (r+3) r W wr (c.chg.map ap.val) vr us):=O (by rw[<-bB];exact m);clear bB V;obtain⟨bc,bd,ad⟩:=cK m.own;rw[jD,<-b2]at ad;subst ad;have ZY:=O m.fin;obtain⟨M2,hM⟩:=J wr.heap.size;have VL:=O hM;have cv:(r+3)<=M2:=by rw[hM];exact m.sz
 rw[<-hM]at ZY;have cg:jk (∀g,g<w.heap.size->wr.heap[g]?=w.heap[g]?):=O (λg B=>(m.but.block g (aJ u) (aJ u)).trans (cp g B));replace y:=O (y.keep (m.but.block b (aJ YS) (aJ YS)));replace C:jk (jl w w wr):=O (C.trans (m.but.below (aJ u) (aJ u)));have Vv:=O m.box;replace U7:=O ((m.but.block (r+1) Y Y).trans U7);replace Vn:=O ((m.but.block (r+2) Y Y).trans Vn);clear m;clear hM;rename jg=>W2;obtain⟨c0,c1,ZA,Y8,bi,a2,a3,bl,bm⟩:=iO c q X.plen X.clen;replace a2:=y.get a2;obtain⟨ub,⟨bC,p1,q1,a4,bI,bK,Wg⟩,b7⟩:=X.box;have ci:=O b7;clear b7;obtain⟨n2,a5⟩:=J c.box.length;rw[a4]at a2;rw[<-a5]at a2 l3 bI;have b8:=O a5;have UH:=O Wg;clear c0 c1 ZA Y8 bi a3 bl bm bC a4 bK a5 Wg
 go_wp2_with fail
 clear bn hd UL hi;have Wd:=O (Bld.start (M:=M2) U7 (qi VL))
 go_loopw [44] (λv wr=>∃(i:je) (vr:ji) (us:jh ji),v=I N i/\i<=n2/\jk (Bld M2 (r+1) W2 wr ((c.box.take i).map Bx.val) vr us)) (λv _=>n2-(jv v).toNat)
 case atStart=>exact⟨0,dJ,[],T,jJ _,Wd⟩
 clear Wd a2;obtain⟨i,vr,us,rfl,hi,m⟩:=hrel
 by_cases bn:i<n2
 ·have hd:=aw ((i:jd)<(n2:jd))
  have UL:=aw (i<n2);obtain⟨g,o,rfl,b3,bo⟩:=UH (aJ b8);obtain⟨x,hx,bp⟩:=wR (l:=c.box) (j:=i) (by rw[<-b8];exact bn);have bq:g<M2:=aJ u;have br:g≠(r+1):=aJ u;have Vk:=(m.but.block g bq br).trans (cg g b3);obtain⟨ux,b9,bN⟩:=ci.at (i:=i) (b:=x.body) (by rw[qw,hx];rfl);obtain⟨z,D,rfl⟩:=bN.form;have aa:=λk hk=>(dY (a:=⟨g,o+(i*4+k),A⟩) Vk).trans (bo (i*4+k) _ ((wT Bx.cells 4 (λ_ _=>rfl) c.box ub i k x _ hx b9 hk).trans (show(x.cells (jb z x.body.length D))[k]?=ja ((x.cells (jb z x.body.length D)).getD k (I N 0)) by have:(x.cells (jb z x.body.length D)).length=4:=T;simp[jO,oj (show k<(x.cells (jb z x.body.length D)).length by omega)])))
  have d0:wr.cell? ⟨g,o+i*4,A⟩=ja (I N x.node):=aa 0 L;have d1:wr.cell? ⟨g,o+i*4+1,A⟩=ja (I N x.lev):=aa 1 L;have d2:wr.cell? ⟨g,o+i*4+2,A⟩=ja (I N x.u):=aa 2 L;have p:wr.cell? ⟨g,o+i*4+3,A⟩=ja (jb z x.body.length D):=aa 3 L;clear b9;have b4:=O bp;clear bq br Vk aa bo hx bp;obtain⟨P,Q,ad⟩:=cK m.own;have a6:((c.box.take i).map Bx.val).length=i:=by rw[jD,qh,<-b8];omega
  rw[a6]at ad;have bs:=O a6;subst ad;clear a6
  go_upto_region 10 with fail
  obtain⟨bx,ba⟩:=J wr.heap.size;have ay:=js wr (jc #[I N x.node,I N x.lev,I N x.u,jb z x.body.length D] 92);have n:=ao wr (jc #[I N x.node,I N x.lev,I N x.u,jb z x.body.length D] 92);have YC:jk ((jP P i Q).ownBlock≠ja bx):=O (eY m.own (.inl (qi ba.symm)));rw[<-ba]at ay⊢;obtain⟨R,Zl⟩:=J (wr.alloc (jc #[I N x.node,I N x.lev,I N x.u,jb z x.body.length D] 92));rw[<-Zl]at ay n⊢;have bb:=n.trans ((bV R).mono n.size);have a1:jk (Bld M2 (r+1) W2 R.drew ((c.box.take i).map Bx.val) (jb P i Q) us):=O (m.later Y bb);have bO:jk (bD R.drew (jb z x.body.length D) x.body):=O ((bN.keep (λg B=>(bb.block g (jN (show g<M2 by have:=u.out;omega) m.sz)).trans ((m.but.block g (aJ u) (aJ u)).trans (cg g B)))).bytes);clear bN;have E:R.drew.heap[(r+1)]?=ja (jc #[I N 3,I N 0,jj ⟨#[]⟩,jb P i Q] 184 (0,0))/\R.drew.heap[bx]?=ja (jc #[I N x.node,I N x.lev,I N x.u,jb z x.body.length D] 92 (0,0)):=⟨a1.box,ay⟩;clear ay n Zl ba m bb d0 d1 d2 p;refine jT ?_;refine lJ (λF=>F.heap[(r+1)]?=ja (jc #[I N 3,I N 0,jj ⟨#[]⟩,jb P i Q] 184 (0,0))/\F.heap[bx]?=ja (jc #[I N x.node,I N x.lev,I N x.u,jb z x.body.length D] 92 (0,0))) 21 [(0,jf),(1,jf),(2,jf),(3,jf),(5,jf),(6,jf),(8,jf),(9,jf),(10,jf),(12,jf),(13,jf),(14,jf),(4,jp),(7,jp),(11,jp),(15,jp),(16,jp),(17,jp),(18,jp),(19,jp),(20,jf),(21,jp)] af af af L (λ_ _ _ _ h=>h) E ?_;generalize R.drew=wa at E a1 bO⊢;refine fD ?_;refine tX ?_;refine fD ?_;refine tX ?_;refine fD ?_;refine tX ?_;iterate 2 refine fD ?_
  refine tX ?_;iterate 2 refine fD ?_
  refine tX ?_;refine dq T (λt f=>?_);go_simp;refine(kO x.node wa).mono ?_;rintro e cj ⟨rfl,d⟩;refine f _ _ ⟨av E.1 d,av E.2 d⟩ λbT=>?_
  have ca:=O (d);have cb:=O (bO.below d);clear f d E bO;refine G ?_;refine dq T (λt f=>?_);go_simp;refine(kO x.lev cj).mono ?_;rintro e ck ⟨rfl,d⟩;refine f _ _ ⟨av bT.1 d,av bT.2 d⟩ λb0=>?_
  have cc:=ah ca d;have cd:=O (cb.below d);clear f d bT ca cb;refine G ?_;refine dq T (λt f=>?_);go_simp;refine(kO x.u ck).mono ?_;rintro e bg ⟨rfl,d⟩;refine f _ _ ⟨av b0.1 d,av b0.2 d⟩ λp=>?_
  have V:=ah cc d;have bf:=O (cd.below d);clear f d b0 cc cd;refine G ?_;refine dq T (λt f=>?_);go_simp;refine(vS _ x.body bg bf).mono ?_;rintro e wb ⟨rfl,d⟩;refine f _ _ ⟨av p.1 d,av p.2 d⟩ λS=>?_
  have b1:=ah V d;clear f d p V bf;refine G ?_;refine dq T (λt f=>?_);go_simp;have n:=ao wb (jc #[I N 1,I N x.node,jj ⟨#[]⟩,jb A 0 0,I N 1,I N x.lev,jj ⟨#[]⟩,jb A 0 0,I N 1,I N x.u,jj ⟨#[]⟩,jb A 0 0,I N 2,I N 0,jj (ofB x.body),jb A 0 0] 184);have V:=zq wb [I N 1,I N x.node,jj ⟨#[]⟩,jb A 0 0,I N 1,I N x.lev,jj ⟨#[]⟩,jb A 0 0,I N 1,I N x.u,jj ⟨#[]⟩,jb A 0 0,I N 2,I N 0,jj (ofB x.body),jb A 0 0] 184 4 4 wa.heap.size b1.size T L;refine f _ _ ⟨av S.1 n,av S.2 n⟩ λU=>?_
  clear f;replace V:(wb.alloc (jc #[I N 1,I N x.node,jj ⟨#[]⟩,jb A 0 0,I N 1,I N x.lev,jj ⟨#[]⟩,jb A 0 0,I N 1,I N x.u,jj ⟨#[]⟩,jb A 0 0,I N 2,I N 0,jj (ofB x.body),jb A 0 0] 184)).ownsRow wa.heap.size 184 4 (jb (ja ⟨wb,0,A⟩) 4 4) 4 [I N 1,I N x.node,jj ⟨#[]⟩,jb A 0 0,I N 1,I N x.lev,jj ⟨#[]⟩,jb A 0 0,I N 1,I N x.u,jj ⟨#[]⟩,jb A 0 0,I N 2,I N 0,jj (ofB x.body),jb A 0 0]:=V;generalize wb.alloc (jc #[I N 1,I N x.node,jj ⟨#[]⟩,jb A 0 0,I N 1,I N x.lev,jj ⟨#[]⟩,jb A 0 0,I N 1,I N x.u,jj ⟨#[]⟩,jb A 0 0,I N 2,I N 0,jj (ofB x.body),jb A 0 0] 184)=wc at n V U⊢;obtain⟨s,ce⟩:∃p:jS jM,p=ja ⟨wb,0,A⟩:=⟨_,T⟩;rw[<-ce]at V⊢;have VI:=O V;have bu:=ah b1 n;clear n V ce S b1;refine G ?_;refine dq T (λt f=>?_);go_simp;refine(mT s 4 4 wc).mono ?_;rintro e wd ⟨rfl,d⟩;refine f _ _ ⟨av U.1 d,av U.2 d⟩ λau=>?_
  have Vm:=bj VI d;have bv:=ah bu d;clear f d VI bu U;refine G ?_;refine dq T (λt f=>?_);go_simp;have n:=ao wd (jc #[I N 3,I N 0,jj ⟨#[]⟩,jb s 4 4] 184);have ax:=lz wd [I N 3,I N 0,jj ⟨#[]⟩,jb s 4 4] 184 (0,0) 4 1 1 T (jn _);refine f _ _ ⟨av au.1 n,av au.2 n⟩ λH=>?_
  clear f;replace ax:cE (wd.alloc (jc #[I N 3,I N 0,jj ⟨#[]⟩,jb s 4 4] 184)) (jb (ja ⟨wd,0,A⟩) 1 1) 4 1 [I N 3,I N 0,jj ⟨#[]⟩,jb s 4 4]:=ax;generalize wd.alloc (jc #[I N 3,I N 0,jj ⟨#[]⟩,jb s 4 4] 184)=we at n ax H⊢;have Yy:=bj Vm n;have Yx:=ah bv n;have Vb:=O ax;have U5:=O (a1.later Y Yx);have b5:=O (show aV (λg=>M2<=g/\g<we.heap.size/\(jP P i Q).ownBlock≠ja g) we (Bx.val x) (jb s 4 4) by
   unfold Bx.val;rw[vL,aV];refine⟨j9 4 dJ,aG.of_own Yy (a1.fresh Yx Yy),?_⟩;exact aN.cons (lg _) (aN.cons (lg _) (aN.cons (lg _) (aN.cons (vz _) (aN.nil)))))
  clear n ax Vm bv au;refine G ?_;refine dq T (λt f=>?_);rw[jB aj];refine pW _ _ T M2 (jb P i Q) _ _ T U5.own _ 1 _ T Vb (by simp[j1]) (by rw[bs];omega) U5.sz λv' wf K=>?_
  have UC:=K.own;rw[bs]at UC;obtain⟨pn,cn,rfl⟩:=cK UC;have bk:=lf H.1 K.grown (eY U5.own (.inr Y));have Yk:=lf H.2 K.grown YC;refine f _ _ ⟨bk,Yk⟩ λbM=>?_
  replace K:=O K;clear f H UC;refine G ?_;refine fD ?_;refine pB T (λt f=>?_);obtain⟨⟨vo,c3⟩,f3,bw,bA⟩:=kp (i:=3) (jb pn (i+1) cn) bM.1 ar;go_simp;refine f _ _ ?_;have b6:=O (U5.push Y (x:=Bx.val x) b5 K bw bA);clear f c3 f3 bw bA;refine jR ?_
  go_wp2_with fail
  refine⟨⟨i+1,_,_,by go_num,by omega,by rw[b4,j4];exact b6⟩,?_⟩;simp only[jv];omega
 have hd:=az ((i:jd)<(n2:jd));have UL:=az (i<n2);have bB:c.box.take i=c.box:=nv (by rw[<-b8];omega);replace m:jk (Bld M2 (r+1) W2 wr (c.box.map Bx.val) vr us):=O (by rw[<-bB];exact m);clear bB UH;obtain⟨bf,bg,ad⟩:=cK m.own;rw[jD,<-b8]at ad;subst ad;have cf:=O m.fin;obtain⟨M3,hM⟩:=J wr.heap.size;have Wy:=O hM;have ct:M2<=M3:=by rw[hM];exact m.sz
 rw[<-hM]at cf;have cq:jk (∀g,g<w.heap.size->wr.heap[g]?=w.heap[g]?):=O (λg B=>(m.but.block g (aJ u) (aJ u)).trans (cg g B));replace y:=O (y.keep (m.but.block b (aJ YS) (aJ YS)));replace C:jk (jl w w wr):=O (C.trans (m.but.below (aJ u) (aJ u)));replace Vv:=O ((m.but.block r Y Y).trans Vv);have VR:=O m.box;replace ZY:=O (aV.keep (λg B=>m.but.block g Y Y) _ _ ZY.out);replace Vn:=O ((m.but.block (r+2) Y Y).trans Vn);clear m;clear hM;rename jg=>W3;obtain⟨c0,c1,ZA,Y8,bi,a2,a3,bl,bm⟩:=iO c q X.plen X.clen;replace a3:=y.get a3;obtain⟨ub,⟨bC,p1,q1,a4,bI,bK,Wg⟩,b7⟩:=X.wel;have ci:=O b7;clear b7;obtain⟨n3,a5⟩:=J c.wel.length;rw[a4]at a3;rw[<-a5]at a3 l4 bI;have b7:=O a5;have U2:=O Wg;clear c0 c1 ZA Y8 bi a2 bl bm bC a4 bK a5 Wg
 go_wp2_with fail
 clear bn hd UL hi;have Wd:=O (Bld.start (M:=M3) Vn (qi Wy))
 go_loopw [73] (λv wr=>∃(i:je) (vr:ji) (us:jh ji),v=I N i/\i<=n3/\jk (Bld M3 (r+1+1) W3 wr ((c.wel.take i).map Wl.val) vr us)) (λv _=>n3-(jv v).toNat)
 case atStart=>exact⟨0,dJ,[],T,jJ _,Wd⟩
 clear Wd a3;obtain⟨i,vr,us,rfl,hi,m⟩:=hrel
 by_cases bn:i<n3
 ·have hd:=aw ((i:jd)<(n3:jd))
  have UL:=aw (i<n3);obtain⟨g,o,rfl,b3,bo⟩:=U2 (aJ b7);obtain⟨x,hx,bp⟩:=wR (l:=c.wel) (j:=i) (by rw[<-b7];exact bn);have bq:g<M3:=aJ u;have br:g≠(r+1+1):=aJ u;have Vk:=(m.but.block g bq br).trans (cq g b3);obtain⟨ux,b9,bN⟩:=ci.at (i:=i) (b:=x.body) (by rw[qw,hx];rfl);obtain⟨z,D,rfl⟩:=bN.form;have aa:=λk hk=>(dY (a:=⟨g,o+(i*3+k),A⟩) Vk).trans (bo (i*3+k) _ ((wT Wl.cells 3 (λ_ _=>rfl) c.wel ub i k x _ hx b9 hk).trans (show(x.cells (jb z x.body.length D))[k]?=ja ((x.cells (jb z x.body.length D)).getD k (I N 0)) by have:(x.cells (jb z x.body.length D)).length=3:=T;simp[jO,oj (show k<(x.cells (jb z x.body.length D)).length by omega)])))
  have d0:wr.cell? ⟨g,o+i*3,A⟩=ja (I N x.dev):=aa 0 L;have d1:wr.cell? ⟨g,o+i*3+1,A⟩=ja (I N x.u):=aa 1 L;have d2:wr.cell? ⟨g,o+i*3+2,A⟩=ja (jb z x.body.length D):=aa 2 L;clear b9;have b4:=O bp;clear bq br Vk aa bo hx bp;obtain⟨P,Q,ad⟩:=cK m.own;have a6:((c.wel.take i).map Wl.val).length=i:=by rw[jD,qh,<-b7];omega
  rw[a6]at ad;have bs:=O a6;subst ad;clear a6
  go_upto_region 15 with fail
  obtain⟨bx,ba⟩:=J wr.heap.size;have ay:=js wr (jc #[I N x.dev,I N x.u,jb z x.body.length D] 95);have n:=ao wr (jc #[I N x.dev,I N x.u,jb z x.body.length D] 95);have YC:jk ((jP P i Q).ownBlock≠ja bx):=O (eY m.own (.inl (qi ba.symm)));rw[<-ba]at ay⊢;obtain⟨R,Zl⟩:=J (wr.alloc (jc #[I N x.dev,I N x.u,jb z x.body.length D] 95));rw[<-Zl]at ay n⊢;have bb:=n.trans ((bV R).mono n.size);have a1:jk (Bld M3 (r+1+1) W3 R.drew ((c.wel.take i).map Wl.val) (jb P i Q) us):=O (m.later Y bb);have bO:jk (bD R.drew (jb z x.body.length D) x.body):=O ((bN.keep (λg B=>(bb.block g (jN (show g<M3 by have:=u.out;omega) m.sz)).trans ((m.but.block g (aJ u) (aJ u)).trans (cq g B)))).bytes);clear bN;have E:R.drew.heap[(r+1+1)]?=ja (jc #[I N 3,I N 0,jj ⟨#[]⟩,jb P i Q] 184 (0,0))/\R.drew.heap[bx]?=ja (jc #[I N x.dev,I N x.u,jb z x.body.length D] 95 (0,0)):=⟨a1.box,ay⟩;clear ay n Zl ba m bb d0 d1 d2;refine jT ?_;refine lJ (λF=>F.heap[(r+1+1)]?=ja (jc #[I N 3,I N 0,jj ⟨#[]⟩,jb P i Q] 184 (0,0))/\F.heap[bx]?=ja (jc #[I N x.dev,I N x.u,jb z x.body.length D] 95 (0,0))) 18 [(0,jf),(1,jf),(2,jf),(3,jf),(5,jf),(6,jf),(7,jf),(9,jf),(10,jf),(11,jf),(4,jp),(8,jp),(12,jp),(13,jp),(14,jp),(15,jp),(16,jp),(17,jf),(18,jp)] af af af L (λ_ _ _ _ h=>h) E ?_;generalize R.drew=wa at E a1 bO⊢;refine fD ?_;refine wy ?_;refine fD ?_;refine wy ?_;iterate 2 refine fD ?_
  refine wy ?_;iterate 2 refine fD ?_
  refine wy ?_;refine dq T (λt f=>?_);go_simp;refine(kO x.dev wa).mono ?_;rintro e cj ⟨rfl,d⟩;refine f _ _ ⟨av E.1 d,av E.2 d⟩ λbT=>?_
  have ca:=O (d);have cb:=O (bO.below d);clear f d E bO;refine G ?_;refine dq T (λt f=>?_);go_simp;refine(kO x.u cj).mono ?_;rintro e ck ⟨rfl,d⟩;refine f _ _ ⟨av bT.1 d,av bT.2 d⟩ λb0=>?_
  have cc:=ah ca d;have cd:=O (cb.below d);clear f d bT ca cb;refine G ?_;refine dq T (λt f=>?_);go_simp;refine(vS _ x.body ck cd).mono ?_;rintro e wb ⟨rfl,d⟩;refine f _ _ ⟨av b0.1 d,av b0.2 d⟩ λS=>?_
  have b1:=ah cc d;clear f d b0 cc cd;refine G ?_;refine dq T (λt f=>?_);go_simp;have n:=ao wb (jc #[I N 1,I N x.dev,jj ⟨#[]⟩,jb A 0 0,I N 1,I N x.u,jj ⟨#[]⟩,jb A 0 0,I N 2,I N 0,jj (ofB x.body),jb A 0 0] 184);have V:=zq wb [I N 1,I N x.dev,jj ⟨#[]⟩,jb A 0 0,I N 1,I N x.u,jj ⟨#[]⟩,jb A 0 0,I N 2,I N 0,jj (ofB x.body),jb A 0 0] 184 4 3 wa.heap.size b1.size T L;refine f _ _ ⟨av S.1 n,av S.2 n⟩ λU=>?_
  clear f;replace V:(wb.alloc (jc #[I N 1,I N x.dev,jj ⟨#[]⟩,jb A 0 0,I N 1,I N x.u,jj ⟨#[]⟩,jb A 0 0,I N 2,I N 0,jj (ofB x.body),jb A 0 0] 184)).ownsRow wa.heap.size 184 4 (jb (ja ⟨wb,0,A⟩) 3 3) 3 [I N 1,I N x.dev,jj ⟨#[]⟩,jb A 0 0,I N 1,I N x.u,jj ⟨#[]⟩,jb A 0 0,I N 2,I N 0,jj (ofB x.body),jb A 0 0]:=V;generalize wb.alloc (jc #[I N 1,I N x.dev,jj ⟨#[]⟩,jb A 0 0,I N 1,I N x.u,jj ⟨#[]⟩,jb A 0 0,I N 2,I N 0,jj (ofB x.body),jb A 0 0] 184)=wc at n V U⊢;obtain⟨s,ce⟩:∃p:jS jM,p=ja ⟨wb,0,A⟩:=⟨_,T⟩;rw[<-ce]at V⊢;have VI:=O V;have bu:=ah b1 n;clear n V ce S b1;refine G ?_;refine dq T (λt f=>?_);go_simp;refine(mT s 3 3 wc).mono ?_;rintro e wd ⟨rfl,d⟩;refine f _ _ ⟨av U.1 d,av U.2 d⟩ λau=>?_
  have Vm:=bj VI d;have bv:=ah bu d;clear f d VI bu U;refine G ?_;refine dq T (λt f=>?_);go_simp;have n:=ao wd (jc #[I N 3,I N 0,jj ⟨#[]⟩,jb s 3 3] 184);have ax:=lz wd [I N 3,I N 0,jj ⟨#[]⟩,jb s 3 3] 184 (0,0) 4 1 1 T (jn _);refine f _ _ ⟨av au.1 n,av au.2 n⟩ λH=>?_
  clear f;replace ax:cE (wd.alloc (jc #[I N 3,I N 0,jj ⟨#[]⟩,jb s 3 3] 184)) (jb (ja ⟨wd,0,A⟩) 1 1) 4 1 [I N 3,I N 0,jj ⟨#[]⟩,jb s 3 3]:=ax;generalize wd.alloc (jc #[I N 3,I N 0,jj ⟨#[]⟩,jb s 3 3] 184)=we at n ax H⊢;have Yy:=bj Vm n;have Yx:=ah bv n;have Vb:=O ax;have U5:=O (a1.later Y Yx);have b5:=O (show aV (λg=>M3<=g/\g<we.heap.size/\(jP P i Q).ownBlock≠ja g) we (Wl.val x) (jb s 3 3) by
   unfold Wl.val;rw[vL,aV];refine⟨j9 3 dJ,aG.of_own Yy (a1.fresh Yx Yy),?_⟩;exact aN.cons (lg _) (aN.cons (lg _) (aN.cons (vz _) (aN.nil))))
  clear n ax Vm bv au;refine G ?_;refine dq T (λt f=>?_);rw[jB aj];refine pW _ _ T M3 (jb P i Q) _ _ T U5.own _ 1 _ T Vb (by simp[j1]) (by rw[bs];omega) U5.sz λv' wf K=>?_
  have UC:=K.own;rw[bs]at UC;obtain⟨pn,cn,rfl⟩:=cK UC;have bk:=lf H.1 K.grown (eY U5.own (.inr Y));have Yk:=lf H.2 K.grown YC;refine f _ _ ⟨bk,Yk⟩ λbM=>?_
  replace K:=O K;clear f H UC;refine G ?_;refine fD ?_;refine pB T (λt f=>?_);obtain⟨⟨vo,c3⟩,f3,bw,bA⟩:=kp (i:=3) (jb pn (i+1) cn) bM.1 ar;go_simp;refine f _ _ ?_;have b6:=O (U5.push Y (x:=Wl.val x) b5 K bw bA);clear f c3 f3 bw bA;refine jR ?_
  go_wp2_with fail
  refine⟨⟨i+1,_,_,by go_num,by omega,by rw[b4,j4];exact b6⟩,?_⟩;simp only[jv];omega
 have hd:=az ((i:jd)<(n3:jd));have UL:=az (i<n3);have bB:c.wel.take i=c.wel:=nv (by rw[<-b7];omega);replace m:jk (Bld M3 (r+1+1) W3 wr (c.wel.map Wl.val) vr us):=O (by rw[<-bB];exact m);clear bB U2;obtain⟨n,o,ad⟩:=cK m.own;rw[jD,<-b7]at ad;subst ad;have x:=O m.fin;have D:jk (wr.heap[r+1+1]?=ja (jc #[I N 3,I N 0,jj ⟨#[]⟩,jb n n3 o] 184 (0,0))):=O m.box;have K:jk (wr.heap[r]?=ja (jc #[I N 3,I N 0,jj ⟨#[]⟩,jb bc n1 bd] 184 (0,0))):=O ((m.but.block r Y Y).trans Vv);have P:jk (wr.heap[r+1]?=ja (jc #[I N 3,I N 0,jj ⟨#[]⟩,jb bf n2 bg] 184 (0,0))):=O ((m.but.block (r+1) Y Y).trans VR);have p:=m.sz;have z:=Wy.out;have Q:M2<=M3:=ct;replace ZY:jk (aV (λg=>w.heap.size<=g/\g<wr.heap.size) wr (vL (c.chg.map ap.val)) (jb bc n1 bd)):=O (aV.mono (λg B=>⟨by have:=u.out;omega,by omega⟩) _ _ (aV.keep (λg B=>m.but.block g Y Y) _ _ ZY.out));replace cf:jk (aV (λg=>w.heap.size<=g/\g<wr.heap.size) wr (vL (c.box.map Bx.val)) (jb bf n2 bg)):=O (aV.mono (λg B=>⟨by have:=u.out;omega,by omega⟩) _ _ (aV.keep (λg B=>m.but.block g Y Y) _ _ cf.out));replace x:jk (aV (λg=>w.heap.size<=g/\g<wr.heap.size) wr (vL (c.wel.map Wl.val)) (jb n n3 o)):=O (aV.mono (λg B=>⟨by have:=u.out;omega,by omega⟩) _ _ x.out);replace y:=O (y.keep (m.but.block b (aJ YS) (aJ YS)));replace C:jk (jl w w wr):=O (C.trans (m.but.below (aJ u) (aJ u)));clear p z Q
 go_upto_region 17 with fail
 obtain⟨c0,c1,ZA,Y8,bi,a2,a3,bl,bm⟩:=iO c q X.plen X.clen;have Q:=O X.path;obtain⟨bC,R,qp,a4,bI,bK,Wg⟩:=X.path;rw[a4]at bi Q;have Vr:jk (UI[0]?=ja (I N c.folder)):=O (by rw[bh];simpa using c0);have UU:jk (UI[1]?=ja (I N c.epoch)):=O (by rw[bh];simpa using c1);have aa:jk (UI[34]?=ja (I N c.author)):=O (by rw[bh];simpa using ZA);have ax:jk (UI[36]?=ja (jb R c.path.length qp)):=O (by rw[bh];simpa using bi);have ay:jk (UI[71]?=ja (I N c.r)):=O (by rw[bh];simpa using bl);have a1:jk (UI[72]?=ja (I N c.s)):=O (by rw[bh];simpa using bm);have p:wr.drew.heap[b]?=ja (jc UI 48 (0,0))/\wr.drew.heap[r]?=ja (jc #[I N 3,I N 0,jj ⟨#[]⟩,jb bc n1 bd] 184 (0,0))/\wr.drew.heap[r+1]?=ja (jc #[I N 3,I N 0,jj ⟨#[]⟩,jb bf n2 bg] 184 (0,0))/\wr.drew.heap[r+1+1]?=ja (jc #[I N 3,I N 0,jj ⟨#[]⟩,jb n n3 o] 184 (0,0)):=⟨by rw[bh];exact y.blk,K,P,D⟩;have z:jk (jl wr wr wr.drew):=O (bV wr);clear c0 c1 ZA Y8 bi a2 a3 bl bm bC a4 bI bK Wg bn hd UL hi Vv VR K P D m y;refine jT ?_;refine dj (λF=>F.heap[b]?=ja (jc UI 48 (0,0))/\F.heap[r]?=ja (jc #[I N 3,I N 0,jj ⟨#[]⟩,jb bc n1 bd] 184 (0,0))/\F.heap[r+1]?=ja (jc #[I N 3,I N 0,jj ⟨#[]⟩,jb bf n2 bg] 184 (0,0))/\F.heap[r+1+1]?=ja (jc #[I N 3,I N 0,jj ⟨#[]⟩,jb n n3 o] 184 (0,0))) (.t 0 (.t 1 (.t 3 (.t 4 (.t 6 (.t 7 (.t 9 (.t 10 (.t 12 (.t 13 (.t 14 (.t 17 (.t 18 (.t 19 (.t 20 (.t 22 (.t 23 (.t 24 (.t 26 (.t 27 (.t 28 (.o 2 (.o 5 (.o 8 (.o 11 (.o 15 (.o 16 (.o 21 (.o 25 (.o 29 (.o 30 (.t 31 .done)))))))))))))))))))))))))))))))) af af af L (λ_ _ _ _ h=>h) p ?_;generalize wr.drew=x0 at p z⊢;refine fk ?_
 (refine aS (v:=?_) T aj (λF m=>?_) ?_;rotate_left;(have k:=ai m.1 Vr;go_simp;with_reducible rfl);refine G ?_)
 refine fk ?_
 (refine aS (v:=?_) T aj (λF m=>?_) ?_;rotate_left;(have k:=ai m.1 UU;go_simp;with_reducible rfl);refine G ?_)
 iterate 3 refine fk ?_
 (refine aS (v:=?_) T aj (λF m=>?_) ?_;rotate_left;(have k:=ai m.1 aa;go_simp;with_reducible rfl);refine G ?_)
 (refine aS (v:=?_) T aj (λF m=>?_) ?_;rotate_left;(have y:=ai (i:=0) m.2.1 T;have D:=ai (i:=1) m.2.1 T;have K:=ai (i:=2) m.2.1 T;have P:=ai (i:=3) m.2.1 T;go_simp;with_reducible rfl);refine G ?_)
 refine fk ?_
 (refine aS (v:=?_) T aj (λF m=>?_) ?_;rotate_left;(have k:=ai m.1 ax;go_simp;with_reducible rfl);refine G ?_)
 (refine aS (v:=?_) T aj (λF m=>?_) ?_;rotate_left;(have y:=ai (i:=0) m.2.2.1 T;have D:=ai (i:=1) m.2.2.1 T;have K:=ai (i:=2) m.2.2.1 T;have P:=ai (i:=3) m.2.2.1 T;go_simp;with_reducible rfl);refine G ?_)
 (refine aS (v:=?_) T aj (λF m=>?_) ?_;rotate_left;(have y:=ai (i:=0) m.2.2.2 T;have D:=ai (i:=1) m.2.2.2 T;have K:=ai (i:=2) m.2.2.2 T;have P:=ai (i:=3) m.2.2.2 T;go_simp;with_reducible rfl);refine G ?_)
 iterate 4 refine fk ?_
 (refine aS (v:=?_) T aj (λF m=>?_) ?_;rotate_left;(have k:=ai m.1 ay;go_simp;with_reducible rfl);refine G ?_)
 iterate 2 refine fk ?_
 (refine aS (v:=?_) T aj (λF m=>?_) ?_;rotate_left;(have k:=ai m.1 a1;go_simp;with_reducible rfl);refine G ?_)
 refine aF T (λt f=>?_);go_simp;refine(kO c.folder x0).mono ?_;rintro e x1 ⟨rfl,d⟩;refine f _ _ ⟨av p.1 d,av p.2.1 d,av p.2.2.1 d,av p.2.2.2 d⟩ λm=>?_
 have y:=ah z d;clear f d p z;refine G ?_;refine aF T (λt f=>?_);go_simp;refine(kO c.epoch x1).mono ?_;rintro e x2 ⟨rfl,d⟩;refine f _ _ ⟨av m.1 d,av m.2.1 d,av m.2.2.1 d,av m.2.2.2 d⟩ λk=>?_
 have p:=ah y d;clear f d m y;refine G ?_;refine aF T (λt f=>?_);go_simp;refine(vS _ c.parent x2 (dW.parent (q:=q) ⟨by rw[<-bh];exact k.1,X.plen,X.clen⟩)).mono ?_;rintro e F ⟨rfl,d⟩;refine f _ _ ⟨av k.1 d,av k.2.1 d,av k.2.2.1 d,av k.2.2.2 d⟩ λm=>?_
 have y:=ah p d;clear f d k p;refine G ?_;refine aF T (λt f=>?_);go_simp;refine(kO c.author F).mono ?_;rintro e K ⟨rfl,d⟩;refine f _ _ ⟨av m.1 d,av m.2.1 d,av m.2.2.1 d,av m.2.2.2 d⟩ λk=>?_
 have p:=ah y d;clear f d m y;refine G ?_;refine aF T (λt f=>?_);go_simp;refine(tE c.path _ K (aG.ints (Q.keep λg B=>((C.trans (p.mono C.size)).block g B))) Y).mono ?_;rintro e y ⟨up,rfl,m,d⟩;obtain⟨s,cu,rfl⟩:=cK m;have z:jk (y.ownsRow wr 184 4 (jb s c.path.length cu) c.path.length (ie c.path)):=O (sw m p.size);refine f _ _ ⟨av k.1 d,av k.2.1 d,av k.2.2.1 d,av k.2.2.2 d⟩ λE=>?_
 have D:=ah p d;clear m;clear f d k p;refine G ?_;refine aF T (λt f=>?_);go_simp;refine(mT s c.path.length cu y).mono ?_;rintro e P ⟨rfl,d⟩;refine f _ _ ⟨av E.1 d,av E.2.1 d,av E.2.2.1 d,av E.2.2.2 d⟩ λS=>?_
 have k:=ah D d;have m:=bj z d;clear f d E D z;refine G ?_;refine aF T (λt f=>?_);go_simp;refine(vS _ c.confirm P (dW.confirm (q:=q) ⟨by rw[<-bh];exact S.1,X.plen,X.clen⟩)).mono ?_;rintro e x7 ⟨rfl,d⟩;refine f _ _ ⟨av S.1 d,av S.2.1 d,av S.2.2.1 d,av S.2.2.2 d⟩ λU=>?_
 have p:=ah k d;have z:=bj m d;clear f d S k m;refine G ?_;refine aF T (λt f=>?_);go_simp;refine(kO c.r x7).mono ?_;rintro e S ⟨rfl,d⟩;refine f _ _ ⟨av U.1 d,av U.2.1 d,av U.2.2.1 d,av U.2.2.2 d⟩ λau=>?_
 have m:=ah p d;have D:=bj z d;clear f d U p z;refine G ?_;refine aF T (λt f=>?_);go_simp;refine(kO c.s S).mono ?_;rintro e k ⟨rfl,d⟩;refine f _ _ ⟨av au.1 d,av au.2.1 d,av au.2.2.1 d,av au.2.2.2 d⟩ λH=>?_
 have p:=ah m d;have z:=bj D d;clear f d au m D;refine G ?_;refine aF T (λt f=>?_);go_simp;have d:=ao k (jc #[I N 1,I N c.folder,jj ⟨#[]⟩,jb A 0 0,I N 1,I N c.epoch,jj ⟨#[]⟩,jb A 0 0,I N 2,I N 0,jj (ofB c.parent),jb A 0 0,I N 1,I N c.author,jj ⟨#[]⟩,jb A 0 0,I N 3,I N 0,jj ⟨#[]⟩,jb bc n1 bd,I N 3,I N 0,jj ⟨#[]⟩,jb s c.path.length cu,I N 3,I N 0,jj ⟨#[]⟩,jb bf n2 bg,I N 3,I N 0,jj ⟨#[]⟩,jb n n3 o,I N 2,I N 0,jj (ofB c.confirm),jb A 0 0,I N 1,I N c.r,jj ⟨#[]⟩,jb A 0 0,I N 1,I N c.s,jj ⟨#[]⟩,jb A 0 0] 184);have V:=zq k [I N 1,I N c.folder,jj ⟨#[]⟩,jb A 0 0,I N 1,I N c.epoch,jj ⟨#[]⟩,jb A 0 0,I N 2,I N 0,jj (ofB c.parent),jb A 0 0,I N 1,I N c.author,jj ⟨#[]⟩,jb A 0 0,I N 3,I N 0,jj ⟨#[]⟩,jb bc n1 bd,I N 3,I N 0,jj ⟨#[]⟩,jb s c.path.length cu,I N 3,I N 0,jj ⟨#[]⟩,jb bf n2 bg,I N 3,I N 0,jj ⟨#[]⟩,jb n n3 o,I N 2,I N 0,jj (ofB c.confirm),jb A 0 0,I N 1,I N c.r,jj ⟨#[]⟩,jb A 0 0,I N 1,I N c.s,jj ⟨#[]⟩,jb A 0 0] 184 4 11 w.heap.size (jz C.size p.size) T L;replace V:(k.alloc (jc #[I N 1,I N c.folder,jj ⟨#[]⟩,jb A 0 0,I N 1,I N c.epoch,jj ⟨#[]⟩,jb A 0 0,I N 2,I N 0,jj (ofB c.parent),jb A 0 0,I N 1,I N c.author,jj ⟨#[]⟩,jb A 0 0,I N 3,I N 0,jj ⟨#[]⟩,jb bc n1 bd,I N 3,I N 0,jj ⟨#[]⟩,jb s c.path.length cu,I N 3,I N 0,jj ⟨#[]⟩,jb bf n2 bg,I N 3,I N 0,jj ⟨#[]⟩,jb n n3 o,I N 2,I N 0,jj (ofB c.confirm),jb A 0 0,I N 1,I N c.r,jj ⟨#[]⟩,jb A 0 0,I N 1,I N c.s,jj ⟨#[]⟩,jb A 0 0] 184)).ownsRow w.heap.size 184 4 (jb (ja ⟨k,0,A⟩) 11 11) 11 [I N 1,I N c.folder,jj ⟨#[]⟩,jb A 0 0,I N 1,I N c.epoch,jj ⟨#[]⟩,jb A 0 0,I N 2,I N 0,jj (ofB c.parent),jb A 0 0,I N 1,I N c.author,jj ⟨#[]⟩,jb A 0 0,I N 3,I N 0,jj ⟨#[]⟩,jb bc n1 bd,I N 3,I N 0,jj ⟨#[]⟩,jb s c.path.length cu,I N 3,I N 0,jj ⟨#[]⟩,jb bf n2 bg,I N 3,I N 0,jj ⟨#[]⟩,jb n n3 o,I N 2,I N 0,jj (ofB c.confirm),jb A 0 0,I N 1,I N c.r,jj ⟨#[]⟩,jb A 0 0,I N 1,I N c.s,jj ⟨#[]⟩,jb A 0 0]:=V;have D:=O V;refine f _ _ ⟨av H.1 d,av H.2.1 d,av H.2.2.1 d,av H.2.2.2 d⟩ λbM=>?_
 have m:=ah p d;have t:=bj z d;clear V;clear f d H p z;obtain⟨z,d⟩:=J (k.alloc (jc #[I N 1,I N c.folder,jj ⟨#[]⟩,jb A 0 0,I N 1,I N c.epoch,jj ⟨#[]⟩,jb A 0 0,I N 2,I N 0,jj (ofB c.parent),jb A 0 0,I N 1,I N c.author,jj ⟨#[]⟩,jb A 0 0,I N 3,I N 0,jj ⟨#[]⟩,jb bc n1 bd,I N 3,I N 0,jj ⟨#[]⟩,jb s c.path.length cu,I N 3,I N 0,jj ⟨#[]⟩,jb bf n2 bg,I N 3,I N 0,jj ⟨#[]⟩,jb n n3 o,I N 2,I N 0,jj (ofB c.confirm),jb A 0 0,I N 1,I N c.r,jj ⟨#[]⟩,jb A 0 0,I N 1,I N c.s,jj ⟨#[]⟩,jb A 0 0] 184));rw[<-d]at D m t⊢;clear d bM;refine G ?_;refine fk ?_;refine jR ?_
 go_wp2_with fail
 go_ret;have d:=λg (B:w.heap.size<=g/\g<wr.heap.size)=>(show w.heap.size<=g/\g<z.heap.size from⟨B.1,jN B.2 m.size⟩)
 have f:=λg (B:w.heap.size<=g/\g<wr.heap.size)=>m.block g B.2
 refine⟨_,T,⟨[dJ,dJ,dJ,dJ,jb bc n1 bd,jb s c.path.length cu,jb bf n2 bg,jb n n3 o,dJ,dJ,dJ],D,?_⟩,C.trans (m.mono C.size)⟩;have p:aV (λg=>w.heap.size<=g/\g<z.heap.size) z (vL (c.path.map vI)) (jb s c.path.length cu):=se t (λg B=>by
  have h:=t.lt g B;exact⟨jz C.size h.1,h.2⟩)
 exact aN.cons (lg _) (aN.cons (lg _) (aN.cons (vz _) (aN.cons (lg _) (aN.cons (aV.mono d _ _ (aV.keep f _ _ ZY.out)) (aN.cons p (aN.cons (aV.mono d _ _ (aV.keep f _ _ cf.out)) (aN.cons (aV.mono d _ _ (aV.keep f _ _ x.out)) (aN.cons (vz _) (aN.cons (lg _) (aN.cons (lg _) aN.nil))))))))))
theorem ae(h:jk (w.heap[B]?=ja o))(w':jl w w a):jk (a.heap[B]?=ja o):=O (av h w')
def cW(s:ByteArray)(l:jh Val):LBy:=dp (bZ s) (enc (vL l))
theorem eT(s l):(cW s l).length=32:=iP _ _
theorem pG(l:jh Val):enc (vL l)=3#8::(cY l.length++encs l):=by rw[vL,enc,jI L,jI L]
structure cZ(l:jh Val):Prop where
 wf:wfV 16 (vL l)
 len:(enc (vL l)).length<=800000
theorem cZ.take{l:jh Val}(h:cZ l)(i:l.length<128)(k:je):cZ (l.take k):=by
 have g:=h.wf;have j:=h.len;refine⟨?_,?_⟩
 ·unfold vL at g⊢
  rw[wfV]at g⊢
  rcases g with⟨e,-⟩|⟨e,-⟩|⟨a,b,c,d,f⟩
  ·exact jG e L
  ·exact jG e L
  exact .inr (.inr ⟨a,b,c,xz (xA _ _) d,λx m=>f x (List.mem_of_mem_take m)⟩)
 rw[pG]at j⊢;have a:(cY (l.take k).length).length=1:=by rw[tt (xz (xA _ _) i)];rfl
 have b:(cY l.length).length=1:=by rw[tt i];rfl
 have:=wC l k;simp only[jW,jL]at j⊢;omega
theorem eU(l:LBy):(l.map v8).toArray.all (·.oneCell')=jf:=by
 rw[Array.all_eq_true_iff_forall_mem];intro a b;exact iU _ a (ak b)
theorem mK(s:ByteArray)(F:s.size<=1000)(l:jh Val)(v:ji)(w:jg)(a:aV (·<w.heap.size) w (vL l) v)(b:cZ l)(d:eO w)(f:gO w):
 jr jm 50 #[jj s,v] w λe w'=>e=jo (jq ((cW s l).map v8).toArray)/\jl w w w':=by
 obtain⟨p,c,rfl⟩:=a.form;have h:(vL l).l.length=l.length:=T;rw[h]at a⊢;obtain⟨n,i⟩:=J l.length;rw[<-i]at a⊢;have j:=O a;have g:=O b;have x:=O d;have y:=O f;clear a b d f i h;have b:=js w (jc a8 23);have a:=ao w (jc a8 23);have d:(w.alloc (jc a8 23)).heap.size=w.heap.size+1:=by simp
 obtain⟨o,f⟩:=J (w.alloc (jc a8 23));obtain⟨D,h⟩:=J w.heap.size;rw[<-f]at b a d;rw[<-h]at b d;have i:=O b;have k:=O a;have m:=O f;have q:=O h;have u:D<o.heap.size:=Y;clear b a d f h
 go_enter func50,ntmps50
 go_wp2_with fail
 rw[<-m,<-q];refine(mT p n c o).mono ?_;rintro e h ⟨rfl,a⟩;have r:=ae i a;have d:=ah k a;have t:jk (aV (·<h.heap.size) h (vL l) (jb p n c)):=O (aV.mono (λb (f:b<w.heap.size)=>jN f d.size) _ _ (aV.keep (λb f=>d.block b f) _ _ j.out));clear a k i u m
 go_wp2_with fail
 refine(EZ (vL l) _ 3 h T g.wf t (cT g.len)).mono ?_;rintro e z ⟨H,rfl,b,a⟩;have u:=ae r a;have f:=ah d a;have B:=O (bD.of_own b);obtain⟨K,M,rfl⟩:=cK b;clear a b d r t j
 go_wp2_with fail
 refine(sj s Y _ (enc (vL l)) (cT g.len) z B (x.below f (jn _)) (y.below f (jn _))).mono ?_;rintro e d ⟨rfl,a⟩;have r:=ae u a;have t:=ah f a;have i:((dp (bZ s) (enc (vL l))).map v8).toArray.size=32:=by rw[jU,jD,iP]
 have j:=eU (dp (bZ s) (enc (vL l)));obtain⟨b,k⟩:=J (((dp (bZ s) (enc (vL l))).map v8).toArray);rw[<-k]at i j⊢;have C:=O k;have m:=O i;have E:=O j;clear k i j a u f
 go_wp2_with (refine o1 T λ_ a=>p6 23 _ _ T D b T T 23 _ r.out (by rw[m];rfl) (by rw[m];simp) E (a _ _ ?_))
 have a:(d.setRow D b).heap[D]?=ja (jc b 23 (0,0)):=qa _ _ _ _ _ _ r.out;have f:jl w w (d.setRow D b):=qb t.out (by rw[q];exact jn _) _;generalize d.setRow D b=k at a f⊢;have i:=O f;have j:=O a;clear a f
 go_wp2_with fail
 refine jX (v:=jq b) ?_ T ?_
 ·exact qf T _ _ _ 23 _ (0,0) _ T j xd T (by rw[m];rfl)
 exact⟨by rw[C];rfl,i⟩
theorem aG.take{p:jS jM}{n c sz:je}(h:aG D w (jb p n c) sz n xs){k:je}(b:k<=n):aG D w (jb p k c) sz k (xs.take (k*sz)):=by
 obtain⟨d,t,u,e,v,f,i⟩:=h;injection e with l x m
 subst l;subst m;refine⟨?_,p,c,T,by omega,f,λy=>?_⟩
 ·rw[qh,d,qE (r5 _ b)]
 obtain⟨g,o,e,q,r⟩:=i Y;refine⟨g,o,e,q,λj s a=>r j s ?_⟩;rw[xt]at a
 split at a
 ·exact a
 cases a
theorem Hk:∀(l:jh Val) (a:jh ji) (k:je),a.length=l.length->cR (l.take k) (a.take k)=(cR l a).take (k*4)
 |[],a,k,h=>by
  have:a=[]:=qu (ak h);subst this;simp[cR]
 |x::l,[],k,h=>by simp at h
 |x::l,b::a,0,h=>by simp[cR]
 |x::l,b::a,k+1,h=>by
  have c:(gU x b).length=4:=T;simp only[xB,cR,Hk l a k (ak h)];have e:List.take ((k+1)*4) (gU x b)=gU x b:=nv (by rw[c];omega);rw[List.take_append,c,show(k+1)*4-4=k*4 by omega,e]
theorem aN.take:∀{l:jh Val} {a:jh ji} (k:je),aN D w l a->aN D w (l.take k) (a.take k)
 |[],a,k,h=>by rw[aN]at h;subst h;simp[aN]
 |x::l,a,0,h=>by simp[aN]
 |x::l,a,k+1,h=>by
  rw[aN]at h;obtain⟨b,e,rfl,c,d⟩:=h;simp only[xB];rw[aN];exact⟨b,_,T,c,aN.take k d⟩
theorem vu{i:je}(h:w.ownsRow B e m d i b)(n:0<i):∃g c,d=jb (ja ⟨g,0,A⟩) i c/\i<=c/\B<=g/\g<w.heap.size:=by
 rcases h.2 with⟨rfl,j⟩|⟨g,a,k,rfl,xs,v,f,-⟩
 ·omega
 exact⟨g,a,T,f,xs,(jK.1 v).1⟩
theorem zz(c:Cmt):(aR c).length=11:=T
theorem vB.val{c:Cmt}{p:jS jM}(h:vB w a c (jb p B m))(k:je)(f:k<=11):B=11/\aV (·<a.heap.size) a (vL ((aR c).take k)) (jb p k m):=by
 obtain⟨l,w',i⟩:=h;obtain⟨_,_,e⟩:=cK w';injection e with q d r
 subst d;have o:=i.len;refine⟨T,?_⟩;rw[vL,aV];have j:=(aG.of_own (D:=(·<a.heap.size)) w' (λg b=>(w'.lt g b).2)).take f;rw[<-Hk _ _ _ o]at j;refine⟨l.take k,?_,aN.mono (λg b=>b.2) _ _ (i.take k)⟩;rw[qh,zz,qE f];exact j
theorem EH{u:Val}(h:u∈f):(enc u).length<=(encs f).length:=by
 obtain⟨i,a⟩:=xy h;have b:=wC f (i+1);rw[wm a,jL]at b;omega
theorem LR(l:jh Val):l.length<=(enc (vL l)).length:=by
 have:=AS l;rw[pG,jW,jL];omega
theorem cZ.lens{c:Cmt}(h:cZ (aR c)):c.chg.length<=1000000/\c.path.length<=1000000/\c.box.length<=1000000/\c.wel.length<=1000000:=by
 have g:=h.len;have k:∀l:jh Val,vL l∈aR c->l.length<=1000000:=λl f=>by
  have a:=EH f;have b:=LR l;have d:(encs (aR c)).length<=(enc (vL (aR c))).length:=by rw[pG,jW,jL];omega
  omega
 have a:=k (c.chg.map ap.val) (by simp[aR]);have b:=k (c.path.map vI) (by simp[aR]);have d:=k (c.box.map Bx.val) (by simp[aR]);have e:=k (c.wel.map Wl.val) (by simp[aR]);rw[jD]at a b d e;exact⟨a,b,d,e⟩
structure bH(w:jg):Prop where
 num:eO w
 start:gO w
theorem bH.below(h:bH w)(a:jl w w w'):bH w':=⟨h.num.below a (jn _),h.start.below a (jn _)⟩
def sB:ByteArray:=⟨#[99,111,109,109,105,116]⟩
def ts:ByteArray:=⟨#[99,111,109,109,105,116,32,115,105,103,110]⟩
def aH(c:Cmt):LBy:=cW sB (aR c)
def dt(c:Cmt):LBy:=cW ts ((aR c).take 9)
theorem dQ(c):(aH c).length=32:=eT _ _
theorem MH(c):(dt c).length=32:=eT _ _
theorem mQ:(jm.info? 48).map (·.size)=ja 73:=by kernel_rfl
theorem ta(c:Cmt)(q:CQ)(w:jg)(h:aW (·<w.heap.size) w c q)(m:cZ (aR c))(n:bH w):
 jr jm 16 #[jq (aE c q).toArray] w λe w'=>e=jo (jq ((aH c).map v8).toArray)/\jl w w w':=by
 have y:=O h;have o:=O m;have r:=O n;obtain⟨d,i⟩:=J ((aE c q).toArray);rw[<-i];have s:=O i;have p:d.size=73:=by rw[i,jU,dl c q h.plen h.clen]
 have z:=O p;have f:=js w (jc d 48);have g:=js (w.alloc (jc d 48)) (jc a8 23);have a:jl w w ((w.alloc (jc d 48)).alloc (jc a8 23)):=((jy _ w).alloc (jn _) _).alloc ar _;replace f:=av f (ao (w.alloc (jc d 48)) (jc a8 23));rw[jC]at g;obtain⟨B,j⟩:=J ((w.alloc (jc d 48)).alloc (jc a8 23));obtain⟨b,k⟩:=J w.heap.size;rw[<-j]at g a f;rw[<-k]at g f;have t:=O g;have l:=O a;have u:=O f;have v:=O j;have x:=O k;clear g a j k f i p h m n
 go_enter func16,ntmps16
 go_upto_region 1 with fail
 rw[<-v,<-x];clear v
 go_wp2_with (refine pz T 48 _ T b T 48 d (0,0) _ u.out underlying48 T (by rw[z];exact mQ) ?_)
 obtain⟨h,i,j,k⟩:=o.lens;rw[s];refine(tm c q B (y.below l) h i j k).mono ?_;rintro e C ⟨v,rfl,f,a⟩;obtain⟨p,m,rfl⟩:∃p m,v=jb p 11 m:=by obtain⟨K,D,-⟩:=f;exact cK D
 have E:=O f;have n:=ae t a;have g:=ah l a;rw[<-s];clear f a t l u h i j k
 go_wp2_with fail
 refine(mK sB L (aR c) _ C (E.val 11 (jn _)).2 o (r.below g).num (r.below g).start).mono ?_;rintro e h ⟨rfl,a⟩;have t:=ae n a;have u:=ah g a;have i:((cW sB (aR c)).map v8).toArray.size=32:=by rw[jU,jD,eT]
 have j:=eU (cW sB (aR c));obtain⟨f,k⟩:=J (((cW sB (aR c)).map v8).toArray);rw[<-k]at i j⊢;have F:=O k;have l:=O i;have H:=O j;clear k i j a n g
 go_wp2_with (refine o1 T λ_ a=>p6 23 _ _ T (b+1) f T T 23 _ t.out (by rw[l];rfl) (by rw[l];simp) H (a _ _ ?_))
 have a:(h.setRow (b+1) f).heap[b+1]?=ja (jc f 23 (0,0)):=qa _ _ _ _ _ _ t.out;have g:jl w w (h.setRow (b+1) f):=qb u.out (by rw[x];omega) _;generalize h.setRow (b+1) f=k at a g⊢;have i:=O g;have j:=O a;clear a g
 go_wp2_with fail
 refine jX (v:=jq f) ?_ T ?_
 ·exact qf T _ _ _ 23 _ (0,0) _ T j xd T (by rw[l];rfl)
 exact⟨by rw[F];rfl,i⟩
theorem wn{P:qP}(t e:jH)(k:je)(a:P.underlying t=ja (.slice e))(b:∀w,(sizeOf e).run P w=.ok k w)(g o n c h:je)(d:h<=c)(W:jg):
 (Instr.sliceAt t (jb (ja ⟨g,o,A⟩) n c) A (ja (I N (h:jd))) A).run P W=.ok (jb (ja ⟨g,o,A⟩) h c) W:=by
 have he:P.elem t=e:=by simp[Program.elem,a]
 rw[run_sliceAt_slice W t _ _ _ _ (by rw[he];exact a),run_slice_h W t _ n c (by rw[he];exact a) .i64 _ Y Y,he];simp[b,Result.andThen,sliced,Addr.add]
 try(split<;>simp_all)
theorem wS:∀w,(sizeOf 184).run jm w=.ok 4 w:=λw=>by go_simp
theorem nW(h:w.heap[B]?=ja (jc (j.map v8).toArray 23 (0,0)))(a:j.length=32):bD w (jb (ja ⟨B,0,A⟩) 32 32) j:=by
 refine⟨_,32,by rw[a],by rw[a];exact jn _,(λh=>by cases h),λ_=>⟨B,0,T,λl b=>ai h ?_⟩⟩;rw[ms];simp[jO,b]
theorem Hn(c:Cmt)(q:CQ)(w:jg)(f:aW (·<w.heap.size) w c q)(l:cZ (aR c))(m:bH w):
 jr jm 34 #[jq (aE c q).toArray] w λe w'=>∃D,e=jo (jb (ja ⟨D,0,A⟩) 32 32)/\bD w' (jb (ja ⟨D,0,A⟩) 32 32) (dt c)/\jl w w w':=by
 have y:=O f;have o:=O l;have p:=O m;obtain⟨i,g⟩:=J ((aE c q).toArray);rw[<-g];have r:=O g;have n:i.size=73:=by rw[g,jU,dl c q f.plen f.clen]
 have z:=O n;have d:=js w (jc i 48);have a:=ao w (jc i 48);obtain⟨B,h⟩:=J (w.alloc (jc i 48));obtain⟨b,j⟩:=J w.heap.size;rw[<-h]at a d;rw[<-j]at d;have k:=O a;have s:=O d;have t:=O h;have C:=O j;clear a h j d g n f l m
 go_enter func34,ntmps34
 go_upto_region 1 with fail
 rw[<-t,<-C];clear t
 go_wp2_with (refine pz T 48 _ T b T 48 i (0,0) _ s.out underlying48 T (by rw[z];exact mQ) ?_)
 obtain⟨m,n,t,u⟩:=o.lens;rw[r];refine(tm c q B (y.below k) m n t u).mono ?_;rintro e E ⟨v,rfl,j,a⟩;obtain⟨l,f,rfl,P⟩:∃g f,v=jb (ja ⟨g,0,A⟩) 11 f/\11<=f:=by
  obtain⟨H,h,-⟩:=j;obtain⟨g,c,x,F,-⟩:=vu h L;exact⟨g,c,x,F⟩
 have F:=O j;have h:=ah k a;have H:∀W,(Instr.sliceAt 124 (jb (ja ⟨l,0,A⟩) 11 f) A (ja (I N 9)) A).run jm W=.ok (jb (ja ⟨l,0,A⟩) 9 f) W:=λW=>wn 124 184 4 xa wS l 0 11 f 9 Y W
 rw[<-r];clear j a k s m n t u
 go_wp2_with fail
 refine(mK ts L ((aR c).take 9) _ E (F.val 9 L).2 (o.take (by rw[zz];decide) 9) (p.below h).num (p.below h).start).mono ?_;rintro e j ⟨rfl,a⟩;have s:=ah h a;have t:((cW ts ((aR c).take 9)).map v8).toArray.size=32:=by rw[jU,jD,eT]
 have k:=eU (cW ts ((aR c).take 9));obtain⟨m,n⟩:=J (((cW ts ((aR c).take 9)).map v8).toArray);rw[<-n]at t k⊢;have u:=O n;have Q:=zp j a8 m T t k;have x:=js j (jc m 23);have K:=O x;have M:=O (s.trans ((ao j (jc m 23)).mono s.size));clear n a h k x H
 go_wp2_with fail
 go_ret;have h:=K.out;rw[u]at h;have d:=nW h (eT _ _);rw[<-u]at d;refine⟨j.heap.size,T,?_,M⟩;exact d
structure yz(b:je)(a:LBy)(w w':jg):Prop where
 buf:Buf b a w'
 bel:jl b w w'
theorem Iy(k:LBy)(g:je){W:jg}{t:jH}(h:W.heap[g]?=ja (jc (k.map v8).toArray t (0,0))):∀j v,(k.map v8)[j]?=ja v->W.cell? ((⟨g,0,A⟩:jM).add j)=ja v:=by
 intro j v a;have e:(⟨g,0,A⟩:jM).add j=⟨g,j,A⟩:=by unfold Addr.add;split<;>simp_all
 rw[e];exact ai h (by rw[List.getElem?_toArray];exact a)
theorem Gq(b:je)(a d:LBy)(g n c:je)(w:jg)(h:Buf b a w)(f:d.length=n)(i:g≠b)(k:∀j v,(d.map v8)[j]?=ja v->w.cell? ((⟨g,0,A⟩:jM).add j)=ja v)(m:a.length+n<=1000000):
 jr jm 157 #[jA (ja ⟨b,0,A⟩),jb (ja ⟨g,0,A⟩) n c] w λe w'=>e=jo (jw #[I N n,.nilIface])/\yz b (a++d) w w':=by
 refine(Tryz.Buffer_Write_at _ _ b b 0 (a.map v8) (d.map v8) ⟨g,0,A⟩ n c w h (sv h.lt) (iu _) (by rw[jD];exact f) i k (iu _) (by rw[jD];omega)).mono ?_;rintro e w' ⟨rfl,j,l,-⟩;exact⟨T,by unfold Buf;rw[j4];exact j,l⟩
theorem uj(b:je)(a k:LBy)(w:jg)(h:Buf b a w)(o:k.length=32)(r:a.length<=900000):
 jr jm 156 #[jA (ja ⟨b,0,A⟩),jq (k.map v8).toArray] w λe w'=>e=jo (jA (ja ⟨b,0,A⟩))/\yz b (a++k) w w':=by
 obtain⟨i,l⟩:=J ((k.map v8).toArray);rw[<-l];have p:=h.lt;have d:=ao w (jc i 66);have m:=js w (jc i 66);obtain⟨c,f⟩:=J (w.alloc (jc i 66));obtain⟨g,n⟩:=J w.heap.size;have s:=O f;have t:=O n;rw[<-f]at d;rw[<-f,<-n]at m;have u:jk (g≠b):=O Y;have q:=O (h.keep d);have x:=O (d.mono (sv p));have y:jk (∀j v,(k.map v8)[j]?=ja v->c.cell? ((⟨g,0,A⟩:jM).add j)=ja v):=O (Iy k g (by rw[<-l];exact m));have v:=O o;have z:jk (a.length+32<=1000000):=O Y;clear l h p d m f n o r
 go_enter func156,ntmps156
 go_upto_region 1 with fail
 rw[<-s,<-t];refine jT ?_;refine dj (λd=>True) (.t 0 (.t 1 (.t 2 (.t 3 (.o 4 .done))))) af af af L (λ_ _ _ _ h=>h) trivial ?_;iterate 4 refine aO ?_
 refine aF T (λd f=>?_);go_simp;refine(Gq b a k g 32 32 c.drew (q.keep (bV c)) v u y z).mono ?_;rintro e l ⟨rfl,d⟩;have j:jk (yz b (a++k) c l):=O ⟨d.buf,((bV c).mono (sv q.lt)).trans d.bel⟩;clear d;refine f _ _ trivial λ_=>?_
 clear f;refine G ?_;refine jR ?_
 go_wp2_with fail
 go_ret;exact⟨T,j.buf,x.trans j.bel⟩
theorem Dh(b:je)(a:LBy)(s:ByteArray)(B:s.size<=100000)(w:jg)(h:Buf b a w)(C:a.length<=900000)(t:bH w):
 jr jm 158 #[jA (ja ⟨b,0,A⟩),jj s] w λe w'=>e=jo (jq ((dp (bZ s) a).map v8).toArray)/\jl w w w':=by
 obtain⟨g,i⟩:=J (dp (bZ s) a);have j:=iP (bZ s) a;rw[<-i]at j⊢;have k:(g.map v8).toArray.size=32:=by rw[jU,jD,j]
 have l:(g.map v8).toArray.all (·.oneCell')=jf:=by
  rw[List.all_toArray,List.all_eq_true];exact λc d=>iu _ c d
 obtain⟨m,n⟩:=J ((g.map v8).toArray);rw[<-n]at k l⊢;have D:=O n;have E:=O i;have o:=O k;have F:=O l;have c:=ao w (jc a8 66);have p:=js w (jc a8 66);obtain⟨H,d⟩:=J (w.alloc (jc a8 66));obtain⟨f,q⟩:=J w.heap.size;have K:=O d;rw[<-d]at c;rw[<-d,<-q]at p;have u:=O (h.keep c);have x:=O (t.below c);have y:=O c;have r:=O p;have z:=O q;clear h c p t n i j k l d q
 go_enter func158,ntmps158
 go_wp2_with fail
 rw[<-K,<-z];refine(Ri b a H u).mono ?_;rintro e l ⟨v,rfl,d,c⟩;have h:=sj s B v a C l (bD.of_own (by rw[jD]at d;exact d)) (x.below c).num (x.below c).start;rw[<-E,<-D]at h;have j:=O h;have i:=O ((c.block _ (jK.1 r).1).trans r);have k:=ah y c;clear c r y u h d
 go_wp2_with fail
 refine j.mono ?_;rintro e h ⟨rfl,c⟩;have d:=O ((c.block _ (jK.1 i).1).trans i);have n:=ah k c;clear c i k j
 go_wp2_with (refine o1 T λ_ c=>p6 66 _ _ T f m T T 66 _ d.out (by rw[o];rfl) (by rw[o];rfl) F (c _ _ ?_))
 have c:(h.setRow f m).heap[f]?=ja (jc m 66 (0,0)):=qa _ _ _ _ _ _ d.out;refine jX (qf T _ _ f 66 _ (0,0) _ T c nn T (by rw[o];rfl)) T ?_;exact⟨T,qb n.out (by rw[z];exact jn _) _⟩
def lq(s:ByteArray)(nums:jh jd):Val:=vL (.mk 2 0 s []::nums.map vI)
def dZ(k:LBy)(s:ByteArray)(nums:jh jd):LBy:=dp (bZ ⟨#[100,101,114,105,118,101]⟩) (k++enc (lq s nums))
theorem pD(k s nums):(dZ k s nums).length=32:=iP _ _
def lH(s:ByteArray)(nums:jh jd):jh ji:=[I N 2,I N 0,jj s,jb A 0 0]++ie nums
theorem SB{a:ji}{s:ByteArray}{nums:jh jd}(b:w.ownsRow B 184 4 a (nums.length+1) (lH s nums))(c:∀g,a.ownBlock=ja g->D g):aV D w (lq s nums) a:=by
 rw[lq,vL,aV];refine⟨dJ::j9 nums.length dJ,?_,?_⟩
 ·rw[jW,jD];exact aG.of_own b c
 rw[aN];refine⟨dJ,_,T,?_,wZ nums⟩;rw[aV];exact⟨[],⟨T,A,0,T,jn _,λ_=>rfl,λh=>jG h L⟩,by rw[aN]⟩
structure AT(s:ByteArray)(nums:jh jd):Prop where
 wf:wfV 16 (lq s nums)
 len:(enc (lq s nums)).length<=800000
 cnt:nums.length<=100000
theorem QP(s:ByteArray)(l:jh jd)(n:jd):lH s (l++[n])=lH s l++[I N 1,I N n,jj ⟨#[]⟩,jb A 0 0]:=by
 unfold lH;rw[IM,j6]
theorem NF{i:je}(h:w.ownsRow B e m d i b)(sz:0<i):∃g c,d=jb (ja ⟨g,0,A⟩) i c/\B<=g/\g<w.heap.size/\∀j xs,b[j]?=ja xs->w.cell? ((⟨g,0,A⟩:jM).add j)=ja xs:=by
 rcases h.2 with⟨rfl,o⟩|⟨g,f,p,rfl,n,v,q,r,s,k⟩
 ·omega
 refine⟨g,f,T,n,(jK.1 v).1,λj xs a=>?_⟩;have e:(⟨g,0,A⟩:jM).add j=⟨g,j,A⟩:=by unfold Addr.add;split<;>simp_all
 rw[e];refine ai v ?_;rw[<-k]at a;have l:=(xu.1 a).1;rw[qh]at l;rw[r4 Y]at a;rw[<-a];simp
theorem Fv(h:∀j w',b[j]?=ja w'->w.cell? ((⟨B,0,A⟩:jM).add j)=ja w')(xs:a.heap[B]?=w.heap[B]?):∀j w',b[j]?=ja w'->a.cell? ((⟨B,0,A⟩:jM).add j)=ja w':=by
 intro j w' c;have e:(⟨B,0,A⟩:jM).add j=⟨B,j,A⟩:=by unfold Addr.add;split<;>simp_all
 have:=h j w' c;rw[e]at this⊢;exact(dY xs).trans this
theorem sD(k:LBy)(r:k.length=32)(s:ByteArray)(l:jh jd)(v:ji)(w:jg)(hv:df w v l)(f:AT s l)(K:bH w):
 jr jm 101 #[jq (k.map v8).toArray,jj s,v] w λe w'=>e=jo (jq ((dZ k s l).map v8).toArray)/\jl w w w':=by
 obtain⟨p,c,rfl,hc,t⟩:=hv;obtain⟨n,u⟩:=J l.length;have hl:=f.cnt;rw[<-u]at hc hl t⊢;have z:=O u;have B:=O f;have S:=O t;have C:=O r;obtain⟨h,g⟩:=J ((k.map v8).toArray);have M:h.size=32:=by rw[g,jU,jD,r]
 have x:=ao w (jc h 66);have y:=js w (jc h 66);have E:=ao (w.alloc (jc h 66)) (jc a8 66);have b:=js (w.alloc (jc h 66)) (jc a8 66);rw[jC]at b;obtain⟨a,i⟩:=J ((w.alloc (jc h 66)).alloc (jc a8 66));obtain⟨d,o⟩:=J w.heap.size;have q:=(E.block _ (jK.1 y).1).trans y;have m:=O (x.trans (E.mono x.size));have P:a.heap.size=d+1+1:=by rw[i,o];simp
 rw[<-o]at q b;rw[<-i]at q b m;rw[<-g];have U:=O g;have VA:=O i;have F:=O o;have Ym:=O q;have UQ:=O b;have H:=O K;have U8:=O M;have j:=O P;clear u f t r g x y E b i o q K M P
 go_enter func101,ntmps101
 go_upto_region 2 with fail
 rw[<-VA,<-F];have b:=ao a (jc #[I N 2,I N 0,jj s,jb A 0 0] 184);have g:(a.alloc (jc #[I N 2,I N 0,jj s,jb A 0 0] 184)).ownsRow a.heap.size 184 4 (jb (ja ⟨d+1+1,0,A⟩) 1 1) 1 (lH s []):=by
  rw[<-j];refine⟨by simp[lH,ie,cR],.inr ⟨a.heap.size,1,_,T,jn _,js a _,jn _,by unfold j3;omega,rfl,by simp[lH,ie,cR]⟩⟩
 obtain⟨W2,i⟩:=J (a.alloc (jc #[I N 2,I N 0,jj s,jb A 0 0] 184));rw[<-i]at b g⊢;have Ur:=O b;have V:=O g;obtain⟨v2,o⟩:=J (jP (ja ⟨d+1+1,0,A⟩) 1 1);rw[<-o]at V⊢;have bd:=b.size;clear b g i o
 go_wp2_with fail
 go_loopw [7,18] (λg b wr=>∃(i:je) (K:ji),g=K/\b=I N i/\i<=n/\jk (wr.ownsRow a 184 4 K (i+1) (lH s (l.take i)))/\jk (jl a a wr)) (λ_ b _=>n-(jv b).toNat)
 case atStart=>exact⟨0,_,T,T,jJ _,O (by rw[List.take_zero];exact V),Ur⟩
 obtain⟨i,K,rfl,rfl,hi,t,q⟩:=hrel
 by_cases W:i<n
 ·have X:=aw ((i:jd)<(n:jd))
  have UL:=aw (i<n);obtain⟨g,o,rfl,u⟩:=S Y;have r:i<l.length:=by rw[<-z];exact W
  have E:l.getD i 0=l[i]:=by simp[jO,r]
  obtain⟨y,x⟩:=J (l.getD i 0);have b:=u i W;rw[<-x]at b;have M:wr.cell? ⟨g,o+i,A⟩=ja (I N y):=(dY (q.block g (jN (gh b) m.size))).trans ((dY (m.block g (gh b))).trans b);have H:jk (lH s (l.take (i+1))=lH s (l.take i)++[I N 1,I N y,jj ⟨#[]⟩,jb A 0 0]):=O (by
   rw[o8 r,QP,x,E])
  have P:=q.size;clear E x b u r S
  go_wp2_with (at_builtin;refine Hid.out ?_)
  refine O ?_;refine o1 T λ_ x=>pW _ _ T a.heap.size _ _ _ T (cL t (ao wr _)) _ 1 [I N 1,I N y,jj ⟨#[]⟩,jb A 0 0] T (lz wr [I N 1,I N y,jj ⟨#[]⟩,jb A 0 0] _ _ 4 1 1 T (jn _)) (by simp[j1]) (show i+1+1<=4000000 by omega) (by rw[jC];omega) λE w6 b=>x _ _ ?_
  have r:=O (q.trans (((ao wr _).mono (show a.heap.size<=wr.heap.size by omega)).trans (b.below (cL t (ao wr _)) (by rw[jC];omega))));replace b:=O b.own;clear x
  go_wp2_with fail
  refine⟨⟨i+1,_,T,by go_num,by omega,O (by rw[H];exact b),r⟩,?_⟩;simp only[jv];omega
 have X:=az ((i:jd)<(n:jd));have UL:=az (i<n);have o:i=n:=Y;have b:=t.out;rw[o,nv (by rw[<-z];exact jn _),z]at b;obtain⟨p7,c7,rfl⟩:=cK b;have y:=SB (D:=(·<wr.heap.size)) b (λg u=>(b.lt g u).2);have aa:=O (EZ (lq s l) _ 3 wr T B.wf y (cT B.len));have bf:=O o;clear o b y t
 go_wp2_with fail
 refine aa.mono ?_;rintro e u ⟨vb,rfl,ad,b⟩;have o:=ah q b;clear b
 go_upto_region 9 with fail
 have y:=Buf.new u;have g:=ao u (jc #[jb A 0 0,I N 0,.int .i8 0] 248);obtain⟨M,Zg⟩:=J (u.alloc (jc #[jb A 0 0,I N 0,.int .i8 0] 248));obtain⟨b,P⟩:=J u.heap.size;rw[<-Zg]at y g⊢;rw[<-P]at y⊢;have au:=o.size;have Q:M.heap[d]?=ja (jc h 66 (0,0)):=(g.block _ (aJ j)).trans ((o.block _ (aJ j)).trans Ym);have ax:M.heap[d+1]?=ja (jc a8 66 (0,0)):=(g.block _ (aJ j)).trans ((o.block _ (aJ j)).trans UQ);have ay:=Q;rw[U]at Q;obtain⟨gb,cb,e3,bb,R,t⟩:=NF ad (DT _);subst e3;have a1:gb<b:=by rw[P];exact R
 replace t:=Fv t (g.block _ R);obtain⟨E,f⟩:=J (enc (lq s l));have a2:E.length<=800000:=by rw[f];exact B.len
 rw[<-f]at t⊢;have a3:=O y;have a4:=O ay;have YL:=O ax;have Zi:=O t;have bc:=O f;have Wi:=O a1;have a5:=O a2;have UA:=O (m.trans ((o.mono m.size).trans (g.mono (jz m.size au))));have a6:jk (w.heap.size<=b):=O (ee j F);have ba:jk (d+1<b):=O (aJ j);clear y g Zg P au Q ax ay ad bb R t a1 f a2 aa o q j X UL;refine qS ?_;refine pz T 66 _ T d T 66 h (0,0) _ a4.out nn T (by rw[U8];rfl) ?_
 go_wp2_with fail
 have f:=uj b [] k M a3 C ar;rw[<-U]at f;refine f.mono ?_;clear f;rintro e y ⟨rfl,f⟩;rw[qc]at f;have g:jk (∀j v,(E.map v8)[j]?=ja v->y.cell? ((⟨gb,0,A⟩:jM).add j)=ja v):=O (by
  exact Fv Zi (f.bel.block _ Wi.out))
 have j:=O ((f.bel.block _ ba.out).trans YL);have q:=O (UA.trans (f.bel.mono a6));have t:=O f.buf;clear f YL UA Zi a4 a3
 go_wp2_with fail
 refine(Gq b k E gb E.length cb y t T (Nat.ne_of_lt Wi) g (by have:=a5.out;rw[C];omega)).mono ?_;rintro e w6 ⟨rfl,f⟩;have o:=O ((f.bel.block _ ba.out).trans j);have r:=O (q.trans (f.bel.mono a6));have ad:=O f.buf;clear f j q t g;have f:=Dh b (k++E) ⟨#[100,101,114,105,118,101]⟩ L w6 ad (by have:=a5.out;rw[jL,C];omega) (H.below r);have P:dp (bZ ⟨#[100,101,114,105,118,101]⟩) (k++E)=dZ k s l:=by rw[bc];rfl
 rw[P]at f;have Q:=pD k s l;have q:=eU (dZ k s l);obtain⟨g,j⟩:=J (((dZ k s l).map v8).toArray);have R:g.size=32:=by rw[j,jU,jD,Q]
 rw[<-j]at f q;have aa:=O f;have au:=O j;have t:=O R;have ax:=O q;clear f P Q q j R
 go_wp2_with fail
 refine aa.mono ?_;rintro e q ⟨rfl,f⟩;have j:=O ((f.block _ (jK.1 o).1).trans o);have P:=ah r f;clear f o r aa
 go_wp2_with (refine o1 T λ_ x=>p6 66 _ _ T (d+1) g T T 66 _ j.out (by rw[t];rfl) (by rw[t];rfl) ax (x _ _ ?_))
 have f:(q.setRow (d+1) g).heap[d+1]?=ja (jc g 66 (0,0)):=qa _ _ _ _ _ _ j.out;refine jX (qf T _ _ (d+1) 66 _ (0,0) _ T f nn T (by rw[t];rfl)) T ?_;exact⟨by rw[au],qb P.out (by rw[F];exact Nat.le_succ _) _⟩
def o6(s:ByteArray)(a b:LBy):LBy:=dp (bZ ⟨#[109,105,120]⟩) ([]++dR (bZ s)++a++b)
theorem EB(s a b):(o6 s a b).length=32:=iP _ _
theorem Mw:(jm.info? 66).map (·.size)=ja 32:=by kernel_rfl
theorem tu{a:Act}{o:ob}{x:Operand}(e:h.size=32)(f:o.op=.load 66 x)(g:a.eval x=jA (ja ⟨B,0,A⟩))(i:w.heap[B]?=ja (jc h 66 (0,0))):
 (qz a.eval o).run jm w=.ok (.value (jq h)) w:=by
 have c:=eF (P:=jm) o a 66 x f B 0 g h.toList _ (vP (t:=66) (l:=h.toList) (ak i)) nn T (by rw[Array.length_toList,e];exact Mw)
 simpa using c
theorem Rm(s:ByteArray)(R:s.size<=100000)(g i:LBy)(q:g.length=32)(r:i.length=32)(w:jg)(S:bH w):
 jr jm 150 #[jj s,jq (g.map v8).toArray,jq (i.map v8).toArray] w λe w'=>e=jo (jq ((o6 s g i).map v8).toArray)/\jl w w w':=by
 obtain⟨A0,U⟩:=J (((dR (bZ s)).map v8).toArray);obtain⟨k,t⟩:=J ((g.map v8).toArray);obtain⟨l,u⟩:=J ((i.map v8).toArray);have V:k.size=32:=by rw[t,jU,jD,q]
 have W:l.size=32:=by rw[u,jU,jD,r]
 have X:=EB s g i;have z:=eU (o6 s g i);obtain⟨m,x⟩:=J (((o6 s g i).map v8).toArray);have aa:m.size=32:=by rw[x,jU,jD,X]
 rw[<-x]at z⊢;rw[<-t,<-u];obtain⟨f,d⟩:=J w.heap.size;obtain⟨j,c⟩:=J (((w.alloc (jc k 66)).alloc (jc l 66)).alloc (jc a8 66));have hp:j.heap[f]?=ja (jc k 66 (0,0)):=by
  rw[c,d];exact(jF _ _ _ (by simp;omega)).trans ((jF _ _ _ ar).trans (js w _))
 have ad:j.heap[f+1]?=ja (jc l 66 (0,0)):=by
  have h:=js (w.alloc (jc k 66)) (jc l 66);rw[jC]at h;rw[c,d];exact(jF _ _ _ ar).trans h
 have hr:j.heap[f+1+1]?=ja (jc a8 66 (0,0)):=by
  have h:=js ((w.alloc (jc k 66)).alloc (jc l 66)) (jc a8 66);rw[jC,jC]at h;rw[c,d];exact h
 have a:jl w w j:=by
  rw[c];exact(((jy _ w).alloc (jn _) _).alloc ar _).alloc (by simp;omega) _
 have au:j.heap.size=f+1+1+1:=by rw[c,d];simp
 have o:=Buf.new j;have n:=ao j (jc #[jb A 0 0,I N 0,.int .i8 0] 248);obtain⟨W2,B⟩:=J (j.alloc (jc #[jb A 0 0,I N 0,.int .i8 0] 248));rw[<-B]at o n;rw[au]at o;obtain⟨b,C⟩:=J (f+1+1+1);rw[<-C]at o;have D:jk (w.heap.size<=b):=O Y;have E:jk (f<b):=O Y;have F:jk (f+1<b):=O Y;have H:jk (f+1+1<b):=O Y;have ax:=O o;have K:=ae hp n;have M:=ae ad n;have UP:=ae hr n;have Ur:=O (a.trans (n.mono a.size));have HG:=O d;have VA:=O c;have a2:=O B;have We:=O C;have Vr:=O U;have UU:=O t;have Vo:=O u;have a3:=O V;have Zj:=O W;have ay:=O x;have P:=O aa;have a4:=O z;have p:=O q;have a1:=O r;have Q:=O S;have y:jk (s.size<=100000/\(dR (bZ s)).length=32):=O ⟨R,mG _⟩;clear d c B C U t u V W x X aa z q r S R hp ad hr a au o n
 go_enter func150,ntmps150
 go_upto_region 2 with fail
 rw[<-HG,<-VA,<-a2,<-We];refine jT ?_;refine dj (λc=>c.heap[f]?=ja (jc k 66 (0,0))/\c.heap[f+1]?=ja (jc l 66 (0,0))) (.t 0 (.t 4 (.t 6 (.o 1 (.o 2 (.o 3 (.o 5 (.o 7 (.o 8 (.o 9 .done)))))))))) af af af L (λ_ _ _ _ h=>h) ⟨K,M⟩ ?_;obtain⟨o,d⟩:=J W2.drew;have a:=bV W2;rw[<-d]at a⊢;have x:=O (ax.keep a);have z:=ae UP a;have B:=ae K a;have C:=ae M a;have R:=ah Ur a;clear ax UP K M Ur a d;refine aO ?_
 (refine aS (v:=jq k) T aj (λc d=>tu a3 T T d.1) (G ?_))
 (refine aS (v:=jq l) T aj (λc d=>tu Zj T T d.2) (G ?_))
 refine aF T (λn c=>?_);go_simp;have d:=H3 s o;rw[d];have a:=AV s o o.heap.size (jn _);have h:=BW s o;obtain⟨x1,t⟩:=J (nI s o);rw[<-t]at a h⊢;clear d t;have K:=O (x.keep a);have M:=ae z a;have t:=ae B a;have u:=ae C a;have d:=ah R a;clear x z B C R a;have V:=O h;clear h;go_simp;refine c _ _ ⟨t,u⟩ λ_=>?_
 clear c;refine G ?_;refine aF T (λn c=>?_);go_simp;have h:=tW _ _ (by rw[kR];have:=y.out;omega) x1 V (Q.below d).num (Q.below d).start;rw[<-Vr]at h;refine h.mono ?_;clear h;rintro e x2 ⟨rfl,a⟩;have B:=O (K.keep a);have C:=ae M a;have x:=ae t a;have z:=ae u a;have R:=ah d a;clear K M t u d a;refine c _ _ ⟨x,z⟩ λ_=>?_
 clear c;refine G ?_;refine aF T (λn c=>?_);go_simp;have h:=uj b [] (dR (bZ s)) x2 B (mG _) (by have:=y.out;have:=p.out;simp only[j8,jL];omega);rw[<-Vr]at h;refine h.mono ?_;clear h;rintro e W ⟨rfl,d⟩;have K:=O d.buf;have M:=O ((d.bel.block _ H.out).trans C);have t:=O ((d.bel.block _ E.out).trans x);have u:=O ((d.bel.block _ F.out).trans z);have S:=O (R.trans (d.bel.mono D));clear d B C x z R;refine c _ _ ⟨t,u⟩ λ_=>?_
 clear c;refine G ?_;refine aF T (λn c=>?_);go_simp;have h:=uj b ([]++dR (bZ s)) g W K p (by have:=y.out;have:=p.out;simp only[j8,jL];omega);rw[<-UU]at h;refine h.mono ?_;clear h;rintro e X ⟨rfl,d⟩;have C:=O d.buf;have R:=O ((d.bel.block _ H.out).trans M);have x:=O ((d.bel.block _ E.out).trans t);have z:=O ((d.bel.block _ F.out).trans u);have U:=O (S.trans (d.bel.mono D));clear d K M t u S;refine c _ _ ⟨x,z⟩ λ_=>?_
 clear c;refine G ?_;refine aF T (λn c=>?_);go_simp;have h:=uj b ([]++dR (bZ s)++g) i X C a1 (by have:=y.out;have:=p.out;simp only[j8,jL];omega);rw[<-Vo]at h;refine h.mono ?_;clear h;rintro e S ⟨rfl,d⟩;have h:=O d.buf;have K:=O ((d.bel.block _ H.out).trans R);have t:=O ((d.bel.block _ E.out).trans x);have u:=O ((d.bel.block _ F.out).trans z);have B:=O (U.trans (d.bel.mono D));clear d C R x z U;refine c _ _ ⟨t,u⟩ λ_=>?_
 clear c;refine G ?_;refine aF T (λn c=>?_);go_simp;have d:=Dh b ([]++dR (bZ s)++g++i) ⟨#[109,105,120]⟩ L S h (by have q:=mG (bZ s);have r:=p.out;have x:=a1.out;simp only[j8,jL];omega) (Q.below B);have x:dp (bZ ⟨#[109,105,120]⟩) ([]++dR (bZ s)++g++i)=o6 s g i:=T;rw[x]at d;rw[<-ay]at d;refine d.mono ?_;clear d x;rintro e d ⟨rfl,a⟩;have U:=O (h.keep a);have x:=ae K a;have C:=ae t a;have M:=ae u a;have R:=ah B a;clear h K t u B a;refine c _ _ ⟨C,M⟩ λ_=>?_
 clear c;refine G ?_;refine aF T (λn c=>?_);rw[jB aj];refine p6 66 _ _ T (f+1+1) m T T 66 _ x.out (by rw[P];rfl) (by rw[P];rfl) a4 (c _ _ ⟨(qg _ _ _ _ Y).trans C,(qg _ _ _ _ Y).trans M⟩ λ_=>?_);clear c;have a:(d.setRow (f+1+1) m).heap[f+1+1]?=ja (jc m 66 (0,0)):=qa _ _ _ _ _ _ x.out;have c:jl w w (d.setRow (f+1+1) m):=qb R.out (by rw[HG];omega) _;generalize d.setRow (f+1+1) m=z at a c⊢;have h:=O a;have n:=O c;clear a c;refine G ?_;refine jR ?_
 go_wp2_with fail
 refine jX (qf T _ _ (f+1+1) 66 _ (0,0) _ T h nn T (by rw[P];rfl)) T ?_;exact⟨by rw[ay],n⟩
theorem zR(w:jg):df w (jb A 0 0) []:=⟨A,0,T,jn _,λh=>jG h ar⟩
theorem GZ(a:je)(b:a<2^64):(cY a).length<=10:=mi a b
theorem AL(s:ByteArray)(b:s.size<=1000):AT s [] where
 wf:=by
  rw[lq,vL,wfV];refine .inr (.inr ⟨T,T,T,by simp,λx a=>?_⟩);simp only[sh,List.mem_cons,List.mem_nil_iff,or_false]at a;subst a;rw[wfV];exact .inr (.inl ⟨T,T,by omega,rfl⟩)
 len:=by
  rw[lq,pG];simp only[sh,encs,enc];rw[jI L,jB trivial];have a:=GZ 1 L;have c:=GZ s.size Y;simp only[jW,jL,j8,kR];simp only[j8,ms];omega
 cnt:=by simp
theorem Al(h:w.heap[B]?=ja (jc (j.map v8).toArray e (0,0)))(a:j.length=32):bD w (jb (ja ⟨B,0,A⟩) 32 32) j:=by
 refine⟨_,32,by rw[a],by rw[a];exact jn _,(λh=>by cases h),λ_=>⟨B,0,T,λl b=>ai h ?_⟩⟩;rw[ms];simp[jO,b]
def uV(k:LBy)(s:ByteArray):je:=oV (bZ ⟨#[115,99,97,108,97,114]⟩) (dZ k s [])
theorem GY(k:LBy)(o:k.length=32)(s:ByteArray)(y:s.size<=1000)(w:jg)(h:bH w):
 jr jm 152 #[jq (k.map v8).toArray,jj s] w λe w'=>e=jo (I N (uV k s:je))/\jl w w w':=by
 obtain⟨b,i⟩:=J ((k.map v8).toArray);have p:b.size=32:=by rw[i,jU,jD,o]
 have a:=ao w (jc b 66);have c:=js w (jc b 66);obtain⟨z,j⟩:=J w.heap.size;obtain⟨B,l⟩:=J (w.alloc (jc b 66));rw[<-j]at c;rw[<-l]at c a;have d:=sD k o s [] _ B (zR _) (AL s y) (h.below a);rw[<-i]at d⊢;have m:=pD k s [];have n:=eU (dZ k s []);obtain⟨f,g⟩:=J (((dZ k s []).map v8).toArray);have q:f.size=32:=by rw[g,jU,jD,m]
 rw[<-g]at n d;have C:=O j;have D:=O l;have E:=O a;have r:=O c;have t:=O d;have F:=O g;have u:=O q;have v:=O m;have H:=O n;have K:=O p;have x:=O h;clear i p a c j l d m n g q h
 go_enter func152,ntmps152
 go_upto_region 1 with fail
 rw[<-C,<-D];refine qS ?_;refine pz T 66 _ T z T 66 b (0,0) _ r.out nn T (by rw[K];rfl) ?_
 go_wp2_with fail
 refine t.mono ?_;rintro e a ⟨rfl,c⟩;have g:=ah E c;clear c t r
 go_wp2_with (refine o1 T λ_ j=>p6 66 _ _ T a.heap.size f T T 66 _ (js a _) (by rw[u];rfl) (by rw[u];rfl) H (j _ _ ?_))
 obtain⟨h,c⟩:=J ((a.alloc (jc a8 66)).setRow a.heap.size f);have i:h.heap[a.heap.size]?=ja (jc f 66 (0,0)):=by rw[c];exact qa _ _ _ _ _ _ (js a _)
 have d:jl w w h:=by rw[c];exact qb (g.trans ((ao a _).mono g.size)) g.size _
 rw[F]at i;have l:=Ij ⟨#[115,99,97,108,97,114]⟩ L _ _ (by rw[v];decide) h (Al i v) (x.below d).num (x.below d).start;rw[<-c];have m:=O d;clear i c j d;refine l.mono ?_;clear l;rintro e i ⟨rfl,c⟩;have d:=ah m c;clear c
 go_wp2_with fail
 go_ret;exact⟨T,d⟩
theorem KE(n:je)(q:n<=1000000)(w:jg):
 jr jm 204 #[jb A 0 0,I N n] w λe w'=>∃v,e=jo v/\w'.ownsRow w 184 4 v 0 []/\jl w w w':=by
 rcases qJ n with b|b
 ·subst b
  go_enter func204,ntmps204
  go_wp2
  go_ret;exact⟨_,T,j0 _ _ _ _,jy _ _⟩
 obtain⟨i,f,g,j,h⟩:=qj Dc;have a:=Lib.run_append_nil_zeros (P:=jm) w 124 3 124 184 i (jq #[I N 0,I N 0,jj ⟨#[]⟩,jb A 0 0]:ji) .i64 .i64 xa jQ f g n b Y Y (by rw[h];omega);have l:=grownCap_ge w n 0 184;have c:=grownCap_le_maxLen w n 0 184 (by unfold j3;omega);generalize grownCap w n 0 184=C at a l c;have d:(Builtin.zeroCells (jq #[I N 0,I N 0,jj ⟨#[]⟩,jb A 0 0]:ji).cells n++Builtin.zeroCells (jq #[I N 0,I N 0,jj ⟨#[]⟩,jb A 0 0]:ji).cells (C-n)).size=C*4:=by
  rw[Array.size_append,size_zeroCells,size_zeroCells];show n*4+(C-n)*4=C*4;omega
 generalize Builtin.zeroCells (jq #[I N 0,I N 0,jj ⟨#[]⟩,jb A 0 0]:ji).cells n++Builtin.zeroCells (jq #[I N 0,I N 0,jj ⟨#[]⟩,jb A 0 0]:ji).cells (C-n)=Z at a d;have m:=O a;have o:=O d;have p:=O c;clear a d c f g j h;have c:(0:jd)<(n:jd):=Y
 go_enter func204,ntmps204
 go_wp2_with (at_builtin;refine Lib.wpList_append_run _ T _ _ 124 3 T _ _ T T _ _ m.out ?_)
 go_ret;refine⟨_,T,⟨T,.inr ⟨w.heap.size,C,Z,T,jn _,js w.drew _,jJ _,p,o,T⟩⟩,?_⟩;exact⟨T,T,T,by simp,λk a=>jF w.drew _ _ a⟩
def sU(w:jg)(v:ji)(l:jh (jh ji)):Prop:=cE w v 4 l.length l.flatten
def fY(a:jh (jh (jh ji)))(k:je):jh (jh ji):=(a.take k).flatten
theorem Gl(a:jh (jh (jh ji)))(k:je)(b:k<a.length):fY a (k+1)=fY a k++a.getD k []:=by
 unfold fY;rw[List.take_add_one,xC];simp[b,jO]
theorem yV(a:jh (jh (jh ji)))(k:je):(fY a k).length<=a.flatten.length:=by
 have h:a.flatten=fY a k++(a.drop k).flatten:=by
  unfold fY;rw[<-xC,xw]
 rw[h];simp
theorem Qt(g m:je)(t:jH)(h:jh ji)(a:jh (jh (jh ji)))(z:h.length=m)(B:a.length=m)(U:a.flatten.length<=1000000)(w:jg)
 (b:w.heap[g]?=ja (jc h.toArray t (0,0))) (c:∀i,i<m->sU w (h.getD i ju) (a.getD i [])) (V:m<=1000) (d:∀e∈a.flatten,∀o∈e,o.oneCell'=jf):
 jr jm 159 #[jb (ja ⟨g,0,A⟩) m m] w λe w'=>∃v,e=jo v/\w'.ownsRow w 184 4 v a.flatten.length a.flatten.flatten/\jl w w w':=by
 have C:g<w.heap.size:=(jK.1 b).1;have f:jk (∀i,i<m->w.cell? ⟨g,i,A⟩=ja (h.getD i ju)):=O λi D=>by
  simp[j5,b,z,D,jO]
 have u:=O c;have E:=O d;clear c b d
 go_enter func159,ntmps159
 go_wp2_with fail
 go_loopw [3,11] (λs b wr=>∃k:je,b=I N k/\k<=m/\s=I N ((fY a k).length:je)/\wr=w) (λ_ b _=>(m-jv b).toNat)
 case atStart=>exact⟨0,T,by omega,rfl,rfl⟩
 obtain⟨k,rfl,W,rfl,c⟩:=hrel;have F:=c.symm;subst F;clear c
 by_cases s:k<m
 ·have l:=f k s
  have H:=yV a (k+1);have d:=Gl a k Y;obtain⟨n,p,c,j,x,y,q⟩:=u k s;rw[j]at l;have r:(fY a (k+1)).length=(fY a k).length+(a.getD k []).length:=by rw[d];simp
  clear j q d n;generalize(a.getD k []).length=n at l r x;have j:=O r;clear r;generalize(fY a k).length=q at j⊢;have K:¬((q:jd)+(n:jd)<0):=Y;have M:q+n<=1000000:=aJ j
  go_wp2
  refine⟨⟨k+1,by go_num,by omega,?_,trivial⟩,by simp[jv];omega⟩;rw[j];simp
 have X:jk (k=m):=O Y;have H:=yV a k
 go_wp2_with fail
 refine(KE _ Y _).mono ?_;rintro e w1 ⟨v,rfl,K,c⟩;have M:=O c;clear c
 go_wp2_with fail
 go_loopw [6,27] (λl b c=>∃j:je,b=I N j/\j<=m/\c.ownsRow w 184 4 l (fY a j).length (fY a j).flatten/\jk (jl w w c)) (λ_ b _=>(m-jv b).toNat)
 case atStart=>exact⟨0,T,by omega,by simpa [fY]using K,M⟩
 obtain⟨j,rfl,hj,b,c⟩:=hrel
 by_cases x:j<m
 ·have P:=gj (f j x) (c.block _ C)
  have l:=cE.below (u j x) c;have d:=Gl a j Y;have y:=yV a (j+1);generalize h.getD j ju=vj at P l;have n:∀o∈(a.getD j []).flatten,o.oneCell'=jf:=λo p=>by
   obtain⟨e,he,p⟩:=xD.1 p;refine E e (xD.2 ⟨a.getD j [],?_,he⟩) o p;have q:j<a.length:=Y;simp[jO,q]
  generalize a.getD j []=q at d l n;have aa:=c.size;have r:(fY a j).length+q.length<=1000000:=by rw[d,jL]at y;omega
  have Q:=O d;have R:=O n;have S:=O l;clear d l y n
  go_wp2_with (at_builtin;refine Hid.out ?_)
  refine O ?_;refine o1 T λ_ d=>pW _ _ T w.heap.size _ _ _ T b _ q.length q.flatten T S R Y Y λy w4 f=>d _ _ ?_
  have l:=f.own;have n:=f.grown;clear f d
  go_wp2_with fail
  go_roundw
  case rel=>
   refine⟨j+1,by go_num,by omega,?_,c.grown n Y (λk e=>(b.lt k e).1)⟩;rw[Q]
   simpa using l
  case measure=>simp[jv];omega
 have d:j=m:=Y;have l:fY a j=a.flatten:=by rw[d,<-B];simp[fY]
 rw[l]at b;have n:=O b;clear b d l
 go_wp2
 go_ret;exact⟨_,T,n,c⟩
def mJ(w:jg):Prop:=w.var? jm "chartroom/schedule.labels" =ja #[jj ⟨#[105,110,105,116]⟩,jj ⟨#[99,111,109,109,105,116]⟩,jj ⟨#[99,104,105,108,100]⟩]
theorem zK:jm.globalNamed "chartroom/schedule.labels" =ja 0:=by kernel_rfl
theorem mJ.below(h:mJ w)(b:jl w w w'):mJ w':=by
 unfold mJ World.var? at*;rw[zK]at h⊢;simp only[Option.bind_some]at h⊢;have c:0<w.heap.size:=by
  rcases qG 0 w.heap.size with a|a
  ·exact a
  rw[Array.getElem?_eq_none a]at h
  cases h
 rw[b.block _ c];exact h
theorem mJ.c0(h:mJ w):w.cell? ⟨0,0,A⟩=ja (jj ⟨#[105,110,105,116]⟩):=by
 have:=xE zK h 0
 simpa using this
theorem mJ.c1(h:mJ w):w.cell? ⟨0,1,A⟩=ja (jj ⟨#[99,111,109,109,105,116]⟩):=by
 have:=xE zK h 1
 simpa using this
structure iE(w:jg):Prop where
 dig:bH w
 lab:mJ w
theorem iE.below(h:iE w)(a:jl w w w'):iE w':=⟨h.dig.below a,h.lab.below a⟩
def sF(a:ByteArray)(k:LBy):LBy:=dZ k a []
def wV(init a:LBy):LBy:=o6 ⟨#[101,112,111,99,104]⟩ init (sF ⟨#[99,111,109,109,105,116]⟩ a)
def aT(s:LBy):je:=uV s ⟨#[110,111,100,101]⟩
theorem yJ(l k):(sF l k).length=32:=pD _ _ _
theorem Cc(l k):(wV l k).length=32:=EB _ _ _
structure Arr(l:LBy)(a:jZ ji):Prop where
 eq:a=(l.map v8).toArray
 sz:a.size=32
 one:a.all (·.oneCell')=jf
theorem Arr.mk'(h:j.length=32):∃a,a=(j.map v8).toArray/\Arr j a:=⟨_,T,T,by rw[jU,jD,h],eU _⟩
theorem Mt(k:LBy)(l:k.length=32)(w:jg)(h:iE w):
 jr jm 151 #[I N 1,jq (k.map v8).toArray] w λe w'=>e=jo (jq ((sF ⟨#[99,111,109,109,105,116]⟩ k).map v8).toArray)/\jl w w w':=by
 obtain⟨c,r,s⟩:=Arr.mk' l;obtain⟨f,t,u⟩:=Arr.mk' (yJ ⟨#[99,111,109,109,105,116]⟩ k);rw[<-r,<-t];have C:=O l;have x:=O s;have g:=O u;have D:=O h;have m:=ao w (jc c 66);have y:=js w (jc c 66);have a:=ao (w.alloc (jc c 66)) (jc a8 66);have n:=js (w.alloc (jc c 66)) (jc a8 66);rw[jC]at n;obtain⟨B,o⟩:=J ((w.alloc (jc c 66)).alloc (jc a8 66));obtain⟨b,p⟩:=J w.heap.size;have i:=ae y a;have d:=O (m.trans (a.mono m.size));have j:=O n;rw[<-p]at i j;rw[<-o]at i j d;have E:=O o;have q:=O p;clear m y a n o p;have m:=O (aD h.lab.c1 d);have y:jk (0<b+1):=O (by have:=gh h.lab.c1;rw[q];exact Nat.lt_succ_of_lt this);clear r s t u l h
 go_enter func151,ntmps151
 go_upto_region 1 with fail
 rw[<-E,<-q];refine jT ?_;refine dj (λl=>l.heap[b]?=ja (jc c 66 (0,0))/\l.cell? ⟨0,1,A⟩=ja (jj ⟨#[99,111,109,109,105,116]⟩)) (.t 0 (.t 1 (.t 2 (.t 3 (.o 4 (.o 5 .done)))))) af af af L (λ_ _ _ _ h=>h) ⟨i,m⟩ ?_;obtain⟨r,h⟩:=J B.drew;have a:=bV B;rw[<-h]at a⊢;replace d:=ah d a;have n:=ae i a;have o:=ae j a;have p:=O (aD m a);clear a h i j m
 (refine aS (v:=jq c) T aj (λl h=>tu x.sz T T h.1) (G ?_))
 iterate 2 refine aO ?_
 (refine aS (v:=?_) T aj (λl h=>?_) ?_;rotate_left;(have i:=h.2;go_simp;with_reducible rfl);refine G ?_)
 refine aF T (λm h=>?_);go_simp;have i:=sD k C ⟨#[99,111,109,109,105,116]⟩ [] _ r (zR _) (AL _ L) (D.dig.below d);rw[<-x.eq]at i;have j:((dZ k ⟨#[99,111,109,109,105,116]⟩ []).map v8).toArray=f:=g.eq.symm;rw[j]at i;refine i.mono ?_;clear i j;rintro e x1 ⟨rfl,a⟩;have i:=ae n a;have j:=ae o a;have l:=O (aD p a);have s:=ah d a;clear a n o p d;refine h _ _ ⟨i,l⟩ λ_=>?_
 clear h;refine G ?_;refine aF T (λm h=>?_);rw[jB aj];refine p6 66 _ _ T (b+1) f T T 66 _ j.out (by rw[g.sz];rfl) (by rw[g.sz];rfl) g.one (h _ _ ⟨(qg _ _ _ _ Y).trans i,(dY (qg _ _ _ _ (Nat.ne_of_lt y))).trans l⟩ λ_=>?_);clear h;have a:(x1.setRow (b+1) f).heap[b+1]?=ja (jc f 66 (0,0)):=qa _ _ _ _ _ _ j.out;have d:jl w w (x1.setRow (b+1) f):=qb s.out (by rw[q];exact Nat.le_succ _) _;generalize x1.setRow (b+1) f=z at a d⊢;have h:=O a;have m:=O d;clear a d;refine G ?_;refine jR ?_
 go_wp2_with fail
 refine jX (qf T _ _ (b+1) 66 _ (0,0) _ T h nn T (by rw[g.sz];rfl)) T ?_;exact⟨T,m⟩
theorem QU(init d:LBy)(q:init.length=32)(r:d.length=32)(w:jg)(x:iE w):
 jr jm 97 #[jq (init.map v8).toArray,jq (d.map v8).toArray] w λe w'=>e=jo (jq ((wV init d).map v8).toArray)/\jl w w w':=by
 obtain⟨c,y,z⟩:=Arr.mk' q;obtain⟨i,B,C⟩:=Arr.mk' r;obtain⟨A3,U,D⟩:=Arr.mk' (yJ ⟨#[99,111,109,109,105,116]⟩ d);obtain⟨j,E,F⟩:=Arr.mk' (Cc init d);rw[<-y,<-B,<-E];have V:=O q;have W:=O r;have H:=O z;have K:=O C;have M:=O D;have k:=O F;have P:=O x;obtain⟨Q,b⟩:=J ((((w.alloc (jc c 66)).alloc (jc i 66)).alloc (jc a8 66)));obtain⟨f,h⟩:=J w.heap.size;have a:=js w (jc c 66);have l:=ao w (jc c 66);have g:=js (w.alloc (jc c 66)) (jc i 66);have n:=ao (w.alloc (jc c 66)) (jc i 66);have o:=js ((w.alloc (jc c 66)).alloc (jc i 66)) (jc a8 66);have p:=ao ((w.alloc (jc c 66)).alloc (jc i 66)) (jc a8 66);replace a:=av a n;replace a:=av a p;rw[jC]at g;replace g:=av g p;rw[jC,jC]at o;have s:=((l).trans (n.mono (l).size)).trans (p.mono ((l).trans (n.mono (l).size)).size);rw[<-b]at s;rw[<-b,<-h]at a;rw[<-b,<-h]at g;rw[<-b,<-h]at o;have t:=O a;have u:=O g;have R:=O o;have m:=O s;have X:=O b;have S:=O h;clear s b h a l g n o p;clear y z B C U D E F q r x
 go_enter func97,ntmps97
 go_upto_region 1 with fail
 rw[<-X,<-S];refine jT ?_;refine dj (λb=>b.heap[f]?=ja (jc c 66 (0,0))/\b.heap[f+1]?=ja (jc i 66 (0,0))) (.t 0 (.t 1 (.o 2 (.o 3 (.o 4 .done))))) af af af L (λ_ _ _ _ h=>h) ⟨t,u⟩ ?_;obtain⟨x,g⟩:=J Q.drew;have a:=bV Q;rw[<-g]at a⊢;replace m:=ah m a;have o:=ae t a;have p:=ae u a;have q:=ae R a;clear a g t u R
 (refine aS (v:=jq c) T aj (λb g=>tu H.sz T T g.1) (G ?_))
 (refine aS (v:=jq i) T aj (λb g=>tu K.sz T T g.2) (G ?_))
 refine aF T (λr g=>?_);go_simp;have b:=Mt d W x (P.below m);rw[<-K.eq]at b;rw[<-M.eq]at b;refine b.mono ?_;clear b;rintro e x1 ⟨rfl,a⟩;have h:=ah m a;have l:=ae o a;have n:=ae p a;have s:=ae q a;clear m o p q;clear a;refine g _ _ ⟨l,n⟩ λ_=>?_
 clear g;refine G ?_;refine aF T (λr g=>?_);go_simp;have b:=Rm ⟨#[101,112,111,99,104]⟩ L init (sF ⟨#[99,111,109,109,105,116]⟩ d) V (yJ _ _) x1 (P.dig.below h);rw[<-H.eq]at b;rw[<-M.eq]at b;rw[show((o6 ⟨#[101,112,111,99,104]⟩ init (sF ⟨#[99,111,109,109,105,116]⟩ d)).map v8).toArray=j from k.eq.symm]at b;refine b.mono ?_;clear b;rintro e x2 ⟨rfl,a⟩;have q:=ah h a;have m:=ae l a;have o:=ae n a;have p:=ae s a;clear h l n s;clear a;refine g _ _ ⟨m,o⟩ λ_=>?_
 clear g;refine G ?_;refine aF T (λr g=>?_);rw[jB aj];refine p6 66 _ _ T (f+1+1) j T T 66 _ p.out (by rw[k.sz];rfl) (by rw[k.sz];rfl) k.one (g _ _ ⟨(qg _ _ _ _ Y).trans m,(qg _ _ _ _ Y).trans o⟩ λ_=>?_);clear g;have a:(x2.setRow (f+1+1) j).heap[f+1+1]?=ja (jc j 66 (0,0)):=qa _ _ _ _ _ _ p.out;have b:jl w w (x2.setRow (f+1+1) j):=qb q.out (by rw[S];omega) _;generalize x2.setRow (f+1+1) j=z at a b⊢;have g:=O a;have h:=O b;clear a b;refine G ?_;refine jR ?_
 go_wp2_with fail
 refine jX (qf T _ _ (f+1+1) 66 _ (0,0) _ T g nn T (by rw[k.sz];rfl)) T ?_;exact⟨T,h⟩
theorem S2(k:LBy)(c:k.length=32)(w:jg)(i:iE w):
 jr jm 98 #[jq (k.map v8).toArray] w λe w'=>e=jo (I N (aT k:je))/\jl w w w':=by
 obtain⟨a,j,l⟩:=Arr.mk' c;rw[<-j];have o:=O c;have m:=O l;have p:=O i;obtain⟨q,b⟩:=J ((w.alloc (jc a 66)));obtain⟨r,d⟩:=J w.heap.size;have f:=js w (jc a 66);have n:=ao w (jc a 66);have g:=n;rw[<-b]at g;rw[<-b,<-d]at f;have s:=O f;have h:=O g;have t:=O b;have u:=O d;clear g b d f n;clear j l c i
 go_enter func98,ntmps98
 go_upto_region 1 with fail
 rw[<-t,<-u];refine qS ?_;refine pz T 66 _ T r T 66 a (0,0) _ s.out nn T (by rw[m.sz];rfl) ?_
 go_wp2_with fail
 have b:=GY k o ⟨#[110,111,100,101]⟩ L q (p.dig.below h);rw[<-m.eq]at b;refine b.mono ?_;clear b;rintro e d ⟨rfl,b⟩;have c:=ah h b;clear b h
 go_wp2_with fail
 go_ret;exact⟨T,c⟩
theorem D5(k:LBy):1<=aT k/\aT k<2305843009213688669:=zG _ _
def iZ(k body:LBy):LBy:=dp (bZ ⟨#[99,111,110,102,105,114,109]⟩) (k++body)
theorem sT(k b):(iZ k b).length=32:=iP _ _
theorem PD(k body:LBy)(j:k.length=32)(l:body.length=32)(w:jg)(y:iE w):
 jr jm 103 #[jq (k.map v8).toArray,jq (body.map v8).toArray] w λe w'=>e=jo (jq ((iZ k body).map v8).toArray)/\jl w w w':=by
 obtain⟨d,z,B⟩:=Arr.mk' j;obtain⟨f,C,D⟩:=Arr.mk' l;obtain⟨g,E,F⟩:=Arr.mk' (sT k body);rw[<-z,<-C,<-E];have s:=O j;have t:=O l;have Q:=O B;have R:=O D;have m:=O F;have H:=O y;obtain⟨K,c⟩:=J ((((w.alloc (jc d 66)).alloc (jc f 23)).alloc (jc a8 23)));obtain⟨b,i⟩:=J w.heap.size;have a:=js w (jc d 66);have n:=ao w (jc d 66);have h:=js (w.alloc (jc d 66)) (jc f 23);have o:=ao (w.alloc (jc d 66)) (jc f 23);have p:=js ((w.alloc (jc d 66)).alloc (jc f 23)) (jc a8 23);have q:=ao ((w.alloc (jc d 66)).alloc (jc f 23)) (jc a8 23);replace a:=av a o;replace a:=av a q;rw[jC]at h;replace h:=av h q;rw[jC,jC]at p;have u:=((n).trans (o.mono (n).size)).trans (q.mono ((n).trans (o.mono (n).size)).size);rw[<-c]at u;rw[<-c,<-i]at a;rw[<-c,<-i]at h;rw[<-c,<-i]at p;have v:=O a;have x:=O h;have M:=O p;have r:=O u;have S:=O c;have P:=O i;clear u c i a n h o p q;clear z B C D E F j l y
 go_enter func103,ntmps103
 go_upto_region 1 with fail
 rw[<-S,<-P];refine jT ?_;refine dj (λa=>a.heap[b]?=ja (jc d 66 (0,0))/\a.heap[b+1]?=ja (jc f 23 (0,0))) (.t 0 (.t 1 (.o 2 (.o 3 (.o 4 (.o 5 .done)))))) af af af L (λ_ _ _ _ h=>h) ⟨v,x⟩ ?_;obtain⟨n,c⟩:=J K.drew;have a:=bV K;rw[<-c]at a⊢;replace r:=ah r a;have u:=ae v a;have y:=ae x a;have z:=ae M a;clear a c v x M;iterate 2 refine aO ?_
 refine aF T (λq c=>?_);go_simp;have a:=ao n (jc #[jb (ja ⟨b,0,A⟩) 32 32,jb (ja ⟨b+1,0,A⟩) 32 32] 69);have i:=js n (jc #[jb (ja ⟨b,0,A⟩) 32 32,jb (ja ⟨b+1,0,A⟩) 32 32] 69);obtain⟨x1,v⟩:=J (n.alloc (jc #[jb (ja ⟨b,0,A⟩) 32 32,jb (ja ⟨b+1,0,A⟩) 32 32] 69));rw[<-v]at a i⊢;obtain⟨C,o⟩:=J n.heap.size;rw[<-o]at i⊢;have F:=O o;clear o;have x:=ah r a;have o:=ae u a;have p:=ae y a;have B:=ae z a;clear r u y z;have y:=O i;clear i v a;refine c _ _ ⟨o,p⟩ λ_=>?_
 clear c;refine G ?_;refine aF T (λq c=>?_);go_simp;have r:=uK C 2 69 [jb (ja ⟨b,0,A⟩) 32 32,jb (ja ⟨b+1,0,A⟩) 32 32] [k,body] T T (by have j:=s.out;have l:=t.out;simp;omega) x1 y (λi u=>by
  match i,u with
  |0,_=>exact Al (by have h:=o.out;rw[Q.eq]at h;exact h) s
  |1,_=>exact Al (by have h:=p.out;rw[R.eq]at h;exact h) t) L
 refine r.mono ?_;clear r;rintro e x2 ⟨D,rfl,h,a⟩;have i:[k,body].flatten=k++body:=by simp
 rw[i]at h;have E:=O (bD.of_own h);clear h i;have h:=ah x a;have i:=ae o a;have r:=ae p a;have u:=ae B a;clear x o p B;clear a;refine c _ _ ⟨i,r⟩ λ_=>?_
 clear c;refine G ?_;refine aF T (λq c=>?_);go_simp;have o:=sj ⟨#[99,111,110,102,105,114,109]⟩ L D (k++body) (by have j:=s.out;have l:=t.out;simp;omega) x2 E (H.dig.below h).num (H.dig.below h).start;rw[show((dp (bZ ⟨#[99,111,110,102,105,114,109]⟩) (k++body)).map v8).toArray=g from m.eq.symm]at o;refine o.mono ?_;clear o;rintro e o ⟨rfl,a⟩;have B:=ah h a;have p:=ae i a;have v:=ae r a;have x:=ae u a;clear h i r u;clear a;refine c _ _ ⟨p,v⟩ λ_=>?_
 clear c;refine G ?_;refine aF T (λq c=>?_);rw[jB aj];refine p6 23 _ _ T (b+1+1) g T T 23 _ x.out (by rw[m.sz];rfl) (by rw[m.sz];rfl) m.one (c _ _ ⟨(qg _ _ _ _ Y).trans p,(qg _ _ _ _ Y).trans v⟩ λ_=>?_);clear c;have a:(o.setRow (b+1+1) g).heap[b+1+1]?=ja (jc g 23 (0,0)):=qa _ _ _ _ _ _ x.out;have c:jl w w (o.setRow (b+1+1) g):=qb B.out (by rw[P];omega) _;generalize o.setRow (b+1+1) g=z at a c⊢;have h:=O a;have i:=O c;clear a c;refine G ?_;refine jR ?_
 go_wp2_with fail
 refine jX (qf T _ _ (b+1+1) 23 _ (0,0) _ T h xd T (by rw[m.sz];rfl)) T ?_;exact⟨T,i⟩
end Go.Proofs.YtngkfaggaccpoaaGreatDoor
