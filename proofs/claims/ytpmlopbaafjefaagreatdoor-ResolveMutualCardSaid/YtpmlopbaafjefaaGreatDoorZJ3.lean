/- Contracts of functions that the law reaches, part 3 of 7; no condition. -/
import Derived.Handy
import Derived.Lib.SlBytesConst
import Derived.Test.YtpmlopbaafjefaaGreatDoorTie
import Derived.LaidMore
import Derived.Stop.LaidErr
import Derived.Test.YtpmlopbaafjefaaGreatDoorZJ2
namespace Go.Proofs.YtpmlopbaafjefaaGreatDoor
set_option maxHeartbeats 64000000
set_option maxRecDepth 100000
set_option linter.unusedVariables false
set_option linter.unusedSimpArgs false
set_option linter.unusedSectionVars false
open Go.RowKit
open Go.Proofs.Tryz
open Go.Value renaming int->I
open Go.IntKind renaming i64->N,u32->jV,u64->j7
open _root_ renaming rfl->T,Int->jd,Nat->je,List->jh,if_pos->jB,absurd->jG,if_neg->jI,Option->jS,Array->jZ,congrArg->qN
open _root_.Option renaming none->A,some->ja,isSome_iff_exists->r5,isSome_none->xf
open Go.Value renaming slice->jb,string->jj,agg->jq,tuple->jw,pointer->jA
open Go.Obj renaming cells->jc
open _root_.Bool renaming true->jf,false->jp,false_eq_true->xg
open Go renaming World->jg,Value->ji,Calls->jr,Boxed->jt,undef->ju,TypeId->jH,Addr->jM,wp_region_noPanic->jT,bodyPost_ret->jX,maxLen->j3,Oper->n0,grownBy_setCell'->oj,wpList_plain->ow,wpList_load_row->o8,wp_store_row->pz,setRow_heap->p6,below_setRow->qa,results_cell_row->qe,setRow_other->qf,info_parts->qi,callsIn_wide->qw,execOp->qy,results_none->qM,Program->qO,wp_region_lit->qQ,bodyPost_end->qX,callsIn_of_wp->sq,callsIn_of_wp_marks->sv,run_takeDeferred->sy,ownsRow_putObj->sA,wpList_append_own->sB
open Go.RowKit renaming Hid->jk,Below->jl,ownsRow_setCell_below->qZ
open Go.Proofs.Tryz renaming prog->jm
open _root_.Nat renaming le_refl->jn,le_trans->jz,zero_le->jJ,lt_of_lt_of_le->jN,zero_add->mb,le_of_eq->qh,reduceAdd->qj,reduceSub->qk,mod_eq_of_lt->qB,min_eq_left->qD,lt_or_ge->qF,mod_lt->qH,eq_zero_or_pos->qI,zero_mul->qU,pow_le_pow_right->q9,mul_one->rn,mul_le_mul_right->r4,add_assoc->r8,add_mul->sa,le_of_lt->sn,xor_lt_two_pow->wv,lt_of_le_of_lt->xu
open Go.Ending renaming returned->jo
open Go.World renaming alloc_heap_new->js,size_alloc->jC,ownsRow_nil->j0,cell?->j5,frozen?->r6,putObj_heap_other->xd,there_alloc->xk,var?_cell->xA
open Go.Proofs renaming intOf->jv
open Go.RowKit.Below renaming refl->jy,heap_alloc->jF,mono->qu,heap_setCell->q7
open _root_.List renaming length_map->jD,length_append->jL,getD->jO,size_toArray->jU,length_cons->jW,map_append->j4,append_assoc->j6,length_nil->j8,replicate->j9,range->ms,take_of_length_le->nn,getElem?_eq_getElem->ob,take_succ_eq_append_getElem->o1,nil_append->qb,cons_append->qc,length_take->qg,push_toArray->qo,append_toArray->qs,eq_nil_of_length_eq_zero->qt,getElem?_map->qv,getElem_mem->qE,getElem?_append_left->qK,getElem?_append_right->qL,mem_map->qS,map_cons->qW,append_nil->q8,length_filter_le->rk,getElem?_take_of_lt->rv,map_nil->r9,flatMap_cons->sh,length_mergeSort->xe,range_succ->xl,getElem?_take->xn,getElem?_eq_some_iff->xo,take_append_drop->xq,mem_of_getElem?->xr,getElem?_of_mem->xt,length_take_le'->xw,take_succ_cons->xx,flatten_append->xy,mem_flatten->xz
open Go.Value renaming int->jE,slice->jP,oneCell'->j1,ownBlock->qd,pointer->r7
open _root_.Array renaming getElem?_eq_some_iff->jK,replicate_succ->ql,replicate_zero->qn,getElem?_toList->xh
open Go.Proofs.Tryz renaming underlying3->jQ,underlying65->mz,underlying4->nv,underlying160->qx,func175->qz,ntmps175->qA,underlying68->qP,underlying203->qY,underlying31->sx,underlying250->vi,underlying77->wi,underlying23->wq,underlying233->wt
open Go.NoPanic renaming normal->jR
open _root_.BitVec renaming ofNat->jY,toNat_ofNat->qC,ofInt_natCast->wx,toNat_xor->xa,ofInt->xm
open Go.IntKind renaming wrap_i64->qG,u64->qJ,i64->qT,wrap_u64->qV
open _root_.Int renaming eq_ofNat_of_zero_le->xi,toNat_natCast->xj
variable{j:LBy}{o:Obj}{p r:Prop}{e:jH}{h:jZ ji}{x y:jd}{B m:je}{D:je->Prop}{a w w':jg}{t:jh (jd×jd)}{f:jh Val}{U:jh jd}{b xs:jh ji}{d:ji}
section
open Go.RowKit Go.Shelf
attribute [local go_sem] Oper.semAt_some
theorem FV(n:je)(h:n<4611686018427387904)(w:jg):
 jr jm 185 #[I N n] w λe w'=>e=jo (I N (n/2:je))/\w=w':=by
 go_enter func185,ntmps185
 go_wp2
 go_ret;exact⟨T,T⟩
def upL:je->je->jh je
 |0,_=>[]
 |k+1,n=>if n>1 then n::upL k (n/2)else []
theorem zr:∀(k n:je),∀x∈upL k n,x<=n
 |0,_,x,h=>by simp[upL]at h
 |k+1,n,x,h=>by
  unfold upL at h
  split at h
  ·rcases List.mem_cons.1 h with rfl|h
   ·omega
   have:=zr k (n/2) x h;omega
  simp at h
theorem Gq:∀(k n:je),(upL k n).length<=k
 |0,_=>by simp[upL]
 |k+1,n=>by
  unfold upL
  split
  ·have:=Gq k (n/2);simp;omega
  simp
theorem uI(d:je)(a:d<512):(upL 10 (512+d)).length=8+1:=by
 have h:∀d:Fin 512,(upL 10 (512+d.val)).length=8+1:=by decide+kernel
 exact h ⟨d,a⟩
theorem Gc(k n:je)(c:n<1024){a:jh je}{x:je}(h:a++[x]<+:upL k n):x<1024/\a.length<k:=by
 have d:=zr k n x (h.subset ao);have b:=h.length_le;have e:=Gq k n;simp at b;omega
theorem FR(n:jd)(w:jg):
 jr jm 232 #[I N n] w λe w'=>e=jo (.func (.func 261) #[] #[jA (ja ⟨w,0,A⟩)])/\w'=w.alloc (jc #[I N n] 282):=by
 go_enter func232,ntmps232
 go_wp2
 go_ret;exact⟨T,T⟩
def wL(w:jg)(b:je):je:=(jv ((w.cell? ⟨b,0,A⟩).getD (I N 0))).toNat
theorem Fi{b:je}{t:jH}(h:jt w b t (I N m)):wL w b=m:=by
 unfold wL;rw[h.cell];simp[jv]
theorem Ep(h:1<m)(a:m<2^B):∃i,B=i+1/\upL B m=m::upL i (m/2)/\m/2<2^i:=by
 rcases B with _|i
 ·simp at a;omega
 exact⟨i,T,by simp[upL,h],by rw[Nat.pow_succ]at a;omega⟩
theorem FF(h:m<=1):upL B m=[]:=by
 rcases B with _|i
 ·rfl
 simp[upL];omega
set_option maxRecDepth 100000 in
theorem Fg(n k:je)(B:n<4611686018427387904)(C:n<2^k)(b:je)(w:jg)(t:jt w b 282 (I N n)):
 eR jm 261 #[jA (ja ⟨b,0,A⟩)] (λm:je=>#[I N (m:jd)]) (·=b) 0 (λxs=>xs=upL k n) (λ_=>True) (λys=>ys<+:upL k n) w:=by
 intro l u X W g h v o p;have D:jt W b 282 (I N n):=(g.block b t.lt).trans t;refine(qw (n:=0)).1 ?_;refine sq func261 T trivial ?_ T;simp only[ntmps261,jU,jW,j8,qj,qk,ql,qn,qo,qs,qb,qc]
 gi_wp2
 gi_loopw [] (λwr=>W.heap.size<=wr.heap.size/\∃(a:jh je) (j m:je),a.length+j=k/\m<2^j/\m<4611686018427387904/\a++upL j m=upL k n/\u a (·=b) wr/\jt wr b 282 (I N m))
  (λwr=>wL wr b)
 case atStart=>
  exact⟨jn _,[],k,n,by simp,C,B,T,p,D⟩
 obtain⟨E,a,j,m,aa,F,ad,c,x,d⟩:=hrel;have hc:=d.cell;have hf:=d.frozen
 by_cases H:1<m
 ·obtain⟨i,rfl,e,K⟩:=Ep H F
  obtain⟨fn,tmps,assign,body,M,y⟩:=o a m (·=b) wr x (by rintro _ rfl;exact d.lt) ⟨upL i (m/2),by rw[<-c,e];simp⟩;have q:jk (a++upL (i+1) m=upL k n):=c;have P:jk (upL (i+1) m=m::upL i (m/2)):=e;clear c e o p v g;have Q:jk (bZ W.heap.size u):=h;clear h
  gi_wp2
  refine⟨T,y.mono ?_⟩;rintro e z (⟨rfl,R,r,s⟩|⟨rfl,S,r,s⟩)
  ·have f:jt z b 282 (I N m):=(s b T).trans d
   have au:=f.cell;have Zk:=f.frozen;have U:=r.size;clear s r y M
   gi_wp2_with fail
   refine⟨trivial,T,(callsIn_wide.2 (FV _ Y _)).mono ?_⟩;rintro e w' ⟨rfl,rfl⟩
   gi_wp2
   go_roundw
   case rel=>
    refine⟨by simpa using jz E U,a++[m],i,m/2,by simp;omega,K,by omega,by rw[<-q,P];simp,Q.keep R ?_,f.set _⟩;exact⟨T,T,T,by simp,λk _ V=>.inl (q7 _ _ _ _ V)⟩
   have V:wL (z.setCell ⟨b,0,A⟩ (I N ((m:jd)/2))) b=m/2:=Fi (m:=m/2) (f.set _);rw[V,Fi d];omega
  gi_wp2
  refine qX (qM T _ _ _) T ?_;exact⟨⟨_,T⟩,.inr ⟨_,_,trivial,S⟩⟩
 have q:jk (a++upL j m=upL k n):=c;clear c o p h v g
 gi_wp2
 refine⟨λ_ h=>(by cases h),?_⟩
 gi_wp2
 refine qX (qM T _ _ _) T ?_;exact⟨⟨_,T⟩,.inl ⟨_,_,by rw[<-q,FF Y,q8],x⟩⟩
def gV(n:je):je:=n/2
def kF(n:je):je:=n^^^1
theorem J0(n:je)(h:n<1024)(w:jg):
 jr jm 185 #[I N n] w λe w'=>e=jo (I N (gV n:je))/\w=w':=
 FV n Y w
theorem K8(k:IntKind)(j:je)(f:j<=k.bits)(g:∀n:jd,0<=n->n<2^j->k.wrap n=n)(a b:je)(c:a<2^j)(d:b<2^j):
 bits .xor k a b=((a^^^b:je):jd):=by
 have e:2^j<=2^k.bits:=q9 L f;have h:a%2^k.bits=a:=qB (jN c e);have i:b%2^k.bits=b:=qB (jN d e);have l:a^^^b<2^j:=wv c d;simp only[bits,wx,xa,qC,h,i];exact g _ (Int.natCast_nonneg _) (by exact_mod_cast l)
theorem RR(n:je)(h:n<1024):bits .xor .i64 (n:jd) 1=((kF n:je):jd):=
 K8 .i64 10 L (λn a b=>IntWalk.i64_in n Y) n 1 Y Y
theorem M6(n:je)(h:n<1024)(w:jg):
 jr jm 188 #[I N n] w λe w'=>e=jo (I N (kF n:je))/\w=w':=by
 go_enter func188,ntmps188
 go_wp2
 go_ret;exact⟨by rw[RR n h];rfl,rfl⟩
def iv(l:jh je):jh ji:=l.map λn:je=>jE .i64 (n:jd)
def kE(d:je):jh je:=(upL 10 (512+d)).map gV
def nQ(d:je):jh je:=(upL 10 (512+d)).map kF
theorem J2(d:je):iv (kE d)=(upL 10 (512+d)).map λn=>jE .i64 (gV n:je):=by simp[iv,kE,Function.comp_def]
theorem Tb(d:je):iv (nQ d)=(upL 10 (512+d)).map λn=>jE .i64 (kF n:je):=by simp[iv,nQ,Function.comp_def]
def yX(w:jg)(v:ji)(xs:jh ji):Prop:=
 (v=jb A 0 0/\xs=[])\/∃b off c,v=jb (ja ⟨b,off,A⟩) xs.length c/\∀j a,xs[j]?=ja a->w.cell? ⟨b,off+j,A⟩=ja a
theorem yX.below{v:ji}(h:yX w v xs)(c:jl w w w'):yX w' v xs:=by
 rcases h with h|⟨b,off,d,rfl,e⟩
 ·exact .inl h
 refine .inr ⟨b,off,d,T,λj f g=>?_⟩;have a:=e j f g;rw[c.cell (p:=⟨b,off+j,A⟩) (World.block_lt_of_cell? w ⟨b,off+j,A⟩ a)];exact a
end
section
open Go.RowKit Go.Shelf
attribute [local go_sem] Oper.semAt_some
theorem B9:(jm.info? 3).map (λi=>(i.zero,i.size,i.bytes))=ja (ja (I N 0),1,8):=by kernel_rfl
set_option maxRecDepth 100000 in
theorem Qs(d:je)(V:d<512)(w:jg):
 jr jm 184 #[I N d,.func (.func 185) #[] #[]] w λe w'=>∃v,e=jo (jw #[v,I N 0])/\
  w'.ownsRow w 3 1 v 9 ((upL 10 (512+d)).map λn=>jE .i64 (gV n:je))/\jl w w w':=by
 obtain⟨X,hi,UL,aa,ad⟩:=qi B9;refine(qw (n:=0)).1 ?_;refine sv func184 T trivial ?_ T;simp only[ntmps184,jU,jW,j8,qj,qk,ql,qn,qo,qs,qb,qc]
 gi_wp2_with fail
 refine⟨trivial,T,(callsIn_wide.2 (GE _ Y Y _)).mono ?_⟩;rintro e w' ⟨rfl,rfl⟩
 gi_wp2_with fail
 refine⟨trivial,T,(callsIn_wide.2 (FR _ _)).mono ?_⟩;rintro e w' ⟨rfl,rfl⟩
 gi_wp2_with fail
 have E:jt (((w.alloc (jc #[.func (.func 185) #[] #[]] 280)).alloc (jc #[jb A 0 0] 31)).alloc (jc #[I N (512+d)] 282)) w.heap.size 280 (.func (.func 185) #[] #[]):=
  ((Boxed.new w _ _).alloc _).alloc _
 have F:jt (((w.alloc (jc #[.func (.func 185) #[] #[]] 280)).alloc (jc #[jb A 0 0] 31)).alloc (jc #[I N (512+d)] 282)) (w.heap.size+1) 31 (jb A 0 0):=by
  have:=Boxed.new (w.alloc (jc #[.func (.func 185) #[] #[]] 280)) 31 (jb A 0 0);rw[jC]at this;exact this.alloc _
 have t:jt (((w.alloc (jc #[.func (.func 185) #[] #[]] 280)).alloc (jc #[jb A 0 0] 31)).alloc (jc #[I N (512+d)] 282)) (w.heap.size+1+1) 282 (I N ((512+d:je):jd)):=by
  have:=Boxed.new ((w.alloc (jc #[.func (.func 185) #[] #[]] 280)).alloc (jc #[jb A 0 0] 31)) 282 (I N ((512+d:je):jd));rw[jC,jC]at this;exact this
 have H:jl w w (((w.alloc (jc #[.func (.func 185) #[] #[]] 280)).alloc (jc #[jb A 0 0] 31)).alloc (jc #[I N (512+d)] 282)):=
  (((jy _ w).alloc (jn _) _).alloc ao _).alloc (by simp;omega) _
 have a:(((w.alloc (jc #[.func (.func 185) #[] #[]] 280)).alloc (jc #[jb A 0 0] 31)).alloc (jc #[I N (512+d)] 282)).heap.size=w.heap.size+3:=by simp
 generalize(((w.alloc (jc #[.func (.func 185) #[] #[]] 280)).alloc (jc #[jb A 0 0] 31)).alloc (jc #[I N (512+d)] 282))=o at E F t H a⊢;have a5:jk (o.heap.size=w.heap.size+3):=a;have a6:w.heap.size+3<=o.heap.size:=Y;clear a;refine ru (n:=0) (gf:=261) (lb:=#[jA (ja ⟨w.heap.size+1+1,0,A⟩)]) T (enters_of func261 af T)
  (Fg (512+d) 10 Y Y (w.heap.size+1+1) o t) (jJ _) (λ_=>rfl) (by rintro k rfl;exact t.lt)
  (λf Ψ W=>gQ (w.heap.size+1) 31 w.heap.size 3 1 f.length (f.map λn=>jE .i64 (gV n:je)) (λ_=>True) Ψ W/\(jt W w.heap.size 280 (.func (.func 185) #[] #[])/\¬Ψ w.heap.size)/\(jl w w W/\∀k,Ψ k->w.heap.size<=k))
  (λ_ _ _ _=>False)
  ((m8 o.heap.size (w.heap.size+1) 31 w.heap.size 3 1 (λf=>f.length) (λf:jh je=>f.map λn=>jE .i64 (gV n:je)) (λ_ _=>True)).and ((iT _ _ _ (λ_=>_)).and (kL _ _ w (jn _) Y)))
  (λ_=>fj _ _)
  ⟨⟨_,F,by omega,j0 _ _ _ _,by simp[qd],trivial⟩,⟨E,by omega⟩,H,by rintro k rfl;omega⟩
  (λx D _ _=>D={tmps:=#[I N d,.func (.func 185) #[] #[],ju,jA (ja ⟨w,0,A⟩),jA (ja ⟨w.heap.size+1,0,A⟩),I N 0,
   I N (512+d),I N x,jw #[I N (512+d),I N 0],I N d,jw #[I N (512+d),I N 0],I N (512+d),I N 0,I N 0,.bool jp,ju,I N (512+d),
   .func (.func 261) #[] #[jA (ja ⟨w.heap.size+1+1,0,A⟩)],I N x,ju,ju,ju,ju,ju,ju,ju],defers:=[]}) (fj _ _)
  ?assign ?body ?done ?stop
 case assign=>
  intro l f x Ψ r K c _ a
  gi_wp2
  exact a _ _ (jy _ _) c T
 case body=>
  rintro l f x Ψ D r ⟨⟨v,c,K,i,M,-⟩,⟨q,P⟩,m,Q⟩ rfl g Yt ba bb;obtain⟨hx,bc⟩:=Gc 10 (512+d) Y g;clear g;have u:=c.cell;have R:=q.cell;have y:=O m;have au:=m.size;clear m
  gi_wp2
  refine IS (λg=>g.cell? ⟨w.heap.size+1,0,A⟩=ja v/\g.cell? ⟨w,0,A⟩=ja (.func (.func 185) #[] #[])) 6
   [(0,jf),(1,jf),(2,jf),(3,jp),(4,jp),(5,jp),(6,jp)] af af af af rfl (λ_ _ _ _ h=>h) (fun⟨_,_,h⟩=>h) ⟨u,R⟩ ?_
  refine fY (v:=?_) T T (λg j=>?_) ?_
  rotate_left
  ·obtain⟨k,s⟩:=j;go_simp;with_reducible rfl
  refine fY (v:=?_) T T (λg j=>?_) ?_
  rotate_left
  ·obtain⟨k,s⟩:=j;go_simp;with_reducible rfl
  refine fY (v:=?_) T T (λg j=>?_) ?_
  rotate_left
  ·go_simp;with_reducible rfl
  refine dp T (λz a=>?_);go_simp;refine(J0 _ Y _).mono ?_;rintro e w' ⟨rfl,rfl⟩;refine a _ _ ⟨u,R⟩ λ_=>?_
  clear a;refine dp T (λz a=>?_);go_simp;have We:(r.alloc (jc #[I N (gV x:je)] 3)).cell? ⟨w.heap.size+1,0,A⟩=ja v:=(c.alloc _).cell;have B:(r.alloc (jc #[I N (gV x:je)] 3)).cell? ⟨w,0,A⟩=ja (.func (.func 185) #[] #[]):=(q.alloc _).cell;refine a _ _ ⟨We,B⟩ λ_=>?_
  clear a;refine dp T (λz a=>?_);refine step_append_lies _ T (.tmp 19) (.tmp 23) 31 T w.heap.size 3 X (I N 0) 1 8 sx hi UL aa ad T L v f.length _ T (i.alloc _)
   ⟨r,0,A⟩ 1 1 [I N (gV x:je)] rfl rfl (cell_one_new _ _ _) (by simp[j1]) Y (by unfold j3;omega) Y (by simp;omega) _ rfl ?_
  intro g k S ax ay a1 bd;have C:=BS ay;obtain⟨s,a2⟩:=sl (B0:=o.heap.size) c L i au Y K M Yt ax C (by
   intro j U;simp only[qd,Option.some.injEq]at U;subst U;simpa using a1)
  have j:jt S w.heap.size 280 (.func (.func 185) #[] #[]):=(q.alloc _).kept C (by have:=q.not_row (e:=3) L i;exact this);have U:jt S (w.heap.size+1) 31 v:=(c.alloc _).kept C (by have:=c.not_row (e:=3) L i;exact this);have a3:=U.cell;have bf:=U.frozen;have a4:=j.cell;refine a _ _ ⟨a3,a4⟩ λ_=>?_
  clear a;refine pD T (λz a=>?_);go_simp;refine a _ _ ⟨⟨s.1,s.2.1.mono (jJ _),s.2.2⟩,?_,⟨j.other Y _,P⟩,y.trans s.2.1,Q⟩;obtain⟨z,b1,b2,b3,b4,-⟩:=a2;exact⟨z,b1,b2,by simpa using b3,b4,trivial⟩
 case done=>
  rintro D xs Ψ W s rfl ⟨⟨v,c,K,i,M,-⟩,⟨q,P⟩,m,Q⟩ a;have u:=c.cell;have x:=c.frozen;have y:=O m;clear m;have j:=uI d V;rw[j]at i;clear j;obtain⟨g,k,rfl⟩:=ownsRow_succ i
  gi_wp2
  refine⟨by simp,.inl ⟨_,_,T,sy (b:=D) (ds:=[]) ?_,?_⟩⟩
  ·exact(KeepsOthers.setCell W _ _).same D _ a T
  have j:jt (W.setCell ⟨w.heap.size+1,0,A⟩ (jb (ja ⟨g,0,A⟩) 9 k)) (w.heap.size+1) 31 (jb (ja ⟨g,0,A⟩) 9 k):=c.set _;have l:(W.setCell ⟨w.heap.size+1,0,A⟩ (jb (ja ⟨g,0,A⟩) 9 k)).heap[D]?=ja (.deferred (ja [])):=(KeepsOthers.setCell W _ _).same D _ a T;have m:(W.setCell ⟨w.heap.size+1,0,A⟩ (jb (ja ⟨g,0,A⟩) 9 k)).ownsRow w.heap.size 3 1 (jb (ja ⟨g,0,A⟩) 9 k) 9 ((upL 10 (512+d)).map λn=>jE .i64 (gV n:je)):=
   i.kept (oj W _ _) (.inr (c.not_row (e:=3) L i).symm)
  have r:jt ((W.setCell ⟨w.heap.size+1,0,A⟩ (jb (ja ⟨g,0,A⟩) 9 k)).putObj D (.deferred A)) (w.heap.size+1) 31 (jb (ja ⟨g,0,A⟩) 9 k):=
   (xd Y).trans j
  have B:=r.cell;refine⟨jw #[jb (ja ⟨g,0,A⟩) 9 k,I N 0],by simp[results,results184,go_sem,B],_,T,sA m _ l T,?_⟩;exact(y.setCell (p:=⟨w.heap.size+1,0,A⟩) ao _).trans (iD Y)
 intro D c f Ψ W _ _ h;exact h.elim
set_option maxRecDepth 100000 in
theorem JQ(d:je)(V:d<512)(w:jg):
 jr jm 184 #[I N d,.func (.func 188) #[] #[]] w λe w'=>∃v,e=jo (jw #[v,I N 0])/\
  w'.ownsRow w 3 1 v 9 ((upL 10 (512+d)).map λn=>jE .i64 (kF n:je))/\jl w w w':=by
 obtain⟨X,hi,UL,aa,ad⟩:=qi B9;refine(qw (n:=0)).1 ?_;refine sv func184 T trivial ?_ T;simp only[ntmps184,jU,jW,j8,qj,qk,ql,qn,qo,qs,qb,qc]
 gi_wp2_with fail
 refine⟨trivial,T,(callsIn_wide.2 (GE _ Y Y _)).mono ?_⟩;rintro e w' ⟨rfl,rfl⟩
 gi_wp2_with fail
 refine⟨trivial,T,(callsIn_wide.2 (FR _ _)).mono ?_⟩;rintro e w' ⟨rfl,rfl⟩
 gi_wp2_with fail
 have E:jt (((w.alloc (jc #[.func (.func 188) #[] #[]] 280)).alloc (jc #[jb A 0 0] 31)).alloc (jc #[I N (512+d)] 282)) w.heap.size 280 (.func (.func 188) #[] #[]):=
  ((Boxed.new w _ _).alloc _).alloc _
 have F:jt (((w.alloc (jc #[.func (.func 188) #[] #[]] 280)).alloc (jc #[jb A 0 0] 31)).alloc (jc #[I N (512+d)] 282)) (w.heap.size+1) 31 (jb A 0 0):=by
  have:=Boxed.new (w.alloc (jc #[.func (.func 188) #[] #[]] 280)) 31 (jb A 0 0);rw[jC]at this;exact this.alloc _
 have t:jt (((w.alloc (jc #[.func (.func 188) #[] #[]] 280)).alloc (jc #[jb A 0 0] 31)).alloc (jc #[I N (512+d)] 282)) (w.heap.size+1+1) 282 (I N ((512+d:je):jd)):=by
  have:=Boxed.new ((w.alloc (jc #[.func (.func 188) #[] #[]] 280)).alloc (jc #[jb A 0 0] 31)) 282 (I N ((512+d:je):jd));rw[jC,jC]at this;exact this
 have H:jl w w (((w.alloc (jc #[.func (.func 188) #[] #[]] 280)).alloc (jc #[jb A 0 0] 31)).alloc (jc #[I N (512+d)] 282)):=
  (((jy _ w).alloc (jn _) _).alloc ao _).alloc (by simp;omega) _
 have a:(((w.alloc (jc #[.func (.func 188) #[] #[]] 280)).alloc (jc #[jb A 0 0] 31)).alloc (jc #[I N (512+d)] 282)).heap.size=w.heap.size+3:=by simp
 generalize(((w.alloc (jc #[.func (.func 188) #[] #[]] 280)).alloc (jc #[jb A 0 0] 31)).alloc (jc #[I N (512+d)] 282))=o at E F t H a⊢;have a5:jk (o.heap.size=w.heap.size+3):=a;have a6:w.heap.size+3<=o.heap.size:=Y;clear a;refine ru (n:=0) (gf:=261) (lb:=#[jA (ja ⟨w.heap.size+1+1,0,A⟩)]) T (enters_of func261 af T)
  (Fg (512+d) 10 Y Y (w.heap.size+1+1) o t) (jJ _) (λ_=>rfl) (by rintro k rfl;exact t.lt)
  (λf Ψ W=>gQ (w.heap.size+1) 31 w.heap.size 3 1 f.length (f.map λn=>jE .i64 (kF n:je)) (λ_=>True) Ψ W/\(jt W w.heap.size 280 (.func (.func 188) #[] #[])/\¬Ψ w.heap.size)/\(jl w w W/\∀k,Ψ k->w.heap.size<=k))
  (λ_ _ _ _=>False)
  ((m8 o.heap.size (w.heap.size+1) 31 w.heap.size 3 1 (λf=>f.length) (λf:jh je=>f.map λn=>jE .i64 (kF n:je)) (λ_ _=>True)).and ((iT _ _ _ (λ_=>_)).and (kL _ _ w (jn _) Y)))
  (λ_=>fj _ _)
  ⟨⟨_,F,by omega,j0 _ _ _ _,by simp[qd],trivial⟩,⟨E,by omega⟩,H,by rintro k rfl;omega⟩
  (λx D _ _=>D={tmps:=#[I N d,.func (.func 188) #[] #[],ju,jA (ja ⟨w,0,A⟩),jA (ja ⟨w.heap.size+1,0,A⟩),I N 0,
   I N (512+d),I N x,jw #[I N (512+d),I N 0],I N d,jw #[I N (512+d),I N 0],I N (512+d),I N 0,I N 0,.bool jp,ju,I N (512+d),
   .func (.func 261) #[] #[jA (ja ⟨w.heap.size+1+1,0,A⟩)],I N x,ju,ju,ju,ju,ju,ju,ju],defers:=[]}) (fj _ _)
  ?assign ?body ?done ?stop
 case assign=>
  intro l f x Ψ r K c _ a
  gi_wp2
  exact a _ _ (jy _ _) c T
 case body=>
  rintro l f x Ψ D r ⟨⟨v,c,K,i,M,-⟩,⟨q,P⟩,m,Q⟩ rfl g Yt ba bb;obtain⟨hx,bc⟩:=Gc 10 (512+d) Y g;clear g;have u:=c.cell;have R:=q.cell;have y:=O m;have au:=m.size;clear m
  gi_wp2
  refine IS (λg=>g.cell? ⟨w.heap.size+1,0,A⟩=ja v/\g.cell? ⟨w,0,A⟩=ja (.func (.func 188) #[] #[])) 6
   [(0,jf),(1,jf),(2,jf),(3,jp),(4,jp),(5,jp),(6,jp)] af af af af rfl (λ_ _ _ _ h=>h) (fun⟨_,_,h⟩=>h) ⟨u,R⟩ ?_
  refine fY (v:=?_) T T (λg j=>?_) ?_
  rotate_left
  ·obtain⟨k,s⟩:=j;go_simp;with_reducible rfl
  refine fY (v:=?_) T T (λg j=>?_) ?_
  rotate_left
  ·obtain⟨k,s⟩:=j;go_simp;with_reducible rfl
  refine fY (v:=?_) T T (λg j=>?_) ?_
  rotate_left
  ·go_simp;with_reducible rfl
  refine dp T (λz a=>?_);go_simp;refine(M6 _ Y _).mono ?_;rintro e w' ⟨rfl,rfl⟩;refine a _ _ ⟨u,R⟩ λ_=>?_
  clear a;refine dp T (λz a=>?_);go_simp;have We:(r.alloc (jc #[I N (kF x:je)] 3)).cell? ⟨w.heap.size+1,0,A⟩=ja v:=(c.alloc _).cell;have B:(r.alloc (jc #[I N (kF x:je)] 3)).cell? ⟨w,0,A⟩=ja (.func (.func 188) #[] #[]):=(q.alloc _).cell;refine a _ _ ⟨We,B⟩ λ_=>?_
  clear a;refine dp T (λz a=>?_);refine step_append_lies _ T (.tmp 19) (.tmp 23) 31 T w.heap.size 3 X (I N 0) 1 8 sx hi UL aa ad T L v f.length _ T (i.alloc _)
   ⟨r,0,A⟩ 1 1 [I N (kF x:je)] rfl rfl (cell_one_new _ _ _) (by simp[j1]) Y (by unfold j3;omega) Y (by simp;omega) _ rfl ?_
  intro g k S ax ay a1 bd;have C:=BS ay;obtain⟨s,a2⟩:=sl (B0:=o.heap.size) c L i au Y K M Yt ax C (by
   intro j U;simp only[qd,Option.some.injEq]at U;subst U;simpa using a1)
  have j:jt S w.heap.size 280 (.func (.func 188) #[] #[]):=(q.alloc _).kept C (by have:=q.not_row (e:=3) L i;exact this);have U:jt S (w.heap.size+1) 31 v:=(c.alloc _).kept C (by have:=c.not_row (e:=3) L i;exact this);have a3:=U.cell;have bf:=U.frozen;have a4:=j.cell;refine a _ _ ⟨a3,a4⟩ λ_=>?_
  clear a;refine pD T (λz a=>?_);go_simp;refine a _ _ ⟨⟨s.1,s.2.1.mono (jJ _),s.2.2⟩,?_,⟨j.other Y _,P⟩,y.trans s.2.1,Q⟩;obtain⟨z,b1,b2,b3,b4,-⟩:=a2;exact⟨z,b1,b2,by simpa using b3,b4,trivial⟩
 case done=>
  rintro D xs Ψ W s rfl ⟨⟨v,c,K,i,M,-⟩,⟨q,P⟩,m,Q⟩ a;have u:=c.cell;have x:=c.frozen;have y:=O m;clear m;have j:=uI d V;rw[j]at i;clear j;obtain⟨g,k,rfl⟩:=ownsRow_succ i
  gi_wp2
  refine⟨by simp,.inl ⟨_,_,T,sy (b:=D) (ds:=[]) ?_,?_⟩⟩
  ·exact(KeepsOthers.setCell W _ _).same D _ a T
  have j:jt (W.setCell ⟨w.heap.size+1,0,A⟩ (jb (ja ⟨g,0,A⟩) 9 k)) (w.heap.size+1) 31 (jb (ja ⟨g,0,A⟩) 9 k):=c.set _;have l:(W.setCell ⟨w.heap.size+1,0,A⟩ (jb (ja ⟨g,0,A⟩) 9 k)).heap[D]?=ja (.deferred (ja [])):=(KeepsOthers.setCell W _ _).same D _ a T;have m:(W.setCell ⟨w.heap.size+1,0,A⟩ (jb (ja ⟨g,0,A⟩) 9 k)).ownsRow w.heap.size 3 1 (jb (ja ⟨g,0,A⟩) 9 k) 9 ((upL 10 (512+d)).map λn=>jE .i64 (kF n:je)):=
   i.kept (oj W _ _) (.inr (c.not_row (e:=3) L i).symm)
  have r:jt ((W.setCell ⟨w.heap.size+1,0,A⟩ (jb (ja ⟨g,0,A⟩) 9 k)).putObj D (.deferred A)) (w.heap.size+1) 31 (jb (ja ⟨g,0,A⟩) 9 k):=
   (xd Y).trans j
  have B:=r.cell;refine⟨jw #[jb (ja ⟨g,0,A⟩) 9 k,I N 0],by simp[results,results184,go_sem,B],_,T,sA m _ l T,?_⟩;exact(y.setCell (p:=⟨w.heap.size+1,0,A⟩) ao _).trans (iD Y)
 intro D c f Ψ W _ _ h;exact h.elim
theorem SO(d:je)(a:d<512)(w:jg):
 jr jm 124 #[I N d] w λe w'=>∃v,e=jo (jw #[v,I N 0])/\
  w'.ownsRow w 3 1 v 9 (iv (kE d))/\jl w w w':=by
 rw[J2]
 go_enter func124,ntmps124
 go_wp2_with fail
 refine(Qs d a _).mono ?_;rintro e w' ⟨v,rfl,b,c⟩
 go_wp2
 go_ret2;exact⟨v,T,b,c⟩
theorem Le(d:je)(a:d<512)(w:jg):
 jr jm 130 #[I N d] w λe w'=>∃v,e=jo (jw #[v,I N 0])/\
  w'.ownsRow w 3 1 v 9 (iv (nQ d))/\jl w w w':=by
 rw[Tb]
 go_enter func130,ntmps130
 go_wp2_with fail
 refine(JQ d a _).mono ?_;rintro e w' ⟨v,rfl,b,c⟩
 go_wp2
 go_ret2;exact⟨v,T,b,c⟩
end
section
open Go.RowKit Go.Sort
theorem CM(v:ji)(xs:jh jd)(base b:je)(w:jg)(h:w.ownsRow base 3 1 v xs.length (xs.map (jE .i64)))(o:b<=base)(p:xs.length<=1000000):
 jr jm 126 #[v] w λe w'=>e=jo (jw #[])/\w'.ownsRow base 3 1 v xs.length ((xs.mergeSort leI).map (jE .i64))/\jl b w w':=by
 rcases h.2 with⟨rfl,c⟩|⟨g,d,q,rfl,f,a,i,j,l,m⟩
 ·refine(Tryzx.slices_Sort_int_none A 0 w).mono ?_
  rintro e w' ⟨rfl,rfl⟩;have:xs=[]:=qt c;subst this;exact⟨T,by simpa using h,jy _ _⟩
 refine(Tryzx.slices_Sort_int g 0 d xs w (holds_of_block_i a (ak m)) (jK.1 a).1 Y).mono ?_;rintro e w' ⟨rfl,n,os,rfl⟩;exact⟨T,ownsRow_sorted_i ao f a i j l,(jy b w).grown (grownBy_sorted_i _) (by have:=(jK.1 a).1;omega) (λk e=>by cases e;omega)⟩
theorem Fz{gf:je}{lb:jZ ji}(d:∀args w,(callFunc gf args).run jm w=.ok (.enter gf args) w){c:je->Prop}{f:je}{S n V:jh jd->Prop}{w:jg}
 (g:eR jm gf lb (λx:jd=>#[I N x]) c f S n V w) (h:f<=w.heap.size) (i:∀k,c k->k<w.heap.size) (j:∀ys,V ys->ys.length<=1000000) (a:∀xs,S xs->xs.length<=1000000) (b:je) (l:b<=w.heap.size) (m:∀k,c k->b<=k):
 jr jm 141 #[.func (.func gf) #[] lb] w λe w'=>∃v xs,e=jo v/\S xs/\w'.ownsRow w 3 1 v xs.length ((xs.mergeSort leI).map (jE .i64))/\jl b w w':=by
 have k:=O (DU d g h i j b l m);have o:=O a;clear d g h i j m a
 go_enter func141,ntmps141
 go_wp2_with fail
 refine k.mono ?_;rintro e h ⟨v,xs,rfl,a,d,g⟩;have i:=O (CM v xs w.heap.size b h d l (o xs a));have j:=O g;clear d g
 go_wp2_with fail
 refine i.mono ?_;rintro e q ⟨rfl,d,g⟩;have m:=O d;have p:=O g;clear d g
 go_wp2
 go_ret;exact⟨v,xs,T,a,m,j.trans p⟩
theorem JP(v:ji)(xs:jh jd)(base a:je)(w:jg)(h:w.ownsRow base 3 1 v xs.length (xs.map (jE .i64)))(y:a<=base)(z:xs.length<=1000000):
 jr jm 127 #[v] w λe w'=>∃c,e=jo c/\w'.ownsRow base 3 1 c (Lib.compact xs).length ((Lib.compact xs).map (jE .i64))/\jl a w w':=by
 rcases h.2 with⟨rfl,o⟩|⟨g,d,p,rfl,r,b,B,s,f,t⟩
 ·refine(Tryzx.slices_Compact_int_empty A 0 w).mono ?_
  rintro e w' ⟨rfl,rfl⟩;have:xs=[]:=qt o;subst this;exact⟨_,T,by simpa [Lib.compact,Lib.compactUpTo]using h,jy _ _⟩
 have C:=(jK.1 b).1;refine(Tryzx.slices_Compact_int g 0 d xs w (holds_of_block_i b (ak t)) Y Y).mono ?_;rintro e w' ⟨rfl,q,rfl⟩;have u:(Lib.compact xs).length<=xs.length:=by
  unfold Lib.compact Lib.compactUpTo;rw[jD];exact jz (rk _ _) ao
 have x:∀W:jg,grow W #[]=W:=λW=>by simp[grow]
 have i:=heap_sorted_i (n:=q) (os:=#[]) (Lib.compact xs++j9 (xs.length-(Lib.compact xs).length) 0).toArray b;have j:=grownBy_sorted_i (w:=w) (g:=g) (n:=q) (os:=#[]) (Lib.compact xs++j9 (xs.length-(Lib.compact xs).length) 0).toArray;rw[x]at i j;refine⟨_,T,⟨by simp,.inr ⟨g,d,_,T,r,i,by omega,s,by simp[putCells,f],?_⟩⟩,(jy a w).grown j Y (λk e=>by cases e;omega)⟩;have k:(Lib.compact xs++j9 (xs.length-(Lib.compact xs).length) 0).length=xs.length:=by simp;omega
 have l:=take_putCells_i p (Lib.compact xs++j9 (xs.length-(Lib.compact xs).length) 0) (by rw[k,f];omega);rw[k]at l;have m:=qN (List.take (Lib.compact xs).length) l;rw[List.take_take,qD u]at m;rw[rn,m,<-List.map_take,List.take_left']
 rfl
end
theorem Bz(t:jh (jd×jd))(a p:jd):gE (t++[(a,p)])=gE t++if 512<=a/\a<=1023 then [a-512]else []:=by
 unfold gE;rw[List.filter_append,j4]
 congr 1
 by_cases h:512<=a/\a<=1023
 ·simp[h.1,h.2]
 rw[jI h];simp only[List.filter_cons,List.filter_nil];rw[jI (ak h)]
 rfl
theorem yx(t:jh (jd×jd)):(gE t).length<=t.length:=by
 unfold gE;rw[jD];exact rk _ _
theorem tM{wr:jg}{g o k:je}(l:∀j,j<t.length->w.cell? ⟨g,o+j*2,A⟩=ja (I N (t.getD j (0,0)).1)/\w.cell? ⟨g,o+j*2+1,A⟩=ja (I N (t.getD j (0,0)).2))
 (e:∀x∈t,aO x.1/\aO x.2) (b:k<t.length) (f:jl w w wr):
 ∃a p,wr.cell? ⟨g,o+k*2,A⟩=ja (I N a)/\wr.cell? ⟨g,o+k*2+1,A⟩=ja (I N p)/\aO a/\aO p/\t.getD k (0,0)=(a,p)/\t.take (k+1)=t.take k++[(a,p)]/\(a,p)∈t:=by
 obtain⟨h,i⟩:=l k b;have c:t.getD k (0,0)=t[k]:=by simp[jO,b]
 have d:t[k]∈t:=qE b;refine⟨t[k].1,t[k].2,?_,?_,(e _ d).1,(e _ d).2,c,by rw[o1 b],d⟩
 ·rw[<-c];exact cJ h (f.block g (eN h))
 rw[<-c];exact cJ i (f.block g (eN i))
theorem tI(t:jh (jd×jd))(v:ji)(w:jg)(f:bJ w v t)(u:t.length<=1000000):
 jr jm 72 #[jq #[v]] w λe w'=>∃b,e=jo b/\w'.ownsRow w 3 1 b (cA t).length ((cA t).map (jE .i64))/\jl w w w':=by
 obtain⟨p,c,rfl,F,j,d,g⟩:=f;obtain⟨H,K,M,P,Q⟩:=qi DD
 go_enter func72,ntmps72
 go_wp2_with fail
 obtain⟨x,a⟩:=J (w.alloc (jc #[jb p t.length c] 27));have i:jl w w x:=by rw[a];exact(jy _ w).alloc (jn _) _
 have R:=O (j0 x w.heap.size 3 1);rw[<-a];clear a;have S:=O i;have U:=O d;have V:=O g;have y:=O (λk=>jz (yx (t.take k)) (by rw[qg];exact Nat.min_le_left k _));obtain⟨n,a⟩:=J t.length;have h:=O a;rw[<-a]at u F⊢;clear i d g a j
 go_loopw [2,8] (λb i wr=>∃k:je,i=I N k/\k<=n/\jk (wr.ownsRow w 3 1 b (gE (t.take k)).length ((gE (t.take k)).map (jE .i64)))/\jk (jl w w wr)) (λ_ i _=>n-(jv i).toNat)
 case atStart=>exact⟨0,T,jJ _,R,S⟩
 obtain⟨k,rfl,hk,z,d⟩:=hrel
 by_cases W:k<n
 ·have X:=az ((k:jd)<(n:jd))
  have UN:=az (k<n);obtain⟨g,o,rfl,j⟩:=U.out (by rw[<-h];omega);obtain⟨a,m,c1,c2,B,q,-,f,-⟩:=tM j V.out (by rw[<-h];exact W) d;have r:=O f;have ad:=y k;have s:=O (d.alloc d.size (jc #[I N a,I N m] 194));have i:=O (z.alloc (jc #[I N a,I N m] 194));have au:w.heap.size<=wr.heap.size:=d.size;clear j f B q
  by_cases h5:512<=a
  ·have aa:=az (512<=a)
   by_cases h6:a<=1023
   ·have hd2:=az (a<=1023)
    have C:=O (cell_one_new (wr.alloc (jc #[I N a,I N m] 194)) (I N (a-512)) 3);rw[jC]at C
    go_wp2_with (at_builtin;refine sB _ T _ _ 31 T w.heap.size 3 H (I N 0) 1 8 sx K M P Q T L _ _ _ T (i.alloc _) ⟨wr.heap.size+1,0,A⟩ 1 1 [I N (a-512)] T T C (by simp[j1]) (by unfold j3;omega) Y (by simp;omega) ?_;intro v' B D E _)
    have VX:=O D;have l:=s.out;have Uq:=O ((Below.alloc l l.size (jc #[I N (a-512)] 3)).grown E (by have:=l.size;simp;omega) (λj hj=>(i.lt j hj).1));clear D E l;refine⟨⟨k+1,by go_num,by omega,?_,Uq⟩,by simp only[jv];omega⟩;rw[r,Bz,jB ⟨h5,h6⟩,jL,j4];exact VX
   have hd2:=aw (a<=1023)
   go_wp2
   refine⟨⟨k+1,by go_num,by omega,?_,s⟩,by simp only[jv];omega⟩;rw[r,Bz,jI Y,q8];exact i
  have aa:=aw (512<=a)
  go_wp2
  refine⟨⟨k+1,by go_num,by omega,?_,s⟩,by simp only[jv];omega⟩;rw[r,Bz,jI Y,q8];exact i
 have X:=aw ((k:jd)<(n:jd));have UN:=aw (k<n);obtain rfl:k=n:=Y;have a:=z.out;rw[h,List.take_length]at a;have i:=y k;have g:(gE t).length<=1000000:=jz (yx t) (by rw[<-h];exact u);have j:=O (CM _ (gE t) w.heap.size w.heap.size wr a (jn _) g);have l:=O g;clear a i g
 go_wp2_with fail
 refine j.mono ?_;rintro e q ⟨rfl,g,i⟩;have a:((gE t).mergeSort leI).length=(gE t).length:=xe _;have m:=O (JP _ ((gE t).mergeSort leI) w.heap.size w.heap.size q (by rw[a];exact g) (jn _) (by rw[a];exact l));have o:=O i;clear g i a
 go_wp2_with fail
 refine m.mono ?_;rintro e s ⟨b,rfl,a,g⟩;have i:=O a;have r:=O g;clear a g
 go_wp2
 go_ret;exact⟨b,T,i,d.trans (o.trans r)⟩
theorem JW(t:jh (jd×jd))(v:ji)(x:jd)(w:jg)(d:bJ w v t)(h:t.length<=1000000)(g:aO x):
 jr jm 107 #[jq #[v],I N x] w λe w'=>e=jo (jw #[I N ((bG t x).getD 0),.bool (bG t x).isSome])/\jl w w w':=by
 have a:jl w w (w.alloc (jc #[v] 27)):=(jy _ w).alloc (jn _) _;have i:=O (zi t v (w.alloc (jc #[v] 27)) (d.below a) h);obtain⟨p,c,rfl,-,-,-,-⟩:=d;have j:=O g;have k:=O a;obtain⟨f,b⟩:∃f,bG t x=f:=⟨_,T⟩;rw[b];have l:=O b;clear g a b
 go_enter func107,ntmps107
 go_wp2_with fail
 refine i.mono ?_;rintro e q ⟨b,rfl,m,a,g⟩;have n:=O a;have o:=aj k g;clear a g m
 go_wp2_with (at_lookup;refine vJ (he:=jQ) T _ _ 160 T jQ qx (pN _) b t.length _ T n x T j ?_;rw[l])
 go_ret2;exact⟨T,o⟩
theorem pM{v:ji}{l:jh jd}(h:w.ownsRow B 3 1 v l.length (l.map (jE .i64))):
 ∃p c,v=jb p l.length c/\l.length<=c/\(0<l.length->∃g,p=ja ⟨g,0,A⟩/\B<=g/\g<w.heap.size/\∀j,j<l.length->w.cell? ⟨g,j,A⟩=ja (I N (l.getD j 0))):=by
 rcases h.2 with⟨rfl,d⟩|⟨g,f,n,rfl,i,a,k,o,q,m⟩
 ·exact⟨A,0,by rw[d],by omega,λh=>by omega⟩
 refine⟨_,f,T,k,λ_=>⟨g,T,i,(jK.1 a).1,λj b=>?_⟩⟩;have e:=qN (λz:jh ji=>z[j]?) m;simp only[rn]at e;rw[rv b]at e;unfold j5;rw[a];simp only[xf,xg,if_false];rw[<-xh,e];simp[jO,b]
def dZ(a:jh jd)(y:jd):jS Bool:=if y∈a then ja jf else A
theorem zn(a:jh jd)(z:jd):(λy=>if y=z then ja jf else dZ a y)=dZ (a++[z]):=by
 funext y
 unfold dZ
 by_cases h:y=z
 ·simp[h]
 simp[h]
def bW(d:jd):jh jd:=(kE d.toNat).map λn:je=>(n:jd)
def fM(a:jh jd):jh jd:=a.flatMap λd=>(512+d)::bW d
theorem MJ(a:jh jd)(d:jd):fM (a++[d])=(fM a++[512+d])++bW d:=by
 simp[fM,List.flatMap_append]
theorem tW(d:jd)(a:0<=d)(b:d<512):(bW d).length=9:=by
 unfold bW kE;rw[jD,jD,uI _ Y]
theorem Ah(d:jd)(c:0<=d)(e:d<512):∀x∈bW d,0<=x/\x<1024:=by
 intro x a;unfold bW kE at a;simp only[qS]at a;obtain⟨n,⟨m,b,rfl⟩,rfl⟩:=a;have:=zr 10 (512+d.toNat) m b;unfold gV;omega
theorem Cu(d:jd)(a:0<=d)(b:d<512)(w:jg):
 jr jm 124 #[I N d] w λe w'=>∃v,e=jo (jw #[v,I N 0])/\w'.ownsRow w 3 1 v (bW d).length ((bW d).map (jE .i64))/\jl w w w':=by
 obtain⟨n,rfl⟩:=xi a;refine(SO n Y w).mono ?_;rintro e w' ⟨v,rfl,c,f⟩;refine⟨v,T,?_,f⟩;rw[tW _ a b];have e:iv (kE n)=(bW (n:jd)).map (jE .i64):=by simp[iv,bW,Function.comp_def]
 rw[<-e];exact c
def mQ(t:jh (jd×jd))(U:jh jd)(i:je):Prop:=
 (t.getD i (0,0)).1<1\/1023<(t.getD i (0,0)).1\/(0<i/\(t.getD i (0,0)).1<=(t.getD (i-1) (0,0)).1)\/¬bL (t.getD i (0,0)).2\/(t.getD i (0,0)).1∉U
def L1(t:jh (jd×jd)):Prop:=∃i,i<t.length/\mQ t (fM (cA t)) i
noncomputable def df(t:jh (jd×jd)):jd:=by classical exact if L1 t then 210 else 0
theorem zm(h:jl B w a)(n:je):jl B w (a.drewN n):=h.trans ⟨T,T,T,jn _,λ_ _=>rfl⟩
theorem nE(h:x=y):Ending.returned (I N y)=jo (I N x):=by rw[h]
theorem B4(h:t.getD B (0,0)=(x,y))(e:1<=x)(f:x<=1023)(b:¬(0<B/\x<=(t.getD (B-1) (0,0)).1))(c:bL y)(d:x∈U):¬mQ t U B:=by
 unfold mQ;rw[h];rintro(a|a|a|a|a)
 ·exact jG a (by show ¬x<1;omega)
 ·exact jG a (by show ¬1023<x;omega)
 ·exact b a
 ·exact a c
 exact a d
theorem El(h:∀j,j<B->¬mQ t U j)(b:¬mQ t U B):∀j,j<B+1->¬mQ t U j:=by
 intro j c
 rcases qF j B with a|a
 ·exact h j a
 obtain rfl:j=B:=Y;exact b
theorem Bj(w:jg):(zeroValue 4).run jm w=.ok (.bool jp) w:=by kernel_rfl
theorem nU{k:je}(a:U=fM (cA t))(b:k<t.length)(h:mQ t U k):df t=210:=by
 unfold df;rw[jB];subst a;exact⟨k,b,h⟩
theorem B5(a:U=fM (cA t))(h:∀j,j<t.length->¬mQ t U j):df t=0:=by
 unfold df;rw[jI];subst a;rintro⟨i,b,c⟩;exact h i b c
theorem ya(t:jh (jd×jd))(v:ji)(w:jg)(ht:bJ w v t)(hl:t.length<=1000000):
 jr jm 67 #[jq #[v]] w λe w'=>e=jo (I N (df t))/\jl w w w':=by
 have a:jl w w ((w.alloc (jc #[v] 27)).alloc (.map #[] 0)):=((jy _ w).alloc (jn _) _).alloc ao _;have j:=O (tI t v ((w.alloc (jc #[v] 27)).alloc (.map #[] 0)) (ht.below a) hl);have b:aZ (il nv) 3 ((w.alloc (jc #[v] 27)).alloc (.map #[] 0)) (w.heap.size+1) 0 (λ_=>A):=by
  have h:=aZ.made (il nv) 3 (w.alloc (jc #[v] 27));rw[jC]at h;exact h
 have X:=O ht;obtain⟨p,c,rfl,hc,-,-,-⟩:=ht;obtain⟨W0,i⟩:=J ((w.alloc (jc #[jb p t.length c] 27)).alloc (.map #[] 0));have k:W0.heap[w.heap.size]?=ja (jc #[jb p t.length c] 27 (0,0)):=by
  rw[i];exact(jF _ _ _ ao).trans (js w _)
 have d:=@run_makeMap jm
 go_enter func67,ntmps67
 go_wp2_with fail
 rw[<-i]at j a b⊢;clear d;refine j.mono ?_;rintro e w1 ⟨bk,rfl,ad,g⟩;obtain⟨pu,cu,rfl,a5,q⟩:=pM ad;have D:=O q;have F:=O (b.below g b.lt);have UO:=O ((g.block _ (jK.1 k).1).trans k);have Uq:=O (a.trans (g.mono a.size));have bc:w.heap.size+1<w1.heap.size:=jN b.lt g.size;obtain⟨B,m⟩:=J (w.heap.size+1);rw[<-m]at F bc⊢;have bl:w.heap.size<B:=Y;have bm:B<W0.heap.size:=by rw[i,m];simp
 have YY:=O (jz (show(cA t).length<=(gE t).length by
  unfold cA Lib.compact Lib.compactUpTo;rw[jD];exact jz (rk _ _) ao) (yx t))
 have H:=O (λd=>(oH t d).1);obtain⟨M,o⟩:=J (cA t);rw[<-o]at D YY H a5⊢;have bd:=O o;obtain⟨n,f⟩:=J M.length;have bn:n<=1000000:=by rw[f];exact jz YY hl
 have r:=O f;rw[<-f]at a5⊢;clear i k a b ad g q j m f o
 go_wp2_with fail
 go_loopw [16] (λi wr=>∃k:je,i=I N k/\k<=n/\jk (aZ (il nv) 3 wr B (k*10) (dZ (fM (M.take k))))/\jk (jl w w wr)/\jk (∀b,b<w1.heap.size->b≠B->wr.heap[b]?=w1.heap[b]?)/\w1.heap.size<=wr.heap.size) (λi _=>n-(jv i).toNat)
 case atStart=>exact⟨0,T,jJ _,O (F.congr (λx _=>by simp[fM,dZ])),Uq,O (λ_ _ _=>rfl),jn _⟩
 obtain⟨k,rfl,hk,HM,HB,q,bb⟩:=hrel
 by_cases V:k<n
 ·have hd:=az ((k:jd)<(n:jd))
  have UN:=az (k<n);obtain⟨g,rfl,bo,Yj,s⟩:=D.out (by rw[<-r];omega);have a:k<M.length:=by rw[<-r];exact V
  have j:=s k a;have m:M.getD k 0=M[k]:=by simp[jO,a]
  have U:=O (o1 a);obtain⟨u,y,-⟩:=H M[k] (qE a);rw[m]at j;obtain⟨d,o⟩:=J (M[k]);rw[<-o]at j u y U;have P:wr.cell? ⟨g,k,A⟩=ja (I N d):=cJ j (q g Yj Y);clear j m a s o;have Vk:g<wr.heap.size:=Y;have a6:=O (Cu d u y);have K:=O (tW d u y);have ba:=O (Ah d u y);have a:aO (512+d):=aO.of Y;have HI:=O a;clear a
  go_wp2_with fail
  refine(a6 _).mono ?_;rintro e w2 ⟨pv,rfl,ad,a⟩;obtain⟨pp,cp,rfl,bf,j⟩:=pM ad;rw[K]at bf j⊢;obtain⟨o,rfl,bp,bg,z⟩:=j Y;have C:=O (HM.below a Y);have S:=aj HB a;have W:jk (∀b,b<w1.heap.size->b≠B->w2.heap[b]?=w1.heap[b]?):=O λb m f=>(a.block b Y).trans (q b m f)
  have bq:=a.size;have UJ:=O z;clear ad a j z P
  go_wp2_with (at_mapUpdate;refine oD (E:=il nv) T _ _ _ 203 T jQ qY B _ _ T C (by unfold j3;omega) (512+d) T HI jf T trivial ?_;intro a aa Q;have R:=O aa;have z:=O Q;have j:=Q.grown.size;clear aa Q)
  have R:jk (aZ (il nv) 3 a B (k*10+1+0) (dZ (fM (M.take k)++[512+d]++(bW d).take 0))):=O (by
   have h:=R.out;rw[zn]at h
   simpa using h)
  have YG:jk (∀b,b<w1.heap.size->b≠B->a.heap[b]?=w1.heap[b]?):=O λb m f=>(z.grown.block b Y (ak f)).trans (W b m f)
  have Uu:jk (jl w w a):=O (S.grown z.grown Y (λj e=>by cases e;omega));have U2:jk (∀j,j<9->a.cell? ⟨o,j,A⟩=ja (I N ((bW d).getD j 0))):=O λj hj=>cJ (UJ j hj) (z.grown.block o bg (by simp;omega))
  have br:o<a.heap.size:=Y;clear z W S UJ C
  go_wp2_with fail
  go_loopw [30] (λi wr=>∃j:je,i=I N j/\j<=9/\jk (aZ (il nv) 3 wr B (k*10+1+j) (dZ (fM (M.take k)++[512+d]++(bW d).take j)))/\jk (jl w w wr)/\jk (∀b,b<a.heap.size->b≠B->wr.heap[b]?=a.heap[b]?)/\a.heap.size<=wr.heap.size) (λi _=>9-(jv i).toNat)
  case atStart=>exact⟨0,T,jJ _,R,Uu,O (λ_ _ _=>rfl),jn _⟩
  obtain⟨j,rfl,hj,au,ax,S,bs⟩:=hrel
  by_cases ay:j<9
  ·have bh:=az ((j:jd)<9)
   have cy:wr.cell? ⟨o,j,A⟩=ja (I N ((bW d).getD j 0)):=cJ (U2 j ay) (S o Y Y);have C:j<(bW d).length:=by rw[K];exact ay
   have W:(bW d).getD j 0=(bW d)[j]:=by simp[jO,C]
   have a1:=O (o1 C);have a2:=O (ba _ (qE C));rw[W]at cy;obtain⟨z,hz⟩:=J ((bW d)[j]);rw[<-hz]at cy a1 a2;have bi:jk (aO z):=O (aO.of (x:=z) (aI a2));have bu:o<wr.heap.size:=Y;clear C W hz
   go_wp2_with (at_mapUpdate;refine oD (E:=il nv) T _ _ _ 203 T jQ qY B _ _ T au (by unfold j3;omega) z T bi jf T trivial ?_;intro w5 a3 C;have W:=O a3;have a4:=O C;have bv:=C.grown.size;clear a3 C)
   refine⟨⟨j+1,by go_num,by omega,O ?_,O (ax.grown a4.grown Y (λj e=>by cases e;omega)),O λb m f=>(a4.grown.block b Y (ak f)).trans (S b m f),by omega⟩,by simp only[jv];omega⟩;have h:=W.out;rw[zn]at h;rw[a1,<-j6];exact h
  have bh:=aw ((j:jd)<9);obtain rfl:j=9:=Y
  go_wp2_with fail
  refine⟨⟨k+1,by go_num,by omega,O ?_,ax,O λb m f=>(S b Y f).trans (YG b m f),by omega⟩,by simp only[jv];omega⟩;have h:=au.out;rw[nn (l:=bW d) (by rw[K];exact jn _)]at h;rw[U,MJ];exact h.mono (n':=(k+1)*10) Y
 have hd:=aw ((k:jd)<(n:jd));have UN:=aw (k<n);obtain rfl:k=n:=Y;have Wq:jk (wr.heap[w.heap.size]?=ja (jc #[jb p t.length c] 27 (0,0))):=O ((q w.heap.size Y Y).trans UO);have ax:jk (aZ (il nv) 3 wr B (k*10) (dZ (fM M))):=O (by
  have h:=HM.out;rw[nn (by rw[<-r];exact jn _)]at h;exact h)
 have b:=O (X.below HB);have a6:B<wr.heap.size:=Y;obtain⟨U,a⟩:=J (fM M);rw[<-a]at ax;have HU:jk (U=fM (cA t)):=O (by rw[a,bd]);obtain⟨k',d⟩:=J k;rw[<-d]at ax;clear a HM q D H X UO Uq F r d;have cb:wr.cell? ⟨w,0,A⟩=ja (jb p t.length c):=by unfold j5;rw[Wq];rfl
 obtain⟨p',c',he,-,-,a,d⟩:=b.out
 cases he
 have HC:=O a;have ba:=O d;clear a d;obtain⟨n,f⟩:=J t.length;have r:=O f;obtain⟨W3,a⟩:=J wr;have ay:w.heap.size<wr.heap.size:=Y;rw[<-a]at Wq ax HC a6 cb HB ay⊢;rw[<-f]at hc hl cb Wq⊢;clear f a bb b
 go_wp2_with fail
 go_loopw [41] (λi wr=>∃k:je,i=I N k/\k<=n/\jk (∀j,j<k->¬mQ t U j)/\jk (jl W3 W3 wr)) (λi _=>n-(jv i).toNat)
 case atStart=>exact⟨0,T,jJ _,O (λ_ h=>jG h Y),O (jy _ _)⟩
 obtain⟨k,rfl,hk,HG,WP⟩:=hrel
 by_cases V:k<n
 ·have hd:=az ((k:jd)<(n:jd))
  have UN:=az (k<n);obtain⟨g,o,rfl,s⟩:=HC.out (by rw[<-r];omega);obtain⟨a,q,P,j,i,m,hgt,-,-⟩:=tM s ba.out (by rw[<-r];exact V) WP;have u:wr.cell? ⟨w,0,A⟩=ja (jb (ja ⟨g,o,A⟩) n c):=cJ cb (WP.block _ ay);have X:=O hgt;have VE:=O s;have WY:=O i;have b:=WP.alloc WP.size (jc #[I N a,I N q] 194);have C:w.heap.size<wr.heap.size:=jN ay WP.size;have x:wr.heap.size<(wr.alloc (jc #[I N a,I N q] 194)).heap.size:=by simp
  have y:(wr.alloc (jc #[I N a,I N q] 194)).cell? ⟨wr,0,A⟩=ja (I N a):=by
   unfold j5;rw[js];rfl
  have z:(wr.alloc (jc #[I N a,I N q] 194)).cell? ⟨wr,1,A⟩=ja (I N q):=by
   unfold j5;rw[js];rfl
  have d:(wr.alloc (jc #[I N a,I N q] 194)).cell? ⟨w,0,A⟩=ja (jb (ja ⟨g,o,A⟩) n c):=cJ cb (b.block _ ay);have W:jk (aZ (il nv) 3 (wr.alloc (jc #[I N a,I N q] 194)) B (k'*10) (dZ U)):=O (ax.below b a6);have H:=aj HB b;have aa:=O b;clear s hgt i m b
  go_upto_region 16 with fail
  obtain⟨K,b⟩:=J (wr.alloc (jc #[I N a,I N q] 194));rw[<-b]at x y z d W H aa⊢;clear b P j u C
  by_cases h1:a<1
  ·have bf:=az (a<1)
   have s:jk (df t=210):=O<|nU HU.out (by rw[<-r];exact V) (.inl (by rw[X];exact h1))
   go_quiet (fail)
   go_wp2_with fail
   go_ret;exact⟨nE s,zm H _⟩
  have bf:=aw (a<1)
  by_cases h2:1023<a
  ·have hd2:=az (1023<a)
   have s:jk (df t=210):=O<|nU HU.out (by rw[<-r];exact V) (.inr (.inl (by rw[X];exact h2)))
   go_quiet (fail)
   go_wp2_with fail
   go_ret;exact⟨nE s,zm H _⟩
  have hd2:=aw (1023<a)
  by_cases h3:0<k
  ·have hd3:=az (0<(k:jd))
   have bg:=az (0<k);obtain⟨m,b⟩:=J (k-1);have bo:(k:jd)-1=(m:jd):=Y;have bh:m<n:=Y;obtain⟨a2,q2,c3,-,-,-,i,-,-⟩:=tM VE ba (k:=m) (by rw[<-r];exact bh) aa;have bb:=O i;have HM:=O b;clear i b
   by_cases h4:a<=a2
   ·have bi:=az (a<=a2)
    have s:jk (df t=210):=O<|nU HU.out (by rw[<-r];exact V) (.inr (.inr (.inl (by rw[<-HM,X,bb];exact⟨h3,h4⟩))))
    go_quiet (fail)
    go_wp2_with fail
    go_ret;exact⟨nE s,zm H _⟩
   have bi:=aw (a<=a2);have au:B<K.heap.size:=by have:=WP.size;omega
   have P:=O (gD q);have bp:qT.wrap (m:jd)=(m:jd):=by rw[qG];omega
   have bq:(0:jd)<=(m:jd):=Y;have br:(m:jd)<(n:jd):=Y;have bs:(m:jd)<=(n:jd):=Y;have a1:jk (¬(0<k/\a<=(t.getD (k-1) (0,0)).1)):=O (by rw[<-HM,bb];exact λh=>h4 h.2)
   by_cases C:bL q
   ·have Q:cU q=0:=gF C
    rw[Q]at P;have a3:=O C;clear Q C;have u:∀w',aZ (il nv) 3 w' B (k'*10) (dZ U)->(Instr.lookup 203 (.map (ja B)) (I N a) jp).run jm w'=.ok (.bool ((dZ U a).getD jp)) w':=λw' h=>h.look jQ qY (Bj w') WY jp
    have D:=u K.drew (aZ.of_block (w':=K.drew) W T)
    by_cases F:a∈U
    ·have R:(dZ U a).getD jp=jf:=by unfold dZ;rw[jB F];rfl
     rw[R]at D u;have a4:=O F;clear R F;refine jT ?_;refine lK (λw'=>w'.cell? ⟨w,0,A⟩=ja (jb (ja ⟨g,o,A⟩) n c)/\w'.cell? ⟨g,o+m*2,A⟩=ja (I N a2)/\w'.cell? ⟨wr,0,A⟩=ja (I N a)/\w'.cell? ⟨wr,1,A⟩=ja (I N q)/\(Instr.lookup 203 (.map (ja B)) (I N a) jp).run jm w'=.ok (.bool jf) w') 100 [(0,jf),(1,jf),(2,jf),(3,jf),(4,jf),(5,jf),(6,jf),(7,jf),(8,jf),(9,jf),(10,jf),(11,jf),(12,jf),(13,jf),(14,jf),(15,jf),(16,jf),(17,jf),(18,jf),(19,jf),(20,jf),(21,jf),(22,jf),(23,jf),(24,jf),(25,jf),(26,jf),(27,jp),(28,jf),(29,jf),(30,jf),(31,jf),(32,jf),(33,jf),(34,jf),(35,jf),(36,jf)]
      af af af rfl (λ_ _ _ _ h=>h) ⟨d,c3,y,z,D⟩ ?_
     iterate 27 refine wD ?_
     refine dp T (λK' j=>?_);go_simp;refine(P _).mono ?_;rintro e i ⟨rfl,b⟩;refine j _ _ ⟨cJ d (b.block _ (eN d)),cJ c3 (b.block _ (eN c3)),cJ y (b.block _ x),cJ z (b.block _ x),u i (aZ.of_block (w':=i) W (b.block B au))⟩ λ_=>?_
     clear j;refine G ?_;iterate 9 refine wD ?_
     refine jR ?_;have S:jk (jl W3 W3 i):=O (aa.trans (qu (w:=K) ⟨b.os,b.tape,b.output,b.size,b.block⟩ aa.size));clear b u D
     go_wp2_with fail
     refine⟨⟨k+1,by go_num,by omega,O (El HG (B4 X Y Y a1 a3 a4)),S⟩,by simp only[jv];omega⟩
    have R:(dZ U a).getD jp=jp:=by unfold dZ;rw[jI F];rfl
    rw[R]at D u;have s:jk (df t=210):=O<|nU HU.out (by rw[<-r];exact V) (.inr (.inr (.inr (.inr (by rw[X];exact F)))));clear R F;refine jT ?_;refine lK (λw'=>w'.cell? ⟨w,0,A⟩=ja (jb (ja ⟨g,o,A⟩) n c)/\w'.cell? ⟨g,o+m*2,A⟩=ja (I N a2)/\w'.cell? ⟨wr,0,A⟩=ja (I N a)/\w'.cell? ⟨wr,1,A⟩=ja (I N q)/\(Instr.lookup 203 (.map (ja B)) (I N a) jp).run jm w'=.ok (.bool jp) w') 100 [(0,jf),(1,jf),(2,jf),(3,jf),(4,jf),(5,jf),(6,jf),(7,jf),(8,jf),(9,jf),(10,jf),(11,jf),(12,jf),(13,jf),(14,jf),(15,jf),(16,jf),(17,jf),(18,jf),(19,jf),(20,jf),(21,jf),(22,jf),(23,jf),(24,jf),(25,jf),(26,jf),(27,jp),(28,jf),(29,jf),(30,jf),(31,jf),(32,jf),(33,jf),(34,jf),(35,jf),(36,jf)]
     af af af rfl (λ_ _ _ _ h=>h) ⟨d,c3,y,z,D⟩ ?_
    iterate 27 refine wD ?_
    refine dp T (λK' j=>?_);go_simp;refine(P _).mono ?_;rintro e i ⟨rfl,b⟩;refine j _ _ ⟨cJ d (b.block _ (eN d)),cJ c3 (b.block _ (eN c3)),cJ y (b.block _ x),cJ z (b.block _ x),u i (aZ.of_block (w':=i) W (b.block B au))⟩ λ_=>?_
    clear j;refine G ?_;iterate 9 refine wD ?_
    refine jR ?_;have S:jk (jl w w i):=O (H.trans (qu (w:=K) ⟨b.os,b.tape,b.output,b.size,b.block⟩ H.size));clear b u D
    go_wp2_with fail
    go_ret;exact⟨nE s,S⟩
   have Q:cU q=40:=k8 C;rw[Q]at P;have s:jk (df t=210):=O<|nU HU.out (by rw[<-r];exact V) (.inr (.inr (.inr (.inl (by rw[X];exact C)))));clear Q C;refine jT ?_;refine lK (λw'=>w'.cell? ⟨w,0,A⟩=ja (jb (ja ⟨g,o,A⟩) n c)/\w'.cell? ⟨g,o+m*2,A⟩=ja (I N a2)/\w'.cell? ⟨wr,0,A⟩=ja (I N a)/\w'.cell? ⟨wr,1,A⟩=ja (I N q)) 100 [(0,jf),(1,jf),(2,jf),(3,jf),(4,jf),(5,jf),(6,jf),(7,jf),(8,jf),(9,jf),(10,jf),(11,jf),(12,jf),(13,jf),(14,jf),(15,jf),(16,jf),(17,jf),(18,jf),(19,jf),(20,jf),(21,jf),(22,jf),(23,jf),(24,jf),(25,jf),(26,jf),(27,jp),(28,jf),(29,jf),(30,jf),(31,jf),(32,jf),(33,jf),(34,jf),(35,jf),(36,jf)]
    af af af rfl (λ_ _ _ _ h=>h) ⟨d,c3,y,z⟩ ?_
   iterate 27 refine mp ?_
   refine dp T (λK' j=>?_);go_simp;refine(P _).mono ?_;rintro e i ⟨rfl,b⟩;refine j _ _ ⟨cJ d (b.block _ (eN d)),cJ c3 (b.block _ (eN c3)),cJ y (b.block _ x),cJ z (b.block _ x)⟩ λ_=>?_
   clear j;refine G ?_;iterate 3 refine mp ?_
   iterate 5 refine sQ ?_
   refine mp ?_;refine jR ?_;have S:jk (jl w w i):=O (H.trans (qu (w:=K) ⟨b.os,b.tape,b.output,b.size,b.block⟩ H.size));clear b
   go_wp2_with fail
   go_ret;exact⟨nE s,S⟩
  have hd3:=aw (0<(k:jd));have bg:=aw (0<k);have au:B<K.heap.size:=by have:=WP.size;omega
  have P:=O (gD q);have a1:jk (¬(0<k/\a<=(t.getD (k-1) (0,0)).1)):=O (λh=>h3 h.1);clear h3
  by_cases C:bL q
  ·have Q:cU q=0:=gF C
   rw[Q]at P;have a3:=O C;clear Q C;have u:∀w',aZ (il nv) 3 w' B (k'*10) (dZ U)->(Instr.lookup 203 (.map (ja B)) (I N a) jp).run jm w'=.ok (.bool ((dZ U a).getD jp)) w':=λw' h=>h.look jQ qY (Bj w') WY jp
   have D:=u K.drew (aZ.of_block (w':=K.drew) W T)
   by_cases F:a∈U
   ·have R:(dZ U a).getD jp=jf:=by unfold dZ;rw[jB F];rfl
    rw[R]at D u;have a4:=O F;clear R F;refine jT ?_;refine lK (λw'=>w'.cell? ⟨w,0,A⟩=ja (jb (ja ⟨g,o,A⟩) n c)/\w'.cell? ⟨wr,0,A⟩=ja (I N a)/\w'.cell? ⟨wr,1,A⟩=ja (I N q)/\(Instr.lookup 203 (.map (ja B)) (I N a) jp).run jm w'=.ok (.bool jf) w') 100 [(0,jf),(1,jf),(2,jf),(3,jf),(4,jf),(5,jf),(6,jf),(7,jf),(8,jf),(9,jf),(10,jf),(11,jf),(12,jf),(13,jf),(14,jf),(15,jf),(16,jf),(17,jf),(18,jf),(19,jf),(20,jf),(21,jf),(22,jf),(23,jf),(24,jf),(25,jf),(26,jf),(27,jp),(28,jf),(29,jf),(30,jf),(31,jf),(32,jf),(33,jf),(34,jf),(35,jf),(36,jf)]
     af af af rfl (λ_ _ _ _ h=>h) ⟨d,y,z,D⟩ ?_
    iterate 12 refine mp ?_
    iterate 10 refine sQ ?_
    iterate 5 refine mp ?_
    refine dp T (λK' j=>?_);go_simp;refine(P _).mono ?_;rintro e i ⟨rfl,b⟩;refine j _ _ ⟨cJ d (b.block _ (eN d)),cJ y (b.block _ x),cJ z (b.block _ x),u i (aZ.of_block (w':=i) W (b.block B au))⟩ λ_=>?_
    clear j;refine G ?_;iterate 9 refine mp ?_
    refine jR ?_;have S:jk (jl W3 W3 i):=O (aa.trans (qu (w:=K) ⟨b.os,b.tape,b.output,b.size,b.block⟩ aa.size));clear b u D
    go_wp2_with fail
    refine⟨⟨k+1,by go_num,by omega,O (El HG (B4 X Y Y a1 a3 a4)),S⟩,by simp only[jv];omega⟩
   have R:(dZ U a).getD jp=jp:=by unfold dZ;rw[jI F];rfl
   rw[R]at D u;have s:jk (df t=210):=O<|nU HU.out (by rw[<-r];exact V) (.inr (.inr (.inr (.inr (by rw[X];exact F)))));clear R F;refine jT ?_;refine lK (λw'=>w'.cell? ⟨w,0,A⟩=ja (jb (ja ⟨g,o,A⟩) n c)/\w'.cell? ⟨wr,0,A⟩=ja (I N a)/\w'.cell? ⟨wr,1,A⟩=ja (I N q)/\(Instr.lookup 203 (.map (ja B)) (I N a) jp).run jm w'=.ok (.bool jp) w') 100 [(0,jf),(1,jf),(2,jf),(3,jf),(4,jf),(5,jf),(6,jf),(7,jf),(8,jf),(9,jf),(10,jf),(11,jf),(12,jf),(13,jf),(14,jf),(15,jf),(16,jf),(17,jf),(18,jf),(19,jf),(20,jf),(21,jf),(22,jf),(23,jf),(24,jf),(25,jf),(26,jf),(27,jp),(28,jf),(29,jf),(30,jf),(31,jf),(32,jf),(33,jf),(34,jf),(35,jf),(36,jf)]
    af af af rfl (λ_ _ _ _ h=>h) ⟨d,y,z,D⟩ ?_
   iterate 12 refine mp ?_
   iterate 10 refine sQ ?_
   iterate 5 refine mp ?_
   refine dp T (λK' j=>?_);go_simp;refine(P _).mono ?_;rintro e i ⟨rfl,b⟩;refine j _ _ ⟨cJ d (b.block _ (eN d)),cJ y (b.block _ x),cJ z (b.block _ x),u i (aZ.of_block (w':=i) W (b.block B au))⟩ λ_=>?_
   clear j;refine G ?_;iterate 9 refine mp ?_
   refine jR ?_;have S:jk (jl w w i):=O (H.trans (qu (w:=K) ⟨b.os,b.tape,b.output,b.size,b.block⟩ H.size));clear b u D
   go_wp2_with fail
   go_ret;exact⟨nE s,S⟩
  have Q:cU q=40:=k8 C;rw[Q]at P;have s:jk (df t=210):=O<|nU HU.out (by rw[<-r];exact V) (.inr (.inr (.inr (.inl (by rw[X];exact C)))));clear Q C;refine jT ?_;refine lK (λw'=>w'.cell? ⟨w,0,A⟩=ja (jb (ja ⟨g,o,A⟩) n c)/\w'.cell? ⟨wr,0,A⟩=ja (I N a)/\w'.cell? ⟨wr,1,A⟩=ja (I N q)) 100 [(0,jf),(1,jf),(2,jf),(3,jf),(4,jf),(5,jf),(6,jf),(7,jf),(8,jf),(9,jf),(10,jf),(11,jf),(12,jf),(13,jf),(14,jf),(15,jf),(16,jf),(17,jf),(18,jf),(19,jf),(20,jf),(21,jf),(22,jf),(23,jf),(24,jf),(25,jf),(26,jf),(27,jp),(28,jf),(29,jf),(30,jf),(31,jf),(32,jf),(33,jf),(34,jf),(35,jf),(36,jf)]
   af af af rfl (λ_ _ _ _ h=>h) ⟨d,y,z⟩ ?_
  iterate 12 refine vO ?_
  iterate 10 refine sQ ?_
  iterate 5 refine vO ?_
  refine dp T (λK' j=>?_);go_simp;refine(P _).mono ?_;rintro e i ⟨rfl,b⟩;refine j _ _ ⟨cJ d (b.block _ (eN d)),cJ y (b.block _ x),cJ z (b.block _ x)⟩ λ_=>?_
  clear j;refine G ?_;iterate 3 refine vO ?_
  iterate 5 refine sQ ?_
  refine vO ?_;refine jR ?_;have S:jk (jl w w i):=O (H.trans (qu (w:=K) ⟨b.os,b.tape,b.output,b.size,b.block⟩ H.size));clear b
  go_wp2_with fail
  go_ret;exact⟨nE s,S⟩
 have hd:=aw ((k:jd)<(n:jd));have UN:=aw (k<n);obtain rfl:k=n:=Y;have s:jk (df t=0):=O<|B5 HU.out (by rw[<-r];exact HG)
 go_wp2_with fail
 go_ret;exact⟨nE s,HB.trans (WP.mono HB.size)⟩
def hgt(n:je):je:=9-n.log2
theorem vR{n:je}(g:1<=n)(i:n<1024):512<=n*2^hgt n/\n*2^hgt n<1024:=by
 have a:2^n.log2<=n:=Nat.log2_self_le Y;have b:n<2^(n.log2+1):=Nat.lt_log2_self;have c:n.log2<=9:=by
  rcases qF 9 n.log2 with h|h
  ·have:=q9 (n:=2) Y (show 10<=n.log2 from h)
   omega
  exact h
 unfold hgt;obtain⟨l,d⟩:=J n.log2;rw[<-d]at a b c⊢;have e:2^l*2^(9-l)=512:=by rw[<-Nat.pow_add,Nat.add_sub_cancel' c]
 have f:2^(l+1)*2^(9-l)=1024:=by rw[<-Nat.pow_add,show l+1+(9-l)=10 by omega]
 refine⟨?_,?_⟩
 ·rw[<-e];exact r4 _ a
 rw[<-f];exact Nat.mul_lt_mul_of_pos_right b (Nat.two_pow_pos _)
theorem S9(a:1<=B)(b:B*2^m<1024):2^m<=1000000:=by
 have:1*2^m<=B*2^m:=r4 _ a;omega
noncomputable def lS(t:jh (jd×jd))(x:jd):jd:=if df t=0 then(if x<1\/1023<x then 200 else 0)else df t
noncomputable def fb(t:jh (jd×jd))(x:jd):jh jd:=if lS t x=0 then di (bG t) (hgt x.toNat) x.toNat else []
theorem uL{a:je}{size:je}{v:ji}{n:je}(h:w.ownsRow B e size v n xs)(b:a<=B):w.ownsRow a e size v n xs:=by
 refine⟨h.1,?_⟩
 rcases h.2 with c|⟨g,d,f,i,j,k⟩
 ·exact .inl c
 exact .inr ⟨g,d,f,i,jz b j,k⟩
theorem uo(h:x=y):Ending.returned (jw #[d,I N y])=jo (jw #[d,I N x]):=by rw[h]
theorem NJ(t:jh (jd×jd))(v:ji)(x:jd)(w:jg)(c:bJ w v t)(f:t.length<=1000000):
 jr jm 131 #[jq #[v],I N x] w λe w'=>∃j,e=jo (jw #[j,I N (lS t x)])/\w'.ownsRow w 3 1 j (fb t x).length ((fb t x).map (jE .i64))/\jl w w w':=by
 have a:jl w w (w.alloc (jc #[v] 27)):=(jy _ w).alloc (jn _) _;have g:=O (ya t v (w.alloc (jc #[v] 27)) (c.below a) f);have h:=O (c.below a);have C:=O f;obtain⟨s,b⟩:=J (w.alloc (jc #[v] 27));have o:s.cell? ⟨w,0,A⟩=ja v:=by rw[b];unfold j5;rw[js];rfl
 have q:s.heap.size=w.heap.size+1:=by rw[b];simp
 obtain⟨E,k⟩:=J (lS t x);obtain⟨V,m⟩:=J (fb t x);have d:=O k;have l:=O m;rw[<-k,<-m];obtain⟨p,n⟩:=J (df t);have i:=O n;rw[<-b,<-n]at g;rw[<-b]at h a;clear c f k m n
 go_enter func131,ntmps131
 go_wp2_with fail
 rw[<-b];clear b;refine g.mono ?_;rintro e D ⟨rfl,b⟩;have W:=cJ o (b.block _ (by show w.heap.size<_;omega));have m:=O (a.trans (b.mono a.size));have F:=O (h.below b);clear b a g h o q
 by_cases q:p=0
 ·subst q
  by_cases H:x<1
  ·have K:=az (x<1)
   have c:jk (E=200):=O (by rw[d];unfold lS;rw[jB i.symm,jB (.inl H)]);have f:jk (V=[]):=O (by rw[l];unfold fb;rw[jI (by rw[<-d,c];decide)])
   go_wp2_with fail
   go_ret2;exact⟨jb A 0 0,uo c,by rw[f];exact j0 _ _ _ _,m⟩
  have K:=aw (x<1)
  by_cases M:1023<x
  ·have hd2:=az (1023<x)
   have c:jk (E=200):=O (by rw[d];unfold lS;rw[jB i.symm,jB (.inr M)]);have f:jk (V=[]):=O (by rw[l];unfold fb;rw[jI (by rw[<-d,c];decide)])
   go_wp2_with fail
   go_ret2;exact⟨jb A 0 0,uo c,by rw[f];exact j0 _ _ _ _,m⟩
  have hd2:=aw (1023<x);have c:jk (E=0):=O (by rw[d];unfold lS;rw[jB i.symm,jI Y]);have f:jk (V=di (bG t) (hgt x.toNat) x.toNat):=O (by rw[l];unfold fb;rw[jB (by rw[<-d,c])]);obtain⟨n,a⟩:=J x.toNat;have P:jk (x=(n:jd)):=O Y;have g:jk (1<=n/\n<1024):=O Y;rw[<-a]at f;clear a
  go_wp2_with fail
  refine(zi t v D F C).mono ?_;rintro e a ⟨b,rfl,r,h,k⟩;have Q:=O h;have o:=aj m k;have R:b<a.heap.size:=h.lt;clear r h k
  go_wp2_with fail
  refine(zE (ja b) x a).mono ?_;rintro e S ⟨rfl,rfl⟩;have u:a.heap.size+2=((a.alloc (jc #[.map (ja b)] 160)).alloc (jc #[I N x] 3)).heap.size:=by simp
  have y:=O ((o.alloc o.size (jc #[.map (ja b)] 160)).alloc (by have:=o.size;simp;omega) (jc #[I N x] 3));have k:jt ((a.alloc (jc #[.map (ja b)] 160)).alloc (jc #[I N x] 3)) a.heap.size 160 (.map (ja b)):=(jF _ _ _ ao).trans (js a _);have z:jt ((a.alloc (jc #[.map (ja b)] 160)).alloc (jc #[I N x] 3)) (a.heap.size+1) 3 (I N (n:jd)):=by
   have h:=js (a.alloc (jc #[.map (ja b)] 160)) (jc #[I N x] 3);rw[jC]at h;rw[<-P];exact h
  have r:=O (AU (bG t) b t.length (hgt n) n (vR g.1 g.2).1 (vR g.1 g.2).2 a.heap.size (a.heap.size+1) a.heap.size _ ((Q.alloc _).alloc _) R k z (by rw[<-u];omega));obtain⟨S,B⟩:=J ((a.alloc (jc #[.map (ja b)] 160)).alloc (jc #[I N x] 3));rw[<-B]at r y u⊢;clear k z B;have z:=O (S9 g.1 (vR g.1 g.2).2);have X:w.heap.size<=a.heap.size:=o.size;have B:=O (DU (λ_ _=>rfl) r Y (by rintro k (rfl|rfl)<;>omega) (λys h=>jz (jz h.length_le (tc _ _ _)) z) w.heap.size Y (by rintro k (rfl|rfl)<;>omega));clear r
  go_wp2_with fail
  refine B.mono ?_;rintro e w4 ⟨j,xs,rfl,rfl,h,k⟩;have r:=O h;have U:=O (y.trans k);clear h k
  go_wp2_with fail
  go_ret2;refine⟨j,uo c,?_,U⟩;rw[f];exact uL r Y
 have a:=aw (p=0);have c:jk (E=p):=O (by rw[d];unfold lS;rw[jI (by rw[<-i];exact q)];exact i.symm);have f:jk (V=[]):=O (by rw[l];unfold fb;rw[jI (by rw[<-d,c];exact q)])
 go_wp2_with fail
 go_ret2;exact⟨jb A 0 0,uo c,by rw[f];exact j0 _ _ _ _,m⟩
theorem Gl(b n:je)(f:jd->jS jd)(z:jd)(a:aO z)(w:jg)(h:aZ (dO jQ) 3 w b n f):
 jr jm 139 #[.map (ja b),I N z] w λe w'=>e=jo (jw #[])/\aZ (dO jQ) 3 w' b n (λy=>if y=z then A else f y)/\w.mapTurned w' b:=by
 have c:=O h;have d:=O a;clear h a
 go_enter func139,ntmps139
 go_wp2_with (refine JE (E:=dO jQ) T _ _ 160 T jQ qx b n f T c z T d ?_;intro h a g)
 go_end0
 exact⟨T,a,g⟩
def gL(f:jd->jS jd)(a:jh jd)(y:jd):jS jd:=if y∈a then A else f y
theorem NN(f:jd->jS jd)(a:jh jd)(z:jd):(λy=>if y=z then A else gL f a y)=gL f (a++[z]):=by
 funext y
 unfold gL
 by_cases h:y=z
 ·simp[h]
 simp[h]
noncomputable def dF(t:jh (jd×jd))(d:jd)(a:Bool):jd:=
 if df t=0 then(if d<0\/512<=d\/(a=jf/\bG t (512+d)=A)then 200 else 0)else df t
theorem vv{v:ji}(h:x=y):Ending.returned (jw #[d,v,I N y])=jo (jw #[d,v,I N x]):=by rw[h]
def po(t:jh (jd×jd))(d:jd)(w:jg)(E:jd)(e:Ending)(w':jg):Prop:=
 jl w w w'/\(E≠0->e=jo (jw #[.map A,jb A 0 0,I N E]))/\
 (E=0->∃b p c,e=jo (jw #[.map (ja b),jb p 9 c,I N 0])/\w.heap.size<=b/\aZ (dO jQ) 3 w' b t.length (gL (bG t) ((512+d)::bW d))/\w'.ownsRow w 3 1 (jb p 9 c) 9 ((bW d).map (jE .i64)))
theorem po.bad{e:Ending}(w':jl w w a)(b:y≠0)(h:e=jo (jw #[.map A,jb A 0 0,I N y])):po t x w y e a:=
 ⟨w',λ_=>h,λc=>jG c b⟩
theorem An(t:jh (jd×jd))(v:ji)(d:jd)(g:Bool)(w:jg)(f:bJ w v t)(h:t.length<=1000000)(r:aO d):
 jr jm 89 #[jq #[v],I N d,.bool g] w λe w'=>po t d w (dF t d g) e w':=by
 have a:jl w w (w.alloc (jc #[v] 27)):=(jy _ w).alloc (jn _) _;have i:=O (ya t v (w.alloc (jc #[v] 27)) (f.below a) h);have j:=O (f.below a);have HL:=O h;obtain⟨K,b⟩:=J (w.alloc (jc #[v] 27));have p:K.cell? ⟨w,0,A⟩=ja v:=by rw[b];unfold j5;rw[js];rfl
 have y:K.heap.size=w.heap.size+1:=by rw[b];simp
 obtain⟨E,k⟩:=J (dF t d g);have n:=O k;rw[<-k];obtain⟨s,o⟩:=J (df t);have m:=O o;rw[<-b,<-o]at i;rw[<-b]at j a;obtain⟨z,c⟩:=J (qT.wrap (512+d));have M:jk (aO z):=O (aO.of (x:=z) (by rw[c,qG];omega));have Zf:jk (0<=d->d<512->z=512+d):=O (λq P=>by rw[c,qG];omega);have Q:=c.symm;clear f h k o r c
 go_enter func89,ntmps89
 go_wp2_with fail
 rw[<-b];clear b;refine i.mono ?_;rintro e w1 ⟨rfl,b⟩;have bf:=cJ p (b.block _ (by show w.heap.size<_;omega));have u:=O (a.trans (b.mono a.size));have Vp:=O (j.below b);clear b a i j p y
 by_cases q:s=0
 ·subst q
  go_wp2_with fail
  refine(zi t v w1 Vp HL).mono ?_;rintro e o ⟨b,rfl,c,a,f⟩;have y:=O a;have i:=aj u f;have ax:b<o.heap.size:=a.lt;have r:jk (w.heap.size<=b):=O (jz u.size c);clear c a f
  go_upto_region 6 with(at_lookup;refine vJ (he:=jQ) T _ _ 160 T jQ qx (pN _) b t.length _ T y z (by first|rfl|(simp only[Q])) M ?_)
  obtain⟨B,a⟩:=J ((bG t z).isSome);obtain⟨gv,c⟩:=J ((bG t z).getD 0);rw[<-a,<-c];have R:=O a;clear a c Q
  by_cases P:d<0
  ·have ay:=az (d<0)
   have a:jk (E=200):=O (by rw[n];unfold dF;rw[jB m.symm,jB (.inl P)])
   go_wp2_with fail
   go_ret3
   exact po.bad i.out (by rw[a];decide) (vv a)
  have ay:=aw (d<0)
  by_cases h2:512<=d
  ·have hd2:=az (512<=d)
   have a:jk (E=200):=O (by rw[n];unfold dF;rw[jB m.symm,jB (.inr (.inl h2))])
   go_wp2_with fail
   go_ret3
   exact po.bad i.out (by rw[a];decide) (vv a)
  have hd2:=aw (512<=d);have a1:=Zf Y Y;subst a1
  by_cases c:g=jf/\B=jp
  ·obtain⟨rfl,rfl⟩:=c
   have p:bG t (512+d)=A:=by
    have:=R.out
    cases h:bG t (512+d)with
    |none=>rfl
    |some x=>rw[h]at this;cases this
   have a:jk (E=200):=O (by
    rw[n];unfold dF;rw[jB m.symm,jB (.inr (.inr ⟨T,p⟩))])
   clear p
   go_wp2_with fail
   go_ret3
   exact po.bad i.out (by rw[a];decide) (vv a)
  have a:jk (E=0):=O (by
   rw[n];unfold dF;rw[jB m.symm,jI];rintro(h|h|⟨h,f⟩)
   ·omega
   ·omega
   exact c ⟨h,by rw[R,f];rfl⟩)
  have a2:g=jp\/(g=jf/\B=jf):=by cases g<;>cases B<;>simp_all
  have HI:=M;have a3:=O (Cu d Y Y o);have C:=O (tW d Y Y);have a4:=O (Ah d Y Y);have WH:qT.wrap (512+d)=512+d:=by rw[qG];omega
  clear c
  rcases a2 with rfl|⟨rfl,rfl⟩
  all_goals
   go_upto_region 8 with fail
   go_wp2_with fail
   refine a3.mono ?_;rintro e w3 ⟨pv,rfl,j,f⟩;have D:=O j;obtain⟨pp,F,rfl,a5,k⟩:=pM j;rw[C]at a5 k D⊢;obtain⟨c,rfl,bg,a6,S⟩:=k Y;have U:=O (y.below f ax);have H:=aj i f;have V:=O S;have Ws:=f.size;clear j f k S
   go_wp2_with fail
   refine(Gl b t.length _ (512+d) HI w3 U).mono ?_;rintro e f ⟨rfl,S,k⟩;have ba:jk (aZ (dO jQ) 3 f b t.length (gL (bG t) ([512+d]++(bW d).take 0))):=O (S.congr (λx _=>by simp[gL]));have bh:=k.grown.size;have UB:jk (jl w w f):=O (H.grown k.grown (cV H.size) (λj e=>by cases e;exact r));have Yk:jk (∀j,j<9->f.cell? ⟨c,j,A⟩=ja (I N ((bW d).getD j 0))):=O λj W=>cJ (V j W) (k.grown.block c a6 (by simp;omega))
   have YH:jk (f.ownsRow o 3 1 (jb (ja ⟨c,0,A⟩) 9 F) 9 ((bW d).map (jE .i64))):=O (D.kept k.grown (.inr (by simp[qd];omega)));have bi:c<f.heap.size:=Y;clear S k y U i H V D
   go_wp2_with fail
   go_loopw [55] (λi wr=>∃j:je,i=I N j/\j<=9/\jk (aZ (dO jQ) 3 wr b t.length (gL (bG t) ([512+d]++(bW d).take j)))/\jk (jl w w wr)/\jk (wr.ownsRow o 3 1 (jb (ja ⟨c,0,A⟩) 9 F) 9 ((bW d).map (jE .i64)))/\jk (∀k,k<f.heap.size->k≠b->wr.heap[k]?=f.heap[k]?)/\f.heap.size<=wr.heap.size) (λi _=>9-(jv i).toNat)
   case atStart=>exact⟨0,T,jJ _,ba,UB,YH,O (λ_ _ _=>rfl),jn _⟩
   obtain⟨j,rfl,W,S,D,U,V,bk⟩:=hrel
   by_cases X:j<9
   ·have bb:=az ((j:jd)<9)
    have cy:wr.cell? ⟨c,j,A⟩=ja (I N ((bW d).getD j 0)):=cJ (Yk j X) (V c Y Y);have i:j<(bW d).length:=by rw[C];exact X
    have H:(bW d).getD j 0=(bW d)[j]:=by simp[jO,i]
    have aa:=O (o1 i);have ad:=O (a4 _ (qE i));rw[H]at cy;obtain⟨y,hy⟩:=J ((bW d)[j]);rw[<-hy]at cy aa ad;have bc:jk (aO y):=O (aO.of (x:=y) (aI ad));have bl:c<wr.heap.size:=Y;clear i H hy
    go_wp2_with fail
    refine(Gl b t.length _ y bc wr S).mono ?_;rintro e w5 ⟨rfl,au,i⟩;have bd:=O au;have H:=O i;have bm:=i.grown.size;clear au i
    go_wp2_with fail
    refine⟨⟨j+1,by go_num,by omega,O ?_,O (D.grown H.grown (cV D.size) (λj e=>by cases e;exact r)),O (U.kept H.grown (.inr (by simp[qd];omega))),O λk i p=>(H.grown.block k Y (ak p)).trans (V k i p),by omega⟩,by simp only[jv];omega⟩;have h:=bd.out;rw[NN]at h;rw[aa,<-j6];exact h
   have bb:=aw ((j:jd)<9);obtain rfl:j=9:=Y;have i:jk (aZ (dO jQ) 3 wr b t.length (gL (bG t) ((512+d)::bW d))):=O (by
    have h:=S.out;rw[nn (l:=bW d) (by rw[C];exact jn _)]at h;exact h)
   have k:w.heap.size<=o.heap.size:=jz r Y
   go_wp2_with fail
   go_ret3
   exact⟨D,λh=>jG a h,λ_=>⟨b,_,F,T,r,i,uL U k⟩⟩
 have b:=aw (s=0);have a:jk (E=s):=O (by rw[n];unfold dF;rw[jI (by rw[<-m];exact q)];exact m.symm)
 go_wp2_with fail
 go_ret3
 exact po.bad u.out (by rw[a];exact q) (vv a)
theorem Pj:(jm.info? 194).map (λi=>(i.zero,i.size,i.bytes))=ja (ja (jq #[I N 0,I N 0]),2,16):=by kernel_rfl
theorem FO(w:jg)(l:jh ji)(t:jH):∀j a,l[j]?=ja a->(w.alloc (jc l.toArray t)).cell? ((⟨w,0,A⟩:jM).add j)=ja a:=by
 intro j a b;have c:(⟨w,0,A⟩:jM).add j=⟨w,j,A⟩:=by unfold Addr.add;split<;>simp_all
 rw[c];have d:=js w (jc l.toArray t);simp only[j5,d]
 simpa using b
def dH(f:jd->jS jd)(a:jh jd):jh (jd×jd):=a.map λx=>(x,(f x).getD 0)
def kq(t:jh (jd×jd)):jh ji:=t.flatMap λx=>[I N x.1,I N x.2]
theorem Sf(t:jh (jd×jd)):∀j,j<t.length->(kq t)[j*2]?=ja (I N (t.getD j (0,0)).1)/\(kq t)[j*2+1]?=ja (I N (t.getD j (0,0)).2):=by
 induction t with
 |nil=>intro j b;simp at b
 |cons a t c=>
  intro j b;have e:kq (a::t)=I N a.1::I N a.2::kq t:=T
  rcases j with _|j
  ·rw[e];exact⟨T,T⟩
  obtain⟨p,q⟩:=c j (ak b);rw[e,show(j+1)*2=j*2+1+1 by omega];exact⟨p,q⟩
def Fr(n:je)(v:ji):Prop:=∀p k c,v=jb p k c->∀a,p=ja a->n<=a.block
theorem Fr.of_own{sz:je}{v:ji}{n:je}(h:w.ownsRow B e sz v n xs):Fr B v:=by
 rintro p k c rfl a rfl
 rcases h.2 with⟨e,-⟩|⟨g,f,i,e,d,-⟩
 ·cases e
 injection e with b
 injection b with b
 subst b;exact d
theorem Fr.mono{n:je}{v:ji}(h:Fr n v)(b:m<=n):Fr m v:=λp k c e a d=>jz b (h p k c e a d)
theorem Fr.nil(n:je):Fr n (jb A 0 0):=by
 rintro p k c e a rfl
 cases e
theorem zI{v:ji}(h:w.ownsRow B 194 2 v t.length (kq t))(b:∀x∈t,aO x.1/\aO x.2):bJ w v t:=by
 rcases h.2 with⟨rfl,c⟩|⟨g,f,r,rfl,s,k,l,u,x,m⟩
 ·exact⟨A,0,by rw[c],by omega,λ_=>c,λh=>by omega,b⟩
 refine⟨_,f,T,l,(λh=>by cases h),λy=>⟨g,0,T,λj n=>?_⟩,b⟩;obtain⟨p,q⟩:=Sf t j n;have e:∀i a,i<t.length*2->(kq t)[i]?=ja a->w.cell? ⟨g,i,A⟩=ja a:=λi a o d=>by
  rw[<-m,rv o]at d;unfold j5;rw[k];simp only[xf,xg,if_false];rw[<-xh,d]
 rw[mb];exact⟨e _ _ Y p,e _ _ Y q⟩
theorem va(h:w.ownsRow B 194 2 d m b):∃p c,d=jb p m c:=by
 rcases h.2 with⟨rfl,a⟩|⟨g,xs,v,rfl,e,f,i,j,k,l⟩
 ·exact⟨A,0,by rw[a]⟩
 exact⟨_,xs,T⟩
theorem BB(b n:je)(f:jd->jS jd)(w:jg)(c:aZ (dO jQ) 3 w b n f)(d:n<=1000000)(g:∀xs,lf f xs->xs.length<=1000000)(h:∀x v,aO x->f x=ja v->aO v):
 jr jm 92 #[.map (ja b)] w λe w'=>∃v xs,e=jo (jq #[v])/\lf f xs/\(w'.ownsRow w 194 2 v (dH f (xs.mergeSort leI)).length (kq (dH f (xs.mergeSort leI)))/\∀x∈dH f (xs.mergeSort leI),aO x.1/\aO x.2)/\jl w w w':=by
 obtain⟨W,X,UL,aa,ad⟩:=qi Pj;have HM:=O c;have HN:=O d;have M:=O g;have HV:=O h;have bb:b<w.heap.size:=c.lt;clear c d g h
 go_enter func92,ntmps92
 go_wp2_with fail
 have h:jt (w.alloc (jc #[jb A 0 0] 27)) w.heap.size 27 (jb A 0 0):=js w _;have d:jl w w (w.alloc (jc #[jb A 0 0] 27)):=(jy _ w).alloc (jn _) _;have i:=HM.alloc (jc #[jb A 0 0] 27);have au:w.heap.size<(w.alloc (jc #[jb A 0 0] 27)).heap.size:=by simp
 obtain⟨l,c⟩:=J (w.alloc (jc #[jb A 0 0] 27));rw[<-c]at h d i au⊢;clear c;refine(EV (ja b) l).mono ?_;rintro e w1 ⟨rfl,rfl⟩;have ax:l.heap.size<(l.alloc (jc #[.map (ja b)] 160)).heap.size:=by simp
 have g:jt (l.alloc (jc #[.map (ja b)] 160)) l.heap.size 160 (.map (ja b)):=js l _;have j:jt (l.alloc (jc #[.map (ja b)] 160)) w.heap.size 27 (jb A 0 0):=(jF _ _ _ Y).trans h;have c:=i.alloc (jc #[.map (ja b)] 160);have k:=d.alloc d.size (jc #[.map (ja b)] 160);obtain⟨D,m⟩:=J (l.alloc (jc #[.map (ja b)] 160));rw[<-m]at ax g j c k⊢;clear m h i d;have m:=O (Fz (λ_ _=>rfl) (NX b n l.heap.size D.heap.size f D c g c.lt g.lt) (jn _) (λ_ h=>h.elim) (λys h=>jz h HN) M D.heap.size (jn _) (λ_ h=>h.elim));have q:=O c;have r:=O k;have u:=O j;clear c k j g
 go_wp2_with fail
 refine m.mono ?_;rintro e o ⟨bc,xs,rfl,g,i,d⟩;have j:(xs.mergeSort leI).length=xs.length:=xe _;have t:jk (∀x∈xs.mergeSort leI,aO x):=O (λx p=>(g.2.1 x ((uS xs x).1 p)).1);have s:=O (M xs g);have Yz:=O g;obtain⟨c,k⟩:=J (xs.mergeSort leI);rw[<-k]at i t j;rw[<-j]at i s;have VA:=O k;clear g k j m;obtain⟨pu,cu,rfl,ay,j⟩:=pM i;have a1:=O j;have VN:=O (q.below d (cV q.lt));have Ur:=O (r.trans (d.mono Y));have a2:jk (jt o w.heap.size 27 (jb A 0 0)):=O ((d.block _ Y).trans u);have bd:=d.size;obtain⟨m,g⟩:=J c.length;rw[<-g]at ay s⊢;have E:=O g;clear i j d g q r u
 go_wp2_with fail
 go_loopw [9] (λi wr=>∃(k:je) (q:jS jM) (d:je),i=I N k/\k<=m/\jk (jt wr w.heap.size 27 (jb q k d))/\jk (wr.ownsRow o 194 2 (jb q k d) k (kq (dH f (c.take k))))/\jk (∀k,k<o.heap.size->k≠w.heap.size->wr.heap[k]?=o.heap[k]?)/\jk (jl w w wr)/\o.heap.size<=wr.heap.size) (λi _=>m-(jv i).toNat)
 case atStart=>exact⟨0,A,0,T,jJ _,a2,O (j0 _ _ _ _),O (λ_ _ _=>rfl),Ur,jn _⟩
 obtain⟨k,q,d,rfl,hk,i,P,F,r,bf⟩:=hrel
 by_cases a3:k<m
 ·have hd:=az ((k:jd)<(m:jd))
  have UN:=az (k<m);have bg:m<=1000000:=s.out;have j:k<c.length:=by rw[<-E];exact a3
  obtain⟨g,rfl,bh,Yj,B⟩:=a1 Y;have u:=B k j;have C:c.getD k 0=c[k]:=by simp[jO,j]
  have Q:=O (o1 j);have R:=O (t c[k] (qE j));rw[C]at u;obtain⟨x,p⟩:=J (c[k]);rw[<-p]at u Q R;have c1:wr.cell? ⟨g,k,A⟩=ja (I N x):=cJ u (F g Yj Y);have a4:=O (VN.of_block (F b Y Y));have Vk:g<wr.heap.size:=Y;have cb:=i.cell;have cf:=i.frozen;obtain⟨y,H⟩:=J ((f x).getD 0);have S:=O H;have z:=O (P.alloc (jc #[I N x,I N y] 194));have YA:=O (FO wr [I N x,I N y] 194);clear u C j B p H
  go_upto_region 4 with fail
  go_wp2_with (first
   |(at_lookup;refine NK (he:=jQ) T _ _ 160 T jQ qx (pN _) b n _ T a4 x T R ?_;rw[<-S])
   |(at_builtin;refine sB _ T _ _ 25 T o.heap.size 194 W (jq #[I N 0,I N 0]) 2 16 underlying25 X UL aa ad T L _ _ _ T z ⟨wr,0,A⟩ 1 1 [I N x,I N y] T T YA (by simp[j1]) (by have:=s.out;unfold j3;omega) (aI s) (by simp;omega) ?_;intro v' H K j _;have a5:=O K;have U:jk ((wr.alloc (jc #[I N x,I N y] 194)).grownBy H (jP q k d).ownBlock):=O j;obtain⟨u,B,rfl⟩:=va K;have a6:=j.size;have C:jt H w.heap.size 27 (jb q k d):=(j.block w.heap.size (by simp;omega) (λe=>by have:=(z.lt _ e.symm).1;omega)).trans ((jF _ _ _ Y).trans i);have V:=C.cell;have ba:=C.frozen;have YC:=O (Boxed.set (jb u (k+1) B) C);clear K j C))
  have ba:=O (qZ a5 (a:=⟨w,0,A⟩) (by show w.heap.size<o.heap.size;omega) (jb u (k+1) B));have C:=O (oj H w.heap.size (jb u (k+1) B));have bi:=C.size;rw[jC]at a6;have e1:kq (dH f (c.take (k+1)))=kq (dH f (c.take k))++[I N x,I N y]:=by rw[Q,S];simp[dH,kq]
  refine⟨⟨k+1,u,B,by go_num,by omega,YC,O (by rw[e1];exact ba),O (λj hj K=>?_),O ?_,by omega⟩,by simp only[jv];omega⟩
  ·refine(C.block j Y (ak K)).trans ((U.block j (by rw[jC];omega) (λe=>by have:=(z.lt _ e.symm).1;omega)).trans ((jF _ _ _ Y).trans (F j hj K)))
  exact((r.alloc r.size (jc #[I N x,I N y] 194)).grown U (by have:=r.size;rw[jC];omega) (λj e=>by have:=(z.lt _ e).1;omega)).grown C (cV r.size) (λj e=>by cases e;exact jn _)
 have hd:=aw ((k:jd)<(m:jd));have UN:=aw (k<m);obtain rfl:k=m:=Y;have cb:=i.cell;have cf:=i.frozen;have u:jk (wr.ownsRow o 194 2 (jb q k d) (dH f c).length (kq (dH f c))):=O (by
  have h:=P.out;rw[nn (by rw[<-E];exact jn _)]at h;have e:(dH f c).length=k:=by unfold dH;rw[jD,<-E]
  rw[e];exact h)
 have B:=O (oj wr w.heap.size (jb q k d));have C:w.heap.size<=wr.heap.size:=r.size
 go_wp2_with fail
 have V:=(Boxed.set (jb q k d) i).cell;refine jX (v:=jq #[jb q k d]) (by simp[results,results92,go_sem,V]) T ?_;refine⟨jb q k d,xs,T,Yz,?_,r.grown B C (λj e=>by cases e;exact jn _)⟩;rw[<-VA];refine⟨uL (qZ u (a:=⟨w,0,A⟩) (by show w.heap.size<o.heap.size;omega) _) Y,?_⟩;intro x p;obtain⟨z,g,rfl⟩:=qS.1 p;refine⟨t z g,?_⟩;show aO ((f z).getD 0)
 cases h:f z with
 |none=>exact aO.of ao
 |some y=>exact HV z y (t z g) h
theorem oL(h:bG t x=ja y):(x,y)∈t:=by
 unfold bG at h
 cases hf:t.find? (λv=>v.1==x)with
 |none=>rw[hf]at h;cases h
 |some v=>
  rw[hf]at h;have c:=List.find?_some hf;have d:=List.mem_of_find?_eq_some hf;obtain⟨a,b⟩:=v;simp at h c;subst h;subst c;exact d
def iR(t:jh (jd×jd))(d x:jd)(y:jd):jS jd:=if y=512+d then ja x else gL (bG t) ((512+d)::bW d) y
theorem rT{f:jd->jS jd}(h:gL f U x=ja y):f x=ja y/\x∉U:=by
 unfold gL at h
 split at h
 ·cases h
 exact⟨h,by assumption⟩
theorem Sa(h:lf (iR t x y) U):U.length<=t.length+1:=by
 have b:U⊆(512+x)::t.map (·.1):=by
  intro d c;obtain⟨-,a⟩:=h.2.1 d c
  by_cases e:d=512+x
  ·rw[e];exact List.mem_cons_self ..
  unfold iR at a;rw[jI e]at a;obtain⟨v,f⟩:=r5.1 a;exact List.mem_cons_of_mem _ (qS.2 ⟨_,oL (rT f).1,T⟩)
 have:=h.1.length_le_of_subset b
 simpa using this
theorem Pz(a:∀e∈t,aO e.1/\aO e.2)(b:aO y):∀d v,aO d->iR t x y d=ja v->aO v:=by
 intro d v _ h;unfold iR at h
 split at h
 ·cases h;exact b
 exact(a _ (oL (rT h).1)).2
theorem zg{m:Bool}(h:dF t x m=0):0<=x/\x<512:=by
 unfold dF at h
 split at h
 ·split at h
  ·exact jG h L
  omega
 rename_i a;exact jG h a
noncomputable def gK(t:jh (jd×jd))(d x:jd):jd:=if dF t d jp=0 then(if cU x=0 then 0 else 50)else dF t d jp
def KO(t:jh (jd×jd))(d x:jd)(w:jg)(E:jd)(e:Ending)(w':jg):Prop:=
 jl w w w'/\(E≠0->e=jo (jw #[jq #[jb A 0 0],I N E]))/\
 (E=0->∃v xs,e=jo (jw #[jq #[v],I N 0])/\lf (iR t d x) xs/\bJ w' v (dH (iR t d x) (xs.mergeSort leI)))
theorem TN(t:jh (jd×jd))(v:ji)(d x:jd)(w:jg)(b:bJ w v t)(g:t.length<=900000)(j:aO d)(l:aO x):
 jr jm 94 #[jq #[v],I N d,I N x] w λe w'=>KO t d x w (gK t d x) e w':=by
 have o:∀e∈t,aO e.1/\aO e.2:=by obtain⟨p,c,-,-,-,-,h⟩:=b;exact h
 have i:jl w w ((w.alloc (jc #[v] 27)).alloc (jc #[jb A 0 0] 27)):=((jy _ w).alloc (jn _) _).alloc ao _;have m:=O (An t v d jp ((w.alloc (jc #[v] 27)).alloc (jc #[jb A 0 0] 27)) (b.below i) Y j);have k:jt ((w.alloc (jc #[v] 27)).alloc (jc #[jb A 0 0] 27)) (w.heap.size+1) 27 (jb A 0 0):=by
  have h:=js (w.alloc (jc #[v] 27)) (jc #[jb A 0 0] 27);rw[jC]at h;exact h
 have ay:=O o;have R:=O l;have D:=O g;obtain⟨E,f⟩:=J (dF t d jp);have n:=O f;rw[<-f]at m;clear b g f o l j
 go_enter func94,ntmps94
 go_wp2_with fail
 obtain⟨W0,b⟩:=J ((w.alloc (jc #[v] 27)).alloc (jc #[jb A 0 0] 27));rw[<-b]at m k i⊢;clear b;refine m.mono ?_;rintro e r ⟨s,F,H⟩;have f:jt r (w.heap.size+1) 27 (jb A 0 0):=(s.block _ k.lt).trans k;have u:=O (i.trans (s.mono i.size));have S:=O f;have a3:w.heap.size+1<r.heap.size:=f.lt
 by_cases l:E=0
 ·obtain⟨b,p,c,rfl,g,o,-⟩:=H l
  have j:=O o;have a4:w.heap.size+1<b:=jN k.lt g;clear F H s i k f m o g;have a1:=zg (n.symm.trans l);have HZ:jk (aO (512+d)):=O (aO.of (x:=512+d) Y);have WH:qT.wrap (512+d)=512+d:=by rw[qG];omega
  subst l;obtain⟨d0,d1⟩:=a1
  go_wp2_with fail
  refine(gD x r).mono ?_;rintro e U ⟨rfl,g⟩;have VN:=O (j.below g j.lt);have y:jk (jt U (w.heap.size+1) 27 (jb A 0 0)):=O ((g.block _ S.lt).trans S);have a5:=g.size;have z:=aj u g;obtain⟨V,o⟩:=J (cU x);rw[<-o];have W:=O o;clear g o j u
  by_cases X:V=0
  ·subst X
   go_wp2_with (at_mapUpdate;refine oD (E:=dO jQ) T _ _ _ 160 T jQ qx b _ _ T VN (by have:=D.out;unfold j3;omega) (512+d) T HZ x T R ?_;intro C aa K;have Wx:=O aa;have ZU:=O K;have g:=K.grown.size;clear aa K)
   have Wj:jk (jt C (w.heap.size+1) 27 (jb A 0 0)):=O ((ZU.grown.block _ Y (by simp;omega)).trans y);have Uu:=O (z.grown ZU.grown (cV z.size) (λj e=>by cases e;omega));refine(BB b (t.length+1) (iR t d x) C Wx (aI D) (λxs h=>jz (Sa h) (aI D)) (Pz ay R)).mono ?_;rintro e w4 ⟨v',xs,rfl,ad,⟨M,au⟩,o⟩;obtain⟨q,P,rfl⟩:=va M;have Q:jk (jt w4 (w.heap.size+1) 27 (jb A 0 0)):=O ((o.block _ Y).trans Wj);have UB:=aj Uu o;have Yz:=O ad;have YB:=O M;have a2:=O au;have a6:=o.size;have cb:=Q.cell;have cf:=Q.frozen;have ax:gK t d x=0:=by unfold gK;rw[jB n.symm,jB W.symm]
   have g:=O ax;clear ad M au o ax
   go_wp2_with fail
   have M:=O (oj w4 (w.heap.size+1) (jb q (dH (iR t d x) (xs.mergeSort leI)).length P));have o:=(Boxed.set (jb q (dH (iR t d x) (xs.mergeSort leI)).length P) Q).cell;refine jX (v:=jw #[jq #[jb q (dH (iR t d x) (xs.mergeSort leI)).length P],I N 0]) (by simp[results,results94,go_sem,o]) T ?_;refine⟨UB.grown M (cV UB.size) (λj e=>by cases e;omega),λh=>jG g h,λ_=>⟨_,xs,T,Yz,?_⟩⟩;exact zI (B:=C.heap.size) (qZ YB (a:=⟨w.heap.size+1,0,A⟩) (by show w.heap.size+1<C.heap.size;omega) _) a2
  have q:=aw (V=0);have cb:=y.cell;have cf:=y.frozen;have o:=(Boxed.set (jb A 0 0) y).cell;have g:jk (gK t d x=50):=O (by unfold gK;rw[jB n.symm,jI (by rw[<-W];exact X)])
  go_wp2_with fail
  refine jX (v:=jw #[jq #[jb A 0 0],I N 50]) (by simp[results,results94,go_sem,o]) T ?_;exact⟨z.grown (oj U (w.heap.size+1) _) (cV z.size) (λj e=>by cases e;omega),λ_=>by rw[g],λh=>jG (g.symm.trans h) L⟩
 obtain rfl:=F l;have b:=aw (E=0);have cb:=f.cell;have cf:=f.frozen;have o:=(Boxed.set (jb A 0 0) f).cell;clear F H s i k f m
 go_wp2_with fail
 have g:jk (gK t d x=E):=O (by unfold gK;rw[jI (by rw[<-n];exact l)];exact n.symm);refine jX (v:=jw #[jq #[jb A 0 0],I N E]) (by simp[results,results94,go_sem,o]) T ?_;exact⟨u.grown (oj r (w.heap.size+1) _) (cV u.size) (λj e=>by cases e;omega),λ_=>by rw[g],λh=>jG (g.symm.trans h) l⟩
theorem O4(a c:je)(w:jg)(d:jt w a 160 (.map A))(q:a<c):
 eR jm 203 #[jA (ja ⟨a,0,A⟩)] (λx:jd=>#[I N x]) (λ_=>False) c (λxs=>xs=[]) (λ_=>True) (λys=>ys.length<=0) w:=by
 intro l g r W i f j b m;have o:jt W a 160 (.map A):=(i.block a d.lt).trans d;have s:=o.cell;refine(qw (n:=0)).1 ?_;refine sq func203 T trivial ?_ T;simp only[ntmps203,jU,jW,j8,qj,qk,ql,qn,qo,qs,qb,qc];clear b;have t:=run_range_nilMap (P:=jm) W 160 3 3 qx;have u:∀b,(Instr.next (jA (ja ⟨W,0,A⟩)) jp b).run jm (W.alloc (.mapIter A 0 #[] 0))=_:=λb=>run_next_nilMap W b 0 0 #[]
 have p:jk (g [] (λk=>k=W.heap.size) (W.alloc (.mapIter A 0 #[] 0))):=O (f [] _ _ W _ m (bP.ofGrown (World.grownBy_alloc W _ A) (λk e=>by cases e)) (λ_ h=>h.elim) (λk e=>.inr (by have:=jC W (.mapIter A 0 #[] 0);omega)));clear f j
 gi_wp2
 gi_loopw [3] (λ_ wr=>wr=W.alloc (.mapIter A 0 #[] 0)) (λ_ wr=>0)
 case atStart=>rfl
 subst hrel
 gi_wp2
 refine qX (qM T _ _ _) T ?_;exact⟨⟨_,T⟩,.inl ⟨[],_,T,p⟩⟩
theorem MX(w:jg):jr jm 92 #[.map A] w λe w'=>e=jo (jq #[jb A 0 0])/\jl w w w':=by
 go_enter func92,ntmps92
 go_wp2_with fail
 have d:jt (w.alloc (jc #[jb A 0 0] 27)) w.heap.size 27 (jb A 0 0):=js w _;have b:jl w w (w.alloc (jc #[jb A 0 0] 27)):=(jy _ w).alloc (jn _) _;have m:w.heap.size<(w.alloc (jc #[jb A 0 0] 27)).heap.size:=by simp
 obtain⟨a,c⟩:=J (w.alloc (jc #[jb A 0 0] 27));rw[<-c]at d b m⊢;clear c;refine(EV A a).mono ?_;rintro e p ⟨rfl,rfl⟩;have n:a.heap.size<(a.alloc (jc #[.map A] 160)).heap.size:=by simp
 have c:jt (a.alloc (jc #[.map A] 160)) a.heap.size 160 (.map A):=js a _;have f:jt (a.alloc (jc #[.map A] 160)) w.heap.size 27 (jb A 0 0):=(jF _ _ _ Y).trans d;have g:=b.alloc b.size (jc #[.map A] 160);obtain⟨k,h⟩:=J (a.alloc (jc #[.map A] 160));rw[<-h]at n c f g⊢;clear h d b;have i:=O (Fz (V:=λys=>ys.length<=0) (λ_ _=>rfl) (O4 a.heap.size k.heap.size k c c.lt) (jn _) (λ_ h=>h.elim) (λys h=>by omega) (λxs h=>by rw[h];simp) k.heap.size (jn _) (λ_ h=>h.elim));have h:=O g;have o:=O f;clear g f c
 go_wp2_with fail
 refine i.mono ?_;rintro e f ⟨q,xs,rfl,rfl,b,c⟩;rw[show([]:jh jd).mergeSort leI=[]from by simp]at b;obtain⟨r,s,rfl,-,-⟩:=pM (l:=[]) b;have d:jk (jt f w.heap.size 27 (jb A 0 0)):=O ((c.block _ Y).trans o);have g:=O (h.trans (c.mono Y));have t:=d.cell;have u:=d.frozen;clear b c i
 go_wp2_with fail
 go_loopw [9] (λi wr=>i=I N 0/\wr=f) (λi _=>0)
 case atStart=>exact⟨T,T⟩
 obtain⟨rfl,rfl⟩:=hrel
 go_wp2_with fail
 have b:=(Boxed.set (jb A 0 0) d).cell;refine jX (v:=jq #[jb A 0 0]) (by simp[results,results92,go_sem,b]) T ?_;exact⟨T,g.grown (oj _ w.heap.size _) (cV g.size) (λj e=>by cases e;exact jn _)⟩
def mC(t:jh (jd×jd))(d:jd):jd->jS jd:=gL (bG t) ((512+d)::bW d)
theorem Ln(h:lf (mC t x) U):U.length<=t.length:=by
 have a:U⊆t.map (·.1):=by
  intro y b;obtain⟨-,c⟩:=h.2.1 y b;obtain⟨v,e⟩:=r5.1 c;exact qS.2 ⟨_,oL (rT e).1,T⟩
 have:=h.1.length_le_of_subset a
 simpa using this
theorem Od(a:∀e∈t,aO e.1/\aO e.2):∀y v,aO y->mC t x y=ja v->aO v:=
 λy v _ h=>(a _ (oL (rT h).1)).2
def LA(t:jh (jd×jd))(d:jd)(w:jg)(E:jd)(e:Ending)(w':jg):Prop:=
 jl w w w'/\(E≠0->e=jo (jw #[jq #[jb A 0 0],I N E]))/\
 (E=0->∃v xs,e=jo (jw #[jq #[v],I N 0])/\lf (mC t d) xs/\bJ w' v (dH (mC t d) (xs.mergeSort leI)))
theorem Kg(t:jh (jd×jd))(v:ji)(d:jd)(w:jg)(b:bJ w v t)(g:t.length<=900000)(i:aO d):
 jr jm 93 #[jq #[v],I N d] w λe w'=>LA t d w (dF t d jf) e w':=by
 have j:∀e∈t,aO e.1/\aO e.2:=by obtain⟨p,c,-,-,-,-,h⟩:=b;exact h
 have k:jl w w ((w.alloc (jc #[v] 27)).alloc (jc #[jb A 0 0] 27)):=((jy _ w).alloc (jn _) _).alloc ao _;have l:=O (An t v d jf ((w.alloc (jc #[v] 27)).alloc (jc #[jb A 0 0] 27)) (b.below k) Y i);have m:jt ((w.alloc (jc #[v] 27)).alloc (jc #[jb A 0 0] 27)) (w.heap.size+1) 27 (jb A 0 0):=by
  have h:=js (w.alloc (jc #[v] 27)) (jc #[jb A 0 0] 27);rw[jC]at h;exact h
 have M:=O j;have D:=O g;obtain⟨E,f⟩:=J (dF t d jf);rw[<-f]at l;rw[<-f];clear b g f j i
 go_enter func93,ntmps93
 go_wp2_with fail
 obtain⟨W,b⟩:=J ((w.alloc (jc #[v] 27)).alloc (jc #[jb A 0 0] 27));rw[<-b]at l m k⊢;clear b;refine l.mono ?_;rintro e g ⟨s,x,y⟩;have u:jt g (w.heap.size+1) 27 (jb A 0 0):=(s.block _ m.lt).trans m;have F:=O (k.trans (s.mono k.size));have H:=O u;have X:w.heap.size+1<g.heap.size:=u.lt
 by_cases n:E=0
 ·obtain⟨b,p,c,rfl,i,f,-⟩:=y n
  have P:jk (aZ (dO jQ) 3 g b t.length (mC t d)):=O f;subst n;clear x y s k m u l f i
  go_wp2_with fail
  refine(BB b t.length (mC t d) g P (aI D) (λxs h=>jz (Ln h) (aI D)) (Od M)).mono ?_;rintro e o ⟨v',xs,rfl,C,⟨j,K⟩,f⟩;obtain⟨q,z,rfl⟩:=va j;have i:jk (jt o (w.heap.size+1) 27 (jb A 0 0)):=O ((f.block _ Y).trans H);have r:=aj F f;have Q:=O C;have R:=O j;have S:=O K;have aa:=f.size;have U:=i.cell;have V:=i.frozen;clear C j K f
  go_wp2_with fail
  have K:=O (oj o (w.heap.size+1) (jb q (dH (mC t d) (xs.mergeSort leI)).length z));have C:=(Boxed.set (jb q (dH (mC t d) (xs.mergeSort leI)).length z) i).cell;refine jX (v:=jw #[jq #[jb q (dH (mC t d) (xs.mergeSort leI)).length z],I N 0]) (by simp[results,results93,go_sem,C]) T ?_;refine⟨r.grown K (cV r.size) (λj e=>by cases e;omega),λh=>jG T h,λ_=>⟨_,xs,T,Q,?_⟩⟩;exact zI (B:=g.heap.size) (qZ R (a:=⟨w.heap.size+1,0,A⟩) (by show w.heap.size+1<g.heap.size;omega) _) S
 obtain rfl:=x n;have b:=O n;clear x y s k m u l n
 go_wp2_with fail
 refine(MX g).mono ?_;rintro e o ⟨rfl,f⟩;have i:jk (jt o (w.heap.size+1) 27 (jb A 0 0)):=O ((f.block _ Y).trans H);have r:=aj F f;have U:=i.cell;have V:=i.frozen;clear f
 go_wp2_with fail
 have C:=(Boxed.set (jb A 0 0) i).cell;refine jX (v:=jw #[jq #[jb A 0 0],I N E]) (by simp[results,results93,go_sem,C]) T ?_;exact⟨r.grown (oj o (w.heap.size+1) _) (cV r.size) (λj e=>by cases e;omega),λ_=>rfl,λh=>jG h b⟩
def dh(w:jg)(v:ji)(l:jh jd):Prop:=
 ∃p c,v=jb p l.length c/\l.length<=c/\(0<l.length->∃g o,p=ja ⟨g,o,A⟩/\∀j,j<l.length->w.cell? ⟨g,o+j,A⟩=ja (I N (l.getD j 0)))
theorem Q7(x:jd)(w:jg):jr jm 91 #[I N x] w λe w'=>e=jo (.bool (decide (cU x≠0)))/\jl w w w':=by
 go_enter func91,ntmps91
 go_wp2_with fail
 refine(gD x w).mono ?_;rintro e f ⟨rfl,a⟩;have b:=O a;clear a;obtain⟨c,a⟩:=J (cU x);rw[<-a];have d:=O a;clear a
 by_cases h:c=0
 ·subst h
  go_wp2_with fail
  go_ret;exact⟨by rw[<-d];rfl,b⟩
 have g:=aw (c=0);have a:=O h;clear h
 go_wp2_with fail
 go_ret;exact⟨by rw[<-d];simp[a.out,bne],b⟩
def iA(l:jh jd):Prop:=∀j,j<l.length->cU (l.getD j 0)=0
theorem LJ(l:jh jd)(v:ji)(w:jg)(h:dh w v l)(B:l.length<=1000000):
 jr jm 140 #[v,.func (.func 91) #[] #[]] w λe w'=>∃r,e=jo (I N r)/\jk ((iA l->r= -1)/\(¬iA l->0<=r))/\jl w w w':=by
 obtain⟨p,c,rfl,C,b⟩:=h;have D:=O b;obtain⟨n,a⟩:=J l.length;have f:=O a;rw[<-a]at B C⊢;clear b a
 go_enter func140,ntmps140
 go_wp2_with fail
 go_loopw [8] (λi wr=>∃k:je,i=I N k/\k<=n/\jk (∀j,j<k->cU (l.getD j 0)=0)/\jk (jl w w wr)) (λi _=>n-(jv i).toNat)
 case atStart=>exact⟨0,T,jJ _,O (λ_ h=>jG h Y),O (jy _ _)⟩
 obtain⟨k,rfl,K,q,i⟩:=hrel
 by_cases s:k<n
 ·have E:=az ((k:jd)<(n:jd))
  have F:=az (k<n);obtain⟨g,o,rfl,b⟩:=D.out (by rw[<-f];omega);have a:=b k (by rw[<-f];exact s);have H:wr.cell? ⟨g,o+k,A⟩=ja (I N (l.getD k 0)):=cJ a (i.block g (eN a));obtain⟨x,d⟩:=J (l.getD k 0);rw[<-d]at H;have t:=O d;clear b a d
  go_wp2_with fail
  refine(Q7 x wr).mono ?_;rintro e M ⟨rfl,a⟩;have u:=aj i a;clear a
  by_cases a:cU x=0
  ·have d:decide (cU x≠0)=jp:=by simp[a]
   rw[d];have m:=O a;clear d a
   go_wp2_with fail
   refine⟨⟨k+1,by go_num,by omega,O (λj y=>?_),u⟩,by simp only[jv];omega⟩
   rcases qF j k with z|z
   ·exact q j z
   obtain rfl:j=k:=Y;rw[<-t];exact m
  have d:decide (cU x≠0)=jf:=by simp[a]
  rw[d];have m:=O a;clear d a
  go_wp2_with fail
  go_ret;exact⟨_,T,O ⟨λh=>jG (by rw[t];exact h k (by rw[<-f];exact s)) m,λ_=>by omega⟩,u⟩
 have E:=aw ((k:jd)<(n:jd));have F:=aw (k<n);obtain rfl:k=n:=Y
 go_wp2_with fail
 go_ret;exact⟨_,T,O ⟨λ_=>rfl,λh=>jG (λj y=>q j (by rw[f];exact y)) h⟩,i⟩
theorem TI(l:jh jd)(v:ji)(w:jg)(h:dh w v l)(i:l.length<=1000000):
 jr jm 90 #[v,.func (.func 91) #[] #[]] w λe w'=>∃b,e=jo (.bool b)/\jk ((iA l->b=jp)/\(¬iA l->b=jf))/\jl w w w':=by
 have d:=O (LJ l v w h i);obtain⟨p,c,rfl,-,-⟩:=h
 go_enter func90,ntmps90
 go_wp2_with fail
 refine d.mono ?_;rintro e k ⟨r,rfl,a,f⟩;have g:=O f;clear f d
 by_cases f:0<=r
 ·have j:=az (0<=r)
  have d:jk (¬iA l):=O (λh=>by have:=a.1 h;omega);clear a
  go_wp2_with fail
  go_ret;exact⟨jf,T,O ⟨λh=>jG h d,λ_=>rfl⟩,g⟩
 have j:=aw (0<=r);have d:jk (¬¬iA l):=O (λh=>jG (a.2 h) f);clear a
 go_wp2_with fail
 go_ret;exact⟨jp,T,O ⟨λ_=>rfl,λh=>jG h d⟩,g⟩
def InQ(x:jd):Prop:=0<=x/\x<2305843009213688669
instance(x:jd):Decidable (InQ x):=by unfold InQ;infer_instance
theorem J1(x:jd)(w:jg):jr jm 199 #[I N x] w λe w'=>e=jo (.bool (decide (¬InQ x)))/\jl w w w':=by
 obtain⟨r,a⟩:=J (decide (¬InQ x));rw[<-a]
 by_cases c:x<0
 ·have b:=az (x<0)
  obtain rfl:r=jf:=by rw[a];simp[InQ];omega
  clear a
  go_enter func199,ntmps199
  go_wp2
  go_ret;exact⟨T,jy _ _⟩
 have b:=aw (x<0);obtain rfl:r=decide (2305843009213688669<=x):=by rw[a];simp[InQ];omega
 clear a
 go_enter func199,ntmps199
 go_wp2
 go_ret;exact⟨T,jy _ _⟩
def iM(l:jh jd):Prop:=∀j,j<l.length->InQ (l.getD j 0)
theorem RQ(l:jh jd)(v:ji)(w:jg)(h:dh w v l)(B:l.length<=1000000):
 jr jm 140 #[v,.func (.func 199) #[] #[]] w λe w'=>∃r,e=jo (I N r)/\jk ((iM l->r= -1)/\(¬iM l->0<=r))/\jl w w w':=by
 obtain⟨p,c,rfl,C,b⟩:=h;have D:=O b;obtain⟨n,a⟩:=J l.length;have f:=O a;rw[<-a]at B C⊢;clear b a
 go_enter func140,ntmps140
 go_wp2_with fail
 go_loopw [8] (λi wr=>∃k:je,i=I N k/\k<=n/\jk (∀j,j<k->InQ (l.getD j 0))/\jk (jl w w wr)) (λi _=>n-(jv i).toNat)
 case atStart=>exact⟨0,T,jJ _,O (λ_ h=>jG h Y),O (jy _ _)⟩
 obtain⟨k,rfl,K,q,i⟩:=hrel
 by_cases s:k<n
 ·have E:=az ((k:jd)<(n:jd))
  have F:=az (k<n);obtain⟨g,o,rfl,b⟩:=D.out (by rw[<-f];omega);have a:=b k (by rw[<-f];exact s);have H:wr.cell? ⟨g,o+k,A⟩=ja (I N (l.getD k 0)):=cJ a (i.block g (eN a));obtain⟨x,d⟩:=J (l.getD k 0);rw[<-d]at H;have t:=O d;clear b a d
  go_wp2_with fail
  refine(J1 x wr).mono ?_;rintro e M ⟨rfl,a⟩;have u:=aj i a;clear a
  by_cases a:InQ x
  ·have d:decide (¬InQ x)=jp:=by simp[a]
   rw[d];have m:=O a;clear d a
   go_wp2_with fail
   refine⟨⟨k+1,by go_num,by omega,O (λj y=>?_),u⟩,by simp only[jv];omega⟩
   rcases qF j k with z|z
   ·exact q j z
   obtain rfl:j=k:=Y;rw[<-t];exact m
  have d:decide (¬InQ x)=jf:=by simp[a]
  rw[d];have m:=O a;clear d a
  go_wp2_with fail
  go_ret;exact⟨_,T,O ⟨λh=>jG (by rw[t];exact h k (by rw[<-f];exact s)) m,λ_=>by omega⟩,u⟩
 have E:=aw ((k:jd)<(n:jd));have F:=aw (k<n);obtain rfl:k=n:=Y
 go_wp2_with fail
 go_ret;exact⟨_,T,O ⟨λ_=>rfl,λh=>jG (λj y=>q j (by rw[f];exact y)) h⟩,i⟩
theorem Pg(l:jh jd)(v:ji)(w:jg)(h:dh w v l)(i:l.length<=1000000):
 jr jm 90 #[v,.func (.func 199) #[] #[]] w λe w'=>∃b,e=jo (.bool b)/\jk ((iM l->b=jp)/\(¬iM l->b=jf))/\jl w w w':=by
 have d:=O (RQ l v w h i);obtain⟨p,c,rfl,-,-⟩:=h
 go_enter func90,ntmps90
 go_wp2_with fail
 refine d.mono ?_;rintro e k ⟨r,rfl,a,f⟩;have g:=O f;clear f d
 by_cases f:0<=r
 ·have j:=az (0<=r)
  have d:jk (¬iM l):=O (λh=>by have:=a.1 h;omega);clear a
  go_wp2_with fail
  go_ret;exact⟨jf,T,O ⟨λh=>jG h d,λ_=>rfl⟩,g⟩
 have j:=aw (0<=r);have d:jk (¬¬iM l):=O (λh=>jG (a.2 h) f);clear a
 go_wp2_with fail
 go_ret;exact⟨jp,T,O ⟨λ_=>rfl,λh=>jG h d⟩,g⟩
theorem Bt(l:jh jd)(v:ji)(w:jg)(h:dh w v l)(f:l.length<=1000000):
 jr jm 133 #[v] w λe w'=>∃a,e=jo (.bool a)/\jk ((iM l->a=jp)/\(¬iM l->a=jf))/\jl w w w':=by
 have b:=O (Pg l v w h f);obtain⟨p,c,rfl,-,-⟩:=h
 go_enter func133,ntmps133
 go_wp2_with fail
 refine b.mono ?_;rintro e j ⟨r,rfl,g,d⟩;have i:=O d;clear d b
 go_wp2_with fail
 go_ret;exact⟨_,T,g,i⟩
theorem ox(w:jg)(x:jd):dh (w.alloc (jc #[I N x] 3)) (jb (ja ⟨w,0,A⟩) 1 1) [x]:=
 ⟨_,_,rfl,jn _,λ_=>⟨_,_,rfl,λj a=>by
  obtain rfl:j=0:=by simp at a;omega
  exact ah (js w _) T⟩⟩
theorem mw(w:jg)(x y:jd):dh (w.alloc (jc #[I N x,I N y] 3)) (jb (ja ⟨w,0,A⟩) 2 2) [x,y]:=
 ⟨_,_,rfl,jn _,λ_=>⟨_,_,rfl,λj a=>by
  simp at a
  rcases(show j=0\/j=1 by omega)with rfl|rfl
  ·exact ah (js w _) T
  exact ah (js w _) T⟩⟩
theorem Ke(x:jd):iM [x]↔InQ x:=⟨λh=>h 0 ao,λh j a=>by
 obtain rfl:j=0:=by simp at a;omega
 exact h⟩
theorem Ff(x y:jd):iM [x,y]↔InQ x/\InQ y:=⟨λh=>⟨h 0 ao,h 1 ao⟩,λh j a=>by
 simp at a
 rcases(show j=0\/j=1 by omega)with rfl|rfl
 ·exact h.1
 exact h.2⟩
theorem Bb[Decidable p]{l:jh jd}{b:Bool}(h:(iM l->b=jp)/\(¬iM l->b=jf))(e:iM l↔p):b=decide (¬p):=by
 by_cases a:p
 ·rw[h.1 (e.2 a)];simp[a]
 rw[h.2 (λg=>a (e.1 g))];simp[a]
def lR(x:jd):jd:=if InQ x then 0 else 1
theorem On(x:jd)(w:jg):
 jr jm 83 #[I N x] w λe w'=>e=jo (I N (lR x))/\jl w w w':=by
 have a:=O (Bt [x] _ _ (ox w x) ao);have b:=O (ap w (jc #[I N x] 3))
 go_enter func83,ntmps83
 go_wp2_with fail
 refine a.mono ?_;rintro e h ⟨r,rfl,c,d⟩;have f:=aj b d;have g:=O (Bb c (Ke x));clear d a b c
 cases r
 ·go_wp2_with fail
  go_ret;exact⟨by have:=g.out;simp at this;rw[lR,jB this];rfl,f⟩
 go_wp2_with fail
 go_ret;exact⟨by have:=g.out;simp at this;rw[lR,jI this];rfl,f⟩
theorem K5(x y:jd)(w:jg)(a:InQ x)(b:InQ y):
 jr jm 168 #[I N x,I N y] w λe w'=>e=jo (jw #[I N ((x+y)%2305843009213688669),I N 0])/\jl w w w':=by
 have c:=O (Bt [x,y] _ _ (mw w x y) ao);have d:=O (ap w (jc #[I N x,I N y] 3));have f:=O a;have g:=O b;have j:0<=x+y:=by have:=a.1;have:=b.1;omega
 have k:x+y<4611686018427377338:=by have:=a.2;have:=b.2;omega
 have l:(x+y).tmod 2305843009213688669=(x+y)%2305843009213688669:=Int.tmod_eq_emod_of_nonneg Y;have m:=a.1;have n:=a.2;have o:=b.1;have p:=b.2;clear a b
 go_enter func168,ntmps168
 go_wp2_with fail
 refine c.mono ?_;rintro e q ⟨r,rfl,a,b⟩;have h:=aj d b;have i:=O (Bb a (Ff x y));obtain rfl:r=jp:=by rw[i];simp[f.out,g.out]
 clear b c d a
 go_wp2_with fail
 go_ret2;exact⟨T,h⟩
theorem Qt(a b:je)(f:a<2305843009213688669)(g:b<2305843009213688669)(w:jg):
 jr jm 201 #[I j7 a,I j7 b] w λe w'=>∃c d:je,e=jo (jw #[I j7 c,I j7 d])/\c<2305843009213688669/\d<18446744073709551616/\jk (c*18446744073709551616+d=a*b)/\w=w':=by
 refine(Cb a b Y Y w).mono ?_;rintro e w' ⟨rfl,rfl⟩;have h:a*b<=2305843009213688668*2305843009213688668:=Nat.mul_le_mul Y Y;refine⟨_,_,T,?_,qH _ L,O (by rw[Nat.mul_comm];exact Nat.div_add_mod _ _),T⟩;generalize a*b=m at h;omega
theorem Qp(a b:je)(f:a<2305843009213688669)(d:b<18446744073709551616)(w:jg):
 jr jm 202 #[I j7 a,I j7 b,I j7 2305843009213688669] w λe w'=>
  ∃(q:jd) (r:je),e=jo (jw #[I j7 q,I j7 r])/\(r:jd)<2305843009213688669/\jk (r=(a*18446744073709551616+b)%QN)/\jl w w w':=by
 rcases qI a with rfl|h
 ·refine(DivQ.div64_0 b d w).mono ?_
  rintro e w' ⟨q,rfl,c⟩;exact⟨q,_,T,by omega,O (by rw[qU,mb];rfl),c⟩
 refine(DivQ.div64_1 a b h f d w).mono ?_;rintro e w' ⟨q,rfl,c⟩;exact⟨q,_,T,by omega,O rfl,c⟩
theorem Qd(a b:je)(c:a<2305843009213688669)(d:b<2305843009213688669)(w:jg):
 jr jm 217 #[I N a,I N b] w λe w'=>e=jo (I N ((a*b%QN:je):jd))/\jl w w w':=by
 have h:=O (Qt a b c d)
 go_enter func217,ntmps217
 go_wp2_with fail
 refine(h _).mono ?_;rintro e m ⟨i,j,rfl,f,g,k,rfl⟩;have l:=O (Qp i j f g);clear f g c d
 go_wp2_with fail
 refine(l _).mono ?_;rintro e g ⟨q,r,rfl,n,d,c⟩;have f:=O c;clear c
 go_wp2_with fail
 go_ret;exact⟨by rw[<-k,<-d];rfl,f⟩
theorem Jm(x y:je)(w:jg)(a:x<2305843009213688669)(b:y<2305843009213688669):
 jr jm 167 #[I N x,I N y] w λe w'=>e=jo (jw #[I N ((x*y%QN:je):jd),I N 0])/\jl w w w':=by
 have c:=O (Bt [(x:jd),(y:jd)] _ _ (mw w x y) ao);have d:=O (ap w (jc #[I N x,I N y] 3));have f:jk (InQ (x:jd)):=O ⟨by omega,by omega⟩;have g:jk (InQ (y:jd)):=O ⟨by omega,by omega⟩;have h:=O (Qd x y a b);clear a b
 go_enter func167,ntmps167
 go_wp2_with fail
 refine c.mono ?_;rintro e k ⟨r,rfl,a,b⟩;have i:=aj d b;have j:=O (Bb a (Ff x y));obtain rfl:r=jp:=by rw[j];simp[f.out,g.out]
 clear b c d a
 go_wp2_with fail
 refine(h _).mono ?_;rintro e c ⟨rfl,a⟩;have b:=aj i a;clear a
 go_wp2_with fail
 go_ret2;exact⟨T,b⟩
def aY(a k:je):je:=a^k%PN
theorem My(a k b P:je)(c:1<P)(h:a^b%P=1):(a^k%P)^b%P=1:=by
 rw[<-Nat.pow_mod,<-Nat.pow_mul,Nat.mul_comm,Nat.pow_mul,Nat.pow_mod,h,Nat.one_pow,qB c]
theorem pi{a:je}(h:bL a)(k:je):bL (aY a k:je):=by
 have c:a^QN%PN=1:=by have:=h.2.2;rwa [xj]at this
 have b:(aY a k)^QN%PN=1:=My a k QN PN (by rw[fk];decide) c;have d:aY a k<PN:=qH _ (by rw[fk];decide);have e:1<=aY a k:=by
  rcases qI (aY a k)with h|h
  ·rw[h,Nat.zero_pow (by unfold QN;decide)]at b
   exact jG b (by rw[Nat.zero_mod];decide)
  exact h
 rw[fk]at d;exact⟨by omega,by omega,by rw[xj];exact b⟩
theorem A6(a k:je)(b:bL a)(l:k<2305843009213688669)(w:jg):
 jr jm 85 #[I N a,I N k] w λe w'=>e=jo (jw #[I N (aY a k:je),I N 0])/\jl w w w':=by
 have c:=O (gD a w);rw[gF b]at c;have m:=b.2.1;have f:=O (Ea a k (by rw[fk];omega) Y);have n:decide ((k:jd)<0)=jp:=by simp
 have hd2:=aw ((2305843009213688669:jd)<=(k:jd));clear b
 go_enter func85,ntmps85
 go_wp2_with fail
 refine c.mono ?_;rintro e o ⟨rfl,b⟩;have g:=O b;clear b c
 go_wp2_with fail
 refine(f _).mono ?_;rintro e p ⟨c,rfl,b,d⟩;have i:=aj g d;have q:(c:jd)<4611686018427377339:=by
  have h:=b.out;have j:c<PN:=by rw[h];exact qH _ (by rw[fk];decide)
  rw[fk]at j;omega
 clear d
 go_wp2_with fail
 go_ret2;exact⟨by rw[aY,<-b];rfl,i⟩
theorem mY:bL 4:=by
 refine⟨by decide,by decide,?_⟩;rw[<-wA _ QN 62 L]
 decide+kernel
theorem Tp:bL 4:=mY
theorem wB(k:je)(b:k<2305843009213688669)(w:jg):
 jr jm 84 #[I N k] w λe w'=>e=jo (jw #[I N (aY 4 k:je),I N 0])/\jl w w w':=by
 have c:=O (A6 4 k Tp b)
 go_enter func84,ntmps84
 go_wp2_with fail
 refine(c _).mono ?_;rintro e f ⟨rfl,a⟩;have d:=O a;clear a
 go_wp2_with fail
 go_ret2;exact⟨T,d⟩
theorem Pe(a b:je)(c:bL a)(d:bL b)(w:jg):
 jr jm 87 #[I N a,I N b] w λe w'=>e=jo (jw #[I N (a*b%PN:je),I N 0])/\jl w w w':=by
 have o:∀W:jg,(Instr.index 215 (jq #[I N a,I N b]) (I N 0)).run jm W=.ok (I N a) W:=λW=>by
  have f:=underlying215;unfold Instr.index;simp[asIntOf,run_underlying f,part]
 have p:∀W:jg,(Instr.index 215 (jq #[I N a,I N b]) (I N 1)).run jm W=.ok (I N b) W:=λW=>by
  have f:=underlying215;unfold Instr.index;simp[asIntOf,run_underlying f,part]
 have g:=O (gD a);have j:=O (gD b);rw[gF c]at g;rw[gF d]at j;have q:=c.2.1;have r:=d.2.1;have l:=O (AP a b (by rw[fk];omega) (by rw[fk];omega));clear c d
 go_enter func87,ntmps87
 go_wp2_with fail
 go_loopw [12] (λi wr=>∃k:je,i=I N k/\k<=2/\jk (jl w w wr)) (λi _=>(2-jv i).toNat)
 case atStart=>exact⟨0,T,by omega,O (jy _ _)⟩
 obtain⟨k,rfl,s,d⟩:=hrel
 rcases(show k=0\/k=1\/k=2 by omega)with rfl|rfl|rfl
 ·go_wp2_with fail
  refine(g _).mono ?_;rintro e h ⟨rfl,c⟩;have f:=aj d c;clear c
  go_wp2_with fail
  go_roundw
  case rel=>exact⟨1,T,by omega,f⟩
  case measure=>simp only[jv];omega
 ·go_wp2_with fail
  refine(j _).mono ?_;rintro e h ⟨rfl,c⟩;have f:=aj d c;clear c
  go_wp2_with fail
  go_roundw
  case rel=>exact⟨2,T,by omega,f⟩
  case measure=>simp only[jv];omega
 go_wp2_with fail
 refine(l _).mono ?_;rintro e t ⟨c,rfl,f,i⟩;have m:=aj d i;have u:(c:jd)<4611686018427377339:=by
  have h:=f.out;have n:c<PN:=by rw[h];exact qH _ (by rw[fk];decide)
  rw[fk]at n;omega
 clear i
 go_wp2_with fail
 go_ret2;exact⟨by rw[<-f];rfl,m⟩
theorem Iw(s:ByteArray)(g:s.size<=100000)(v:ji)(l:LBy)(h:l.length<=900000)(w:jg)(b:bj w v l)(a:eP w)(c:gO w):
 jr jm 134 #[jj s,v] w λe w'=>e=jo (I N (oZ (co s) l:je))/\jl w w w':=by
 have d:=O (su s g v l h w b a c);have i:jk ((dn (co s) l).length=32):=O (iQ _ _);obtain⟨m,n,rfl,-,-,-⟩:=b;clear a c
 go_enter func134,ntmps134
 go_wp2_with fail
 refine d.mono ?_;rintro e j ⟨rfl,c⟩;have a:=O (Sk (dn (co s) l) i j);obtain⟨o,f⟩:=J (((dn (co s) l).map v8).toArray);rw[<-f]at a⊢;have k:=O c;clear c d f
 go_wp2_with fail
 refine a.mono ?_;rintro e p ⟨rfl,c⟩;have f:=aj k c;have d:=ym (dn (co s) l);rw[tp]at d;clear c a;obtain⟨r,a⟩:=J (kC (dn (co s) l));rw[<-a]at d⊢;have c:=O a;clear a
 go_wp2_with fail
 go_ret;exact⟨by rw[oZ,<-c];simp,f⟩
def lq(b c a d:LBy):LBy:=b++c++ir a.length 8++a++d
def oG(a b c d:LBy):LBy:=(dn gR (lq a b c d)).take 16
theorem rE(kb nb hb cb):(oG kb nb hb cb).length=16:=by simp[oG,iQ]
theorem Kt(n:je)(c:n<9223372036854775808)(w:jg):
 jr jm 254 #[I N n] w λe w'=>∃g a,e=jo (jb (ja ⟨g,0,A⟩) 8 a)/\jk (bj w' (jb (ja ⟨g,0,A⟩) 8 a) (ir n 8))/\jl w w w':=by
 refine(KT n c w).mono ?_;rintro e w' ⟨v,rfl,b,d⟩;have f:bj w' v (ir n 8):=bj.of_own (B:=w.heap.size) (by rw[Dq];exact b)
 rcases b.2 with⟨rfl,h⟩|⟨g,a,i,rfl,j⟩
 ·exact jG h L
 exact⟨g,a,T,f,d⟩
theorem Below.al(h:jl w w a)(o:Obj):jl w w (a.alloc o):=h.alloc h.size o
theorem Below.tr{b:jg}(h:jl w w a)(k:jl a a b):jl w w b:=h.trans (k.mono h.size)
theorem Below.dr(h:jl w w a):jl w w a.drew:=⟨h.os,h.tape,h.output,h.size,h.block⟩
theorem NP(b j X:jg)(c d a f:LBy)(k l m n o:ji)(q:bj b k c)(r:bj b l d)(s:bj j m (ir a.length 8))(u:bj b n a)(w:bj b o f)
 (h:jl b b X) (x:jl j j X) (g:je) (t:jH) (y:X.heap[g]?=ja (jc #[k,l,m,n,o] t (0,0))) (B:(lq c d a f).length<=900000):
 jr jm 123 #[jb (ja ⟨g,0,A⟩) 5 5] X λe w'=>∃v,e=jo v/\jk (bj w' v (lq c d a f))/\jl X X w':=by
 have p:[c,d,ir a.length 8,a,f].flatten=lq c d a f:=by simp[lq]
 refine(uO g 5 t [k,l,m,n,o] [c,d,ir a.length 8,a,f] T T (by rw[p];omega) X y ?_ L).mono ?_
 ·intro i z
  match i,z with
  |0,_=>exact q.below h
  |1,_=>exact r.below h
  |2,_=>exact s.below x
  |3,_=>exact u.below h
  |4,_=>exact w.below h
 rintro e w' ⟨v,rfl,i,z⟩;rw[p]at i;exact⟨v,T,bj.of_own i,z⟩
theorem Md(a b c d:LBy)(e:a.length=32)(f:b.length=12):(lq a b c d).length=52+c.length+d.length:=by
 simp[lq,e,f,Dq];omega
theorem wJ(w:jg)(o a:Obj):((w.alloc o).alloc a).heap[w.heap.size+1]?=ja a:=by
 have:=js (w.alloc o) a
 rwa [jC]at this
theorem tt(w:jg)(Z:jZ ji)(t:jH)(n:je)(h:Z.size=n):(w.alloc (jc Z t)).there w.heap.size 0 n:=λj c=>by
 have a:=js w (jc Z t);have b:j<Z.size:=Y;simp only[j5,r6,a];simp[b]
theorem rf{b n:je}(h:w.there b 0 n)(a:jl w w w'):w'.there b 0 n:=λj e=>by
 obtain⟨f,g⟩:=h j e;obtain⟨v,c⟩:=r5.1 f;have d:=l8 c;exact⟨by rw[gh c (a.block _ d)];rfl,by rw[<-g];simp only[r6,a.block _ d]⟩
theorem thA(w':jl (w.alloc (jc h e)).drew.heap.size (w.alloc (jc h e)).drew a)(b:h.size=32):a.there w.heap.size 0 32:=
 rf (w:=(w.alloc (jc h e)).drew) ((World.there_drew _ _ _ _).2 (tt w h e 32 b)) w'
theorem thN(w':jl (w.alloc (jc h e)).heap.size (w.alloc (jc h e)) a)(b:h.size=32):a.there w.heap.size 0 32:=rf (tt w h e 32 b) w'
theorem PK(w':jl ((w.alloc (jc h e)).alloc o).heap.size ((w.alloc (jc h e)).alloc o) a)(b:h.size=32):a.there w.heap.size 0 32:=
 rf (xk (tt w h e 32 b) o) w'
theorem QK(w':jl ((w.alloc o).alloc (jc h e)).heap.size ((w.alloc o).alloc (jc h e)) a)(b:h.size=32):a.there (w.heap.size+1) 0 32:=by
 have Z:=tt (w.alloc o) h e 32 b;rw[jC]at Z;exact rf Z w'
theorem thK(h:w.there B 0 32)(w':jl (w.alloc o).heap.size (w.alloc o) a):a.there B 0 32:=rf (xk h o) w'
theorem Below.cellsFrom(h:jl w w a)(b:je)(c:w.heap.size<=b):∀(w':jh ji) (o:je),jl w w (a.setCells b o w'):=by
 intro w'
 induction w' generalizing a with
 |nil=>intro o;exact h
 |cons v w' d=>intro o;exact d (h.setCell c _) (o+1)
theorem KS(a b c f:LBy)(x y:ji)(w:jg)(n:a.length=32)(q:b.length=12)(ax:c.length<=70000)(ay:f.length<=70000)
 (z:bj w x c) (B:bj w y f) (j:eP w) (k:gO w):
 jr jm 212 #[jq (a.map v8).toArray,jq (b.map v8).toArray,x,y] w λe w'=>
  ∃v,e=jo v/\bj w' v (oG a b c f)/\jl w w w':=by
 have d:(a.map v8).toArray.size=32:=by simp[n]
 have h:(b.map v8).toArray.size=12:=by simp[q]
 generalize l:(a.map v8).toArray=g at d⊢;generalize m:(b.map v8).toArray=i at h⊢;have C:=O z;have D:=O B;obtain⟨ph,ch,rfl,-,-,-⟩:=z;obtain⟨pc,cc,rfl,-,-,-⟩:=B;have E:=O l;have F:=O m;have H:=O j;have K:=O k;have P:=O d;have Q:=O h;clear l m d h j k
 go_enter func212,ntmps212
 go_upto_region 1 with fail
 have d:jl w w ((w.alloc (jc g 65)).alloc (jc i 250)):=
  ⟨rfl,rfl,rfl,by simp;omega,λk n=>by rw[jF _ _ _ (by simp;omega),jF _ _ _ n]⟩
 have k:bj ((w.alloc (jc g 65)).alloc (jc i 250)) (jb (ja ⟨w,0,A⟩) 32 32) a:=by
  refine⟨_,32,by rw[n],by rw[n];exact jn _,λh=>(by cases h),λ_=>⟨w.heap.size,0,T,λj l=>?_⟩⟩;have h:cK ((w.alloc (jc g 65)).alloc (jc i 250)) w.heap.size 65 a:=by
   show _ =ja (Obj.cells (a.map v8).toArray 65 (0,0));rw[E,jF _ _ _ ao];exact js w _
  rw[mb];exact h.cell l
 have m:bj ((w.alloc (jc g 65)).alloc (jc i 250)) (jb (ja ⟨w.heap.size+1,0,A⟩) 12 12) b:=by
  refine⟨_,12,by rw[q],by rw[q];exact jn _,λh=>(by cases h),λ_=>⟨w.heap.size+1,0,T,λj l=>?_⟩⟩;have h:cK ((w.alloc (jc g 65)).alloc (jc i 250)) (w.heap.size+1) 250 b:=by
   show _ =ja (Obj.cells (b.map v8).toArray 250 (0,0));rw[F];have:=js (w.alloc (jc g 65)) (jc i 250)
   simpa using this
  rw[mb];exact h.cell l
 have o:=C.below d;have r:=D.below d;have s:eP ((w.alloc (jc g 65)).alloc (jc i 250)):=H.below d (jn _);have t:gO ((w.alloc (jc g 65)).alloc (jc i 250)):=K.below d (jn _);obtain⟨p,u⟩:=J ((w.alloc (jc g 65)).alloc (jc i 250));rw[<-u]at d k m o r s t⊢;have M:=O d;have R:=O k;have S:=O m;have U:=O o;have V:=O r;have W:=O s;have X:=O t;have aa:jk (w.heap.size+2<=p.heap.size):=O (by rw[u];simp);clear d k m o r s t u C D H K E F P Q;have d:(lq a b c f).length<=900000:=by rw[Md _ _ _ _ n q];omega
 have t:=O d;clear d;obtain⟨r,d⟩:=J ((dn gR (lq a b c f)).map v8);have k:∀v w,bj w v (lq a b c f)->eP w->gO w->
  jr jm 62 #[jj ⟨#[116,97,103]⟩,v] w λe w'=>e=jo (jq r.toArray)/\jl w w w':=λv w m o s=>by
  rw[d];exact Jy v _ t.out w m o s
 have u:r.length=32:=by rw[d,jD,iQ]
 have C:∀v∈r,v.oneCell'=jf:=by rw[d];exact iV _
 have D:(jm.info? 23).map (·.size)=ja 32:=vA;have E:=O k;have F:=O d;have H:=O u;clear k d;have a1:w.heap.size+2<=p.heap.size:=aa.out
 go_cut [9] (λv d=>∃o,v=jA (ja ⟨o,0,A⟩)/\d.rangeAt o 0 r/\jl p p d)
 case first=>
  go_region_held3 (λw'=>True) (trivial) (first
   |(go_at_call 254;refine(Kt c.length Y _).mono ?_;rintro e K ⟨g1,a2,rfl,P,m⟩;try(have Q:=thA m ai))
   |(go_at_call 123;refine(NP p K _ a b c f _ _ _ _ _ R.out S P U V (by repeat (first|exact jy _ _ |refine Below.al ?_ _ |refine Below.dr ?_|refine Below.tr ?_ k|refine Below.tr ?_ d|refine Below.tr ?_ m)) (by repeat (first|exact jy _ _ |refine Below.al ?_ _ |refine Below.dr ?_|refine Below.tr ?_ k|refine Below.tr ?_ d|refine Below.tr ?_ m)) _ 68 (by first|exact js _ _ |exact wJ _ _ _ |exact(jF _ _ _ ao).trans (js _ _)) t).mono ?_;rintro e w2 ⟨v2,rfl,ad,d⟩;first|(have s:=thK Q d)|(have s:=PK d ai)|(have s:=QK d ai)|skip)
   |(go_at_call 62;refine(E _ _ (ad.below (by repeat (first|exact jy _ _ |refine Below.al ?_ _ |refine Below.dr ?_|refine Below.tr ?_ k|refine Below.tr ?_ d|refine Below.tr ?_ m))) (W.below (by repeat (first|exact jy _ _ |refine Below.al ?_ _ |refine Below.dr ?_|refine Below.tr ?_ k|refine Below.tr ?_ d|refine Below.tr ?_ m)) (jn _)) (X.below (by repeat (first|exact jy _ _ |refine Below.al ?_ _ |refine Below.dr ?_|refine Below.tr ?_ k|refine Below.tr ?_ d|refine Below.tr ?_ m)) (jn _))).mono ?_;rintro e Q ⟨rfl,k⟩;have a3:=tt Q (a8) 23 32 ai;first|(have au:=rf s k)|(have au:=thN k ai)|skip))
  all_goals
   go_wp2_with fail
   go_meet
   refine⟨_,T,World.rangeAt_setCells_same _ _ _ _ (by rw[H];assumption),Below.cellsFrom ?_ _ ?_ _ _⟩
   ·repeat (first|exact jy _ _ |refine Below.al ?_ _ |refine Below.dr ?_|refine Below.tr ?_ k|refine Below.tr ?_ d|refine Below.tr ?_ m)
   have s:=m.size;have K:=d.size;have P:=k.size;simp only[jC,World.drew]at s K P;omega
 obtain⟨o,rfl,d,k⟩:=hcut;have m:∀j,j<16->wc.cell? ⟨o,0+j,A⟩=ja (I .u8 ((oG a b c f).getD j 0).toNat):=λj l=>by
  have s:j<(dn gR (lq a b c f)).length:=by rw[iQ];omega
  refine d j _ ?_;rw[F];simp[s,oG,jO,l]
 have s:=O m;have K:=O k;clear m k d u C D
 go_wp2
 go_ret;refine⟨_,T,⟨ja ⟨o,0,A⟩,32,by rw[rE];rfl,by rw[rE];decide,λh=>(by cases h),λ_=>⟨o,0,rfl,λj l=>s j (by rw[rE]at l;exact l)⟩⟩,?_⟩;exact M.trans (K.mono M.size)
def nck(a:je):je:=(a+63)/64
def ckl(a j:je):je:=min 64 (a-64*j)
theorem Ld(p:jS jM)(n c:je)(w:jg):
 jr jm 252 #[jb p n c,I N 64] w λe w'=>
  e=jo (.func (.func 266) #[] #[jA (ja ⟨w,0,A⟩),jA (ja ⟨w.heap.size+1,0,A⟩)])/\
  w'=(w.alloc (jc #[jb p n c] 68)).alloc (jc #[I N 64] 3):=by
 go_enter func252,ntmps252
 go_wp2
 go_ret;exact⟨T,T⟩
theorem PG{P:qO}(t e:jH)(a:P.underlying t=ja (.slice e))(b:∀w,(sizeOf e).run P w=.ok 1 w)(g n c l h:je)(d:l<=h)(f:h<=c)(i:l<h)(W:jg):
 (Instr.sliceAt t (jb (ja ⟨g,0,A⟩) n c) (ja (I N (l:jd))) (ja (I N (h:jd))) (ja (I N (h:jd)))).run P W=.ok (jb (ja ⟨g,l,A⟩) (h-l) (h-l)) W:=by
 have he:P.elem t=e:=by simp[Program.elem,a]
 rw[run_sliceAt_slice W t _ _ _ _ (by rw[he];exact a),run_slice_lhm W t _ n c (by rw[he];exact a) .i64 .i64 .i64 _ _ _ Y Y Y Y,he];simp[b,Result.andThen,sliced,Addr.add];rw[jI Y]
 split<;>simp[*]
theorem S4(p:jS jM)(a d f:je)(hp:0<a->p=ja ⟨f,0,A⟩)(hL:a<=d)(ay:a<=100000)(b c:je)(w:jg)
 (e:jt w b 68 (jb p a d)) (h:jt w c 3 (I N 64)):
 eR jm 266 #[jA (ja ⟨b,0,A⟩),jA (ja ⟨c,0,A⟩)] (λj:je=>#[jb (ja ⟨f,64*j,A⟩) (ckl a j) (ckl a j)])
  (λk=>k=b\/k=c) 0 (λxs=>xs=ms (nck a)) (λ_=>True) (λys=>ys<+:ms (nck a)) w:=by
 intro l g Jx W m r z s t;have B:jt W b 68 (jb p a d):=(m.block b e.lt).trans e;have C:jt W c 3 (I N 64):=(m.block c h.lt).trans h;clear e h;refine(qw (n:=0)).1 ?_;refine sq func266 T trivial ?_ T;simp only[ntmps266,jU,jW,j8,qj,qk,ql,qn,qo,qs,qb,qc]
 gi_wp2
 gi_loopw [4] (λi wr=>W.heap.size<=wr.heap.size/\∃j:je,i=I N ((64*j:je):jd)/\j<=nck a/\jk (g (ms j) (λk=>k=b\/k=c) wr)/\jt wr b 68 (jb p a d)/\jt wr c 3 (I N 64))
  (λi _=>100064-(jv i).toNat)
 case atStart=>
  exact⟨jn _,0,T,jJ _,t,B,C⟩
 obtain⟨D,j,rfl,hj,i,u,v⟩:=hrel;have F:=u.cell;have H:=v.cell
 by_cases a1:64*j<a
 ·have x:j<nck a:=by unfold nck;omega
  obtain rfl:p=ja ⟨f,0,A⟩:=hp Y;have e:ms j++[j]<+:ms (nck a):=by
   rw[<-xl];have:ms (j+1)=(ms (nck a)).take (j+1):=by
    rw[List.take_range,qD Y]
   rw[this];exact List.take_prefix _ _
  have HJ:jk (bZ W.heap.size g):=r;have HY:=O s;have aa:=O e;have hd:=az (((64*j:je):jd)<(a:jd));have hd2:=az (64*(j:jd)<(a:jd));have E:∀W,(Instr.sliceAt 68 (jb (ja ⟨f,0,A⟩) a d) (ja (I N (64*(j:jd)))) A A).run jm W=.ok (jb (ja ⟨f,64*j,A⟩) (a-64*j) (d-64*j)) W:=λW=>by
   have h:=yq (P:=jm) 68 5 qP iN f 0 a d (64*j) Y Y W
   simpa using h
  clear s t z m r e B C
  gi_wp2
  gi_region
  have e:(Min.min 64 ((a-64*j:je):jd))=((ckl a j:je):jd):=by unfold ckl;omega
  rw[e];have ad:1<=ckl a j:=by unfold ckl;omega
  have au:ckl a j<=64:=by unfold ckl;omega
  have ax:64*j+ckl a j<=a:=by unfold ckl;omega
  have K:jk (g (ms j) (λk=>k=b\/k=c) wr.drew):=HJ.keep i ⟨T,T,T,jn _,λ_ _ _=>.inl T⟩;have o:jt wr.drew b 68 (jb (ja ⟨f,0,A⟩) a d):=u;have q:jt wr.drew c 3 (I N 64):=v;have M:W.heap.size<=wr.drew.heap.size:=D;obtain⟨wo,y⟩:=J wr.drew;rw[<-y]at K o q M⊢;clear y i u v D F H E e;obtain⟨fn,tmps,assign,body,Q,R⟩:=HY (ms j) j (λk=>k=b\/k=c) wo K (by rintro _ (rfl|rfl);exact o.lt;exact q.lt) aa;have F:=o.cell;have H:=q.cell;generalize ckl a j=E at Q ad au ax⊢;have a2:∀W,(Instr.sliceAt 68 (jb (ja ⟨f,0,A⟩) a d) (ja (I N (64*(j:jd)))) (ja (I N (64*(j:jd)+(E:jd)))) (ja (I N (64*(j:jd)+(E:jd))))).run jm W=.ok (jb (ja ⟨f,64*j,A⟩) E E) W:=λW=>by
   have h:=PG (P:=jm) 68 5 qP iN f a d (64*j) (64*j+E) Y Y Y W;rw[show 64*j+E-64*j=E by omega]at h
   simpa using h
  gi_wp2
  refine⟨T,R.mono ?_⟩;rintro e S (⟨rfl,U,y,h⟩|⟨rfl,ZL,y,h⟩)
  ·have V:jt S b 68 (jb (ja ⟨f,0,A⟩) a d):=(h b (.inl T)).trans o
   have X:jt S c 3 (I N 64):=(h c (.inr T)).trans q;have a3:=V.cell;have a4:=X.cell;have Ws:=y.size;clear h y R Q
   gi_wp2
   go_roundw
   case rel=>
    rw[<-xl]at U;exact⟨jz M Ws,j+1,by go_num,by omega,U,V,X⟩
   case measure=>simp[jv];omega
  gi_wp2
  refine jX (qM T _ _ _) T ?_;exact⟨⟨_,T⟩,.inr ⟨_,_,trivial,ZL⟩⟩
 have x:j=nck a:=by unfold nck at*;omega
 have hd2:=aw (64*(j:jd)<(a:jd));have e:jk (g (ms (nck a)) (λk=>k=b\/k=c) wr):=x▸i;clear i x s t r z m hj
 gi_wp2
 refine qX (qM T _ _ _) T ?_;exact⟨⟨_,T⟩,.inl ⟨_,_,T,e⟩⟩
section
variable{w:jg}{a:jh ji}
attribute [local go_sem] Oper.semAt_some
def ksB(a b:LBy)(i:je):BitVec 8:=(oU a b (jY 32 (1+i/64))).getD (i%64) 0
def fB(a b l:LBy):je->LBy
 |0=>l
 |n+1=>(fB a b l n).set n ((fB a b l n).getD n 0^^^ksB a b n)
theorem Pv(kb nb l n):(fB kb nb l n).length=l.length:=by induction n with
 |zero=>rfl
 |succ n a=>simp[fB,a]
def k6(a b l:LBy):LBy:=fB a b l l.length
theorem Ak(kb nb l):(k6 kb nb l).length=l.length:=Pv _ _ _ _
theorem Tn(x y:BitVec 8):bits .xor .u8 (x.toNat:jd) (y.toNat:jd)=((x^^^y).toNat:jd):=by
 have a:=x.isLt;have b:=y.isLt;have c:x.toNat%2^8=x.toNat:=qB a;have d:y.toNat%2^8=y.toNat:=qB b;have e:x.toNat^^^y.toNat<2^8:=wv a b;show IntKind.u8.wrap ((xm 8 (x.toNat:jd)^^^xm 8 (y.toNat:jd)).toNat:jd)=_;simp only[wx,xa,qC,c,d];exact IntWalk.u8_in _ Y
section
variable {P:qO} {F:Fence} {nF:je}
theorem oI{i:jZ n0}{j:jh n0}{o:n0}{a:Act}{w:jg}{k:Exit->Act->jg->Prop}(m:o.guard=A)(b:jH)(x:Operand)(f:o.op=.load b x)
 (g:je) (n:a.eval x=jA (ja ⟨g,0,A⟩)) (t:jH) (e:jZ ji) (l:je×je) (d:TypeDesc) (p:w.heap[g]?=ja (jc e t l))
 (q:P.underlying b=ja d) (r:(match d with| .struct _ | .array _ _=>jf|_=>jp)=jf) (s:(P.info? b).map (·.size)=ja e.size)
 (h:wpListIn F nF P i k j (a.put o.dst (jq e)) w):wpListIn F nF P i k (o::j) a w:=by
 refine wpListIn_plain m λy u=>?_
 unfold Oper.wpIn;refine⟨by simp[Oper.about,f],?_⟩;rw[Oper.semAt_plain F _ _ (by rw[f];intro c v;cases v)];simp only[qy,f,n,Instr.loadAt,Instr.sureAddr,Sem.run_bind,Sem.run_pure,Result.andThen_ok,run_loadVar_row w g t b e l d p q r s];exact u _ _ h
end
theorem Jo{B:je}{e:jH}{g xs n:je}(h:w.ownsRow B e 1 (jb (ja ⟨g,0,A⟩) n xs) n a)(i:je)(s:i<n)(x:ji):
 (w.setCell ⟨g,i,A⟩ x).ownsRow B e 1 (jb (ja ⟨g,0,A⟩) n xs) n (a.set i x):=by
 refine⟨by simpa using h.1,?_⟩
 rcases h.2 with⟨c,_⟩|⟨g',d,f,j,k,b,l,m,o,p⟩
 ·cases c
 obtain⟨rfl,rfl⟩:g=g'/\xs=d:=ak j;have q:=(jK.1 b).1;have r:w.heap[g]=_:=(jK.1 b).2;refine .inr ⟨g,xs,f.setIfInBounds i x,T,k,?_,l,m,by simpa using o,?_⟩
 ·show(w.heap.modify g _)[g]?=_
  rw[Array.getElem?_modify];simp[q,r]
 rw[Array.toList_setIfInBounds,List.take_set,p]
theorem IV{B:je}{g b n:je}{l:LBy}(h:w.ownsRow B 5 1 (jb (ja ⟨g,0,A⟩) n b) n (l.map v8))(i:je)(o:i<n):
 w.cell? ⟨g,i,A⟩=ja (I .u8 (l.getD i 0).toNat)/\w.frozen? ⟨g,i,A⟩=jp:=by
 rcases h.2 with⟨d,_⟩|⟨g',e,f,j,p,k,q,r,s,m⟩
 ·cases d
 obtain⟨rfl,rfl⟩:g=g'/\b=e:=ak j;have t:l.length=n:=ak h.1;have a:(f.toList.take (n*1))[i]?=(l.map v8)[i]?:=by rw[m]
 have c:i<l.length:=Y;simp only[j5,r6,k];rw[xn,jB Y]at a;simp[c]at a;simp[a,v8,jO,c]
theorem Mj{B n:je}{e:jH}{b:ji}(h:w.ownsRow B e 1 b n a)(k:je)(xs:ja k≠b.ownBlock)(x:ji):(w.setCell ⟨k,0,A⟩ x).ownsRow B e 1 b n a:=by
 refine⟨h.1,?_⟩
 rcases h.2 with v|⟨g,c,d,rfl,f,i,j⟩
 ·exact .inl v
 exact .inr ⟨g,c,d,T,f,(q7 _ _ _ _ (show g≠k from λe=>xs (by rw[<-e];rfl))).trans i,j⟩
theorem Ib{w':jg}{B n m:je}{e:jH}{b:ji}(h:w.ownsRow B e 1 b n a)(xs:jl m w w')(v:∀j,b.ownBlock=ja j->j<m):w'.ownsRow B e 1 b n a:=by
 refine⟨h.1,?_⟩
 rcases h.2 with c|⟨g,d,f,rfl,i,j,k⟩
 ·exact .inl c
 exact .inr ⟨g,d,f,T,i,(xs.block _ (v g T)).trans j,k⟩
theorem Jk{a:jh je}{x n:je}(h:a++[x]<+:ms n):x=a.length/\a.length<n:=by
 have b:a.length<n:=by have:=h.length_le;simp at this;omega
 refine⟨?_,b⟩;obtain⟨t,d⟩:=h;have c:=qN (λm=>m[a.length]?) d;simp[b]at c;exact c
theorem LL{β:Type}(B0 base:je)(e:jH)(size:je)(v:ji)(n:β->je)(f:β->jh ji):
 bZ B0 (λs Ψ W=>W.ownsRow base e size v (n s) (f s)/\∀j,v.ownBlock=ja j->¬Ψ j):=by
 rintro s Ψ d l B ⟨a,g⟩ i m k;have b:∀j,v.ownBlock=ja j->¬d j:=λj c h=>by
  rcases k _ h with h|h
  ·exact g j c h
  have:=(a.lt j c).2;omega
 exact⟨i.row a b,b⟩
theorem FX{β:Type}(B0 b:je)(C:jZ ji)(t:jH)(d:je×je):bZ B0 (fun(_:β) Ψ W=>W.heap[b]?=ja (jc C t d)/\¬Ψ b):=by
 rintro s Ψ e j B ⟨a,f⟩ g k i;have c:¬e b:=λh=>by rcases i _ h with h|h;exact f h;have:=(jK.1 a).1;omega
 exact⟨g.cells a c,c⟩
theorem OR(d:jM)(c:je)(w:jg):
 jr jm 251 #[jb (ja d) 0 c] w λe w'=>∃v,e=jo v/\w'.ownsRow w 5 1 v 0 []/\jl w w w':=by
 have r:∀(w:jg) (a:jS jM) (n c n' b:je),(binOp .eql 68 (jb a n c) (jb A n' b)).run jm w=.ok (.bool a.isNone) w:=λw a n c n' b=>Lib.run_eql_slice_nil w _ _ a n c n' b qP
 obtain⟨i,l,m,o,p⟩:=qi tS;have f:(w.alloc (jc #[] 5)).ownsRow w.heap.size 5 1 (jb (ja ⟨w,0,A⟩) 0 0) 0 []:=
  ⟨rfl,.inr ⟨w.heap.size,0,#[],rfl,jn _,js w _,jn _,by unfold j3;omega,rfl,rfl⟩⟩
 have g:=O f;clear f
 go_enter func251,ntmps251
 go_wp2_with (at_builtin;refine sB _ T _ _ 68 T w.heap.size 5 i (I .u8 0) 1 1 qP l m o p T L _ _ _ T g d 0 c [] T T (λj f h=>(by cases h)) (λf h=>(by cases h)) (by unfold j3;omega) Y ao ?_;intro f s h j _)
 go_ret;refine⟨f,T,by simpa using h,?_⟩;exact Below.grown (w:=w.alloc (jc #[] 5)) ⟨T,T,T,by simp,λk q=>jF _ _ _ q⟩ j ao (λk e=>(g.lt k e).1)
theorem zL{B n:je}{b:ji}(h:w.ownsRow B 5 1 b n a):
 ∃p c,b=jb p n c/\n<=c/\(0<n->∃g,p=ja ⟨g,0,A⟩/\B<=g/\g<w.heap.size):=by
 rcases h.2 with⟨rfl,xs⟩|⟨g,v,i,rfl,d,e,f,j,k,l⟩
 ·exact⟨A,0,by rw[xs],by omega,λh=>by omega⟩
 exact⟨_,v,T,f,λ_=>⟨g,T,d,(jK.1 e).1⟩⟩
theorem Kl(v:ji)(l:LBy)(i:l.length<=1000000)(w:jg)(h:bj w v l):
 jr jm 251 #[v] w λe w'=>∃p c,e=jo (jb p l.length c)/\jk (w'.ownsRow w 5 1 (jb p l.length c) l.length (l.map v8))/\jl w w w'/\l.length<=c/\
  jk (0<l.length->∃g,p=ja ⟨g,0,A⟩/\w.heap.size<=g/\g<w'.heap.size):=by
 have a:∀(e:Ending) (w':jg),(∃v,e=jo v/\w'.ownsRow w 5 1 v l.length (l.map v8)/\jl w w w')->∃p c,e=jo (jb p l.length c)/\jk (w'.ownsRow w 5 1 (jb p l.length c) l.length (l.map v8))/\jl w w w'/\l.length<=c/\
  jk (0<l.length->∃g,p=ja ⟨g,0,A⟩/\w.heap.size<=g/\g<w'.heap.size):=by
  rintro e w' ⟨v,rfl,f,j⟩;obtain⟨p,c,rfl,b,d⟩:=zL f;exact⟨p,c,T,f,j,b,d⟩
 obtain⟨p,c,rfl,n,j,k⟩:=h
 rcases qI l.length with f|f
 ·obtain rfl:l=[]:=qt f
  rcases p with _|m
  ·obtain rfl:=j T
   exact(Ky w).mono λe w' ⟨b,d⟩=>a e w' ⟨_,b,j0 _ _ _ _,d▸jy _ _⟩
  exact(OR m c w).mono a
 obtain⟨g,o,rfl,b⟩:=k f;exact(Ty g o c l i w b).mono a
theorem Qu(f i l:LBy)(v:ji)(w:jg)(t:f.length=32)(hn:i.length=12)(hl:l.length<=65536)(hv:bj w v l)(j:sS w):
 jr jm 211 #[jq (f.map v8).toArray,jq (i.map v8).toArray,v] w λe w'=>
  ∃a,e=jo (jw #[a,I N 0])/\w'.ownsRow w 5 1 a l.length ((k6 f i l).map v8)/\jl w w w':=by
 have d:(f.map v8).toArray.size=32:=by simp[t]
 have g:(i.map v8).toArray.size=12:=by simp[hn]
 have a:=λc w h=>JM f i c w t hn h
 generalize o:(f.map v8).toArray=C at d a⊢;generalize p:(i.map v8).toArray=F at g a⊢;have m:jl w w ((w.alloc (jc C 65)).alloc (jc F 250)):=
  ⟨rfl,rfl,rfl,by simp;omega,λk t=>by rw[jF _ _ _ (by simp;omega),jF _ _ _ t]⟩
 have HB:=O m;have HF:=O a;have HV:=O hv;have HT:=O j;have Yz:=O d;have bk:=O g;obtain⟨pv,cv,rfl,-,-,-⟩:=hv;have h1:=aw ((65536:jd)<(l.length:jd));clear a j o p d g m;refine(qw (n:=0)).1 ?_;refine sv func211 T trivial ?_ T;simp only[ntmps211,jU,jW,j8,qj,qk,ql,qn,qo,qs,qb,qc]
 gi_wp2_with fail
 refine⟨trivial,T,(callsIn_wide.2 (Kl _ l Y _ (HV.below HB))).mono ?_⟩;rintro e r ⟨p,c,rfl,s,d,bl,x⟩;have a:=O d;clear d
 gi_wp2_with fail
 refine⟨trivial,T,(callsIn_wide.2 (Ld p l.length c _)).mono ?_⟩;rintro e w' ⟨rfl,rfl⟩
 gi_wp2_with fail
 have a4:jl w w (((r.alloc (jc #[I jV 1] 233)).alloc (jc #[jb p l.length c] 68)).alloc (jc #[I N 64] 3)):=by
  have h:=HB.trans (a.mono HB.size);exact((h.alloc h.size _).alloc (by have:=h.size;simp;omega) _).alloc (by have:=h.size;simp;omega) _
 have a5:(((r.alloc (jc #[I jV 1] 233)).alloc (jc #[jb p l.length c] 68)).alloc (jc #[I N 64] 3)).heap[w.heap.size]?=ja (jc C 65 (0,0)):=by
  have Q:=a.size;simp at Q;rw[jF _ _ _ (by simp;omega),jF _ _ _ (by simp;omega),jF _ _ _ Y,a.block _ (by simp;omega)];exact(jF _ _ _ ao).trans (js w _)
 have a6:(((r.alloc (jc #[I jV 1] 233)).alloc (jc #[jb p l.length c] 68)).alloc (jc #[I N 64] 3)).heap[w.heap.size+1]?=ja (jc F 250 (0,0)):=by
  have Q:=a.size;simp at Q;rw[jF _ _ _ (by simp;omega),jF _ _ _ (by simp;omega),jF _ _ _ Y,a.block _ ao];exact wJ w _ _
 have au:jt (((r.alloc (jc #[I jV 1] 233)).alloc (jc #[jb p l.length c] 68)).alloc (jc #[I N 64] 3)) r.heap.size 233 (I jV ((jY 32 (1+0)).toNat:jd)):=
  ((Boxed.new r _ _).alloc _).alloc _
 have V:jt (((r.alloc (jc #[I jV 1] 233)).alloc (jc #[jb p l.length c] 68)).alloc (jc #[I N 64] 3)) (r.heap.size+1) 68 (jb p l.length c):=by
  have:=Boxed.new (r.alloc (jc #[I jV 1] 233)) 68 (jb p l.length c);rw[jC]at this;exact this.alloc _
 have X:jt (((r.alloc (jc #[I jV 1] 233)).alloc (jc #[jb p l.length c] 68)).alloc (jc #[I N 64] 3)) (r.heap.size+1+1) 3 (I N 64):=by
  have:=Boxed.new ((r.alloc (jc #[I jV 1] 233)).alloc (jc #[jb p l.length c] 68)) 3 (I N 64);rw[jC,jC]at this;exact this
 have ax:=(((s.alloc (jc #[I jV 1] 233)).alloc (jc #[jb p l.length c] 68)).alloc (jc #[I N 64] 3));have ay:(((r.alloc (jc #[I jV 1] 233)).alloc (jc #[jb p l.length c] 68)).alloc (jc #[I N 64] 3)).heap.size=r.heap.size+3:=by simp
 have bm:w.heap.size+2<=r.heap.size:=by have Q:=a.size;simp at Q;omega
 have u:((w.alloc (jc C 65)).alloc (jc F 250)).heap.size=w.heap.size+2:=by simp
 rw[u]at ax;obtain⟨W0,y⟩:=J ((((r.alloc (jc #[I jV 1] 233)).alloc (jc #[jb p l.length c] 68)).alloc (jc #[I N 64] 3)));rw[<-y]at a4 a5 a6 au V X ax ay⊢;obtain⟨q,m⟩:=J r.heap.size;have z:0<l.length->∃g,p=ja ⟨g,0,A⟩/\w.heap.size+2<=g/\g<q:=by rw[m,<-u];exact x
 rw[<-m]at au V X ay bm⊢;obtain⟨d,B,D⟩:∃d,(0<l.length->p=ja ⟨d,0,A⟩)/\(0<l.length->d<q):=by
  rcases qI l.length with j|j
  ·exact⟨0,λh=>by omega,λh=>by omega⟩
  obtain⟨g,o,_,E⟩:=z j;exact⟨g,λ_=>o,λ_=>E⟩
 have bn:∀j,(jP p l.length c).ownBlock=ja j->j<q:=by
  rw[m];intro j o;exact(s.lt j o).2
 have a1:=O ay;have VL:=O B;have a2:=O bn;clear y m s a x z u D B;refine ru (n:=0) (gf:=266) (lb:=#[jA (ja ⟨q+1,0,A⟩),jA (ja ⟨q+1+1,0,A⟩)]) T (enters_of func266 af T)
  (S4 p l.length c d VL bl Y (q+1) (q+1+1) W0 V X) (jJ _) (λ_=>rfl) (by rintro k (rfl|rfl);exact V.lt;exact X.lt)
  (λs Ψ W=>(W.ownsRow (w.heap.size+2) 5 1 (jb p l.length c) l.length ((fB f i l (min (64*s.length) l.length)).map v8)/\∀j,(jP p l.length c).ownBlock=ja j->¬Ψ j)/\
   (jt W q 233 (I jV ((jY 32 (1+s.length)).toNat:jd))/\¬Ψ q)/\
   (W.heap[w.heap.size]?=ja (jc C 65 (0,0))/\¬Ψ w.heap.size)/\(W.heap[w.heap.size+1]?=ja (jc F 250 (0,0))/\¬Ψ (w.heap.size+1))/\
   (jl w w W/\∀k,Ψ k->w.heap.size<=k))
  (λ_ _ _ _=>False)
  ((LL W0.heap.size (w.heap.size+2) 5 1 (jb p l.length c) (λ_=>l.length) (λs:jh je=>(fB f i l (min (64*s.length) l.length)).map v8)).and ((iT _ _ _ (λs:jh je=>I jV ((jY 32 (1+s.length)).toNat:jd))).and
   ((FX _ _ _ _ _).and ((FX _ _ _ _ _).and (kL _ _ w (jn _) (aI a1))))))
  (λ_=>fj _ _)
  ⟨⟨by simpa [fB]using ax,λj o=>by have:=a2 j o;omega⟩,⟨au,by omega⟩,⟨a5,by omega⟩,⟨a6,by omega⟩,a4,by rintro k (rfl|rfl)<;>omega⟩
  (λx ba _ _=>ba={tmps:=((Value.agg C)::(Value.agg F)::(jP pv l.length cv)::(r7 (ja ⟨w,0,A⟩))::(r7 (ja ⟨w.heap.size+1,0,A⟩))::ju::(jP p l.length c)::(jE .i64 0)::(r7 (ja ⟨q,0,A⟩))::(jP (ja ⟨d,64*x,A⟩) (ckl l.length x) (ckl l.length x))::ju::ju::(jP pv l.length cv)::(jE .i64 l.length)::(Value.bool jp)::(jP pv l.length cv)::(jP p l.length c)::(jP p l.length c)::(Value.func (.func 266) #[] #[jA (ja ⟨q+1,0,A⟩),jA (ja ⟨q+1+1,0,A⟩)])::(jP (ja ⟨d,64*x,A⟩) (ckl l.length x) (ckl l.length x))::ju::ju::ju::ju::ju::ju::ju::ju::ju::ju::ju::ju::ju::ju::ju::ju::ju::ju::ju::ju::ju::ju::ju::ju::[]).toArray,defers:=[]}) (fj _ _)
  ?assign ?body ?done ?stop
 case assign=>
  intro ll s x Ψ u K a _ R
  gi_wp2
  exact R _ _ (jy _ _) a T
 case body=>
  rintro ll s x Ψ ba u ⟨⟨B,ZJ⟩,⟨H,a3⟩,⟨R,bb⟩,⟨hN,bc⟩,K,hΨ⟩ rfl y Yt bI bK;obtain⟨rfl,Z6⟩:=Jk y;obtain⟨a,m⟩:=J s.length;have z:(s++[a]).length=a+1:=by rw[m];simp
  have U3:=O z;rw[<-m]at B H Z6⊢;have hL:64*a<l.length:=by unfold nck at Z6;omega
  obtain rfl:p=ja ⟨d,0,A⟩:=VL Y;clear y m z;obtain⟨y,m⟩:=J (jY 32 (1+a));rw[<-m]at H;have bd:=O m;clear m;have m:sS u:=(Lib.tabBelow_of_tabIs HT) _ K;have bo:=O m;have YM:=O K;have z:=O B;have bf:=O ZJ;have HK:=O R;have HN:=O hN;have YE:=H.cell;have HC:=O H;clear m K B ZJ R hN H
  gi_upto_region 7 with fail
  refine wpIn_region_lit ?_;refine oI T 65 _ T w.heap.size T 65 C (0,0) _ HK.out mz T (by rw[Yz];rfl) ?_;refine oI T 250 _ T (w.heap.size+1) T 250 F (0,0) _ HN.out vi T (by rw[bk];rfl) ?_
  gi_wp2_with fail
  refine⟨trivial,T,CallsIn.inRound ll (callsIn_wide.2 ((HF y u bo).mono ?_))⟩;rintro e S ⟨vb,rfl,M,E⟩;obtain⟨p2,c2,rfl,bM,bp⟩:=zL M;obtain⟨D,rfl,Yj,bN⟩:=bp L;have U:∀m,m<64->S.cell? ⟨D,m,A⟩=ja (I .u8 ((oU f i y).getD m 0).toNat):=λm hm=>(IV M m hm).1
  have bO:d<u.heap.size:=(z.lt d T).2;have bq:q<u.heap.size:=HC.lt;have aa:S.ownsRow (w.heap.size+2) 5 1 (jb (ja ⟨d,0,A⟩) l.length c) l.length ((fB f i l (64*a+0)).map v8):=by
   have h:=z.out;rw[qD Y]at h;exact Ib h E (by intro j o;exact(z.lt j o).2)
  have o:jt S q 233 (I jV (y.toNat:jd)):=(E.block _ bq).trans HC;have br:=O U;have bs:=O aa;have UJ:=O o;have Ur:=O E;have bu:1<=ckl l.length a:=by unfold ckl;omega
  have bv:ckl l.length a<=64:=by unfold ckl;omega
  have ad:64*a+ckl l.length a=min (64*(a+1)) l.length:=by unfold ckl;omega
  have bw:64*a+ckl l.length a<=l.length:=by unfold ckl;omega
  have bg:=O ad;have bT:d<S.heap.size:=Y;clear ad U aa o E M YE;generalize ckl l.length a=E at bu bv bg bw⊢;have aa:∀W,(Instr.sliceAt 68 (jb (ja ⟨D,0,A⟩) 64 c2) A (ja (I N (E:jd))) A).run jm W=.ok (jb (ja ⟨D,0,A⟩) E c2) W:=
   uB (P:=jm) 68 5 qP iN D 0 64 c2 E Y Y
  gi_wp2_with fail
  clear aa
  gi_loopw [28] (λo M=>∃m:je,o=I N m/\m<=E/\jk (M.ownsRow (w.heap.size+2) 5 1 (jb (ja ⟨d,0,A⟩) l.length c) l.length ((fB f i l (64*a+m)).map v8))/\jk (bR d S M)) (λo _=>(64-jv o).toNat)
  case atStart=>exact⟨0,T,by omega,bs,bR.refl _ _⟩
  obtain⟨m,rfl,hm,o,M⟩:=hrel
  by_cases b0:m<E
  ·have hd:=az ((m:jd)<(E:jd))
   have WV:wr.cell? ⟨D,m,A⟩=ja (I .u8 ((oU f i y).getD m 0).toNat):=gh (br m Y) (M.block _ (by show D≠d;omega));obtain⟨Vq,bh⟩:=IV o (64*a+m) Y;have U:fB f i l (64*a+(m+1))=(fB f i l (64*a+m)).set (64*a+m) ((fB f i l (64*a+m)).getD (64*a+m) 0^^^(oU f i y).getD m 0):=by
    show(fB f i l (64*a+m)).set _ (_ ^^^ksB f i (64*a+m))=_;rw[ksB,show(64*a+m)/64=a by omega,show(64*a+m)%64=m by omega,bd]
    rfl
   generalize(oU f i y).getD m 0=kx at WV U;generalize(fB f i l (64*a+m)).getD (64*a+m) 0=px at Vq U;have ad:=O U;clear U
   gi_wp2
   go_roundw
   case rel=>
    refine⟨m+1,by go_num,by omega,?_,M.trans (bR.setCell _ _ _ _)⟩;have h:=Jo o (64*a+m) Y (I .u8 (px^^^kx).toNat);rw[Tn,ad,List.map_set];exact h
   case measure=>simp[jv];omega
  have hd:=aw ((m:jd)<(E:jd));have ad:m=E:=Y;have UX:jk (wr.ownsRow (w.heap.size+2) 5 1 (jb (ja ⟨d,0,A⟩) l.length c) l.length ((fB f i l (min (64*(a+1)) l.length)).map v8)):=by
   have h:=o;rw[ad,bg]at h;exact h
  have U:jt wr q 233 (I jV (y.toNat:jd)):=(M.block _ (by have:=a2 d T;show q≠d;omega)).trans UJ;have b1:=U.cell;have b2:=U.frozen;have bA:=O U;clear ad o U
  gi_wp2
  have bB:((y.toNat:jd)+1)%4294967296=((jY 32 (1+(a+1))).toNat:jd):=by rw[bd,qC,qC];omega
  rw[bB];have bC:¬Ψ d:=bf d T;have U:∀k,k<u.heap.size->k≠d->k≠q->(wr.setCell ⟨q,0,A⟩ (I jV ((jY 32 (1+(a+1))).toNat:jd))).heap[k]?=u.heap[k]?:=λk h1 h2 h3=>by
   rw[q7 _ _ _ _ (show k≠q from h3),M.block k h2,Ur.block k h1]
  have bh:u.heap.size<=(wr.setCell ⟨q,0,A⟩ (I jV ((jY 32 (1+(a+1))).toNat:jd))).heap.size:=by
   have h1:=Ur.size;have h2:=M.size;simp only[World.setCell,Array.size_modify];omega
  have b3:=a1.out;have b4:=a2 d T;have bi:=U3.out;have ad:jl 0 u (wr.setCell ⟨q,0,A⟩ (I jV ((jY 32 (1+(a+1))).toNat:jd))):=
   ((Ur.mono (jJ _)).trans (M.below (jJ _))).setCell (jJ _) _
  refine⟨⟨⟨bh,λk o t hA ho=>?_⟩,ad,λk t=>?_⟩,⟨?_,bf⟩,⟨?_,a3⟩,⟨?_,bb⟩,⟨?_,bc⟩,?_,hΨ⟩
  ·exact(U k (jK.1 hA).1 Y Y).trans hA
  ·exact U k (Yt k t) (λe=>bC (e▸t)) (λe=>a3 (e▸t))
  ·show World.ownsRow _ _ _ _ _ _ (List.map v8 (fB f i l (min (64*(s++[a]).length) l.length)))
   rw[bi];exact Mj UX q (λe=>by
    have h:d=q:=by simpa [qd]using e.symm
    omega) _
  ·show jt _ _ _ (I jV ((jY 32 (1+(s++[a]).length)).toNat:jd))
   rw[bi];exact bA.set _
  ·exact(U _ (jK.1 HK).1 (by have:=(z.lt d T).1;omega) Y).trans HK
  ·exact(U _ (jK.1 HN).1 (by have:=(z.lt d T).1;omega) Y).trans HN
  refine YM.trans ⟨ad.os,ad.tape,ad.output,bh,λk t=>?_⟩;exact U k (cV YM.size) (by have:=(z.lt d T).1;omega) Y
 case done=>
  rintro D xs Ψ W k rfl ⟨⟨B,ZJ⟩,⟨H,a3⟩,⟨R,bb⟩,⟨hN,bc⟩,K,hΨ⟩ a;have aa:fB f i l (min (64*(ms (nck l.length)).length) l.length)=k6 f i l:=by
   rw[List.length_range,Nat.min_eq_right (by unfold nck;omega)];rfl
  rw[aa]at B;have z:=O B;have YM:=O K;clear B K aa
  gi_wp2
  refine⟨by simp,.inl ⟨_,_,T,sy (b:=D) (ds:=[]) a,?_⟩⟩;refine⟨jw #[jb p l.length c,I N 0],by simp[results,results211,go_sem],_,T,?_,?_⟩
  ·exact sE (sA z _ a T) Y
  exact YM.trans (iD (aI a1))
 intro D a s Ψ W _ _ h;exact h.elim
end
def oR(a b c l:LBy):LBy:=k6 a b l++oG a b c (k6 a b l)
theorem Sz(kb nb hb l):(oR kb nb hb l).length=l.length+16:=by simp[oR,Ak,rE]
structure ly(w:jg):Prop where
 num:eP w
 start:gO w
 const:sS w
theorem ly.below(h:ly w)(a:jl w w w'):ly w':=
 ⟨h.num.below a (jn _),h.start.below a (jn _),(Lib.tabBelow_of_tabIs h.const) _ a⟩
theorem Nx(a b d l:LBy)(r v:ji)(w:jg)(f:a.length=32)(s:b.length=12)(S:d.length<=70000)(U:l.length<=65536)(q:bj w r d)(x:bj w v l)(y:ly w):
 jr jm 161 #[jq (a.map v8).toArray,jq (b.map v8).toArray,r,v] w λe w'=>
  ∃t,e=jo (jw #[t,I N 0])/\w'.ownsRow w 5 1 t (l.length+16) ((oR a b d l).map v8)/\jl w w w':=by
 have m:(a.map v8).toArray.size=32:=by simp[f]
 have n:(b.map v8).toArray.size=12:=by simp[s]
 have c:=λv w h p=>Qu a b l v w f s U h p
 have j:=λV w C p D W=>KS a b d (k6 a b l) r V w f s S (by rw[Ak];omega) C p D W
 generalize z:(a.map v8).toArray=g at m c j⊢;generalize B:(b.map v8).toArray=i at n c j⊢;have o:jl w w ((w.alloc (jc g 65)).alloc (jc i 250)):=
  ⟨rfl,rfl,rfl,by simp;omega,λk f=>by rw[jF _ _ _ (by simp;omega),jF _ _ _ f]⟩
 have E:=O o;have X:=O c;have HG:=O j;have HV:=O (x.below o);have aa:=O q;have u:=O y;have F:=O m;have H:=O n;clear c j y z B m n o x q
 go_enter func161,ntmps161
 go_upto_region 1 with fail
 refine qQ ?_;refine o8 T 65 _ T w.heap.size T 65 g (0,0) _ ((jF _ _ _ ao).trans (js w _)) mz T (by rw[F];rfl) ?_;refine o8 T 250 _ T (w.heap.size+1) T 250 i (0,0) _ (wJ w _ _) vi T (by rw[H];rfl) ?_
 go_wp2_with fail
 refine(X v _ HV.out (u.below E).const).mono ?_;rintro e m ⟨t,rfl,n,q⟩;obtain⟨x,y,rfl,ay,-⟩:=zL n;have z:l.length=(k6 a b l).length:=(Ak _ _ _).symm;have c:m.ownsRow (w.heap.size+2) 5 1 (jb x l.length y) (k6 a b l).length ((k6 a b l).map v8):=by
  rw[<-z];have j:((w.alloc (jc g 65)).alloc (jc i 250)).heap.size=w.heap.size+2:=by simp
  rw[j]at n;exact n
 have K:bj m (jb x l.length y) (k6 a b l):=bj.of_own c;have M:∀j,(jP x l.length y).ownBlock=ja j->j<m.heap.size:=λj B=>(n.lt j B).2
 have P:m.heap[w.heap.size]?=ja (jc g 65 (0,0)):=(q.block _ (by simp;omega)).trans ((jF _ _ _ ao).trans (js w _));have Q:m.heap[w.heap.size+1]?=ja (jc i 250 (0,0)):=(q.block _ ao).trans (wJ w _ _);have ad:=O c;have au:=O K;have ax:=O M;have Ym:=O P;have R:=O Q;have o:=aj E q;have VA:=O z;clear n c K M P Q q z
 go_upto_region 4 with fail
 refine qQ ?_;refine wpList_step (λK n=>?_);go_simp;refine n _ _ ?_;clear n K;refine o8 T 65 _ T w.heap.size T 65 g (0,0) _ Ym.out mz T (by rw[F];rfl) ?_;refine o8 T 250 _ T (w.heap.size+1) T 250 i (0,0) _ R.out vi T (by rw[H];rfl) ?_
 go_wp2_with fail
 refine(HG _ _ (aa.below o) au (u.below o).num (u.below o).start).mono ?_;rintro e M ⟨vt,rfl,z,n⟩;have q:=Ib ad n (λj B=>ax j B);rw[<-VA]at q;have P:w.heap.size+2<=M.heap.size:=by
  have C:=o.size;have p:=n.size;have D:=(jK.1 R).1;omega
 have Q:=O z;have K:=O q;have Ur:=aj o n;clear z q n
 go_wp2_with (at_builtin;refine DK T _ _ T (w.heap.size+2) _ _ _ T K _ (oG a b d (k6 a b l)) T Q.out (by rw[rE];omega) P ?_;intro n z c q)
 go_ret2;refine⟨n,T,?_,Ur.grown q Y (λk e=>jz Y (K.lt k e).1)⟩;rw[rE,<-j4]at c;exact sE c Y
theorem vS{b:je}{l:jh ji}{t:jH}(h:w.heap[b]?=ja (jc l.toArray t (0,0))):w.rangeAt b 0 l:=λj v a=>by
 simp[j5,h,a]
theorem gm{P:qO}(o:n0)(a:Act)(c:jH)(x:Operand)(g:o.op=.load c x)(b f:je)(h:a.eval x=jA (ja ⟨b,f,A⟩)){w:jg}(e:jh ji)(d:TypeDesc)(i:w.rangeAt b f e)
 (j:P.underlying c=ja d) (k:d.isRow=jf) (l:(P.info? c).map (·.size)=ja e.length):(qy a.eval o).run P w=.ok (.value (jq e.toArray)) w:=by
 unfold qy;simp only[g,h,Sem.run_bind,run_loadAt_mid w b f c e d i j k l,Result.andThen_ok,Sem.run_pure]

theorem Ku(n:jd)(a:0<=n)(b:n<9223372036854775808):iI n=2*n.toNat:=by unfold iI;rw[jB a]
theorem M7(n:jd)(a:n<0):iI n=2*(-(n+1)).toNat+1:=by unfold iI;rw[jI Y]
theorem P5(a:je)(b:a<18446744073709551616):bits .xor .u64 (a:jd) 0=(a:jd):=by
 have h:=bits_xor_u64_nat a 0 b Y
 simpa using h
theorem QC(a:je)(b:a<18446744073709551616):bits .xor .u64 (a:jd) 18446744073709551615=((18446744073709551615-a:je):jd):=by
 have h:=bits_xor_u64_nat a 18446744073709551615 b Y;have e:a^^^18446744073709551615=18446744073709551615-a:=by
  apply Nat.eq_of_testBit_eq
  intro i;rw[Nat.testBit_xor,show(18446744073709551615:je)=2^64-1 by decide,Nat.testBit_two_pow_sub_one,show 2^64-1-a=2^64-(a+1) by omega,Nat.testBit_two_pow_sub_succ b]
  by_cases c:i<64
  ·simp[c]
  have:a.testBit i=jp:=Nat.testBit_lt_two_pow (jN b (q9 Y (Nat.le_of_not_lt c):2^64<=2^i));simp[c,this]
 rw[e]at h;exact h
theorem II{k:IntKind}(h:x=y):Ending.returned (.int k x)=jo (.int k y):=by rw[h]
theorem Lg(n:jd)(f: -9223372036854775808<=n)(a:n<9223372036854775808)(w:jg):
 jr jm 178 #[I N n] w λe w'=>e=jo (I j7 (iI n))/\w=w':=by
 by_cases h:0<=n
 ·rw[Ku n h a]
  go_enter func178,ntmps178
  go_wp2
  go_ret;refine⟨II ?_,T⟩;have e:n/9223372036854775808=0:=Y;obtain⟨m,rfl⟩:=xi h;rw[e,show(m:jd)*2=((2*m:je):jd) by omega,P5 _ Y]
  rfl
 have b:n<0:=Y;rw[M7 n b];have g:n<= -1:=Y
 go_enter func178,ntmps178
 go_wp2
 go_ret;refine⟨II ?_,T⟩;obtain⟨m,i⟩:∃m:je,m=(2*n+18446744073709551616).toNat:=⟨_,T⟩;have c:qJ.wrap (qJ.wrap n*2)=(m:jd):=by simp only[qV];omega
 have d:qJ.wrap (n/9223372036854775808)=18446744073709551615:=by simp only[qV];omega
 rw[c,d,QC _ Y];omega
theorem M8(k:je):bits .or .u8 ((k:jd)%256) 128=(((jY 8 (k%128+128)).toNat:je):jd):=by
 have h:∀j:Fin 256,bits .or .u8 ((j.val:je):jd) 128=(((jY 8 (j.val%128+128)).toNat:je):jd):=by decide+kernel
 have e:=h ⟨k%256,qH _ Y⟩;have a:(k%256)%128=k%128:=Y;simp only[a]at e;rw[<-e]
 rfl
theorem rU(W:jg)(x:ji):cH (W.alloc (jc #[x] 5)) (jb (ja ⟨W,0,A⟩) 1 1) 1 1 [x]:=
 lA W [x] 5 (0,0) 1 1 1 rfl (jn _)
theorem Pr(f:je):∀a,a<128^(f+1)->(dc a).length<=f+1:=by
 induction f with
 |zero=>intro a b;rw[tv Y];simp
 |succ f c=>
  intro a b
  by_cases h:a<128
  ·rw[tv h];simp
  rw[IQ h];have:=c (a/128) (by rw[Nat.div_lt_iff_lt_mul Y];rw[Nat.pow_succ]at b;omega);simp;omega
theorem mi(a:je)(b:a<18446744073709551616):(dc a).length<=10:=Pr 9 a (Nat.lt_trans b L)
theorem Ai(B n b:je)(v:ji)(xs:jh ji)(w:jg)(c:w.ownsRow B 5 1 v n xs)(d:B<=w.heap.size)(s:b<18446744073709551616)(D:n<=3000000):
 jr jm 177 #[v,I j7 b] w λe w'=>∃g,e=jo g/\cG B 5 1 w w' v g (n+(dc b).length) (xs++(dc b).map v8):=by
 obtain⟨i,a⟩:=J (dc b);have p:=O (mi b s);rw[<-a]at p⊢;have t:=O a;have u:=O c;have x:=O d;clear a c d
 go_enter func177,ntmps177
 go_wp2_with fail
 go_loopw [0,1] (λd c wr=>∃(a:LBy) (k:je) (j:ji),d=j/\c=I j7 k/\k<=18446744073709551615/\jk (i=a++dc k)/\jk (cG B 5 1 w wr v j (n+a.length) (xs++a.map v8))) (λ_ c _=>(jv c).toNat)
 case atStart=>exact⟨[],b,v,T,T,by omega,O t,O (by simpa using cG.refl u)⟩
 obtain⟨a,k,j,rfl,rfl,E,l,d⟩:=hrel;have F:a.length<=10:=by have y:=p.out;rw[l,jL]at y;omega
 have q:=O (jz x d.grown.size)
 by_cases r:k<128
 ·have z:=aw ((128:jd)<=(k:jd))
  have m:=O (show i=a++[jY 8 k] by rw[l,tv r]);have c:(k:jd)=(((jY 8 k).toNat:je):jd):=by rw[qC];omega
  have o:=O c;clear c
  go_wp2_with (at_builtin;refine Hid.out ?_)
  refine O ?_;refine ow T λ_ f=>oQ _ _ T B _ _ _ T (cP d.own (ap wr _)) _ 1 [_] T (rU wr _) (by simp[j1]) (show n+a.length+1<=4000000 by omega) (jz q (ap wr _).size) λg C c=>f _ _ ?_
  replace c:=O c;clear f
  go_wp2_with fail
  go_ret;refine⟨_,T,?_⟩;have h:=d.trans (cG.after (ap wr _) c);rw[show [jE IntKind.u8 (k:jd)]=[jY 8 k].map v8 by rw[o];rfl,j6]at h;rw[m,jL,j4,<-r8];exact h
 have z:=az ((128:jd)<=(k:jd));have m:=O (show i=(a++[jY 8 (k%128+128)])++dc (k/128) by rw[l,IQ r];simp);have o:=O (M8 k)
 go_wp2_with (at_builtin;refine Hid.out ?_)
 refine O ?_;refine ow T λ_ f=>oQ _ _ T B _ _ _ T (cP d.own (ap wr _)) _ 1 [_] T (rU wr _) (by simp[j1]) (show n+a.length+1<=4000000 by omega) (jz q (ap wr _).size) λg C c=>f _ _ ?_
 replace c:=O c;clear f
 go_wp2_with fail
 refine⟨⟨a++[jY 8 (k%128+128)],k/128,_,T,?_,by omega,m,O ?_⟩,?_⟩
 ·exact qN (jE .u64) Y
 ·have h:=d.trans (cG.after (ap wr _) c)
  rw[o,j6]at h;rw[jL,j4,<-r8];exact h
 simp only[jv];omega
section
variable{i:je}
section
variable {P:qO} {ops:jZ n0} {Q:Exit->Act->jg->Prop} {md:Region.Mode} {S:jg->Prop}
abbrev eJ:=eO
theorem dj{i:je}{a:Act}{w:jg}(S:jg->Prop)(t:bE)(d:P.follows .mixedOrders=jf)(e:Region.noSelect ops=jf)
 (f:gC .any ops t (Array.replicate ops.size jp)=jf) (g:t.len<=ops.size) (b:∀c a h w,Q (.panic c) a w->Q (.panic c) h w)
 (c:S w.drew) (h:eJ P ops Q S t a w.drew):(Code.region i ops jf).wp P Q a w:=
 Je S t d e f g b c h
theorem aS{o:n0}{v:ji}{r:bE}{a:Act}{w:jg}(b:ops[i]?=ja o)(c:Region.wanted o (yielded ops a.tmps)=jf)
 (d:∀w,S w->(qy a.eval o).run P w=.ok (.value v) w) (h:eJ P ops Q S r (a.put o.dst v) w):eJ P ops Q S (.t i r) a w:=
 Sj b c d h
theorem TQ{o:n0}{r:bE}{a:Act}{w:jg}(b:ops[i]?=ja o)(c:Region.wanted o (yielded ops a.tmps)=jp)
 (h:eJ P ops Q S r (a.put o.dst ju) w):eJ P ops Q S (.t i r) a w:=
 MF b c h
theorem aE{o:n0}{r:bE}{a:Act}{w:jg}(c:ops[i]?=ja o)
 (h:∀b:Act->jg->Prop,Shut (∀a w,S w->(S w->eJ P ops Q S r a w)->b a w)->if Region.wanted o (yielded ops a.tmps)=jf then Oper.wp P o a w b Q else b (a.put o.dst ju) w):
 eJ P ops Q S (.o i r) a w:=
 MW c h
theorem N0{o:n0}{v:ji}{r:bE}{a:Act}{w:jg}{f:FuncId}{args:jZ ji}(b:ops[i]?=ja o)(c:Region.wanted o (yielded ops a.tmps)=jf)
 (he:∀w,(qy a.eval o).run P w=.ok (.enter f args) w) (d:∀w,S w->jr P f args w λe w'=>e=jo v/\w'=w) (h:eJ P ops Q S r (a.put o.dst v) w):eJ P ops Q S (.t i r) a w:=
 SI b c he d h
theorem iZ{j:je}{r y:bE}{a:Act}{w:jg}(b:eJ P ops Q S (.o i r) a w)(c:eJ P ops Q S (.o j y) a w):eJ P ops Q S (.w i j r y) a w:=
 Ta b c
end
theorem fH{p q:Prop}(k:q)(h:q->p:=by intro k;refine aS (v:=?_) rfl (by rfl) (λW' hS=>?_) ?_;rotate_left;(go_simp;with_reducible rfl);refine G ?_;exact k):p:=h k
theorem aK{p q:Prop}(k:q)(h:q->p:=by intro k;refine aS (v:=?_) rfl (by rfl) (λW' hS=>?_) ?_;rotate_left;(clear hS;go_simp;with_reducible rfl);refine G ?_;exact k):p:=h k
theorem Fu{p q:Prop}(k:q)(h:q->p:=by intro k;refine aS (v:=?_) rfl (by rfl) (λW' hS=>?_) ?_;rotate_left;(obtain⟨k0,k1,k2,k3⟩:=hS;go_simp;with_reducible rfl);refine G ?_;exact k):p:=h k
theorem Fs{p q:Prop}(k:q)(h:q->p:=by intro k;refine aS (v:=?_) rfl (by rfl) (λW' hS=>?_) ?_;rotate_left;(obtain⟨k0,k1,k2,k3,k4,k5⟩:=hS;go_simp;with_reducible rfl);refine G ?_;exact k):p:=h k
theorem wR{p q:Prop}(k:q)(h:q->p:=by intro k;refine aS (v:=?_) rfl (by rfl) (λW' hS=>?_) ?_;rotate_left;(have b0:=hS.1.1;have b1:=hS.1.2;clear hS;go_simp;with_reducible rfl);refine G ?_;exact k):p:=h k
theorem fF{p q:Prop}(k:q)(h:q->p:=by intro k;refine TQ rfl (by rfl) ?_;refine G ?_;exact k):p:=h k
end
def aH(D:je->Prop)(w:jg)(v:ji)(sz n:je)(xs:jh ji):Prop:=
 xs.length=n*sz/\∃(p:jS jM) (c:je),v=jb p n c/\n<=c/\(p=A->c=0)/\
  (0<n->∃g o,p=ja ⟨g,o,A⟩/\D g/\∀(j:je) a,xs[j]?=ja a->w.cell? ⟨g,o+j,A⟩=ja a)
theorem aH.row{D:je->Prop}{w:jg}{v:ji}{sz n:je}{xs:jh ji}(h:aH D w v sz n xs):cH w v sz n xs:=by
 obtain⟨a,p,c,b,d,f,i⟩:=h;refine⟨a,p,c,b,d,f,λj=>?_⟩;obtain⟨g,o,e,-,k⟩:=i j;exact⟨g,o,e,k⟩
theorem dV{w w':jg}{a:jM}(h:w'.heap[a.block]?=w.heap[a.block]?):w'.cell? a=w.cell? a:=by unfold j5;rw[h]
theorem aH.keep{D:je->Prop}{w w':jg}{v:ji}{sz n:je}{xs:jh ji}(h:aH D w v sz n xs)(d:∀g,D g->w'.heap[g]?=w.heap[g]?):aH D w' v sz n xs:=by
 obtain⟨f,p,c,i,k,l,m⟩:=h;refine⟨f,p,c,i,k,l,λq=>?_⟩;obtain⟨g,o,e,b,r⟩:=m q;exact⟨g,o,e,b,λj s t=>(dV (a:=⟨g,o+j,A⟩) (d g b)).trans (r j s t)⟩
theorem aH.mono{D D':je->Prop}{w:jg}{v:ji}{sz n:je}{xs:jh ji}(h:aH D w v sz n xs)(a:∀g,D g->D' g):aH D' w v sz n xs:=by
 obtain⟨b,p,c,d,f,i,j⟩:=h;refine⟨b,p,c,d,f,i,λk=>?_⟩;obtain⟨g,o,e,l,h⟩:=j k;exact⟨g,o,e,a g l,h⟩
def gU(x:Val)(a:ji):jh ji:=[I N x.k,I N x.n,jj x.s,a]
def cS:jh Val->jh ji->jh ji
 |x::xs,a::b=>gU x a++cS xs b
 |_,_=>[]
mutual
def aW(D:je->Prop)(w:jg):Val->ji->Prop
 | .mk _ _ _ l,b=>∃a,aH D w b 4 l.length (cS l a)/\aN D w l a
def aN(D:je->Prop)(w:jg):jh Val->jh ji->Prop
 |[],a=>a=[]
 |x::xs,a=>∃b c,a=b::c/\aW D w x b/\aN D w xs c
end
mutual
theorem aW.keep{D:je->Prop}{w w':jg}(b:∀g,D g->w'.heap[g]?=w.heap[g]?):∀(x:Val) (a:ji),aW D w x a->aW D w' x a
 | .mk k n s l,a,h=>by
  rw[aW]at h⊢;obtain⟨c,d,e⟩:=h;exact⟨c,d.keep b,aN.keep b l c e⟩
theorem aN.keep{D:je->Prop}{w w':jg}(b:∀g,D g->w'.heap[g]?=w.heap[g]?):∀(l:jh Val) (a:jh ji),aN D w l a->aN D w' l a
 |[],a,h=>by rw[aN]at h⊢;exact h
 |x::l,a,h=>by
  rw[aN]at h⊢;obtain⟨c,d,e,f,g⟩:=h;exact⟨c,d,e,aW.keep b x c f,aN.keep b l d g⟩
end
mutual
theorem aW.mono{D D':je->Prop}{w:jg}(b:∀g,D g->D' g):∀(x:Val) (a:ji),aW D w x a->aW D' w x a
 | .mk k n s l,a,h=>by
  rw[aW]at h⊢;obtain⟨c,d,e⟩:=h;exact⟨c,d.mono b,aN.mono b l c e⟩
theorem aN.mono{D D':je->Prop}{w:jg}(b:∀g,D g->D' g):∀(l:jh Val) (a:jh ji),aN D w l a->aN D' w l a
 |[],a,h=>by rw[aN]at h⊢;exact h
 |x::l,a,h=>by
  rw[aN]at h⊢;obtain⟨c,d,e,f,g⟩:=h;exact⟨c,d,e,aW.mono b x c f,aN.mono b l d g⟩
end
theorem aN.len{D:je->Prop}{w:jg}:∀{l:jh Val} {a:jh ji},aN D w l a->a.length=l.length
 |[],a,h=>by rw[aN]at h;rw[h];rfl
 |x::l,a,h=>by
  rw[aN]at h;obtain⟨c,d,rfl,e,b⟩:=h;simp[aN.len b]
theorem aN.at{D:je->Prop}{w:jg}:∀{l:jh Val} {a:jh ji} {i:je} {x:Val},aN D w l a->l[i]?=ja x->∃b,a[i]?=ja b/\aW D w x b
 |[],a,i,x,h,c=>by simp at c
 |y::l,a,i,x,h,c=>by
  rw[aN]at h;obtain⟨b,k,rfl,d,f⟩:=h
  cases i with
  |zero=>
   have e:y=x:=ak c;subst e;exact⟨b,T,d⟩
  |succ i=>
   obtain⟨e,g,j⟩:=aN.at (i:=i) f (ak c);exact⟨e,by simpa using g,j⟩
theorem aN.append{D:je->Prop}{w:jg}:∀{l m:jh Val} {b a:jh ji},aN D w l b->aN D w m a->aN D w (l++m) (b++a)
 |[],m,b,a,h,k=>by rw[aN]at h;rw[h];exact k
 |x::l,m,b,a,h,k=>by
  rw[aN]at h;obtain⟨c,d,rfl,e,f⟩:=h;show aN D w (x::(l++m)) (c::(d++a));rw[aN];exact⟨c,_,T,e,aN.append f k⟩
theorem aN.one{D:je->Prop}{w:jg}{x:Val}{a:ji}(h:aW D w x a):aN D w [x] [a]:=by
 rw[aN];exact⟨a,[],T,h,by rw[aN]⟩
theorem sR:∀(l m:jh Val) (a b:jh ji),a.length=l.length->cS (l++m) (a++b)=cS l a++cS m b
 |[],m,a,b,h=>by
  have:a=[]:=qt (ak h);subst this
  cases m<;>cases b<;>simp[cS]
 |x::l,m,[],b,h=>by simp at h
 |x::l,m,c::a,b,h=>by
  simp only[qc,cS,sR l m a b (ak h),j6]
theorem BF:∀(l:jh Val) (a:jh ji) (j i:je) (x:Val) (b:ji),l[j]?=ja x->a[j]?=ja b->i<4->(cS l a)[j*4+i]?=(gU x b)[i]?
 |[],a,j,i,x,b,h,_,_=>by simp at h
 |y::l,[],j,i,x,b,_,h,_=>by simp at h
 |y::l,v::a,0,i,x,b,h,c,d=>by
  have e:y=x:=ak h;have f:v=b:=ak c;subst e;subst f;show(gU y v++cS l a)[0*4+i]?=_;rw[qU,mb,qK (by simp[gU];omega)]
 |y::l,v::a,j+1,i,x,b,h,c,d=>by
  show(gU y v++cS l a)[(j+1)*4+i]?=_;have e:(gU y v).length=4:=T;rw[qL (by rw[e];omega),e,show(j+1)*4+i-4=j*4+i by omega];exact BF l a j i x b (ak h) (ak c) d
theorem aW.slice{D:je->Prop}{w:jg}{x:Val}{a:ji}(h:aW D w x a):∃b,aH D w a 4 x.l.length (cS x.l b)/\aN D w x.l b:=by
 obtain⟨k,n,s,l⟩:=x;rw[aW]at h;exact h
theorem aW.form{D:je->Prop}{w:jg}{x:Val}{a:ji}(h:aW D w x a):∃p c,a=jb p x.l.length c:=by
 obtain⟨b,⟨-,p,c,e,-⟩,-⟩:=h.slice;exact⟨p,c,e⟩
structure mV(a b:je)(w:jg):Prop where
 tab:∃z,w.heap[a]?=ja (jc #[z,.func (.func 176) #[] #[],.func (.func 179) #[] #[],.func (.func 180) #[] #[jA (ja ⟨b,0,A⟩)]] 270 (0,0))
 ptr:w.heap[b]?=ja (jc #[jA (ja ⟨a,0,A⟩)] 199 (0,0))
theorem Ob(w:jg):
 jr jm 121 #[] w λe w'=>∃l s,e=jo (jA (ja ⟨l,0,A⟩))/\mV l s w'/\jl w w w':=by
 have B:∀(fn:Fn) (first m:jZ ji) (w:jg),(Instr.makeFunc fn first m).run jm w=.ok (.func fn first m) w:=λ_ _ _ _=>rfl
 obtain⟨b,a⟩:=J ((w.alloc (jc #[.nilFunc,.nilFunc,.nilFunc,.nilFunc] 270)).alloc (jc #[jA (ja ⟨w,0,A⟩)] 199));have t:b.heap.size=w.heap.size+2:=by rw[a];simp
 have n:b.heap[w.heap.size]?=ja (jc #[.nilFunc,.nilFunc,.nilFunc,.nilFunc] 270 (0,0)):=by
  rw[a,jF _ _ _ ao];exact js w _
 have c:b.heap[w.heap.size+1]?=ja (jc #[jA (ja ⟨w,0,A⟩)] 199 (0,0)):=by
  rw[a];have:=js (w.alloc (jc #[.nilFunc,.nilFunc,.nilFunc,.nilFunc] 270)) (jc #[jA (ja ⟨w,0,A⟩)] 199);rw[jC]at this;exact this
 have o:jl w w b:=by rw[a];exact((jy _ w).alloc (jn _) _).alloc ao _
 obtain⟨C,r2,p,d⟩:=yN (P:=jm) (i:=1) (v:=.func (.func 176) #[] #[]) n L T;obtain⟨D,r3,q,f⟩:=yN (P:=jm) (i:=2) (v:=.func (.func 179) #[] #[]) p L T;obtain⟨u,E,r,g⟩:=yN (P:=jm) (i:=3) (v:=.func (.func 180) #[] #[jA (ja ⟨w.heap.size+1,0,A⟩)]) q L T;have h:=(d.block (w.heap.size+1) Y).trans c;have j:=(f.block (w.heap.size+1) Y).trans h;have k:=(g.block (w.heap.size+1) Y).trans j;have F:=ah (i:=0) h T;have H:=ah (i:=0) j T;have K:=ah (i:=0) k T;have x:=O (((o.trans (d.below (jn _))).trans (f.below (jn _))).trans (g.below (jn _)));have y:jk (mV w.heap.size (w.heap.size+1) u):=O ⟨⟨_,r⟩,k⟩;have z:=ah (i:=0) c T;rw[a]at r2 z;clear t n c o p q r d f g h j k a
 go_enter func121,ntmps121
 go_wp2
 go_ret;exact⟨_,_,T,y,x⟩
theorem aC{a:jM}{v:ji}(h:w.cell? a=ja v)(b:jl w w w'):w'.cell? a=ja v:=
 (dV (b.block _ (gg h))).trans h
theorem fU{w':jM}{b:jS je}(h:w.cell? w'=ja d)(c:w.grownBy a b)(v:b≠ja w'.block):a.cell? w'=ja d:=
 (dV (c.block _ (gg h) (λe=>v e.symm))).trans h
theorem bX(W:jg):jl W W W.drew:=⟨T,T,T,jn _,λ_ _=>rfl⟩
theorem Mw(B n:je)(v:ji)(xs:jh ji)(m:jd)(s:ByteArray)(l:ji)(w:jg)(a:w.ownsRow B 5 1 v n xs)(h:B<=w.heap.size)(z: -9223372036854775808<=m)(C:m<9223372036854775808)(S:n<=2900000):
 jr jm 176 #[v,jq #[I N 1,I N m,jj s,l]] w λe w'=>∃r,e=jo r/\cG B 5 1 w w' v r (n+(enc (.mk 1 m s [])).length) (xs++(enc (.mk 1 m s [])).map v8):=by
 have b:enc (.mk 1 m s [])=1#8::dc (iI m):=by rw[enc,jB T]
 have K:=O b;clear b;have j:=js w (jc #[I N 1,I N m,jj s,l] 135);have b:=ah (i:=1) j T;have k:=O (cP a (ap w (jc #[I N 1,I N m,jj s,l] 135)));have g:=O (ap w (jc #[I N 1,I N m,jj s,l] 135));have t:jk (v.ownBlock≠ja w.heap.size):=O (eV a (.inl (jn _)));have M:=O h;obtain⟨p,c,rfl⟩:=cO a;obtain⟨v,d⟩:=J (jP p n c);rw[<-d]at k t a;have D:=O d;clear j h a d
 go_enter func176,ntmps176
 go_upto_region 1 with fail
 obtain⟨u,d⟩:=J w.heap.size;obtain⟨a,h⟩:=J (w.alloc (jc #[I N 1,I N m,jj s,l] 135));have j:u<a.heap.size:=by rw[h,d];simp
 rw[<-h]at b k g⊢;rw[<-d]at b t⊢;have y:jk (B<=a.drew.heap.size):=O (jz M g.size);have E:jk (u<a.drew.heap.size):=O j;replace k:jk (a.drew.ownsRow B 5 1 v n xs):=O (cP k (bX a));replace g:jk (jl w w a.drew):=O (g.trans (bX a|>.mono g.size));replace b:a.drew.cell? ⟨u,1,A⟩=ja (I N m):=b;clear d h j;refine jT ?_;refine dj (λx=>x.cell? ⟨u,1,A⟩=ja (I N m)) (.t 0 (.t 3 (.t 4 (.o 1 (.o 2 (.t 5 (.o 6 (.t 7 .done)))))))) af af af L (λ_ _ _ _ h=>h) b ?_;generalize a.drew=o at b k g y E⊢;have P:=O k;rw[<-D];iterate 3 refine fH ?_
 refine aE T (λF d=>?_);go_simp;refine d _ _ (aC b (ap _ _)) λ_=>?_
 clear d;refine G ?_;refine aE T (λF d=>?_);rw[jB ai];refine oQ _ _ T B v _ _ T (cP P (ap o _)) _ 1 [_] T (rU o _) (by simp[j1]) Y (jz y (ap o _).size) λr Q j=>?_
 have q:=t.out;have H:=fU (aC b (ap o (jc #[I .u8 1] 5))) j.grown q;replace j:=O (cG.after (ap o _) j);refine d _ _ H λ_=>?_
 clear d q;refine G ?_
 (refine N0 (v:=I j7 (iI m)) (f:=178) (args:=#[I N m]) T ai (λx=>?_) (λx _=>(Lg m z C x).mono λe w' h=>⟨h.1,h.2.symm⟩) ?_;·(go_simp;try with_reducible rfl))
 refine G ?_;refine aE T (λF d=>?_);go_simp;have F:=j.grown.size;have q:=j.ne E t;refine(Ai B _ (iI m) r _ Q j.own (jz y F) (zl m z C) Y).mono ?_;rintro e U ⟨V,rfl,x⟩;have R:=fU H x.grown q;replace x:=O (j.trans x);refine d _ _ R λ_=>?_
 clear d F q;refine G ?_;refine fH ?_;refine jR ?_
 go_wp2_with fail
 go_ret;refine⟨_,T,?_⟩;have h:=cG.after g x;rw[K,jW,qW,<-D];rw[j6,show n+1+(dc (iI m)).length=n+((dc (iI m)).length+1) by omega]at h;exact h
theorem Jw(B n:je)(v:ji)(xs:jh ji)(m:jd)(s:ByteArray)(l:ji)(w:jg)(a:w.ownsRow B 5 1 v n xs)(g:B<=w.heap.size)(S:n+s.size<=2900000):
 jr jm 179 #[v,jq #[I N 2,I N m,jj s,l]] w λe w'=>∃o,e=jo o/\cG B 5 1 w w' v o (n+(enc (.mk 2 m s [])).length) (xs++(enc (.mk 2 m s [])).map v8):=by
 have b:enc (.mk 2 m s [])=2#8::(dc s.size++co s):=by rw[enc,jI L,jB T]
 have K:=O b;clear b;have u:=js w (jc #[I N 2,I N m,jj s,l] 135);have d:=ah (i:=2) u T;have k:=O (cP a (ap w (jc #[I N 2,I N m,jj s,l] 135)));have f:=O (ap w (jc #[I N 2,I N m,jj s,l] 135));have q:jk (v.ownBlock≠ja w.heap.size):=O (eV a (.inl (jn _)));have M:=O g;obtain⟨p,c,rfl⟩:=cO a;obtain⟨v,b⟩:=J (jP p n c);rw[<-b]at k q a;have D:=O b;clear u g a b
 go_enter func179,ntmps179
 go_upto_region 1 with fail
 obtain⟨x,a⟩:=J w.heap.size;obtain⟨b,g⟩:=J (w.alloc (jc #[I N 2,I N m,jj s,l] 135));have h:x<b.heap.size:=by rw[g,a];simp
 rw[<-g]at d k f⊢;rw[<-a]at d q⊢;have y:jk (B<=b.drew.heap.size):=O (jz M f.size);have z:jk (x<b.drew.heap.size):=O h;replace k:jk (b.drew.ownsRow B 5 1 v n xs):=O (cP k (bX b));replace f:jk (jl w w b.drew):=O (f.trans (bX b|>.mono f.size));replace d:b.drew.cell? ⟨x,2,A⟩=ja (jj s):=d;clear a g h;refine jT ?_;refine dj (λa=>a.cell? ⟨x,2,A⟩=ja (jj s)) (.t 0 (.t 3 (.t 4 (.t 5 (.t 6 (.t 8 (.t 9 (.o 1 (.o 2 (.o 7 (.o 10 (.t 11 .done)))))))))))) af af af L (λ_ _ _ _ h=>h) d ?_;generalize b.drew=r at d k f y z⊢;have P:=O k;rw[<-D];iterate 7 refine fH ?_
 refine aE T (λC a=>?_);go_simp;refine a _ _ (aC d (ap _ _)) λ_=>?_
 clear a;refine G ?_;refine aE T (λC a=>?_);rw[jB ai];refine oQ _ _ T B v _ _ T (cP P (ap r _)) _ 1 [_] T (rU r _) (by simp[j1]) Y (jz y (ap r _).size) λo Q g=>?_
 have t:=q.out;have E:=fU (aC d (ap r (jc #[I .u8 2] 5))) g.grown t;replace g:=O (cG.after (ap r _) g);refine a _ _ E λ_=>?_
 clear a t;refine G ?_;refine aE T (λC a=>?_);go_simp;rw[show qJ.wrap (s.size:jd)=(s.size:jd)from by rw[qV];omega];have F:=g.grown.size;have t:=g.ne z q;refine(Ai B _ s.size o _ Q g.own (jz y F) Y Y).mono ?_;rintro e U ⟨R,rfl,j⟩;have V:=mi s.size Y;have H:=fU E j.grown t;replace j:=O (g.trans j);refine a _ _ H λ_=>?_
 clear a F t;refine G ?_;refine aE T (λC a=>?_);rw[jB ai];refine Nr _ _ T B R _ _ T j.own s T Y (jz y j.grown.size) λo F t=>?_
 have C:=fU H t.grown (j.ne z q);replace t:=O (j.trans t);refine a _ _ C λ_=>?_
 clear a;refine G ?_;refine fH ?_;refine jR ?_
 go_wp2_with fail
 go_ret;refine⟨_,T,?_⟩;have h:=cG.after f t;have u:(s.data.toList.map UInt8.toBitVec)=co s:=T;rw[K,jW,qW,jL,j4,kT,<-D];rw[u,j6,j6,show n+1+(dc s.size).length+s.size=n+((dc s.size).length+s.size+1) by omega]at h;exact h
def Buf(b:je)(a:LBy)(w:jg):Prop:=LibA.IsBuffer 256 (λ_=>A) 5 b b 0 (a.map v8) w
theorem Buf.lt(h:Buf B j w):B<w.heap.size:=LibA.IsBuffer.lt h
theorem Buf.keep{b:je}{a:LBy}(h:Buf b a w)(c:jl w w w'):Buf b a w':=by
 obtain⟨e,v,f,d,g,i⟩:=h;exact⟨e,v,f,d.of_heap (c.block _ d.lt),cP g c,i⟩
theorem Buf.new(w:jg):Buf w.heap.size [] (w.alloc (jc #[jb A 0 0,I N 0,.int .i8 0] 256)):=
 LibA.zero_isBuffer (jn _) (LibA.three_whole (js w _))
theorem uP(k:r)(h:r->p:=by intro k;refine aS (v:=?_) rfl ai (λW' hS=>?_) ?_;rotate_left;(obtain⟨c0,c1⟩:=hS;go_simp;with_reducible rfl);refine G ?_;exact k):p:=h k
theorem Rf(b:je)(d:LBy)(w:jg)(h:Buf b d w):
 jr jm 215 #[jA (ja ⟨b,0,A⟩)] w λe w'=>∃v,e=jo v/\w'.ownsRow b 5 1 v (d.map v8).length (d.map v8)/\jl w w w':=by
 obtain⟨l,K,x⟩:=LibA.IsBuffer.cases h
 rcases x with⟨m,a⟩|⟨g,o,y,a,p,q,r,i,s,t,z⟩
 ·have f:=a.c0
  have j:=a.c1;rw[m];clear a l m h
  go_enter func215,ntmps215
  go_wp2
  refine jT ?_;refine dj (λc=>c.cell? ⟨b,0,A⟩=ja (jb A 0 0)/\c.cell? ⟨b,0+1,A⟩=ja (I N 0)) (.t 0 (.t 1 (.t 2 (.t 3 (.t 4 (.t 5 (.t 6 (.t 7 (.t 8 (.t 9 .done)))))))))) af af af L (λ_ _ _ _ h=>h) ⟨f,j⟩ ?_;iterate 3 refine aK ?_
  refine uP ?_;iterate 3 refine aK ?_
  refine uP ?_;iterate 2 refine aK ?_
  refine jR ?_
  go_wp2_with fail
  go_ret;exact⟨_,T,j0 _ _ _ _,bX _⟩
 have f:=a.c0;have j:=a.c1;have B:=i;unfold j3 at B;have C:=O q;have D:=O p;have E:=O i;have F:=O s;have H:=O t;obtain⟨n,k⟩:=J ((d.map v8).length);rw[<-k]at r f⊢;have u:=O k;clear a l h q p i s t z k
 go_enter func215,ntmps215
 go_wp2
 refine jT ?_;refine dj (λc=>c.cell? ⟨b,0,A⟩=ja (jb (ja ⟨g,0,A⟩) n o)/\c.cell? ⟨b,0+1,A⟩=ja (I N 0)) (.t 0 (.t 1 (.t 2 (.t 3 (.t 4 (.t 5 (.t 6 (.t 7 (.t 8 (.t 9 .done)))))))))) af af af L (λ_ _ _ _ h=>h) ⟨f,j⟩ ?_;iterate 3 refine aK ?_
 refine uP ?_;iterate 3 refine aK ?_
 refine uP ?_;iterate 2 refine aK ?_
 refine jR ?_
 go_wp2_with fail
 go_ret;exact⟨_,T,⟨by simp[u.out],.inr ⟨g,o,y,T,D,C,r,E,by rw[F];simp,by rw[rn,u];exact H⟩⟩,bX _⟩
def wrF(k:jd):je:=if k=1 then 176 else if k=2 then 179 else 180
def wrL(a:je)(k:jd):jZ ji:=if k=1 then #[]else if k=2 then #[]else #[jA (ja ⟨a,0,A⟩)]
def sc(b a:je)(x:Val):Prop:=
 ∀(B n:je) (v:ji) (xs:jh ji) (c:ji) (d:jd) (w:jg),x.k=d->w.ownsRow B 5 1 v n xs->B<=w.heap.size->aW (·<B) w x c->mV b a w->b<B->a<B->n+(enc x).length<=2900000->
  jr jm (wrF x.k) (#[v,jq #[I N d,I N x.n,jj x.s,c]]++wrL a x.k) w λe w'=>∃f,e=jo f/\cG B 5 1 w w' v f (n+(enc x).length) (xs++(enc x).map v8)
theorem Dp(k:jd)(args:jZ ji)(w:jg):(callFunc (wrF k) args).run jm w=.ok (.enter (wrF k) args) w:=by
 unfold wrF
 split
 ·rfl
 split<;>rfl
theorem mV.at{a b:je}(h:mV a b w){k:jd}{m:je}(c:k=(m:jd))(e:1<=m)(f:m<=3):w.cell? ⟨a,m,A⟩=ja (.func (.func (wrF k)) #[] (wrL b k)):=by
 obtain⟨z,d⟩:=h.tab;subst c;have:m=1\/m=2\/m=3:=Y
 rcases this with rfl|rfl|rfl<;>exact ah d T
theorem mV.keep{a b:je}(h:mV a b w)(c:jl B w w')(d:a<B)(e:b<B):mV a b w':=by
 obtain⟨⟨z,f⟩,g⟩:=h;exact⟨⟨z,(c.block _ d).trans f⟩,(c.block _ e).trans g⟩
theorem ww{u:Val}(h:f[B]?=ja u):encs (f.take (B+1))=encs (f.take B)++enc u:=by
 obtain⟨a,e⟩:=xo.1 h;rw[o1 a,zf,e];simp[encs]
theorem wF(l:jh Val)(i:je):(encs (l.take i)).length<=(encs l).length:=by
 have h:=zf (l.take i) (l.drop i);rw[xq]at h;rw[h,jL];omega
theorem Pw(z t:je)(m:jd)(s:ByteArray)(l:jh Val)(j:∀x∈l,(1<=x.k/\x.k<=3)/\sc z t x):sc z t (.mk 3 m s l):=by
 intro B n v xs u kk w bi e k Q o q r b;obtain rfl:(3:jd)=kk:=bi;have a:enc (.mk 3 m s l)=3#8::(dc l.length++encs l):=by rw[enc,jI L,jI L]
 have HE:=O a;show jr jm 180 #[v,jq #[I N 3,I N m,jj s,u],jA (ja ⟨t,0,A⟩)] w _;have a4:n+((dc l.length).length+(encs l).length+1)<=2900000:=by rw[a,jW,jL]at b;omega
 have bk:=AV l;clear a b;have M:=js w (jc #[I N 3,I N m,jj s,u] 135);have a:=ah (i:=3) M T;have f:=O (cP e (ap w (jc #[I N 3,I N m,jj s,u] 135)));have b:=O (ap w (jc #[I N 3,I N m,jj s,u] 135));have HN:jk (v.ownBlock≠ja w.heap.size):=O (eV e (.inl (jn _)));have R:=O k;have Zb:=O e;have VA:=O j;obtain⟨us,a3,g⟩:=Q.slice;replace a3:aH (·<B) w u 4 l.length (cS l us):=a3;replace g:aN (·<B) w l us:=g;obtain⟨E,pu,S,y,C,F,D⟩:=a3;have a5:=O g;have Y4:=O D;have hu:u=jb pu l.length S:=y;have bl:l.length<=S:=C;obtain⟨d,h⟩:=J l.length;rw[<-h]at hu bl a4 bk;have U:=O h;subst hu;have bm:jk (n+((dc d).length+(encs l).length+1)<=2900000):=O a4;have HT:=O o;have V:=O q;have W:=O r;obtain⟨p,c,rfl⟩:=cO e;obtain⟨v,Q⟩:=J (jP p n c);rw[<-Q]at f HN Zb;have HV:=O Q;have bv:=mi d Y;have bw:d<=2900000:=Y;have H:n+30<=3000000\/2999970<n:=Y;clear M k e Q j E y C F D g h o q r H
 go_enter func180,ntmps180
 go_upto_region 1 with fail
 obtain⟨X,e⟩:=J w.heap.size;obtain⟨C,g⟩:=J (w.alloc (jc #[I N 3,I N m,jj s,jb pu d S] 135));have h:X<C.heap.size:=by rw[g,e];simp
 rw[<-g]at a f b⊢;rw[<-e]at a HN⊢;have bA:jk (X=w.heap.size):=O e;have j:jk (B<=C.drew.heap.size):=O (jz R b.size);have o:jk (X<C.drew.heap.size):=O h;replace f:jk (C.drew.ownsRow B 5 1 v n xs):=O (cP f (bX C));replace b:jk (jl w w C.drew):=O (b.trans (bX C|>.mono b.size));replace a:C.drew.cell? ⟨X,3,A⟩=ja (jb pu d S):=a;clear e g h;refine jT ?_;refine dj (λE=>E.cell? ⟨X,3,A⟩=ja (jb pu d S)) (.t 0 (.t 3 (.t 4 (.t 5 (.t 6 (.o 1 (.o 2 (.o 7 (.t 8 .done))))))))) af af af L (λ_ _ _ _ h=>h) a ?_;generalize C.drew=W1 at a f b j o⊢;have y:=O f;rw[<-HV];iterate 5 refine fH ?_
 refine aE T (λK' k=>?_);go_simp;refine k _ _ (aC a (ap _ _)) λ_=>?_
 clear k;refine G ?_;refine aE T (λK' k=>?_);rw[jB ai];refine oQ _ _ T B v _ _ T (cP y (ap W1 _)) _ 1 [_] T (rU W1 _) (by simp[j1]) Y (jz j (ap W1 _).size) λv' w5 H=>?_
 have g:=HN.out;have q:=fU (aC a (ap W1 (jc #[I .u8 3] 5))) H.grown g;replace H:=O (cG.after (ap W1 _) H);refine k _ _ q λ_=>?_
 clear k g;refine G ?_;refine aE T (λK' k=>?_);go_simp;rw[show qJ.wrap (d:jd)=(d:jd)from by rw[qV];omega];have r:=H.grown.size;have g:=H.ne o HN;refine(Ai B _ d v' _ w5 H.own (jz j r) Y Y).mono ?_;rintro e w6 ⟨v6,rfl,K⟩;have c6:=fU q K.grown g;have bB:=K.ne (jN o r) g;replace K:=O (H.trans K);refine k _ _ c6 λ_=>?_
 clear k r g;refine G ?_;refine fH ?_;refine jR ?_;replace K:jk (cG B 5 1 w w6 v v6 (n+1+(dc d).length) (xs++[I .u8 3]++(dc d).map v8)):=O (cG.after b K);clear a q f y b j o
 go_wp2_with fail
 go_loopw [0,19] (λb a wr=>∃(i:je) (vr:ji),b=vr/\a=I N i/\i<=d/\jk (cG B 5 1 w wr v vr (n+1+(dc d).length+(encs (l.take i)).length) (xs++[I .u8 3]++(dc d).map v8++(encs (l.take i)).map v8))) (λ_ a _=>d-(jv a).toNat)
 case atStart=>exact⟨0,v6,T,T,jJ _,by simpa [encs]using K⟩
 obtain⟨i,vr,rfl,rfl,hi,r⟩:=hrel
 by_cases a6:i<d
 ·have hd:=az ((i:jd)<(d:jd))
  have UN:=az (i<d);obtain⟨g,o,rfl,ax,j⟩:=Y4 (aI U);obtain⟨x,y⟩:∃x,l[i]?=ja x:=⟨l[i]'(by rw[<-U];exact a6),ob (by rw[<-U];exact a6)⟩;obtain⟨D,P,au⟩:=a5.at y;have F:=λq hq=>BF l us i q x D y P hq
  have Vk:=r.below Zb R;have Wg:∀a u,a.block<B->w.cell? a=ja u->wr.cell? a=ja u:=λa u ha hu=>(dV (Vk.block _ ha)).trans hu
  have d0:wr.cell? ⟨g,o+i*4,A⟩=ja (I N x.k):=Wg _ _ ax (j (i*4+0) _ (F 0 L));have d1:wr.cell? ⟨g,o+i*4+1,A⟩=ja (I N x.n):=Wg _ _ ax (j (i*4+1) _ (F 1 L));have d2:wr.cell? ⟨g,o+i*4+2,A⟩=ja (jj x.s):=Wg _ _ ax (j (i*4+2) _ (F 2 L));have d3:wr.cell? ⟨g,o+i*4+3,A⟩=ja D:=Wg _ _ ax (j (i*4+3) _ (F 3 L));have HI:=O y;have Vm:x∈l:=xr y;obtain⟨⟨a1,Va⟩,hw⟩:=VA x Vm;have HW:=O hw;have HX:=O (aW.keep (λb M=>Vk.block b M) x D au);have ba:=O (HT.keep Vk V W);obtain⟨aa,ad,bn⟩:=au.form;obtain⟨f,ay⟩:∃f:je,x.k=(f:jd):=⟨x.k.toNat,by omega⟩;have bb:=O ay;have bo:1<=f:=Y;have bp:f<=3:=Y;have bq:z<wr.heap.size:=jN V (jz R r.grown.size);have br:t<wr.heap.size:=jN W (jz R r.grown.size);have bc:u0.ownBlock≠ja z:=eV r.own (.inr V);have bd:u0.ownBlock≠ja t:=eV r.own (.inr W);rw[ay]at d0;subst bn;clear y P au F Vk Wg j Vm hw a1 Va ay a5 Y4
  go_upto_region 5 with fail
  obtain⟨y,ay⟩:=J wr.heap.size;have F:=js wr (jc #[I N f,I N x.n,jj x.s,jb aa x.l.length ad] 135);have UZ:=ap wr (jc #[I N f,I N x.n,jj x.s,jb aa x.l.length ad] 135);have bf:(wr.alloc (jc #[I N f,I N x.n,jj x.s,jb aa x.l.length ad] 135)).heap.size=y+1:=by rw[ay];simp
  have bs:jk (u0.ownBlock≠ja y):=O (eV r.own (.inl (qh ay.symm)));rw[<-ay]at F⊢;obtain⟨j,Zg⟩:=J (wr.alloc (jc #[I N f,I N x.n,jj x.s,jb aa x.l.length ad] 135));rw[<-Zg]at F UZ bf⊢;obtain⟨D,P⟩:=J (jP aa x.l.length ad);rw[<-P]at HX F;have bC:=O P;have au:jl wr wr j.drew:=UZ.trans ((bX j).mono UZ.size);have Vv:jk (cG B 5 1 w j.drew v u0 (n+1+(dc d).length+(encs (l.take i)).length) (xs++[I .u8 3]++(dc d).map v8++(encs (l.take i)).map v8)):=O (r.trans (cG.after au (cG.refl (cP r.own au))));have a1:B<=wr.heap.size:=jz R r.grown.size;have bg:jk (aW (·<B) j.drew x D):=O (aW.keep (λb M=>au.block b (jN M a1)) x D HX);have a2:jk (mV z t j.drew):=O (ba.keep (au.mono a1) V W);have YQ:j.drew.cell? ⟨t,0,A⟩=ja (jA (ja ⟨z,0,A⟩))/\j.drew.cell? ⟨y,0,A⟩=ja (I N f)/\j.drew.cell? ⟨y,1,A⟩=ja (I N x.n)/\j.drew.cell? ⟨y,2,A⟩=ja (jj x.s)/\j.drew.cell? ⟨y,3,A⟩=ja D/\j.drew.cell? ⟨z,f,A⟩=ja (.func (.func (wrF x.k)) #[] (wrL t x.k)):=
   ⟨ah a2.ptr rfl,ah F rfl,ah F rfl,ah F rfl,ah F rfl,a2.at bb bo bp⟩
  have bh:jk (B<=j.drew.heap.size):=O (jz a1 UZ.size);have bu:=O bd;have YA:=O bc;have bI:(f:jd)<4:=Y;clear F UZ bf au a1 bd bc HX ba r bq br d0 d1 d2 d3 Zg c6 P ay;refine jT ?_;refine dj (λE=>E.cell? ⟨t,0,A⟩=ja (jA (ja ⟨z,0,A⟩))/\E.cell? ⟨y,0,A⟩=ja (I N f)/\E.cell? ⟨y,1,A⟩=ja (I N x.n)/\E.cell? ⟨y,2,A⟩=ja (jj x.s)/\E.cell? ⟨y,3,A⟩=ja D/\E.cell? ⟨z,f,A⟩=ja (.func (.func (wrF x.k)) #[] (wrL t x.k))) (.t 0 (.t 1 (.t 2 (.t 3 (.t 4 (.t 5 (.t 6 (.t 7 (.t 8 (.o 9 (.t 10 .done))))))))))) af af af L (λ_ _ _ _ h=>h) YQ ?_;generalize j.drew=wb at YQ Vv bg a2 bh⊢;iterate 9 refine Fs ?_
  refine aE T (λK' k=>?_);have EG:=Dp x.k;go_simp;refine(HW B _ u0 _ D _ wb bb Vv.own bh bg a2 V W (by have E:=bm.out;have b:=wF l (i+1);rw[ww HI,jL]at b;omega)).mono ?_;rintro e w7 ⟨v7,rfl,b⟩;obtain⟨k0,k1,k2,k3,k4,k5⟩:=YQ;have F:=bu.out;have E:=bs.out;have P:=YA.out;refine k _ _ ⟨fU k0 b.grown F,fU k1 b.grown E,fU k2 b.grown E,fU k3 b.grown E,fU k4 b.grown E,fU k5 b.grown P⟩ λ_=>?_
  replace b:=O (Vv.trans b);clear k EG F E P;refine G ?_;refine Fs ?_;refine jR ?_
  go_wp2_with fail
  refine⟨⟨i+1,v7,T,by go_num,by omega,O ?_⟩,?_⟩
  ·have h:=b.out
   rw[ww HI,jL,j4,<-r8,<-j6];exact h
  simp only[jv];omega
 have hd:=aw ((i:jd)<(d:jd));have UN:=aw (i<d);have a:l.take i=l:=nn (by rw[<-U];omega);have b:=O a;clear a
 go_wp2_with fail
 go_ret;refine⟨_,T,?_⟩;have h:=r.out;rw[b]at h;rw[HE,jW,qW,jL,j4,<-U,<-HV];rw[j6,j6,show n+1+(dc d).length+(encs l).length=n+((dc d).length+(encs l).length+1) by omega]at h;exact h
theorem Po(e g:je):∀(f:je) (x:Val),wfV f x->(1<=x.k/\x.k<=3)/\sc e g x:=by
 have p:∀(m:jd) (s:ByteArray) (l:jh Val),-9223372036854775808<=m->m<9223372036854775808->s=emS->l=[]->sc e g (.mk 1 m s l):=by
  intro m s l a b d c B n v xs h i w j k o r t u y z;obtain rfl:(1:jd)=i:=j;subst c;have C:(enc (.mk 1 m s [])).length<=11:=by
   rw[enc,jB T,jW];have:=mi _ (zl m a b);omega
  exact Mw B n v xs m s h w k o a b Y
 have q:∀(m:jd) (s:ByteArray) (l:jh Val),l=[]->sc e g (.mk 2 m s l):=by
  intro m s l c B n v xs h i w j k o r t u y z;obtain rfl:(2:jd)=i:=j;subst c;have C:(enc (.mk 2 m s [])).length=(dc s.size).length+s.size+1:=by
   rw[enc,jI L,jB T,jW,jL,kT]
  exact Jw B n v xs m s h w k o Y
 intro f
 induction f with
 |zero=>
  rintro⟨k,m,s,l⟩ h;rw[wfV]at h
  rcases h with⟨rfl,a,b,d,c⟩|⟨rfl,rfl,a,c⟩|⟨-,-,-,-,h⟩
  ·exact⟨by simp[Val.k],p m s l a b d c⟩
  ·exact⟨by simp[Val.k],q 0 s l c⟩
  exact h.elim
 |succ f i=>
  rintro⟨k,m,s,l⟩ h;rw[wfV]at h
  rcases h with⟨rfl,a,b,d,c⟩|⟨rfl,rfl,a,c⟩|⟨rfl,rfl,d,-,h⟩
  ·exact⟨by simp[Val.k],p m s l a b d c⟩
  ·exact⟨by simp[Val.k],q 0 s l c⟩
  exact⟨by simp[Val.k],Pw e g 0 s l λx j=>i x (h x j)⟩
theorem Oi(n:jd)(b:ji)(w:jg)(d:∃p c,b=jb p 0 c):
 jr jm 175 #[jq #[I N 1,I N n,jj ⟨#[]⟩,b]] w λe w'=>e=jo (jw #[I N 0,.bool jf])/\jl w w w':=by
 obtain⟨p,c,rfl⟩:=d
 by_cases a:n=0
 ·subst a
  go_enter qz,qA
  go_wp2_with fail
  go_ret2;exact⟨T,((jy _ w).alloc (jn _) _).alloc ao _⟩
 have f:((n==0):Bool)=jp:=ak a;have g:decide (n=0)=jp:=ak a;clear a
 go_enter qz,qA
 go_wp2_with fail
 go_ret2;exact⟨T,((jy _ w).alloc (jn _) _).alloc ao _⟩
theorem NU(s:ByteArray)(b:ji)(w:jg)(d:∃p c,b=jb p 0 c):
 jr jm 175 #[jq #[I N 2,I N 0,jj s,b]] w λe w'=>e=jo (jw #[I N 0,.bool jf])/\jl w w w':=by
 obtain⟨p,c,rfl⟩:=d
 by_cases a:s.toList=[]
 ·have f:(s.toList==([]:jh UInt8))=jf:=ak a
  clear a
  go_enter qz,qA
  go_wp2_with fail
  go_ret2;exact⟨T,((jy _ w).alloc (jn _) _).alloc ao _⟩
 have f:(s.toList==([]:jh UInt8))=jp:=ak a;have hd2:decide (s.toList=[])=jp:=ak a
 go_enter qz,qA
 go_wp2_with fail
 go_ret2;exact⟨T,((jy _ w).alloc (jn _) _).alloc ao _⟩
def sU(f:je)(x:Val):Prop:=∀(a:ji) (b:jd) (w:jg),x.k=b->aW (·<w.heap.size) w x a->
 jr jm 175 #[jq #[I N b,I N x.n,jj x.s,a]] w λe w'=>∃d:je,e=jo (jw #[I N d,.bool jf])/\d<=f/\jl w w w'
theorem SS(f:je)(hf:f<=1000)(l:jh Val)(i:∀x∈l,sU f x)(au:l.length<=3000000):sU (f+1) (.mk 3 0 emS l):=by
 intro h kk w ax m;obtain rfl:(3:jd)=kk:=ax;show jr jm 175 #[jq #[I N 3,I N 0,jj ⟨#[]⟩,h]] w _;obtain⟨z,B,d⟩:=m.slice;replace B:aH (·<w.heap.size) w h 4 l.length (cS l z):=B;replace d:aN (·<w.heap.size) w l z:=d;obtain⟨r,S,C,n,o,s,p⟩:=B;have D:=O d;have E:=O p;have ay:l.length<=C:=o;obtain⟨c,e⟩:=J l.length;have F:h=jb S c C:=by rw[e];exact n
 rw[<-e]at ay au;have H:=O e;subst F;have VA:=O i;have a:jl w w ((w.alloc (jc #[I N 3,I N 0,jj ⟨#[]⟩,jb S c C] 135)).alloc (jc #[.bool jp,.bool (decide (c=0)),.bool (decide (c=0)),.bool jf] 322)):=((jy _ w).alloc (jn _) _).alloc ao _
 by_cases j:c=0
 ·have g:decide (c=0)=jf:=decide_eq_true j
  subst j;rw[g]at a;have K:=O a;clear r n o s p d e i m a g E D
  go_enter qz,qA
  go_wp2_with fail
  go_loopw [2,57] (λq b wr=>q=I N 0/\b=I N 0/\jk (jl w w wr)) (λ_ b _=>0)
  case atStart=>exact⟨T,T,K⟩
  obtain⟨rfl,rfl,k⟩:=hrel
  go_wp2_with fail
  go_ret2;exact⟨1,T,by omega,k⟩
 have g:decide (c=0)=jp:=decide_eq_false j;have a6:decide ((c:jd)=0)=jp:=ak j;have hd2:(((c:jd)==0):Bool)=jp:=ak j;rw[g]at a;have K:=O a;clear r n o s p d e i m a g
 go_enter qz,qA
 go_wp2_with fail
 go_loopw [2,57] (λq b wr=>∃i d:je,q=I N d/\b=I N i/\i<=c/\d<=f/\jk (jl w w wr)) (λ_ b _=>c-(jv b).toNat)
 case atStart=>exact⟨0,0,T,T,jJ _,jJ _,K⟩
 obtain⟨i,d,rfl,rfl,hi,hd,k⟩:=hrel
 by_cases U:i<c
 ·have a1:=az ((i:jd)<(c:jd))
  have a2:=az (i<c);obtain⟨g,o,rfl,r,m⟩:=E (aI H);obtain⟨x,s⟩:∃x,l[i]?=ja x:=⟨l[i]'(by rw[<-H];exact U),ob (by rw[<-H];exact U)⟩;obtain⟨t,V,M⟩:=D.at s;have n:=λq hq=>BF l z i q x t s V hq
  have u:=k.out;have p:∀a h,a.block<w.heap.size->w.cell? a=ja h->wr.cell? a=ja h:=λa h ha F=>(dV (u.block _ ha)).trans F
  have d0:wr.cell? ⟨g,o+i*4,A⟩=ja (I N x.k):=p _ _ r (m (i*4+0) _ (n 0 L));have d1:wr.cell? ⟨g,o+i*4+1,A⟩=ja (I N x.n):=p _ _ r (m (i*4+1) _ (n 1 L));have d2:wr.cell? ⟨g,o+i*4+2,A⟩=ja (jj x.s):=p _ _ r (m (i*4+2) _ (n 2 L));have d3:wr.cell? ⟨g,o+i*4+3,A⟩=ja t:=p _ _ r (m (i*4+3) _ (n 3 L));have HF:=O (VA x (xr s));have W:=u.size;have X:=O (aW.mono (D':=(·<wr.heap.size)) (λb (e:b<w.heap.size)=>jN e W) x t (aW.keep (λb e=>u.block b e) x t M));obtain⟨aa,ad,a3⟩:=M.form;obtain⟨v,P⟩:∃v,x.k=v:=⟨_,T⟩;obtain⟨nx,Q⟩:∃nx,x.n=nx:=⟨_,T⟩;obtain⟨y,R⟩:∃y,x.s=y:=⟨_,T⟩;rw[P]at d0;rw[Q]at d1;rw[R]at d2;have a4:=O P;have ZR:=O Q;have a5:=O R;subst a3;clear s V M n u p m P Q R D E W
  go_upto_region 9 with fail
  have m:=ap wr (jc #[I N v,I N nx,jj y,jb aa x.l.length ad] 135);have s:=O (aW.mono (D':=(·<(wr.alloc (jc #[I N v,I N nx,jj y,jb aa x.l.length ad] 135)).heap.size)) (λb (e:b<wr.heap.size)=>jN e m.size) x _ (aW.keep (λb e=>m.block b e) x _ X.out));have u:=aj k m;clear m X
  go_wp2_with fail
  have b:=HF _ _ _ a4.out s;rw[ZR,a5]at b;refine b.mono ?_;rintro e R ⟨n,rfl,V,p⟩;have M:=aj u p;obtain⟨m,P⟩:∃m:je,max (d:jd) (n:jd)=(m:jd):=⟨max d n,by omega⟩;have Q:m<=f:=Y;clear p b
  go_wp2_with fail
  refine⟨⟨i+1,m,?_,by go_num,by omega,Q,M⟩,?_⟩
  ·first|exact T|exact qN (jE .i64) P
  simp only[jv];omega
 have a1:=aw ((i:jd)<(c:jd));have a2:=aw (i<c)
 go_wp2_with fail
 go_ret2;exact⟨d+1,T,by omega,k⟩
theorem Tv:∀(f:je),f<=1000->∀x,wfV f x->(enc x).length<=3000000->sU f x:=by
 have g:∀(f:je) (m:jd),sU f (.mk 1 m emS []):=by
  intro f m a b w c d;obtain rfl:(1:jd)=b:=c;exact(Oi m a w d.form).mono λe w' h=>⟨0,h.1,jJ _,h.2⟩
 have j:∀(f:je) (s:ByteArray),sU f (.mk 2 0 s []):=by
  intro f s a b w c d;obtain rfl:(2:jd)=b:=c;exact(NU s a w d.form).mono λe w' h=>⟨0,h.1,jJ _,h.2⟩
 intro f
 induction f with
 |zero=>
  rintro -⟨k,m,s,l⟩ h d;rw[wfV]at h
  rcases h with⟨rfl,a,b,rfl,rfl⟩|⟨rfl,rfl,a,rfl⟩|⟨-,-,-,-,h⟩
  ·exact g 0 m
  ·exact j 0 s
  exact h.elim
 |succ f n=>
  rintro q ⟨k,m,s,l⟩ h d;rw[wfV]at h
  rcases h with⟨rfl,a,b,rfl,rfl⟩|⟨rfl,rfl,a,rfl⟩|⟨rfl,rfl,rfl,-,h⟩
  ·exact g _ m
  ·exact j _ s
  have e:(enc (.mk 3 0 emS l)).length=(dc l.length).length+(encs l).length+1:=by
   rw[enc,jI L,jI L,jW,jL]
  have r:=AV l;refine SS f Y l (λx c=>n Y x (h x c) ?_) Y;have:(enc x).length<=(encs l).length:=by
   obtain⟨i,o⟩:=xt c;have p:=wF l (i+1);rw[ww o,jL]at p;omega
  omega
theorem J9(x:Val)(h:ji)(a:jd)(w:jg)(i:x.k=a)(j:wfV 16 x)(f:aW (·<w.heap.size) w x h)(l:(enc x).length<=2900000):
 jr jm 120 #[jq #[I N a,I N x.n,jj x.s,h]] w λe w'=>e=jo (I N 0)/\jl w w w':=by
 obtain⟨p,c,rfl⟩:=f.form;have d:=ap w (jc #[I N a,I N x.n,jj x.s,jb p x.l.length c] 135);have k:=O (aW.mono (D':=(·<(w.alloc (jc #[I N a,I N x.n,jj x.s,jb p x.l.length c] 135)).heap.size)) (λb (g:b<w.heap.size)=>jN g d.size) x _ (aW.keep (λb g=>d.block b g) x _ f));have g:=O (Tv 16 L x j Y _ _ _ i k);have m:=O d;clear f d k;generalize x.n=k at*;generalize x.s=xs at*;generalize x.l.length=n at*;clear i j l
 go_enter func120,ntmps120
 go_wp2_with fail
 refine g.mono ?_;rintro e i ⟨d,rfl,j,b⟩;have f:=aj m b;have l:=aw ((16:jd)<(d:jd));clear b
 go_wp2_with fail
 go_ret;exact⟨T,f⟩
theorem Fo(x:Val)(u:ji)(q:jd)(w:jg)(h:x.k=q)(j:wfV 16 x)(a:aW (·<w.heap.size) w x u)(H:(enc x).length<=2900000):
 jr jm 60 #[jq #[I N q,I N x.n,jj x.s,u]] w λe w'=>∃v,e=jo (jw #[v,I N 0])/\w'.ownsRow w 5 1 v (enc x).length ((enc x).map v8)/\jl w w w':=by
 obtain⟨p,c,rfl⟩:=a.form;have y:=O (λr s=>Po r s 16 x j);obtain⟨o,t⟩:=(y 0 0).1;obtain⟨d,K⟩:∃d:je,q=(d:jd):=⟨q.toNat,by omega⟩;have M:1<=d:=Y;have P:d<=3:=Y;have aa:(d:jd)<4:=Y;subst K;have B:=O h;have g:=ap w (jc #[I N d,I N x.n,jj x.s,jb p x.l.length c] 135);have k:=js w (jc #[I N d,I N x.n,jj x.s,jb p x.l.length c] 135);have C:=O a;have l:=O (J9 x _ _ _ h j (aW.mono (D':=(·<(w.alloc (jc #[I N d,I N x.n,jj x.s,jb p x.l.length c] 135)).heap.size)) (λb (f:b<w.heap.size)=>jN f g.size) x _ (aW.keep (λb f=>g.block b f) x _ a)) H);have m:=O g;have n:=O k;clear a g k o t h j;obtain⟨D,a⟩:=J x.n;obtain⟨xs,g⟩:=J x.s;obtain⟨E,h⟩:=J x.l.length;rw[<-a,<-g,<-h]at l n m⊢;rw[<-h]at C;have Q:=O a;have R:=O g;clear a g h
 go_enter func60,ntmps60
 go_wp2_with fail
 refine l.mono ?_;rintro e k ⟨rfl,g⟩;obtain⟨b,f⟩:=J w.heap.size;have a:=(g.block w.heap.size ao).trans n;rw[<-f]at a⊢;have j:=ah (i:=0) a T;have o:=ah (i:=1) a T;have t:=ah (i:=2) a T;have z:=ah (i:=3) a T;have h:=aj m g;clear g a f n l m
 go_upto_region 4 with fail
 have F:jk (jl w w k.drew):=O (h.trans ((bX k).mono h.size));have l:k.drew.cell? ⟨b,0,A⟩=ja (I N d)/\k.drew.cell? ⟨b,1,A⟩=ja (I N D)/\k.drew.cell? ⟨b,2,A⟩=ja (jj xs)/\k.drew.cell? ⟨b,3,A⟩=ja (jb p E c):=⟨j,o,t,z⟩;clear j o t z h;refine jT ?_;refine dj (λa=>a.cell? ⟨b,0,A⟩=ja (I N d)/\a.cell? ⟨b,1,A⟩=ja (I N D)/\a.cell? ⟨b,2,A⟩=ja (jj xs)/\a.cell? ⟨b,3,A⟩=ja (jb p E c)) (.t 1 (.t 2 (.t 7 (.o 0 (.o 3 (.o 4 (.o 5 (.o 6 (.o 8 (.t 9 (.t 10 .done))))))))))) af af af L (λ_ _ _ _ h=>h) l ?_;generalize k.drew=S at l F⊢;iterate 3 refine Fu ?_
 refine aE T (λm a=>?_);go_simp;refine(Ob S).mono ?_;rintro e t ⟨r,s,rfl,n,j⟩;have g:=And.intro (aC l.1 j) (And.intro (aC l.2.1 j) (And.intro (aC l.2.2.1 j) (aC l.2.2.2 j)));have U:=O n;have o:=aj F j;have V:=O (aW.keep (λb f=>o.block b f) x _ C.out);have hgt:=(jK.1 n.ptr).1;have W:r<t.heap.size:=by obtain⟨z,X⟩:=n.tab;exact(jK.1 X).1
 have ad:=n.at B M P;refine a _ _ g λ_=>?_
 clear a j n;refine G ?_;refine aE T (λm a=>?_);go_simp;refine a _ _ g λ_=>?_
 clear a;refine G ?_;refine aE T (λm a=>?_);go_simp;refine a _ _ g λ_=>?_
 clear a;refine G ?_;refine aE T (λm a=>?_);go_simp;refine a _ _ g λ_=>?_
 clear a;refine G ?_;refine aE T (λm a=>?_);go_simp;refine a _ _ g λ_=>?_
 clear a;refine G ?_;refine aE T (λm a=>?_);have EG:=Dp x.k;go_simp;have n:=y r s|>.2 t.heap.size 0 (jb A 0 0) [] _ _ t B (j0 _ _ _ _) (jn _) (aW.mono (λb (f:b<w.heap.size)=>jN f o.size) x _ V.out) U W hgt Y;rw[<-Q,<-R]at n;refine n.mono ?_;rintro e W3 ⟨v3,rfl,j⟩;have Uu:=O (o.trans ((j.below (j0 _ _ _ _) (jn _)).mono o.size));have m:(jP A 0 0).ownBlock≠ja b:=by simp[qd]
 have c3:=And.intro (fU g.1 j.grown m) (And.intro (fU g.2.1 j.grown m) (And.intro (fU g.2.2.1 j.grown m) (fU g.2.2.2 j.grown m)));replace j:=O j;refine a _ _ c3 λ_=>?_
 clear a EG n;refine G ?_;iterate 2 refine Fu ?_
 refine jR ?_
 go_wp2_with fail
 go_ret2;refine⟨_,T,?_,Uu⟩;have h:=j.own;rw[mb,qb]at h;exact sE h o.size
theorem Q5(l:LBy):Bw l=ofB l:=by
 unfold Bw ofB strOfNums rO;rw[List.map_map]
 congr 1
 congr 1
 refine List.map_congr_left λb _=>?_
 apply UInt8.eq_of_toBitVec_eq
 simp
theorem kR(n:jd)(w:jg):
 jr jm 64 #[I N n] w λe w'=>e=jo (jq #[I N 1,I N n,jj ⟨#[]⟩,jb A 0 0])/\jl w w w':=by
 go_enter func64,ntmps64
 go_wp2_with fail
 exact jX (v:=jq #[I N 1,I N n,jj ⟨#[]⟩,jb A 0 0]) (by simp[results,results64,go_sem]) T ⟨T,(jy _ _).alloc (jn _) _⟩
theorem mW(p:jS jM)(n c:je)(w:jg):
 jr jm 61 #[jb p n c] w λe w'=>e=jo (jq #[I N 3,I N 0,jj ⟨#[]⟩,jb p n c])/\jl w w w':=by
 go_enter func61,ntmps61
 go_wp2_with fail
 exact jX (v:=jq #[I N 3,I N 0,jj ⟨#[]⟩,jb p n c]) (by simp[results,results61,go_sem]) T ⟨T,(jy _ _).alloc (jn _) _⟩
theorem vX(v:ji)(l:LBy)(w:jg)(a:bj w v l):
 jr jm 65 #[v] w λe w'=>e=jo (jq #[I N 2,I N 0,jj (ofB l),jb A 0 0])/\jl w w w':=by
 have b:=Jz (a.below (ap w (jc #[I N 0,I N 0,jj ⟨#[]⟩,jb A 0 0] 135)));rw[Q5]at b;obtain⟨p,c,rfl,-,-,-⟩:=a;obtain⟨s,d⟩:=J (ofB l);rw[<-d]at b⊢;clear d
 go_enter func65,ntmps65
 go_wp2_with fail
 exact jX (v:=jq #[I N 2,I N 0,jj s,jb A 0 0]) (by simp[results,results65,go_sem]) T ⟨T,(jy _ _).alloc (jn _) _⟩
theorem Dh:(jm.info? 135).map (λi=>(i.zero,i.size,i.bytes))=ja (ja (jq #[I N 0,I N 0,jj ⟨#[]⟩,jb A 0 0]),4,56):=by kernel_rfl
theorem pZ{w:jg}{o:n0}{a:Act}{K:Act->jg->Prop}{d:Exit->Act->jg->Prop}(s x:Operand)
 (e:o.op=.call {callee:=.builtin .append,args:=#[s,x],argTypes:=#[77,77]})
 (B:je) (v:ji) (n:je) (xs:jh ji) (f:a.eval s=v) (g:w.ownsRow B 135 4 v n xs) (b:ji) (m:je) (ys:jh ji) (i:a.eval x=b) (j:cH w b 4 m ys) (k:∀b∈ys,b.oneCell'=jf)
 (D:n+m<=4000000) (l:B<=w.heap.size) (h:∀c w',cG B 135 4 w w' v c (n+m) (xs++ys)->K (a.put o.dst c) w'):o.wp jm a w K d:=by
 obtain⟨p,q,r,t,u⟩:=qi Dh;exact nY s x 77 e B 135 p _ 4 56 wi q r t u T L v n xs f g b m ys i j k (by unfold j3;omega) Y l
  λc w' y z C=>h c w' (oB y z C)
abbrev dG:ji:=jb A 0 0
theorem lh(n:jd):aW D w (vI n) dG:=by
 rw[vI,aW];exact⟨[],⟨T,A,0,T,jn _,λ_=>rfl,λh=>jG h L⟩,by rw[aN]⟩
theorem vC(b:LBy):aW D w (vT b) dG:=by
 rw[vT,aW];exact⟨[],⟨T,A,0,T,jn _,λ_=>rfl,λh=>jG h L⟩,by rw[aN]⟩
theorem ye:∀(l:jh jd),aN D w (l.map vI) (j9 l.length dG)
 |[]=>by rw[r9,aN];rfl
 |x::l=>by
  rw[qW,aN];exact⟨dG,_,T,lh x,ye l⟩
def ij(l:jh jd):jh ji:=cS (l.map vI) (j9 l.length dG)
theorem IZ(l:jh jd)(n:jd):ij (l++[n])=ij l++[I N 1,I N n,jj ⟨#[]⟩,jb A 0 0]:=by
 unfold ij;rw[j4,jL,show j9 (l.length+[n].length) dG=j9 l.length dG++[dG] by simp[List.replicate_succ']];rw[sR _ _ _ _ ao]
 rfl
theorem tH(l:jh jd)(v:ji)(w:jg)(u:dh w v l)(x:l.length<=1000000):
 jr jm 63 #[v] w λe w'=>∃j,e=jo j/\w'.ownsRow w 135 4 j l.length (ij l)/\jl w w w':=by
 obtain⟨p,c,rfl,z,a⟩:=u;obtain⟨n,b⟩:=J l.length;rw[<-b]at z x a⊢;have k:=O b;have m:=O a;clear b a
 go_enter func63,ntmps63
 go_wp2_with fail
 go_loopw [3,8] (λa v8 wr=>∃(i:je) (f:ji),a=f/\v8=I N i/\i<=n/\jk (wr.ownsRow w 135 4 f i (ij (l.take i)))/\jk (jl w w wr)) (λ_ v8 _=>n-(jv v8).toNat)
 case atStart=>exact⟨0,_,T,T,jJ _,O (by simpa [ij,cS]using j0 w w.heap.size 135 4),O (jy _ _)⟩
 obtain⟨i,f,rfl,rfl,H,q,b⟩:=hrel
 by_cases r:i<n
 ·have B:=az ((i:jd)<(n:jd))
  have C:=az (i<n);obtain⟨g,o,rfl,s⟩:=m Y;have d:i<l.length:=by rw[<-k];exact r
  have t:l.getD i 0=l[i]:=by simp[jO,d]
  obtain⟨y,h⟩:=J (l.getD i 0);have a:=s i r;rw[<-h]at a;have K:wr.cell? ⟨g,o+i,A⟩=ja (I N y):=(dV (b.block g (gg a))).trans a;have D:jk (ij (l.take (i+1))=ij (l.take i)++[I N 1,I N y,jj ⟨#[]⟩,jb A 0 0]):=O (by
   rw[o1 d,IZ,h,t])
  have E:=b.size;clear t h a s d m
  go_wp2_with fail
  refine(kR y wr).mono ?_;rintro e a ⟨rfl,d⟩;have h:=bD q d;have t:=O (b.trans (d.mono E));have M:=d.size;clear d
  go_wp2_with (at_builtin;refine Hid.out ?_)
  refine O ?_;refine ow T λ_ s=>pZ _ _ T w.heap.size _ _ _ T (cP h (ap a _)) _ 1 [I N 1,I N y,jj ⟨#[]⟩,jb A 0 0] T (lA a [I N 1,I N y,jj ⟨#[]⟩,jb A 0 0] _ _ 4 1 1 T (jn _)) (by simp[j1]) (show i+1<=4000000 by omega) (by rw[jC];omega) λP Q d=>s _ _ ?_
  have F:=O (t.trans (((ap a _).mono (show w.heap.size<=a.heap.size by omega)).trans (d.below (cP h (ap a _)) (by rw[jC];omega))));replace d:=O d.own;clear s
  go_wp2_with fail
  refine⟨⟨i+1,_,T,by go_num,by omega,O (by rw[D];exact d),F⟩,?_⟩;simp only[jv];omega
 have B:=aw ((i:jd)<(n:jd));have C:=aw (i<n);have a:i=n:=Y;have d:=O a;clear a
 go_wp2_with fail
 go_ret;refine⟨_,T,?_,b⟩;have h:=q.out;rw[d,nn (by rw[<-k];exact jn _)]at h;exact h
section
variable{b:je}{D:je->Prop}{w w':jg}
section
variable {α:Type}
def dR(f:α->ji->jh ji):jh α->jh ji->jh ji
 |x::xs,a::b=>f x a++dR f xs b
 |_,_=>[]
theorem Dr(f:α->ji->jh ji):∀(l m:jh α) (a b:jh ji),a.length=l.length->dR f (l++m) (a++b)=dR f l a++dR f m b
 |[],m,a,b,h=>by
  have:a=[]:=qt (ak h);subst this
  cases m<;>cases b<;>simp[dR]
 |x::l,m,[],b,h=>by simp at h
 |x::l,m,c::a,b,h=>by
  simp only[qc,dR,Dr f l m a b (ak h),j6]
theorem wW(f:α->ji->jh ji)(k:je)(c:∀x a,(f x a).length=k):∀(l:jh α) (b:jh ji) (j i:je) (x:α) (a:ji),l[j]?=ja x->b[j]?=ja a->i<k->(dR f l b)[j*k+i]?=(f x a)[i]?
 |[],b,j,i,x,a,h,_,_=>by simp at h
 |y::l,[],j,i,x,a,_,h,_=>by simp at h
 |y::l,v::b,0,i,x,a,h,d,g=>by
  have e:y=x:=ak h;have m:v=a:=ak d;subst e;subst m;show(f y v++dR f l b)[0*k+i]?=_;rw[qU,mb,qK (by rw[c];exact g)]
 |y::l,v::b,j+1,i,x,a,h,d,g=>by
  show(f y v++dR f l b)[(j+1)*k+i]?=_;have m:(f y v).length=k:=c _ _;have e:(j+1)*k=k+j*k:=by rw[sa];omega
  rw[qL (by rw[m,e];omega),m,show(j+1)*k+i-k=j*k+i by omega];exact wW f k c l b j i x a (ak h) (ak d) g
theorem flat_length(f:α->jh ji)(k:je)(a:∀x,(f x).length=k)(l:jh α):(l.flatMap f).length=l.length*k:=by
 induction l with
 |nil=>simp
 |cons x l b=>rw[sh,jL,b,a,jW,sa];omega
theorem flat_get(f:α->jh ji)(k:je)(a:∀x,(f x).length=k):∀(l:jh α) (j i:je) (x:α),l[j]?=ja x->i<k->(l.flatMap f)[j*k+i]?=(f x)[i]?
 |[],j,i,x,h,_=>by simp at h
 |y::l,0,i,x,h,b=>by
  have e:y=x:=ak h;subst e;rw[sh,qU,mb,qK (by rw[a];exact b)]
 |y::l,j+1,i,x,h,b=>by
  have e:(j+1)*k=k+j*k:=by rw[sa];omega
  rw[sh,qL (by rw[a,e];omega),a,show(j+1)*k+i-k=j*k+i by omega];exact flat_get f k a l j i x (ak h) b
end
def ez(D:je->Prop)(w:jg):jh (LBy)->jh ji->Prop
 |[],a=>a=[]
 |b::e,a=>∃c d,a=c::d/\aH D w c 1 b.length (b.map v8)/\ez D w e d
theorem ez.keep(d:∀g,D g->w'.heap[g]?=w.heap[g]?):∀{c:jh (LBy)} {a:jh ji},ez D w c a->ez D w' c a
 |[],a,h=>h
 |b::c,a,⟨e,f,g,i,j⟩=>⟨e,f,g,i.keep d,j.keep d⟩
theorem ez.mono{D':je->Prop}(d:∀g,D g->D' g):∀{c:jh (LBy)} {a:jh ji},ez D w c a->ez D' w c a
 |[],a,h=>h
 |b::c,a,⟨e,f,g,i,j⟩=>⟨e,f,g,i.mono d,j.mono d⟩
theorem ez.len:∀{c:jh (LBy)} {a:jh ji},ez D w c a->a.length=c.length
 |[],a,h=>by rw[show a=[]from h];rfl
 |b::c,a,⟨f,g,d,i,e⟩=>by rw[d];simp[e.len]
theorem ez.at:∀{f:jh (LBy)} {a:jh ji} {i:je} {b:LBy},ez D w f a->f[i]?=ja b->∃c,a[i]?=ja c/\aH D w c 1 b.length (b.map v8)
 |[],a,i,x,h,d=>by simp at d
 |y::l,a,i,x,⟨c,o,g,j,k⟩,d=>by
  subst g
  rcases i with _|i
  ·have e:y=x:=ak d
   subst e;exact⟨c,T,j⟩
  obtain⟨e,m,n⟩:=k.at (i:=i) (ak d);exact⟨e,by simpa using m,n⟩
theorem ez.snoc{b:LBy}{f:ji}(e:aH D w f 1 b.length (b.map v8)):∀{d:jh (LBy)} {a:jh ji},ez D w d a->ez D w (d++[b]) (a++[f])
 |[],a,h=>by rw[show a=[]from h];exact⟨f,[],T,e,T⟩
 |x::d,a,⟨v,c,g,i,j⟩=>⟨v,c++[f],by rw[g];rfl,i,j.snoc e⟩
theorem aH.bytes{v:ji}{l:LBy}(h:aH D w v 1 l.length (l.map v8)):bj w v l:=by
 obtain⟨-,p,c,b,d,f,i⟩:=h;refine⟨p,c,b,d,f,λk=>?_⟩;obtain⟨g,o,e,-,m⟩:=i k;refine⟨g,o,e,λj a=>m j _ ?_⟩;rw[qv,ob a];simp[jO,a]
theorem aH.form{f:ji}{j:je}{d:jh ji}(h:aH D w f b j d):∃p c,f=jb p j c:=by
 obtain⟨-,p,c,a,-⟩:=h;exact⟨p,c,a⟩
theorem aH.of_own{B sz n:je}{e:jH}{v:ji}{xs:jh ji}(h:w.ownsRow B e sz v n xs)(a:∀g,v.ownBlock=ja g->D g):aH D w v sz n xs:=by
 obtain⟨b,p,c,rfl,d,f,i⟩:=cH.of_own h;refine⟨b,p,c,T,d,f,λj=>?_⟩;obtain⟨g,o,rfl,k⟩:=i j;exact⟨g,o,T,a g T,k⟩
def ar.cells(x:ar):jh ji:=[I N x.k,I N x.d,I N x.p,I N x.v,I N x.c]
def Bx.cells(x:Bx)(a:ji):jh ji:=[I N x.node,I N x.lev,I N x.u,a]
def Wl.cells(x:Wl)(a:ji):jh ji:=[I N x.dev,I N x.u,a]
structure CQ where
 vc:ji
 vp:ji
 vb:ji
 vw:ji
def aF(c:Cmt)(q:CQ):jh ji:=
 I N c.folder::I N c.epoch::(c.parent.map v8++(I N c.author::q.vc::q.vp::q.vb::q.vw::(c.confirm.map v8++[I N c.r,I N c.s])))
structure aT(D:je->Prop)(w:jg)(c:Cmt)(q:CQ):Prop where
 chg:aH D w q.vc 5 c.chg.length (c.chg.flatMap ar.cells)
 path:aH D w q.vp 1 c.path.length (c.path.map (jE .i64))
 box:∃a,aH D w q.vb 4 c.box.length (dR Bx.cells c.box a)/\ez D w (c.box.map Bx.body) a
 wel:∃a,aH D w q.vw 3 c.wel.length (dR Wl.cells c.wel a)/\ez D w (c.wel.map Wl.body) a
 plen:c.parent.length=32
 clen:c.confirm.length=32
theorem aT.keep{c:Cmt}{q:CQ}(h:aT D w c q)(a:∀g,D g->w'.heap[g]?=w.heap[g]?):aT D w' c q:=by
 obtain⟨b,d,⟨e,f,g⟩,⟨i,j,k⟩,l,m⟩:=h;exact⟨b.keep a,d.keep a,⟨e,f.keep a,g.keep a⟩,⟨i,j.keep a,k.keep a⟩,l,m⟩
theorem aT.mono{D':je->Prop}{c:Cmt}{q:CQ}(h:aT D w c q)(a:∀g,D g->D' g):aT D' w c q:=by
 obtain⟨b,d,⟨e,f,g⟩,⟨i,j,k⟩,l,m⟩:=h;exact⟨b.mono a,d.mono a,⟨e,f.mono a,g.mono a⟩,⟨i,j.mono a,k.mono a⟩,l,m⟩
theorem aT.below{c:Cmt}{q:CQ}(h:aT (·<w.heap.size) w c q)(b:jl w w w'):aT (·<w'.heap.size) w' c q:=
 (h.keep λg a=>b.block g a).mono λg (a:g<w.heap.size)=>jN a b.size
structure dQ(w:jg)(b:je)(c:Cmt)(q:CQ):Prop where
 blk:w.heap[b]?=ja (jc (aF c q).toArray 37 (0,0))
 plen:c.parent.length=32
 clen:c.confirm.length=32
theorem dl(c:Cmt)(q:CQ)(a:c.parent.length=32)(b:c.confirm.length=32):(aF c q).length=73:=by
 unfold aF;simp[a,b]
theorem dQ.keep{c:Cmt}{q:CQ}(h:dQ w b c q)(a:w'.heap[b]?=w.heap[b]?):dQ w' b c q:=⟨a.trans h.blk,h.plen,h.clen⟩
theorem dQ.get{a:Cmt}{q:CQ}(h:dQ w b a q){i:je}{v:ji}(c:(aF a q)[i]?=ja v):w.cell? ⟨b,i,A⟩=ja v:=
 ah h.blk (ak c)
theorem iy(c:Cmt)(q:CQ)(d:c.parent.length=32)(e:c.confirm.length=32):
 (aF c q)[0]?=ja (I N c.folder)/\(aF c q)[1]?=ja (I N c.epoch)/\(aF c q)[34]?=ja (I N c.author)/\(aF c q)[35]?=ja q.vc/\(aF c q)[36]?=ja q.vp/\
 (aF c q)[37]?=ja q.vb/\(aF c q)[38]?=ja q.vw/\(aF c q)[71]?=ja (I N c.r)/\(aF c q)[72]?=ja (I N c.s):=by
 have k:∀(l r:jh ji) (i:je),l.length=32->(l++r)[32+i]?=r[i]?:=λl r i f=>by
  rw[qL Y,f];congr 1;omega
 have a:(c.parent.map v8).length=32:=by rw[jD];exact d
 have b:(c.confirm.map v8).length=32:=by rw[jD];exact e
 unfold aF;refine⟨T,T,?_,?_,?_,?_,?_,?_,?_⟩
 ·exact k _ _ 0 a
 ·exact k _ _ 1 a
 ·exact k _ _ 2 a
 ·exact k _ _ 3 a
 ·exact k _ _ 4 a
 ·exact(k _ _ (5+32) a).trans (k _ _ 0 b)
 exact(k _ _ (5+33) a).trans (k _ _ 1 b)
theorem Da(c:Cmt)(q:CQ)(d:c.parent.length=32){j:je}(f:j<32):(aF c q)[2+j]?=ja (I .u8 (c.parent.getD j 0).toNat):=by
 unfold aF;have e:∀(a b:ji) (l:jh ji),(a::b::l)[2+j]?=l[j]?:=λa b l=>by rw[show 2+j=j+1+1 by omega];rfl
 rw[e,qK (by rw[jD];omega),qv,ob Y];simp[jO,d,f]
theorem NS(c:Cmt)(q:CQ)(g:c.parent.length=32)(h:c.confirm.length=32){j:je}(i:j<32):(aF c q)[39+j]?=ja (I .u8 (c.confirm.getD j 0).toNat):=by
 unfold aF;have e:∀(a b:ji) (l:jh ji),(a::b::l)[39+j]?=l[37+j]?:=λa b l=>by rw[show 39+j=37+j+1+1 by omega];rfl
 have k:(c.parent.map v8).length=32:=by rw[jD];exact g
 have m:∀(a b c d f:ji) (l:jh ji),(a::b::c::d::f::l)[5+j]?=l[j]?:=λa b c d f l=>by rw[show 5+j=j+1+1+1+1+1 by omega];rfl
 rw[e,qL Y,k,show 37+j-32=5+j by omega,m,qK (by rw[jD];omega),qv,ob Y];simp[jO,h,i]
theorem dQ.parent{c:Cmt}{q:CQ}(h:dQ w b c q):bj w (jb (ja ⟨b,2,A⟩) 32 32) c.parent:=
 ⟨_,32,by rw[h.plen],by rw[h.plen];exact jn _,(λe=>by cases e),λ_=>⟨b,2,T,λj a=>h.get (Da c q h.plen (by rw[h.plen]at a;exact a))⟩⟩
theorem dQ.confirm{c:Cmt}{q:CQ}(h:dQ w b c q):bj w (jb (ja ⟨b,39,A⟩) 32 32) c.confirm:=
 ⟨_,32,by rw[h.clen],by rw[h.clen];exact jn _,(λe=>by cases e),λ_=>⟨b,39,T,λj a=>h.get (NS c q h.plen h.clen (by rw[h.clen]at a;exact a))⟩⟩
structure Bld(M b:je)(w0 wr:jg)(l:jh Val)(a:ji)(c:jh ji):Prop where
 box:wr.heap[b]?=ja (jc #[I N 3,I N 0,jj ⟨#[]⟩,a] 135 (0,0))
 own:wr.ownsRow M 135 4 a l.length (cS l c)
 kids:aN (λg=>M<=g/\g<wr.heap.size/\a.ownBlock≠ja g) wr l c
 but:dx b M w0 wr
 sz:M<=wr.heap.size
theorem Bld.start{M a:je}(b:w.heap[a]?=ja (jc #[I N 3,I N 0,jj ⟨#[]⟩,dG] 135 (0,0)))(c:M<=w.heap.size):Bld M a w w [] dG []:=
 ⟨b,by simpa [cS]using j0 w M 135 4,by rw[aN],dx.refl _ _ _,c⟩
theorem Bld.later{j:je}{e wr:jg}{l:jh Val}{f:ji}{d:jh ji}(h:Bld b j w e l f d)(i:j<b)(a:jl e e wr):Bld b j w wr l f d:=
 ⟨(a.block j (jN i h.sz)).trans h.box,cP h.own a,aN.mono (λg M=>⟨M.1,jN M.2.1 a.size,M.2.2⟩) l d (aN.keep (λg M=>a.block g M.2.1) l d h.kids),
  h.but.trans (dx.of_below (a.mono h.sz)) (jn _),jz h.sz a.size⟩
theorem Bld.push{M j:je}{w0 c p m:jg}{l:jh Val}{n o:ji}{f:jh ji}(h:Bld M j w0 c l n f)(D:j<M){x:Val}{i:ji}
 (t:aW (λg=>M<=g/\g<c.heap.size/\n.ownBlock≠ja g) c x i) (a:cG M 135 4 c p n o (l.length+1) (cS l f++gU x i))
 (u:m.heap[j]?=ja (jc #[I N 3,I N 0,jj ⟨#[]⟩,o] 135 (0,0))) (b:pW j p m):Bld M j w0 m (l++[x]) o (f++[i]):=by
 have v:=h.kids.len;have q:∀g,(M<=g/\g<c.heap.size/\n.ownBlock≠ja g)->m.heap[g]?=c.heap[g]?:=λg d=>
  (b.block g Y).trans (a.grown.block g d.2.1 (λe=>d.2.2 e.symm))
 have r:∀g,(M<=g/\g<c.heap.size/\n.ownBlock≠ja g)->(M<=g/\g<m.heap.size/\o.ownBlock≠ja g):=λg d=>
  ⟨d.1,by rw[b.size];exact jN d.2.1 a.grown.size,a.ne d.2.1 d.2.2⟩
 refine⟨u,?_,aN.append (aN.mono r _ _ (aN.keep q _ _ h.kids)) (aN.one (aW.mono r _ _ (aW.keep q _ _ t))),?_,?_⟩
 ·have e:cS (l++[x]) (f++[i])=cS l f++gU x i:=by
   rw[sR l [x] f [i] v];simp[cS]
  rw[e,jL];have s:=a.own;refine⟨s.1,?_⟩
  rcases s.2 with k|⟨g,w,y,z,k,B,C⟩
  ·exact .inl k
  exact .inr ⟨g,w,y,z,k,(b.block g Y).trans B,C⟩
 ·refine h.but.trans ⟨b.os.trans a.grown.os,b.tape.trans a.grown.tape,b.output.trans a.grown.output,by rw[b.size];exact a.grown.size,λk s w=>?_⟩ (jn _)
  refine(b.block k w).trans (a.grown.block k (jN s h.sz) (λe=>?_));have:=(h.own.lt k e.symm).1;omega
 rw[b.size];exact jz h.sz a.grown.size
end
theorem lg{w':jS je}(h:w.heap[B]?=ja o)(b:w.grownBy a w')(c:w'≠ja B):a.heap[B]?=ja o:=
 (b.block B (jK.1 h).1 (λe=>c e.symm)).trans h
theorem av(h:w.heap[B]?=ja o)(w':jl w w a):a.heap[B]?=ja o:=
 (w'.block B (jK.1 h).1).trans h
theorem Bld.fresh{i:jg}(h:Bld B m w a f d b)(p:jl a a i){e:jH}{sz n:je}{c:ji}{xs:jh ji}(j:i.ownsRow a e sz c n xs):
 ∀g,c.ownBlock=ja g->B<=g/\g<i.heap.size/\d.ownBlock≠ja g:=λg k=>by
 obtain⟨l,o⟩:=j.lt g k;exact⟨jz h.sz l,o,λe=>by have:=(h.own.lt g e).2;omega⟩
theorem Bld.fin(h:Bld B m w a f d b):aW (λg=>B<=g/\g<a.heap.size) a (vL f) d:=by
 rw[vL,aW];exact⟨b,aH.of_own h.own (λg wr=>h.own.lt g wr),aN.mono (λg wr=>⟨wr.1,wr.2.1⟩) f b h.kids⟩
theorem sj{a:ji}{l:jh jd}(b:w.ownsRow B 135 4 a l.length (ij l))(c:∀g,a.ownBlock=ja g->D g):aW D w (vL (l.map vI)) a:=by
 rw[vL,aW];exact⟨j9 l.length dG,by rw[jD];exact aH.of_own b c,ye l⟩
theorem PU(W:jg)(l:jh jd)(t:jH):dh (W.alloc (jc (l.map (jE .i64)).toArray t)) (jb (ja ⟨W,0,A⟩) l.length l.length) l:=by
 refine⟨_,l.length,T,jn _,λ_=>⟨W.heap.size,0,T,λj a=>?_⟩⟩;refine ah (js W _) ?_;rw[mb];simp[jO,a]
theorem zu(W:jg)(xs:jh ji)(t:jH)(sz n B:je)(b:B<=W.heap.size)(a:xs.length=n*sz)(c:n<=j3):(W.alloc (jc xs.toArray t)).ownsRow B t sz (jb (ja ⟨W,0,A⟩) n n) n xs:=by
 refine⟨a,.inr ⟨W.heap.size,n,xs.toArray,T,b,js W _,jn _,c,by simpa using a,?_⟩⟩;simp[<-a]
theorem wU{α:Type}{l:jh α}{j:je}(h:j<l.length):∃x,l[j]?=ja x/\l.take (j+1)=l.take j++[x]:=
 ⟨l[j],ob h,o1 h⟩
theorem aN.nil:aN D w [] []:=by rw[aN]
theorem aN.cons{u:Val}(h:aW D w u d)(t:aN D w f b):aN D w (u::f) (d::b):=by
 rw[aN];exact⟨d,b,T,h,t⟩
theorem aH.ints{v:ji}{l:jh jd}(h:aH D w v 1 l.length (l.map (jE .i64))):dh w v l:=by
 obtain⟨-,p,c,b,d,m,f⟩:=h;refine⟨p,c,b,d,λi=>?_⟩;obtain⟨g,o,e,-,k⟩:=f i;refine⟨g,o,e,λj a=>k j _ ?_⟩;rw[qv,ob a];simp[jO,a]
def vE(w w':jg)(c:Cmt)(v:ji):Prop:=∃a,w'.ownsRow w 135 4 v 11 (cS (aP c) a)/\aN (λg=>w.heap.size<=g/\g<w'.heap.size) w' (aP c) a
theorem rt(k:r)(h:r->p:=by intro k;refine fY (v:=?_) rfl ai (λW' hS=>?_) ?_;rotate_left;(have k3:=ah (i:=3) hS.1 rfl;have e0:=ah (i:=0) hS.2 rfl;have e1:=ah (i:=1) hS.2 rfl;have e2:=ah (i:=2) hS.2 rfl;have e3:=ah (i:=3) hS.2 rfl;have e4:=ah (i:=4) hS.2 rfl;go_simp;with_reducible rfl);refine G ?_;exact k):p:=h k
theorem ua(k:r)(h:r->p:=by intro k;refine fY (v:=?_) rfl ai (λW' hS=>?_) ?_;rotate_left;(have k3:=ah (i:=3) hS.1 rfl;have e0:=ah (i:=0) hS.2 rfl;have e1:=ah (i:=1) hS.2 rfl;have e2:=ah (i:=2) hS.2 rfl;have e3:=ah (i:=3) hS.2 rfl;go_simp;with_reducible rfl);refine G ?_;exact k):p:=h k
theorem wC(k:r)(h:r->p:=by intro k;refine fY (v:=?_) rfl ai (λW' hS=>?_) ?_;rotate_left;(have k3:=ah (i:=3) hS.1 rfl;have e0:=ah (i:=0) hS.2 rfl;have e1:=ah (i:=1) hS.2 rfl;have e2:=ah (i:=2) hS.2 rfl;go_simp;with_reducible rfl);refine G ?_;exact k):p:=h k
theorem tq(c:Cmt)(q:CQ)(w:jg)(d:aT (·<w.heap.size) w c q)(l1:c.chg.length<=1000000)(l2:c.path.length<=1000000)(l3:c.box.length<=1000000)(l4:c.wel.length<=1000000):
 jr jm 25 #[jq (aF c q).toArray] w λe w'=>∃v,e=jo v/\vE w w' c v/\jl w w w':=by
 have h:dQ (w.alloc (jc (aF c q).toArray 37)) w.heap.size c q:=⟨js w _,d.plen,d.clen⟩;have i:=ap w (jc (aF c q).toArray 37);have X:=O d;have y:=O h;have C:=O i;obtain⟨UK,f⟩:=J ((aF c q).toArray);rw[<-f]at y C⊢;have bh:=O f;obtain⟨b,g⟩:=J w.heap.size;rw[<-g]at y;have YJ:=O g;clear h i d f g
 go_enter func25,ntmps25
 go_wp2_with fail
 refine(mW A 0 0 _).mono ?_;rintro e w1 ⟨rfl,d⟩;replace y:=O (y.keep (d.block b (by rw[YJ];simp)));replace C:=aj C d;clear d
 go_wp2_with fail
 refine(mW A 0 0 _).mono ?_;rintro e w2 ⟨rfl,d⟩;have f:=(jK.1 y.blk).1;replace y:=O (y.keep (d.block b f));replace C:=aj C d;clear d f
 go_wp2_with fail
 refine(mW A 0 0 _).mono ?_;rintro e w3 ⟨rfl,d⟩;have f:=(jK.1 y.blk).1;replace y:=O (y.keep (d.block b f));replace C:=aj C d;clear d f
 go_upto_region 2 with fail
 obtain⟨r,h⟩:=J w3.heap.size;have m:=js w3 (jc #[I N 3,I N 0,jj ⟨#[]⟩,jb A 0 0] 135);have bk:=js (w3.alloc (jc #[I N 3,I N 0,jj ⟨#[]⟩,jb A 0 0] 135)) (jc #[I N 3,I N 0,jj ⟨#[]⟩,jb A 0 0] 135);have Yj:=js ((w3.alloc (jc #[I N 3,I N 0,jj ⟨#[]⟩,jb A 0 0] 135)).alloc (jc #[I N 3,I N 0,jj ⟨#[]⟩,jb A 0 0] 135)) (jc #[I N 3,I N 0,jj ⟨#[]⟩,jb A 0 0] 135);have k:jl w3 w3 (((w3.alloc (jc #[I N 3,I N 0,jj ⟨#[]⟩,jb A 0 0] 135)).alloc (jc #[I N 3,I N 0,jj ⟨#[]⟩,jb A 0 0] 135)).alloc (jc #[I N 3,I N 0,jj ⟨#[]⟩,jb A 0 0] 135)):=(((jy _ w3).alloc (jn _) _).alloc ao _).alloc (by simp;omega) _;obtain⟨W,i⟩:=J ((((w3.alloc (jc #[I N 3,I N 0,jj ⟨#[]⟩,jb A 0 0] 135)).alloc (jc #[I N 3,I N 0,jj ⟨#[]⟩,jb A 0 0] 135)).alloc (jc #[I N 3,I N 0,jj ⟨#[]⟩,jb A 0 0] 135)));have n:W.heap[r]?=ja (jc #[I N 3,I N 0,jj ⟨#[]⟩,dG] 135 (0,0)):=by
  rw[i,h,jF _ _ _ (by simp;omega),jF _ _ _ ao];exact m
 have o:W.heap[r+1]?=ja (jc #[I N 3,I N 0,jj ⟨#[]⟩,dG] 135 (0,0)):=by
  rw[i,h,jF _ _ _ ao];simpa using bk
 have p:W.heap[r+2]?=ja (jc #[I N 3,I N 0,jj ⟨#[]⟩,dG] 135 (0,0)):=by
  rw[i,h];simpa using Yj
 have s:W.heap.size=r+3:=by rw[i,h];simp
 rw[<-i]at k⊢;have f:=(jK.1 y.blk).1;replace y:=O (y.keep (k.block b f));have t:w.heap.size<=r:=by rw[h];exact C.size
 replace C:=aj C k;have x:b<r:=by rw[h];exact f
 have u:=O t;have YM:=O x;have cs:=O n;have U5:=O o;have Vj:=O p;have U9:=O s;rw[<-h,<-YJ];have cp:jk (∀g,g<w.heap.size->W.heap[g]?=w.heap[g]?):=O (λg B=>C.block g B);clear m bk Yj n o p k f t x s i h;obtain⟨c0,c1,Zt,Y5,bi,a2,a3,bl,bm⟩:=iy c q X.plen X.clen;replace Y5:=y.get Y5;obtain⟨bC,p1,q1,a4,bI,bK,We⟩:=X.chg;obtain⟨n1,a5⟩:=J c.chg.length;rw[a4]at Y5;rw[<-a5]at Y5 l1 bI;have b2:=O a5;have V:=O We;clear c0 c1 Zt bi a2 a3 bl bm bC a4 bK a5 We
 go_wp2_with fail
 have Wc:=O (Bld.start (M:=(r+3)) cs (qh U9.symm))
 go_loopw [18] (λv wr=>∃(i:je) (vr:ji) (us:jh ji),v=I N i/\i<=n1/\jk (Bld (r+3) r W wr ((c.chg.take i).map ar.val) vr us)) (λv _=>n1-(jv v).toNat)
 case atStart=>exact⟨0,dG,[],T,jJ _,Wc⟩
 clear Wc Y5;obtain⟨i,vr,us,rfl,hi,m⟩:=hrel
 by_cases bn:i<n1
 ·have hd:=az ((i:jd)<(n1:jd))
  have UN:=az (i<n1);obtain⟨g,o,rfl,b3,bo⟩:=V (aI b2);obtain⟨x,hx,bp⟩:=wU (l:=c.chg) (j:=i) (by rw[<-b2];exact bn);have bq:g<(r+3):=aI u;have br:g≠r:=aI u;have Vk:=(m.but.block g bq br).trans (cp g b3);have aa:=λk hk=>(dV (a:=⟨g,o+(i*5+k),A⟩) Vk).trans (bo (i*5+k) _ ((flat_get ar.cells 5 (λ_=>rfl) c.chg i k x hx hk).trans (show x.cells[k]?=ja (x.cells.getD k (I N 0)) by have:x.cells.length=5:=T;simp[jO,ob (show k<x.cells.length by omega)])))
  have d0:wr.cell? ⟨g,o+i*5,A⟩=ja (I N x.k):=aa 0 L;have d1:wr.cell? ⟨g,o+i*5+1,A⟩=ja (I N x.d):=aa 1 L;have d2:wr.cell? ⟨g,o+i*5+2,A⟩=ja (I N x.p):=aa 2 L;have p:wr.cell? ⟨g,o+i*5+3,A⟩=ja (I N x.v):=aa 3 L;have f:wr.cell? ⟨g,o+i*5+4,A⟩=ja (I N x.c):=aa 4 L;have b4:=O bp;clear bq br Vk aa bo hx bp;obtain⟨P,Q,ad⟩:=cO m.own;have a6:((c.chg.take i).map ar.val).length=i:=by rw[jD,qg,<-b2];omega
  rw[a6]at ad;have bs:=O a6;subst ad;clear a6
  go_upto_region 5 with fail
  obtain⟨bx,ba⟩:=J wr.heap.size;have ay:=js wr (jc #[I N x.k,I N x.d,I N x.p,I N x.v,I N x.c] 55);have n:=ap wr (jc #[I N x.k,I N x.d,I N x.p,I N x.v,I N x.c] 55);have ZT:jk ((jP P i Q).ownBlock≠ja bx):=O (eV m.own (.inl (qh ba.symm)));rw[<-ba]at ay⊢;obtain⟨R,Zg⟩:=J (wr.alloc (jc #[I N x.k,I N x.d,I N x.p,I N x.v,I N x.c] 55));rw[<-Zg]at ay n⊢;have bb:=n.trans ((bX R).mono n.size);have a1:jk (Bld (r+3) r W R.drew ((c.chg.take i).map ar.val) (jb P i Q) us):=O (m.later Y bb);have E:R.drew.heap[r]?=ja (jc #[I N 3,I N 0,jj ⟨#[]⟩,jb P i Q] 135 (0,0))/\R.drew.heap[bx]?=ja (jc #[I N x.k,I N x.d,I N x.p,I N x.v,I N x.c] 55 (0,0)):=⟨a1.box,ay⟩;clear ay n Zg ba m bb d0 d1 d2 p f;refine jT ?_;refine lK (λF=>F.heap[r]?=ja (jc #[I N 3,I N 0,jj ⟨#[]⟩,jb P i Q] 135 (0,0))/\F.heap[bx]?=ja (jc #[I N x.k,I N x.d,I N x.p,I N x.v,I N x.c] 55 (0,0))) 18 [(0,jf),(1,jf),(2,jf),(3,jf),(4,jf),(5,jf),(6,jf),(7,jf),(8,jf),(9,jf),(10,jf),(11,jf),(12,jp),(13,jp),(14,jp),(15,jp),(16,jp),(17,jf),(18,jp)] af af af L (λ_ _ _ _ h=>h) E ?_;generalize R.drew=wa at E a1⊢;refine fA ?_;refine rt ?_;refine fA ?_;refine rt ?_;refine fA ?_;refine rt ?_;refine fA ?_;refine rt ?_;refine fA ?_;refine rt ?_;refine fA ?_;refine rt ?_;refine dp T (λt f=>?_);go_simp;have n:=ap wa (jc #[I N x.k,I N x.d,I N x.p,I N x.v,I N x.c] 3);have s:dh (wa.alloc (jc #[I N x.k,I N x.d,I N x.p,I N x.v,I N x.c] 3)) (jb (ja ⟨wa,0,A⟩) 5 5) [x.k,x.d,x.p,x.v,x.c]:=PU wa [x.k,x.d,x.p,x.v,x.c] 3;refine f _ _ ⟨av E.1 n,av E.2 n⟩ λS=>?_
  clear f;generalize wa.alloc (jc #[I N x.k,I N x.d,I N x.p,I N x.v,I N x.c] 3)=wb at n s S⊢;have z:=O n;have H:=O s;clear n s;refine G ?_;refine dp T (λt f=>?_);go_simp;refine(tH _ _ wb H ao).mono ?_;rintro e wc ⟨u1,rfl,D,d⟩;obtain⟨s,cu,rfl⟩:=cO D;refine f _ _ ⟨av S.1 d,av S.2 d⟩ λU=>?_
  have VX:jk (wc.ownsRow wa 135 4 (jb s 5 cu) 5 (ij [x.k,x.d,x.p,x.v,x.c])):=O (sE D z.size);have bu:=aj z d;clear f D d H z S;refine G ?_;refine dp T (λt f=>?_);go_simp;refine(mW s 5 cu wc).mono ?_;rintro e wd ⟨rfl,d⟩;refine f _ _ ⟨av U.1 d,av U.2 d⟩ λau=>?_
  have Vl:=bD VX d;have bv:=aj bu d;clear f d VX bu U;refine G ?_;refine dp T (λt f=>?_);go_simp;have n:=ap wd (jc #[I N 3,I N 0,jj ⟨#[]⟩,jb s 5 cu] 135);have ax:=lA wd [I N 3,I N 0,jj ⟨#[]⟩,jb s 5 cu] 135 (0,0) 4 1 1 T (jn _);refine f _ _ ⟨av au.1 n,av au.2 n⟩ λH=>?_
  clear f;replace ax:cH (wd.alloc (jc #[I N 3,I N 0,jj ⟨#[]⟩,jb s 5 cu] 135)) (jb (ja ⟨wd,0,A⟩) 1 1) 4 1 [I N 3,I N 0,jj ⟨#[]⟩,jb s 5 cu]:=ax;generalize wd.alloc (jc #[I N 3,I N 0,jj ⟨#[]⟩,jb s 5 cu] 135)=we at n ax H⊢;have Yx:=bD Vl n;have V8:=aj bv n;have Vd:=O ax;have UX:=O (a1.later Y V8);have b5:=O (sj (l:=[x.k,x.d,x.p,x.v,x.c]) Yx (a1.fresh V8 Yx));clear n ax Vl bv au;refine G ?_;refine dp T (λt f=>?_);rw[jB ai];refine pZ _ _ T (r+3) (jb P i Q) _ _ T UX.own _ 1 _ T Vd (by simp[j1]) (by rw[bs];omega) UX.sz λv' wf K=>?_
  have UD:=K.own;rw[bs]at UD;obtain⟨pn,cn,rfl⟩:=cO UD;have bk:=lg H.1 K.grown (eV UX.own (.inr Y));have Yj:=lg H.2 K.grown ZT;refine f _ _ ⟨bk,Yj⟩ λbM=>?_
  replace K:=O K;clear f H UD;refine G ?_;refine fA ?_;refine pD T (λt f=>?_);obtain⟨⟨vo,c3⟩,f3,bw,bA⟩:=ku (i:=3) (jb pn (i+1) cn) bM.1 ao;go_simp;refine f _ _ ?_;have b6:=O (UX.push Y (x:=ar.val x) b5 K bw bA);clear f c3 f3 bw bA;refine jR ?_
  go_wp2_with fail
  refine⟨⟨i+1,_,_,by go_num,by omega,by rw[b4,j4];exact b6⟩,?_⟩;simp only[jv];omega
 have hd:=aw ((i:jd)<(n1:jd));have UN:=aw (i<n1);have bB:c.chg.take i=c.chg:=nn (by rw[<-b2];omega);replace m:jk (Bld (r+3) r W wr (c.chg.map ar.val) vr us):=O (by rw[<-bB];exact m);clear bB V;obtain⟨bc,bd,ad⟩:=cO m.own;rw[jD,<-b2]at ad;subst ad;have b1:=O m.fin;obtain⟨M2,hM⟩:=J wr.heap.size;have VN:=O hM;have cv:(r+3)<=M2:=by rw[hM];exact m.sz
 rw[<-hM]at b1;have cg:jk (∀g,g<w.heap.size->wr.heap[g]?=w.heap[g]?):=O (λg B=>(m.but.block g (aI u) (aI u)).trans (cp g B));replace y:=O (y.keep (m.but.block b (aI YM) (aI YM)));replace C:jk (jl w w wr):=O (C.trans (m.but.below (aI u) (aI u)));have Vy:=O m.box;replace U5:=O ((m.but.block (r+1) Y Y).trans U5);replace Vj:=O ((m.but.block (r+2) Y Y).trans Vj);clear m;clear hM;rename jg=>W2;obtain⟨c0,c1,Zt,Y5,bi,a2,a3,bl,bm⟩:=iy c q X.plen X.clen;replace a2:=y.get a2;obtain⟨ub,⟨bC,p1,q1,a4,bI,bK,We⟩,b7⟩:=X.box;have cj:=O b7;clear b7;obtain⟨n2,a5⟩:=J c.box.length;rw[a4]at a2;rw[<-a5]at a2 l3 bI;have b8:=O a5;have UJ:=O We;clear c0 c1 Zt Y5 bi a3 bl bm bC a4 bK a5 We
 go_wp2_with fail
 clear bn hd UN hi;have Wc:=O (Bld.start (M:=M2) U5 (qh VN))
 go_loopw [44] (λv wr=>∃(i:je) (vr:ji) (us:jh ji),v=I N i/\i<=n2/\jk (Bld M2 (r+1) W2 wr ((c.box.take i).map Bx.val) vr us)) (λv _=>n2-(jv v).toNat)
 case atStart=>exact⟨0,dG,[],T,jJ _,Wc⟩
 clear Wc a2;obtain⟨i,vr,us,rfl,hi,m⟩:=hrel
 by_cases bn:i<n2
 ·have hd:=az ((i:jd)<(n2:jd))
  have UN:=az (i<n2);obtain⟨g,o,rfl,b3,bo⟩:=UJ (aI b8);obtain⟨x,hx,bp⟩:=wU (l:=c.box) (j:=i) (by rw[<-b8];exact bn);have bq:g<M2:=aI u;have br:g≠(r+1):=aI u;have Vk:=(m.but.block g bq br).trans (cg g b3);obtain⟨ux,b9,ZV⟩:=cj.at (i:=i) (b:=x.body) (by rw[qv,hx];rfl);obtain⟨z,D,rfl⟩:=ZV.form;have aa:=λk hk=>(dV (a:=⟨g,o+(i*4+k),A⟩) Vk).trans (bo (i*4+k) _ ((wW Bx.cells 4 (λ_ _=>rfl) c.box ub i k x _ hx b9 hk).trans (show(x.cells (jb z x.body.length D))[k]?=ja ((x.cells (jb z x.body.length D)).getD k (I N 0)) by have:(x.cells (jb z x.body.length D)).length=4:=T;simp[jO,ob (show k<(x.cells (jb z x.body.length D)).length by omega)])))
  have d0:wr.cell? ⟨g,o+i*4,A⟩=ja (I N x.node):=aa 0 L;have d1:wr.cell? ⟨g,o+i*4+1,A⟩=ja (I N x.lev):=aa 1 L;have d2:wr.cell? ⟨g,o+i*4+2,A⟩=ja (I N x.u):=aa 2 L;have p:wr.cell? ⟨g,o+i*4+3,A⟩=ja (jb z x.body.length D):=aa 3 L;clear b9;have b4:=O bp;clear bq br Vk aa bo hx bp;obtain⟨P,Q,ad⟩:=cO m.own;have a6:((c.box.take i).map Bx.val).length=i:=by rw[jD,qg,<-b8];omega
  rw[a6]at ad;have bs:=O a6;subst ad;clear a6
  go_upto_region 10 with fail
  obtain⟨bx,ba⟩:=J wr.heap.size;have ay:=js wr (jc #[I N x.node,I N x.lev,I N x.u,jb z x.body.length D] 85);have n:=ap wr (jc #[I N x.node,I N x.lev,I N x.u,jb z x.body.length D] 85);have ZT:jk ((jP P i Q).ownBlock≠ja bx):=O (eV m.own (.inl (qh ba.symm)));rw[<-ba]at ay⊢;obtain⟨R,Zg⟩:=J (wr.alloc (jc #[I N x.node,I N x.lev,I N x.u,jb z x.body.length D] 85));rw[<-Zg]at ay n⊢;have bb:=n.trans ((bX R).mono n.size);have a1:jk (Bld M2 (r+1) W2 R.drew ((c.box.take i).map Bx.val) (jb P i Q) us):=O (m.later Y bb);have bN:jk (bj R.drew (jb z x.body.length D) x.body):=O ((ZV.keep (λg B=>(bb.block g (jN (show g<M2 by have:=u.out;omega) m.sz)).trans ((m.but.block g (aI u) (aI u)).trans (cg g B)))).bytes);clear ZV;have E:R.drew.heap[(r+1)]?=ja (jc #[I N 3,I N 0,jj ⟨#[]⟩,jb P i Q] 135 (0,0))/\R.drew.heap[bx]?=ja (jc #[I N x.node,I N x.lev,I N x.u,jb z x.body.length D] 85 (0,0)):=⟨a1.box,ay⟩;clear ay n Zg ba m bb d0 d1 d2 p;refine jT ?_;refine lK (λF=>F.heap[(r+1)]?=ja (jc #[I N 3,I N 0,jj ⟨#[]⟩,jb P i Q] 135 (0,0))/\F.heap[bx]?=ja (jc #[I N x.node,I N x.lev,I N x.u,jb z x.body.length D] 85 (0,0))) 21 [(0,jf),(1,jf),(2,jf),(3,jf),(5,jf),(6,jf),(8,jf),(9,jf),(10,jf),(12,jf),(13,jf),(14,jf),(4,jp),(7,jp),(11,jp),(15,jp),(16,jp),(17,jp),(18,jp),(19,jp),(20,jf),(21,jp)] af af af L (λ_ _ _ _ h=>h) E ?_;generalize R.drew=wa at E a1 bN⊢;refine fA ?_;refine ua ?_;refine fA ?_;refine ua ?_;refine fA ?_;refine ua ?_;iterate 2 refine fA ?_
  refine ua ?_;iterate 2 refine fA ?_
  refine ua ?_;refine dp T (λt f=>?_);go_simp;refine(kR x.node wa).mono ?_;rintro e ck ⟨rfl,d⟩;refine f _ _ ⟨av E.1 d,av E.2 d⟩ λbO=>?_
  have ca:=O (d);have cb:=O (bN.below d);clear f d E bN;refine G ?_;refine dp T (λt f=>?_);go_simp;refine(kR x.lev ck).mono ?_;rintro e cm ⟨rfl,d⟩;refine f _ _ ⟨av bO.1 d,av bO.2 d⟩ λbT=>?_
  have cc:=aj ca d;have cd:=O (cb.below d);clear f d bO ca cb;refine G ?_;refine dp T (λt f=>?_);go_simp;refine(kR x.u cm).mono ?_;rintro e bg ⟨rfl,d⟩;refine f _ _ ⟨av bT.1 d,av bT.2 d⟩ λp=>?_
  have V:=aj cc d;have bf:=O (cd.below d);clear f d bT cc cd;refine G ?_;refine dp T (λt f=>?_);go_simp;refine(vX _ x.body bg bf).mono ?_;rintro e wb ⟨rfl,d⟩;refine f _ _ ⟨av p.1 d,av p.2 d⟩ λS=>?_
  have b0:=aj V d;clear f d p V bf;refine G ?_;refine dp T (λt f=>?_);go_simp;have n:=ap wb (jc #[I N 1,I N x.node,jj ⟨#[]⟩,jb A 0 0,I N 1,I N x.lev,jj ⟨#[]⟩,jb A 0 0,I N 1,I N x.u,jj ⟨#[]⟩,jb A 0 0,I N 2,I N 0,jj (ofB x.body),jb A 0 0] 135);have V:=zu wb [I N 1,I N x.node,jj ⟨#[]⟩,jb A 0 0,I N 1,I N x.lev,jj ⟨#[]⟩,jb A 0 0,I N 1,I N x.u,jj ⟨#[]⟩,jb A 0 0,I N 2,I N 0,jj (ofB x.body),jb A 0 0] 135 4 4 wa.heap.size b0.size T L;refine f _ _ ⟨av S.1 n,av S.2 n⟩ λU=>?_
  clear f;replace V:(wb.alloc (jc #[I N 1,I N x.node,jj ⟨#[]⟩,jb A 0 0,I N 1,I N x.lev,jj ⟨#[]⟩,jb A 0 0,I N 1,I N x.u,jj ⟨#[]⟩,jb A 0 0,I N 2,I N 0,jj (ofB x.body),jb A 0 0] 135)).ownsRow wa.heap.size 135 4 (jb (ja ⟨wb,0,A⟩) 4 4) 4 [I N 1,I N x.node,jj ⟨#[]⟩,jb A 0 0,I N 1,I N x.lev,jj ⟨#[]⟩,jb A 0 0,I N 1,I N x.u,jj ⟨#[]⟩,jb A 0 0,I N 2,I N 0,jj (ofB x.body),jb A 0 0]:=V;generalize wb.alloc (jc #[I N 1,I N x.node,jj ⟨#[]⟩,jb A 0 0,I N 1,I N x.lev,jj ⟨#[]⟩,jb A 0 0,I N 1,I N x.u,jj ⟨#[]⟩,jb A 0 0,I N 2,I N 0,jj (ofB x.body),jb A 0 0] 135)=wc at n V U⊢;obtain⟨s,ce⟩:∃p:jS jM,p=ja ⟨wb,0,A⟩:=⟨_,T⟩;rw[<-ce]at V⊢;have VX:=O V;have bu:=aj b0 n;clear n V ce S b0;refine G ?_;refine dp T (λt f=>?_);go_simp;refine(mW s 4 4 wc).mono ?_;rintro e wd ⟨rfl,d⟩;refine f _ _ ⟨av U.1 d,av U.2 d⟩ λau=>?_
  have Vl:=bD VX d;have bv:=aj bu d;clear f d VX bu U;refine G ?_;refine dp T (λt f=>?_);go_simp;have n:=ap wd (jc #[I N 3,I N 0,jj ⟨#[]⟩,jb s 4 4] 135);have ax:=lA wd [I N 3,I N 0,jj ⟨#[]⟩,jb s 4 4] 135 (0,0) 4 1 1 T (jn _);refine f _ _ ⟨av au.1 n,av au.2 n⟩ λH=>?_
  clear f;replace ax:cH (wd.alloc (jc #[I N 3,I N 0,jj ⟨#[]⟩,jb s 4 4] 135)) (jb (ja ⟨wd,0,A⟩) 1 1) 4 1 [I N 3,I N 0,jj ⟨#[]⟩,jb s 4 4]:=ax;generalize wd.alloc (jc #[I N 3,I N 0,jj ⟨#[]⟩,jb s 4 4] 135)=we at n ax H⊢;have Yx:=bD Vl n;have V8:=aj bv n;have Vd:=O ax;have UX:=O (a1.later Y V8);have b5:=O (show aW (λg=>M2<=g/\g<we.heap.size/\(jP P i Q).ownBlock≠ja g) we (Bx.val x) (jb s 4 4) by
   unfold Bx.val;rw[vL,aW];refine⟨j9 4 dG,aH.of_own Yx (a1.fresh V8 Yx),?_⟩;exact aN.cons (lh _) (aN.cons (lh _) (aN.cons (lh _) (aN.cons (vC _) (aN.nil)))))
  clear n ax Vl bv au;refine G ?_;refine dp T (λt f=>?_);rw[jB ai];refine pZ _ _ T M2 (jb P i Q) _ _ T UX.own _ 1 _ T Vd (by simp[j1]) (by rw[bs];omega) UX.sz λv' wf K=>?_
  have UD:=K.own;rw[bs]at UD;obtain⟨pn,cn,rfl⟩:=cO UD;have bk:=lg H.1 K.grown (eV UX.own (.inr Y));have Yj:=lg H.2 K.grown ZT;refine f _ _ ⟨bk,Yj⟩ λbM=>?_
  replace K:=O K;clear f H UD;refine G ?_;refine fA ?_;refine pD T (λt f=>?_);obtain⟨⟨vo,c3⟩,f3,bw,bA⟩:=ku (i:=3) (jb pn (i+1) cn) bM.1 ao;go_simp;refine f _ _ ?_;have b6:=O (UX.push Y (x:=Bx.val x) b5 K bw bA);clear f c3 f3 bw bA;refine jR ?_
  go_wp2_with fail
  refine⟨⟨i+1,_,_,by go_num,by omega,by rw[b4,j4];exact b6⟩,?_⟩;simp only[jv];omega
 have hd:=aw ((i:jd)<(n2:jd));have UN:=aw (i<n2);have bB:c.box.take i=c.box:=nn (by rw[<-b8];omega);replace m:jk (Bld M2 (r+1) W2 wr (c.box.map Bx.val) vr us):=O (by rw[<-bB];exact m);clear bB UJ;obtain⟨bf,bg,ad⟩:=cO m.own;rw[jD,<-b8]at ad;subst ad;have cf:=O m.fin;obtain⟨M3,hM⟩:=J wr.heap.size;have Wx:=O hM;have ct:M2<=M3:=by rw[hM];exact m.sz
 rw[<-hM]at cf;have cq:jk (∀g,g<w.heap.size->wr.heap[g]?=w.heap[g]?):=O (λg B=>(m.but.block g (aI u) (aI u)).trans (cg g B));replace y:=O (y.keep (m.but.block b (aI YM) (aI YM)));replace C:jk (jl w w wr):=O (C.trans (m.but.below (aI u) (aI u)));replace Vy:=O ((m.but.block r Y Y).trans Vy);have VR:=O m.box;replace b1:=O (aW.keep (λg B=>m.but.block g Y Y) _ _ b1.out);replace Vj:=O ((m.but.block (r+2) Y Y).trans Vj);clear m;clear hM;rename jg=>W3;obtain⟨c0,c1,Zt,Y5,bi,a2,a3,bl,bm⟩:=iy c q X.plen X.clen;replace a3:=y.get a3;obtain⟨ub,⟨bC,p1,q1,a4,bI,bK,We⟩,b7⟩:=X.wel;have cj:=O b7;clear b7;obtain⟨n3,a5⟩:=J c.wel.length;rw[a4]at a3;rw[<-a5]at a3 l4 bI;have b7:=O a5;have U2:=O We;clear c0 c1 Zt Y5 bi a2 bl bm bC a4 bK a5 We
 go_wp2_with fail
 clear bn hd UN hi;have Wc:=O (Bld.start (M:=M3) Vj (qh Wx))
 go_loopw [73] (λv wr=>∃(i:je) (vr:ji) (us:jh ji),v=I N i/\i<=n3/\jk (Bld M3 (r+1+1) W3 wr ((c.wel.take i).map Wl.val) vr us)) (λv _=>n3-(jv v).toNat)
 case atStart=>exact⟨0,dG,[],T,jJ _,Wc⟩
 clear Wc a3;obtain⟨i,vr,us,rfl,hi,m⟩:=hrel
 by_cases bn:i<n3
 ·have hd:=az ((i:jd)<(n3:jd))
  have UN:=az (i<n3);obtain⟨g,o,rfl,b3,bo⟩:=U2 (aI b7);obtain⟨x,hx,bp⟩:=wU (l:=c.wel) (j:=i) (by rw[<-b7];exact bn);have bq:g<M3:=aI u;have br:g≠(r+1+1):=aI u;have Vk:=(m.but.block g bq br).trans (cq g b3);obtain⟨ux,b9,ZV⟩:=cj.at (i:=i) (b:=x.body) (by rw[qv,hx];rfl);obtain⟨z,D,rfl⟩:=ZV.form;have aa:=λk hk=>(dV (a:=⟨g,o+(i*3+k),A⟩) Vk).trans (bo (i*3+k) _ ((wW Wl.cells 3 (λ_ _=>rfl) c.wel ub i k x _ hx b9 hk).trans (show(x.cells (jb z x.body.length D))[k]?=ja ((x.cells (jb z x.body.length D)).getD k (I N 0)) by have:(x.cells (jb z x.body.length D)).length=3:=T;simp[jO,ob (show k<(x.cells (jb z x.body.length D)).length by omega)])))
  have d0:wr.cell? ⟨g,o+i*3,A⟩=ja (I N x.dev):=aa 0 L;have d1:wr.cell? ⟨g,o+i*3+1,A⟩=ja (I N x.u):=aa 1 L;have d2:wr.cell? ⟨g,o+i*3+2,A⟩=ja (jb z x.body.length D):=aa 2 L;clear b9;have b4:=O bp;clear bq br Vk aa bo hx bp;obtain⟨P,Q,ad⟩:=cO m.own;have a6:((c.wel.take i).map Wl.val).length=i:=by rw[jD,qg,<-b7];omega
  rw[a6]at ad;have bs:=O a6;subst ad;clear a6
  go_upto_region 15 with fail
  obtain⟨bx,ba⟩:=J wr.heap.size;have ay:=js wr (jc #[I N x.dev,I N x.u,jb z x.body.length D] 88);have n:=ap wr (jc #[I N x.dev,I N x.u,jb z x.body.length D] 88);have ZT:jk ((jP P i Q).ownBlock≠ja bx):=O (eV m.own (.inl (qh ba.symm)));rw[<-ba]at ay⊢;obtain⟨R,Zg⟩:=J (wr.alloc (jc #[I N x.dev,I N x.u,jb z x.body.length D] 88));rw[<-Zg]at ay n⊢;have bb:=n.trans ((bX R).mono n.size);have a1:jk (Bld M3 (r+1+1) W3 R.drew ((c.wel.take i).map Wl.val) (jb P i Q) us):=O (m.later Y bb);have bN:jk (bj R.drew (jb z x.body.length D) x.body):=O ((ZV.keep (λg B=>(bb.block g (jN (show g<M3 by have:=u.out;omega) m.sz)).trans ((m.but.block g (aI u) (aI u)).trans (cq g B)))).bytes);clear ZV;have E:R.drew.heap[(r+1+1)]?=ja (jc #[I N 3,I N 0,jj ⟨#[]⟩,jb P i Q] 135 (0,0))/\R.drew.heap[bx]?=ja (jc #[I N x.dev,I N x.u,jb z x.body.length D] 88 (0,0)):=⟨a1.box,ay⟩;clear ay n Zg ba m bb d0 d1 d2;refine jT ?_;refine lK (λF=>F.heap[(r+1+1)]?=ja (jc #[I N 3,I N 0,jj ⟨#[]⟩,jb P i Q] 135 (0,0))/\F.heap[bx]?=ja (jc #[I N x.dev,I N x.u,jb z x.body.length D] 88 (0,0))) 18 [(0,jf),(1,jf),(2,jf),(3,jf),(5,jf),(6,jf),(7,jf),(9,jf),(10,jf),(11,jf),(4,jp),(8,jp),(12,jp),(13,jp),(14,jp),(15,jp),(16,jp),(17,jf),(18,jp)] af af af L (λ_ _ _ _ h=>h) E ?_;generalize R.drew=wa at E a1 bN⊢;refine fA ?_;refine wC ?_;refine fA ?_;refine wC ?_;iterate 2 refine fA ?_
  refine wC ?_;iterate 2 refine fA ?_
  refine wC ?_;refine dp T (λt f=>?_);go_simp;refine(kR x.dev wa).mono ?_;rintro e ck ⟨rfl,d⟩;refine f _ _ ⟨av E.1 d,av E.2 d⟩ λbO=>?_
  have ca:=O (d);have cb:=O (bN.below d);clear f d E bN;refine G ?_;refine dp T (λt f=>?_);go_simp;refine(kR x.u ck).mono ?_;rintro e cm ⟨rfl,d⟩;refine f _ _ ⟨av bO.1 d,av bO.2 d⟩ λbT=>?_
  have cc:=aj ca d;have cd:=O (cb.below d);clear f d bO ca cb;refine G ?_;refine dp T (λt f=>?_);go_simp;refine(vX _ x.body cm cd).mono ?_;rintro e wb ⟨rfl,d⟩;refine f _ _ ⟨av bT.1 d,av bT.2 d⟩ λS=>?_
  have b0:=aj cc d;clear f d bT cc cd;refine G ?_;refine dp T (λt f=>?_);go_simp;have n:=ap wb (jc #[I N 1,I N x.dev,jj ⟨#[]⟩,jb A 0 0,I N 1,I N x.u,jj ⟨#[]⟩,jb A 0 0,I N 2,I N 0,jj (ofB x.body),jb A 0 0] 135);have V:=zu wb [I N 1,I N x.dev,jj ⟨#[]⟩,jb A 0 0,I N 1,I N x.u,jj ⟨#[]⟩,jb A 0 0,I N 2,I N 0,jj (ofB x.body),jb A 0 0] 135 4 3 wa.heap.size b0.size T L;refine f _ _ ⟨av S.1 n,av S.2 n⟩ λU=>?_
  clear f;replace V:(wb.alloc (jc #[I N 1,I N x.dev,jj ⟨#[]⟩,jb A 0 0,I N 1,I N x.u,jj ⟨#[]⟩,jb A 0 0,I N 2,I N 0,jj (ofB x.body),jb A 0 0] 135)).ownsRow wa.heap.size 135 4 (jb (ja ⟨wb,0,A⟩) 3 3) 3 [I N 1,I N x.dev,jj ⟨#[]⟩,jb A 0 0,I N 1,I N x.u,jj ⟨#[]⟩,jb A 0 0,I N 2,I N 0,jj (ofB x.body),jb A 0 0]:=V;generalize wb.alloc (jc #[I N 1,I N x.dev,jj ⟨#[]⟩,jb A 0 0,I N 1,I N x.u,jj ⟨#[]⟩,jb A 0 0,I N 2,I N 0,jj (ofB x.body),jb A 0 0] 135)=wc at n V U⊢;obtain⟨s,ce⟩:∃p:jS jM,p=ja ⟨wb,0,A⟩:=⟨_,T⟩;rw[<-ce]at V⊢;have VX:=O V;have bu:=aj b0 n;clear n V ce S b0;refine G ?_;refine dp T (λt f=>?_);go_simp;refine(mW s 3 3 wc).mono ?_;rintro e wd ⟨rfl,d⟩;refine f _ _ ⟨av U.1 d,av U.2 d⟩ λau=>?_
  have Vl:=bD VX d;have bv:=aj bu d;clear f d VX bu U;refine G ?_;refine dp T (λt f=>?_);go_simp;have n:=ap wd (jc #[I N 3,I N 0,jj ⟨#[]⟩,jb s 3 3] 135);have ax:=lA wd [I N 3,I N 0,jj ⟨#[]⟩,jb s 3 3] 135 (0,0) 4 1 1 T (jn _);refine f _ _ ⟨av au.1 n,av au.2 n⟩ λH=>?_
  clear f;replace ax:cH (wd.alloc (jc #[I N 3,I N 0,jj ⟨#[]⟩,jb s 3 3] 135)) (jb (ja ⟨wd,0,A⟩) 1 1) 4 1 [I N 3,I N 0,jj ⟨#[]⟩,jb s 3 3]:=ax;generalize wd.alloc (jc #[I N 3,I N 0,jj ⟨#[]⟩,jb s 3 3] 135)=we at n ax H⊢;have Yx:=bD Vl n;have V8:=aj bv n;have Vd:=O ax;have UX:=O (a1.later Y V8);have b5:=O (show aW (λg=>M3<=g/\g<we.heap.size/\(jP P i Q).ownBlock≠ja g) we (Wl.val x) (jb s 3 3) by
   unfold Wl.val;rw[vL,aW];refine⟨j9 3 dG,aH.of_own Yx (a1.fresh V8 Yx),?_⟩;exact aN.cons (lh _) (aN.cons (lh _) (aN.cons (vC _) (aN.nil))))
  clear n ax Vl bv au;refine G ?_;refine dp T (λt f=>?_);rw[jB ai];refine pZ _ _ T M3 (jb P i Q) _ _ T UX.own _ 1 _ T Vd (by simp[j1]) (by rw[bs];omega) UX.sz λv' wf K=>?_
  have UD:=K.own;rw[bs]at UD;obtain⟨pn,cn,rfl⟩:=cO UD;have bk:=lg H.1 K.grown (eV UX.own (.inr Y));have Yj:=lg H.2 K.grown ZT;refine f _ _ ⟨bk,Yj⟩ λbM=>?_
  replace K:=O K;clear f H UD;refine G ?_;refine fA ?_;refine pD T (λt f=>?_);obtain⟨⟨vo,c3⟩,f3,bw,bA⟩:=ku (i:=3) (jb pn (i+1) cn) bM.1 ao;go_simp;refine f _ _ ?_;have b6:=O (UX.push Y (x:=Wl.val x) b5 K bw bA);clear f c3 f3 bw bA;refine jR ?_
  go_wp2_with fail
  refine⟨⟨i+1,_,_,by go_num,by omega,by rw[b4,j4];exact b6⟩,?_⟩;simp only[jv];omega
 have hd:=aw ((i:jd)<(n3:jd));have UN:=aw (i<n3);have bB:c.wel.take i=c.wel:=nn (by rw[<-b7];omega);replace m:jk (Bld M3 (r+1+1) W3 wr (c.wel.map Wl.val) vr us):=O (by rw[<-bB];exact m);clear bB U2;obtain⟨n,o,ad⟩:=cO m.own;rw[jD,<-b7]at ad;subst ad;have x:=O m.fin;have D:jk (wr.heap[r+1+1]?=ja (jc #[I N 3,I N 0,jj ⟨#[]⟩,jb n n3 o] 135 (0,0))):=O m.box;have K:jk (wr.heap[r]?=ja (jc #[I N 3,I N 0,jj ⟨#[]⟩,jb bc n1 bd] 135 (0,0))):=O ((m.but.block r Y Y).trans Vy);have P:jk (wr.heap[r+1]?=ja (jc #[I N 3,I N 0,jj ⟨#[]⟩,jb bf n2 bg] 135 (0,0))):=O ((m.but.block (r+1) Y Y).trans VR);have p:=m.sz;have z:=Wx.out;have Q:M2<=M3:=ct;replace b1:jk (aW (λg=>w.heap.size<=g/\g<wr.heap.size) wr (vL (c.chg.map ar.val)) (jb bc n1 bd)):=O (aW.mono (λg B=>⟨by have:=u.out;omega,by omega⟩) _ _ (aW.keep (λg B=>m.but.block g Y Y) _ _ b1.out));replace cf:jk (aW (λg=>w.heap.size<=g/\g<wr.heap.size) wr (vL (c.box.map Bx.val)) (jb bf n2 bg)):=O (aW.mono (λg B=>⟨by have:=u.out;omega,by omega⟩) _ _ (aW.keep (λg B=>m.but.block g Y Y) _ _ cf.out));replace x:jk (aW (λg=>w.heap.size<=g/\g<wr.heap.size) wr (vL (c.wel.map Wl.val)) (jb n n3 o)):=O (aW.mono (λg B=>⟨by have:=u.out;omega,by omega⟩) _ _ x.out);replace y:=O (y.keep (m.but.block b (aI YM) (aI YM)));replace C:jk (jl w w wr):=O (C.trans (m.but.below (aI u) (aI u)));clear p z Q
 go_upto_region 17 with fail
 obtain⟨c0,c1,Zt,Y5,bi,a2,a3,bl,bm⟩:=iy c q X.plen X.clen;have Q:=O X.path;obtain⟨bC,R,qp,a4,bI,bK,We⟩:=X.path;rw[a4]at bi Q;have Vr:jk (UK[0]?=ja (I N c.folder)):=O (by rw[bh];simpa using c0);have UW:jk (UK[1]?=ja (I N c.epoch)):=O (by rw[bh];simpa using c1);have aa:jk (UK[34]?=ja (I N c.author)):=O (by rw[bh];simpa using Zt);have ax:jk (UK[36]?=ja (jb R c.path.length qp)):=O (by rw[bh];simpa using bi);have ay:jk (UK[71]?=ja (I N c.r)):=O (by rw[bh];simpa using bl);have a1:jk (UK[72]?=ja (I N c.s)):=O (by rw[bh];simpa using bm);have p:wr.drew.heap[b]?=ja (jc UK 37 (0,0))/\wr.drew.heap[r]?=ja (jc #[I N 3,I N 0,jj ⟨#[]⟩,jb bc n1 bd] 135 (0,0))/\wr.drew.heap[r+1]?=ja (jc #[I N 3,I N 0,jj ⟨#[]⟩,jb bf n2 bg] 135 (0,0))/\wr.drew.heap[r+1+1]?=ja (jc #[I N 3,I N 0,jj ⟨#[]⟩,jb n n3 o] 135 (0,0)):=⟨by rw[bh];exact y.blk,K,P,D⟩;have z:jk (jl wr wr wr.drew):=O (bX wr);clear c0 c1 Zt Y5 bi a2 a3 bl bm bC a4 bI bK We bn hd UN hi Vy VR K P D m y;refine jT ?_;refine dj (λF=>F.heap[b]?=ja (jc UK 37 (0,0))/\F.heap[r]?=ja (jc #[I N 3,I N 0,jj ⟨#[]⟩,jb bc n1 bd] 135 (0,0))/\F.heap[r+1]?=ja (jc #[I N 3,I N 0,jj ⟨#[]⟩,jb bf n2 bg] 135 (0,0))/\F.heap[r+1+1]?=ja (jc #[I N 3,I N 0,jj ⟨#[]⟩,jb n n3 o] 135 (0,0))) (.t 0 (.t 1 (.t 3 (.t 4 (.t 6 (.t 7 (.t 9 (.t 10 (.t 12 (.t 13 (.t 14 (.t 17 (.t 18 (.t 19 (.t 20 (.t 22 (.t 23 (.t 24 (.t 26 (.t 27 (.t 28 (.o 2 (.o 5 (.o 8 (.o 11 (.o 15 (.o 16 (.o 21 (.o 25 (.o 29 (.o 30 (.t 31 .done)))))))))))))))))))))))))))))))) af af af L (λ_ _ _ _ h=>h) p ?_;generalize wr.drew=x0 at p z⊢;refine fH ?_
 (refine aS (v:=?_) T ai (λF m=>?_) ?_;rotate_left;(have k:=ah m.1 Vr;go_simp;with_reducible rfl);refine G ?_)
 refine fH ?_
 (refine aS (v:=?_) T ai (λF m=>?_) ?_;rotate_left;(have k:=ah m.1 UW;go_simp;with_reducible rfl);refine G ?_)
 iterate 3 refine fH ?_
 (refine aS (v:=?_) T ai (λF m=>?_) ?_;rotate_left;(have k:=ah m.1 aa;go_simp;with_reducible rfl);refine G ?_)
 (refine aS (v:=?_) T ai (λF m=>?_) ?_;rotate_left;(have y:=ah (i:=0) m.2.1 T;have D:=ah (i:=1) m.2.1 T;have K:=ah (i:=2) m.2.1 T;have P:=ah (i:=3) m.2.1 T;go_simp;with_reducible rfl);refine G ?_)
 refine fH ?_
 (refine aS (v:=?_) T ai (λF m=>?_) ?_;rotate_left;(have k:=ah m.1 ax;go_simp;with_reducible rfl);refine G ?_)
 (refine aS (v:=?_) T ai (λF m=>?_) ?_;rotate_left;(have y:=ah (i:=0) m.2.2.1 T;have D:=ah (i:=1) m.2.2.1 T;have K:=ah (i:=2) m.2.2.1 T;have P:=ah (i:=3) m.2.2.1 T;go_simp;with_reducible rfl);refine G ?_)
 (refine aS (v:=?_) T ai (λF m=>?_) ?_;rotate_left;(have y:=ah (i:=0) m.2.2.2 T;have D:=ah (i:=1) m.2.2.2 T;have K:=ah (i:=2) m.2.2.2 T;have P:=ah (i:=3) m.2.2.2 T;go_simp;with_reducible rfl);refine G ?_)
 iterate 4 refine fH ?_
 (refine aS (v:=?_) T ai (λF m=>?_) ?_;rotate_left;(have k:=ah m.1 ay;go_simp;with_reducible rfl);refine G ?_)
 iterate 2 refine fH ?_
 (refine aS (v:=?_) T ai (λF m=>?_) ?_;rotate_left;(have k:=ah m.1 a1;go_simp;with_reducible rfl);refine G ?_)
 refine aE T (λt f=>?_);go_simp;refine(kR c.folder x0).mono ?_;rintro e x1 ⟨rfl,d⟩;refine f _ _ ⟨av p.1 d,av p.2.1 d,av p.2.2.1 d,av p.2.2.2 d⟩ λm=>?_
 have y:=aj z d;clear f d p z;refine G ?_;refine aE T (λt f=>?_);go_simp;refine(kR c.epoch x1).mono ?_;rintro e x2 ⟨rfl,d⟩;refine f _ _ ⟨av m.1 d,av m.2.1 d,av m.2.2.1 d,av m.2.2.2 d⟩ λk=>?_
 have p:=aj y d;clear f d m y;refine G ?_;refine aE T (λt f=>?_);go_simp;refine(vX _ c.parent x2 (dQ.parent (q:=q) ⟨by rw[<-bh];exact k.1,X.plen,X.clen⟩)).mono ?_;rintro e F ⟨rfl,d⟩;refine f _ _ ⟨av k.1 d,av k.2.1 d,av k.2.2.1 d,av k.2.2.2 d⟩ λm=>?_
 have y:=aj p d;clear f d k p;refine G ?_;refine aE T (λt f=>?_);go_simp;refine(kR c.author F).mono ?_;rintro e K ⟨rfl,d⟩;refine f _ _ ⟨av m.1 d,av m.2.1 d,av m.2.2.1 d,av m.2.2.2 d⟩ λk=>?_
 have p:=aj y d;clear f d m y;refine G ?_;refine aE T (λt f=>?_);go_simp;refine(tH c.path _ K (aH.ints (Q.keep λg B=>((C.trans (p.mono C.size)).block g B))) Y).mono ?_;rintro e y ⟨up,rfl,m,d⟩;obtain⟨s,cu,rfl⟩:=cO m;have z:jk (y.ownsRow wr 135 4 (jb s c.path.length cu) c.path.length (ij c.path)):=O (sE m p.size);refine f _ _ ⟨av k.1 d,av k.2.1 d,av k.2.2.1 d,av k.2.2.2 d⟩ λE=>?_
 have D:=aj p d;clear m;clear f d k p;refine G ?_;refine aE T (λt f=>?_);go_simp;refine(mW s c.path.length cu y).mono ?_;rintro e P ⟨rfl,d⟩;refine f _ _ ⟨av E.1 d,av E.2.1 d,av E.2.2.1 d,av E.2.2.2 d⟩ λS=>?_
 have k:=aj D d;have m:=bD z d;clear f d E D z;refine G ?_;refine aE T (λt f=>?_);go_simp;refine(vX _ c.confirm P (dQ.confirm (q:=q) ⟨by rw[<-bh];exact S.1,X.plen,X.clen⟩)).mono ?_;rintro e x7 ⟨rfl,d⟩;refine f _ _ ⟨av S.1 d,av S.2.1 d,av S.2.2.1 d,av S.2.2.2 d⟩ λU=>?_
 have p:=aj k d;have z:=bD m d;clear f d S k m;refine G ?_;refine aE T (λt f=>?_);go_simp;refine(kR c.r x7).mono ?_;rintro e S ⟨rfl,d⟩;refine f _ _ ⟨av U.1 d,av U.2.1 d,av U.2.2.1 d,av U.2.2.2 d⟩ λau=>?_
 have m:=aj p d;have D:=bD z d;clear f d U p z;refine G ?_;refine aE T (λt f=>?_);go_simp;refine(kR c.s S).mono ?_;rintro e k ⟨rfl,d⟩;refine f _ _ ⟨av au.1 d,av au.2.1 d,av au.2.2.1 d,av au.2.2.2 d⟩ λH=>?_
 have p:=aj m d;have z:=bD D d;clear f d au m D;refine G ?_;refine aE T (λt f=>?_);go_simp;have d:=ap k (jc #[I N 1,I N c.folder,jj ⟨#[]⟩,jb A 0 0,I N 1,I N c.epoch,jj ⟨#[]⟩,jb A 0 0,I N 2,I N 0,jj (ofB c.parent),jb A 0 0,I N 1,I N c.author,jj ⟨#[]⟩,jb A 0 0,I N 3,I N 0,jj ⟨#[]⟩,jb bc n1 bd,I N 3,I N 0,jj ⟨#[]⟩,jb s c.path.length cu,I N 3,I N 0,jj ⟨#[]⟩,jb bf n2 bg,I N 3,I N 0,jj ⟨#[]⟩,jb n n3 o,I N 2,I N 0,jj (ofB c.confirm),jb A 0 0,I N 1,I N c.r,jj ⟨#[]⟩,jb A 0 0,I N 1,I N c.s,jj ⟨#[]⟩,jb A 0 0] 135);have V:=zu k [I N 1,I N c.folder,jj ⟨#[]⟩,jb A 0 0,I N 1,I N c.epoch,jj ⟨#[]⟩,jb A 0 0,I N 2,I N 0,jj (ofB c.parent),jb A 0 0,I N 1,I N c.author,jj ⟨#[]⟩,jb A 0 0,I N 3,I N 0,jj ⟨#[]⟩,jb bc n1 bd,I N 3,I N 0,jj ⟨#[]⟩,jb s c.path.length cu,I N 3,I N 0,jj ⟨#[]⟩,jb bf n2 bg,I N 3,I N 0,jj ⟨#[]⟩,jb n n3 o,I N 2,I N 0,jj (ofB c.confirm),jb A 0 0,I N 1,I N c.r,jj ⟨#[]⟩,jb A 0 0,I N 1,I N c.s,jj ⟨#[]⟩,jb A 0 0] 135 4 11 w.heap.size (jz C.size p.size) T L;replace V:(k.alloc (jc #[I N 1,I N c.folder,jj ⟨#[]⟩,jb A 0 0,I N 1,I N c.epoch,jj ⟨#[]⟩,jb A 0 0,I N 2,I N 0,jj (ofB c.parent),jb A 0 0,I N 1,I N c.author,jj ⟨#[]⟩,jb A 0 0,I N 3,I N 0,jj ⟨#[]⟩,jb bc n1 bd,I N 3,I N 0,jj ⟨#[]⟩,jb s c.path.length cu,I N 3,I N 0,jj ⟨#[]⟩,jb bf n2 bg,I N 3,I N 0,jj ⟨#[]⟩,jb n n3 o,I N 2,I N 0,jj (ofB c.confirm),jb A 0 0,I N 1,I N c.r,jj ⟨#[]⟩,jb A 0 0,I N 1,I N c.s,jj ⟨#[]⟩,jb A 0 0] 135)).ownsRow w.heap.size 135 4 (jb (ja ⟨k,0,A⟩) 11 11) 11 [I N 1,I N c.folder,jj ⟨#[]⟩,jb A 0 0,I N 1,I N c.epoch,jj ⟨#[]⟩,jb A 0 0,I N 2,I N 0,jj (ofB c.parent),jb A 0 0,I N 1,I N c.author,jj ⟨#[]⟩,jb A 0 0,I N 3,I N 0,jj ⟨#[]⟩,jb bc n1 bd,I N 3,I N 0,jj ⟨#[]⟩,jb s c.path.length cu,I N 3,I N 0,jj ⟨#[]⟩,jb bf n2 bg,I N 3,I N 0,jj ⟨#[]⟩,jb n n3 o,I N 2,I N 0,jj (ofB c.confirm),jb A 0 0,I N 1,I N c.r,jj ⟨#[]⟩,jb A 0 0,I N 1,I N c.s,jj ⟨#[]⟩,jb A 0 0]:=V;have D:=O V;refine f _ _ ⟨av H.1 d,av H.2.1 d,av H.2.2.1 d,av H.2.2.2 d⟩ λbM=>?_
 have m:=aj p d;have t:=bD z d;clear V;clear f d H p z;obtain⟨z,d⟩:=J (k.alloc (jc #[I N 1,I N c.folder,jj ⟨#[]⟩,jb A 0 0,I N 1,I N c.epoch,jj ⟨#[]⟩,jb A 0 0,I N 2,I N 0,jj (ofB c.parent),jb A 0 0,I N 1,I N c.author,jj ⟨#[]⟩,jb A 0 0,I N 3,I N 0,jj ⟨#[]⟩,jb bc n1 bd,I N 3,I N 0,jj ⟨#[]⟩,jb s c.path.length cu,I N 3,I N 0,jj ⟨#[]⟩,jb bf n2 bg,I N 3,I N 0,jj ⟨#[]⟩,jb n n3 o,I N 2,I N 0,jj (ofB c.confirm),jb A 0 0,I N 1,I N c.r,jj ⟨#[]⟩,jb A 0 0,I N 1,I N c.s,jj ⟨#[]⟩,jb A 0 0] 135));rw[<-d]at D m t⊢;clear d bM;refine G ?_;refine fH ?_;refine jR ?_
 go_wp2_with fail
 go_ret;have d:=λg (B:w.heap.size<=g/\g<wr.heap.size)=>(show w.heap.size<=g/\g<z.heap.size from⟨B.1,jN B.2 m.size⟩)
 have f:=λg (B:w.heap.size<=g/\g<wr.heap.size)=>m.block g B.2
 refine⟨_,T,⟨[dG,dG,dG,dG,jb bc n1 bd,jb s c.path.length cu,jb bf n2 bg,jb n n3 o,dG,dG,dG],D,?_⟩,C.trans (m.mono C.size)⟩;have p:aW (λg=>w.heap.size<=g/\g<z.heap.size) z (vL (c.path.map vI)) (jb s c.path.length cu):=sj t (λg B=>by
  have h:=t.lt g B;exact⟨jz C.size h.1,h.2⟩)
 exact aN.cons (lh _) (aN.cons (lh _) (aN.cons (vC _) (aN.cons (lh _) (aN.cons (aW.mono d _ _ (aW.keep f _ _ b1.out)) (aN.cons p (aN.cons (aW.mono d _ _ (aW.keep f _ _ cf.out)) (aN.cons (aW.mono d _ _ (aW.keep f _ _ x.out)) (aN.cons (vC _) (aN.cons (lh _) (aN.cons (lh _) aN.nil))))))))))
theorem ae(h:jk (w.heap[B]?=ja o))(w':jl w w a):jk (a.heap[B]?=ja o):=O (av h w')
def c8(s:ByteArray)(l:jh Val):LBy:=dn (co s) (enc (vL l))
theorem eT(s l):(c8 s l).length=32:=iQ _ _
theorem pH(l:jh Val):enc (vL l)=3#8::(dc l.length++encs l):=by rw[vL,enc,jI L,jI L]
structure cT(l:jh Val):Prop where
 wf:wfV 16 (vL l)
 len:(enc (vL l)).length<=800000
theorem cT.take{l:jh Val}(h:cT l)(i:l.length<128)(k:je):cT (l.take k):=by
 have g:=h.wf;have j:=h.len;refine⟨?_,?_⟩
 ·unfold vL at g⊢
  rw[wfV]at g⊢
  rcases g with⟨e,-⟩|⟨e,-⟩|⟨a,b,c,d,f⟩
  ·exact jG e L
  ·exact jG e L
  exact .inr (.inr ⟨a,b,c,xu (xw _ _) d,λx m=>f x (List.mem_of_mem_take m)⟩)
 rw[pH]at j⊢;have a:(dc (l.take k).length).length=1:=by rw[tv (xu (xw _ _) i)];rfl
 have b:(dc l.length).length=1:=by rw[tv i];rfl
 have:=wF l k;simp only[jW,jL]at j⊢;omega
theorem ff(l:LBy):(l.map v8).toArray.all (·.oneCell')=jf:=by
 rw[Array.all_eq_true_iff_forall_mem];intro a b;exact iV _ a (ak b)
theorem mN(s:ByteArray)(F:s.size<=1000)(l:jh Val)(v:ji)(w:jg)(a:aW (·<w.heap.size) w (vL l) v)(b:cT l)(d:eP w)(f:gO w):
 jr jm 24 #[jj s,v] w λe w'=>e=jo (jq ((c8 s l).map v8).toArray)/\jl w w w':=by
 obtain⟨p,c,rfl⟩:=a.form;have h:(vL l).l.length=l.length:=T;rw[h]at a⊢;obtain⟨n,i⟩:=J l.length;rw[<-i]at a⊢;have j:=O a;have g:=O b;have x:=O d;have y:=O f;clear a b d f i h;have b:=js w (jc a8 23);have a:=ap w (jc a8 23);have d:(w.alloc (jc a8 23)).heap.size=w.heap.size+1:=by simp
 obtain⟨o,f⟩:=J (w.alloc (jc a8 23));obtain⟨D,h⟩:=J w.heap.size;rw[<-f]at b a d;rw[<-h]at b d;have i:=O b;have k:=O a;have m:=O f;have q:=O h;have u:D<o.heap.size:=Y;clear b a d f h
 go_enter func24,ntmps24
 go_wp2_with fail
 rw[<-m,<-q];refine(mW p n c o).mono ?_;rintro e h ⟨rfl,a⟩;have r:=ae i a;have d:=aj k a;have t:jk (aW (·<h.heap.size) h (vL l) (jb p n c)):=O (aW.mono (λb (f:b<w.heap.size)=>jN f d.size) _ _ (aW.keep (λb f=>d.block b f) _ _ j.out));clear a k i u m
 go_wp2_with fail
 refine(Fo (vL l) _ 3 h T g.wf t (cV g.len)).mono ?_;rintro e z ⟨H,rfl,b,a⟩;have u:=ae r a;have f:=aj d a;have B:=O (bj.of_own b);obtain⟨K,M,rfl⟩:=cO b;clear a b d r t j
 go_wp2_with fail
 refine(su s Y _ (enc (vL l)) (cV g.len) z B (x.below f (jn _)) (y.below f (jn _))).mono ?_;rintro e d ⟨rfl,a⟩;have r:=ae u a;have t:=aj f a;have i:((dn (co s) (enc (vL l))).map v8).toArray.size=32:=by rw[jU,jD,iQ]
 have j:=ff (dn (co s) (enc (vL l)));obtain⟨b,k⟩:=J (((dn (co s) (enc (vL l))).map v8).toArray);rw[<-k]at i j⊢;have C:=O k;have m:=O i;have E:=O j;clear k i j a u f
 go_wp2_with (refine ow T λ_ a=>pz 23 _ _ T D b T T 23 _ r.out (by rw[m];rfl) (by rw[m];simp) E (a _ _ ?_))
 have a:(d.setRow D b).heap[D]?=ja (jc b 23 (0,0)):=p6 _ _ _ _ _ _ r.out;have f:jl w w (d.setRow D b):=qa t.out (by rw[q];exact jn _) _;generalize d.setRow D b=k at a f⊢;have i:=O f;have j:=O a;clear a f
 go_wp2_with fail
 refine jX (v:=jq b) ?_ T ?_
 ·exact qe T _ _ _ 23 _ (0,0) _ T j wq T (by rw[m];rfl)
 exact⟨by rw[C];rfl,i⟩
theorem aH.take{p:jS jM}{n c sz:je}(h:aH D w (jb p n c) sz n xs){k:je}(b:k<=n):aH D w (jb p k c) sz k (xs.take (k*sz)):=by
 obtain⟨d,t,u,e,v,f,i⟩:=h;injection e with l x m
 subst l;subst m;refine⟨?_,p,c,T,by omega,f,λy=>?_⟩
 ·rw[qg,d,qD (r4 _ b)]
 obtain⟨g,o,e,q,r⟩:=i Y;refine⟨g,o,e,q,λj s a=>r j s ?_⟩;rw[xn]at a
 split at a
 ·exact a
 cases a
theorem Ht:∀(l:jh Val) (a:jh ji) (k:je),a.length=l.length->cS (l.take k) (a.take k)=(cS l a).take (k*4)
 |[],a,k,h=>by
  have:a=[]:=qt (ak h);subst this;simp[cS]
 |x::l,[],k,h=>by simp at h
 |x::l,b::a,0,h=>by simp[cS]
 |x::l,b::a,k+1,h=>by
  have c:(gU x b).length=4:=T;simp only[xx,cS,Ht l a k (ak h)];have e:List.take ((k+1)*4) (gU x b)=gU x b:=nn (by rw[c];omega);rw[List.take_append,c,show(k+1)*4-4=k*4 by omega,e]
theorem aN.take:∀{l:jh Val} {a:jh ji} (k:je),aN D w l a->aN D w (l.take k) (a.take k)
 |[],a,k,h=>by rw[aN]at h;subst h;simp[aN]
 |x::l,a,0,h=>by simp[aN]
 |x::l,a,k+1,h=>by
  rw[aN]at h;obtain⟨b,e,rfl,c,d⟩:=h;simp only[xx];rw[aN];exact⟨b,_,T,c,aN.take k d⟩
theorem vx{i:je}(h:w.ownsRow B e m d i b)(n:0<i):∃g c,d=jb (ja ⟨g,0,A⟩) i c/\i<=c/\B<=g/\g<w.heap.size:=by
 rcases h.2 with⟨rfl,j⟩|⟨g,a,k,rfl,xs,v,f,-⟩
 ·omega
 exact⟨g,a,T,f,xs,(jK.1 v).1⟩
theorem zC(c:Cmt):(aP c).length=11:=T
theorem vE.val{c:Cmt}{p:jS jM}(h:vE w a c (jb p B m))(k:je)(f:k<=11):B=11/\aW (·<a.heap.size) a (vL ((aP c).take k)) (jb p k m):=by
 obtain⟨l,w',i⟩:=h;obtain⟨_,_,e⟩:=cO w';injection e with q d r
 subst d;have o:=i.len;refine⟨T,?_⟩;rw[vL,aW];have j:=(aH.of_own (D:=(·<a.heap.size)) w' (λg b=>(w'.lt g b).2)).take f;rw[<-Ht _ _ _ o]at j;refine⟨l.take k,?_,aN.mono (λg b=>b.2) _ _ (i.take k)⟩;rw[qg,zC,qD f];exact j
theorem ET{u:Val}(h:u∈f):(enc u).length<=(encs f).length:=by
 obtain⟨i,a⟩:=xt h;have b:=wF f (i+1);rw[ww a,jL]at b;omega
theorem LV(l:jh Val):l.length<=(enc (vL l)).length:=by
 have:=AV l;rw[pH,jW,jL];omega
theorem cT.lens{c:Cmt}(h:cT (aP c)):c.chg.length<=1000000/\c.path.length<=1000000/\c.box.length<=1000000/\c.wel.length<=1000000:=by
 have g:=h.len;have k:∀l:jh Val,vL l∈aP c->l.length<=1000000:=λl f=>by
  have a:=ET f;have b:=LV l;have d:(encs (aP c)).length<=(enc (vL (aP c))).length:=by rw[pH,jW,jL];omega
  omega
 have a:=k (c.chg.map ar.val) (by simp[aP]);have b:=k (c.path.map vI) (by simp[aP]);have d:=k (c.box.map Bx.val) (by simp[aP]);have e:=k (c.wel.map Wl.val) (by simp[aP]);rw[jD]at a b d e;exact⟨a,b,d,e⟩
structure bS(w:jg):Prop where
 num:eP w
 start:gO w
theorem bS.below(h:bS w)(a:jl w w w'):bS w':=⟨h.num.below a (jn _),h.start.below a (jn _)⟩
def sG:ByteArray:=⟨#[99,111,109,109,105,116]⟩
def tu:ByteArray:=⟨#[99,111,109,109,105,116,32,115,105,103,110]⟩
def aG(c:Cmt):LBy:=c8 sG (aP c)
def dq(c:Cmt):LBy:=c8 tu ((aP c).take 9)
theorem dS(c):(aG c).length=32:=eT _ _
theorem MG(c):(dq c).length=32:=eT _ _
theorem mT:(jm.info? 37).map (·.size)=ja 73:=by kernel_rfl
theorem pY(c:Cmt)(q:CQ)(w:jg)(h:aT (·<w.heap.size) w c q)(m:cT (aP c))(n:bS w):
 jr jm 8 #[jq (aF c q).toArray] w λe w'=>e=jo (jq ((aG c).map v8).toArray)/\jl w w w':=by
 have y:=O h;have o:=O m;have r:=O n;obtain⟨d,i⟩:=J ((aF c q).toArray);rw[<-i];have s:=O i;have p:d.size=73:=by rw[i,jU,dl c q h.plen h.clen]
 have z:=O p;have f:=js w (jc d 37);have g:=js (w.alloc (jc d 37)) (jc a8 23);have a:jl w w ((w.alloc (jc d 37)).alloc (jc a8 23)):=((jy _ w).alloc (jn _) _).alloc ao _;replace f:=av f (ap (w.alloc (jc d 37)) (jc a8 23));rw[jC]at g;obtain⟨B,j⟩:=J ((w.alloc (jc d 37)).alloc (jc a8 23));obtain⟨b,k⟩:=J w.heap.size;rw[<-j]at g a f;rw[<-k]at g f;have t:=O g;have l:=O a;have u:=O f;have v:=O j;have x:=O k;clear g a j k f i p h m n
 go_enter func8,ntmps8
 go_upto_region 1 with fail
 rw[<-v,<-x];clear v
 go_wp2_with (refine o8 T 37 _ T b T 37 d (0,0) _ u.out underlying37 T (by rw[z];exact mT) ?_)
 obtain⟨h,i,j,k⟩:=o.lens;rw[s];refine(tq c q B (y.below l) h i j k).mono ?_;rintro e C ⟨v,rfl,f,a⟩;obtain⟨p,m,rfl⟩:∃p m,v=jb p 11 m:=by obtain⟨K,D,-⟩:=f;exact cO D
 have E:=O f;have n:=ae t a;have g:=aj l a;rw[<-s];clear f a t l u h i j k
 go_wp2_with fail
 refine(mN sG L (aP c) _ C (E.val 11 (jn _)).2 o (r.below g).num (r.below g).start).mono ?_;rintro e h ⟨rfl,a⟩;have t:=ae n a;have u:=aj g a;have i:((c8 sG (aP c)).map v8).toArray.size=32:=by rw[jU,jD,eT]
 have j:=ff (c8 sG (aP c));obtain⟨f,k⟩:=J (((c8 sG (aP c)).map v8).toArray);rw[<-k]at i j⊢;have F:=O k;have l:=O i;have H:=O j;clear k i j a n g
 go_wp2_with (refine ow T λ_ a=>pz 23 _ _ T (b+1) f T T 23 _ t.out (by rw[l];rfl) (by rw[l];simp) H (a _ _ ?_))
 have a:(h.setRow (b+1) f).heap[b+1]?=ja (jc f 23 (0,0)):=p6 _ _ _ _ _ _ t.out;have g:jl w w (h.setRow (b+1) f):=qa u.out (by rw[x];omega) _;generalize h.setRow (b+1) f=k at a g⊢;have i:=O g;have j:=O a;clear a g
 go_wp2_with fail
 refine jX (v:=jq f) ?_ T ?_
 ·exact qe T _ _ _ 23 _ (0,0) _ T j wq T (by rw[l];rfl)
 exact⟨by rw[F];rfl,i⟩
theorem wy{P:qO}(t e:jH)(k:je)(a:P.underlying t=ja (.slice e))(b:∀w,(sizeOf e).run P w=.ok k w)(g o n c h:je)(d:h<=c)(W:jg):
 (Instr.sliceAt t (jb (ja ⟨g,o,A⟩) n c) A (ja (I N (h:jd))) A).run P W=.ok (jb (ja ⟨g,o,A⟩) h c) W:=by
 have he:P.elem t=e:=by simp[Program.elem,a]
 rw[run_sliceAt_slice W t _ _ _ _ (by rw[he];exact a),run_slice_h W t _ n c (by rw[he];exact a) .i64 _ Y Y,he];simp[b,Result.andThen,sliced,Addr.add]
 try(split<;>simp_all)
theorem wV:∀w,(sizeOf 135).run jm w=.ok 4 w:=λw=>by go_simp
theorem og(h:w.heap[B]?=ja (jc (j.map v8).toArray 23 (0,0)))(a:j.length=32):bj w (jb (ja ⟨B,0,A⟩) 32 32) j:=by
 refine⟨_,32,by rw[a],by rw[a];exact jn _,(λh=>by cases h),λ_=>⟨B,0,T,λl b=>ah h ?_⟩⟩;rw[mb];simp[jO,b]
theorem Hw(c:Cmt)(q:CQ)(w:jg)(f:aT (·<w.heap.size) w c q)(l:cT (aP c))(m:bS w):
 jr jm 36 #[jq (aF c q).toArray] w λe w'=>∃D,e=jo (jb (ja ⟨D,0,A⟩) 32 32)/\bj w' (jb (ja ⟨D,0,A⟩) 32 32) (dq c)/\jl w w w':=by
 have y:=O f;have o:=O l;have p:=O m;obtain⟨i,g⟩:=J ((aF c q).toArray);rw[<-g];have r:=O g;have n:i.size=73:=by rw[g,jU,dl c q f.plen f.clen]
 have z:=O n;have d:=js w (jc i 37);have a:=ap w (jc i 37);obtain⟨B,h⟩:=J (w.alloc (jc i 37));obtain⟨b,j⟩:=J w.heap.size;rw[<-h]at a d;rw[<-j]at d;have k:=O a;have s:=O d;have t:=O h;have C:=O j;clear a h j d g n f l m
 go_enter func36,ntmps36
 go_upto_region 1 with fail
 rw[<-t,<-C];clear t
 go_wp2_with (refine o8 T 37 _ T b T 37 i (0,0) _ s.out underlying37 T (by rw[z];exact mT) ?_)
 obtain⟨m,n,t,u⟩:=o.lens;rw[r];refine(tq c q B (y.below k) m n t u).mono ?_;rintro e E ⟨v,rfl,j,a⟩;obtain⟨l,f,rfl,P⟩:∃g f,v=jb (ja ⟨g,0,A⟩) 11 f/\11<=f:=by
  obtain⟨H,h,-⟩:=j;obtain⟨g,c,x,F,-⟩:=vx h L;exact⟨g,c,x,F⟩
 have F:=O j;have h:=aj k a;have H:∀W,(Instr.sliceAt 77 (jb (ja ⟨l,0,A⟩) 11 f) A (ja (I N 9)) A).run jm W=.ok (jb (ja ⟨l,0,A⟩) 9 f) W:=λW=>wy 77 135 4 wi wV l 0 11 f 9 Y W
 rw[<-r];clear j a k s m n t u
 go_wp2_with fail
 refine(mN tu L ((aP c).take 9) _ E (F.val 9 L).2 (o.take (by rw[zC];decide) 9) (p.below h).num (p.below h).start).mono ?_;rintro e j ⟨rfl,a⟩;have s:=aj h a;have t:((c8 tu ((aP c).take 9)).map v8).toArray.size=32:=by rw[jU,jD,eT]
 have k:=ff (c8 tu ((aP c).take 9));obtain⟨m,n⟩:=J (((c8 tu ((aP c).take 9)).map v8).toArray);rw[<-n]at t k⊢;have u:=O n;have Q:=zt j a8 m T t k;have x:=js j (jc m 23);have K:=O x;have M:=O (s.trans ((ap j (jc m 23)).mono s.size));clear n a h k x H
 go_wp2_with fail
 go_ret;have h:=K.out;rw[u]at h;have d:=og h (eT _ _);rw[<-u]at d;refine⟨j.heap.size,T,?_,M⟩;exact d
structure yC(b:je)(a:LBy)(w w':jg):Prop where
 buf:Buf b a w'
 bel:jl b w w'
theorem IM(k:LBy)(g:je){W:jg}{t:jH}(h:W.heap[g]?=ja (jc (k.map v8).toArray t (0,0))):∀j v,(k.map v8)[j]?=ja v->W.cell? ((⟨g,0,A⟩:jM).add j)=ja v:=by
 intro j v a;have e:(⟨g,0,A⟩:jM).add j=⟨g,j,A⟩:=by unfold Addr.add;split<;>simp_all
 rw[e];exact ah h (by rw[List.getElem?_toArray];exact a)
theorem GC(b:je)(a d:LBy)(g n c:je)(w:jg)(h:Buf b a w)(f:d.length=n)(i:g≠b)(k:∀j v,(d.map v8)[j]?=ja v->w.cell? ((⟨g,0,A⟩:jM).add j)=ja v)(m:a.length+n<=1000000):
 jr jm 164 #[jA (ja ⟨b,0,A⟩),jb (ja ⟨g,0,A⟩) n c] w λe w'=>e=jo (jw #[I N n,.nilIface])/\yC b (a++d) w w':=by
 refine(Tryz.Buffer_Write_at _ _ b b 0 (a.map v8) (d.map v8) ⟨g,0,A⟩ n c w h (sn h.lt) (iu _) (by rw[jD];exact f) i k (iu _) (by rw[jD];omega)).mono ?_;rintro e w' ⟨rfl,j,l,-⟩;exact⟨T,by unfold Buf;rw[j4];exact j,l⟩
theorem uq(b:je)(a k:LBy)(w:jg)(h:Buf b a w)(o:k.length=32)(r:a.length<=900000):
 jr jm 163 #[jA (ja ⟨b,0,A⟩),jq (k.map v8).toArray] w λe w'=>e=jo (jA (ja ⟨b,0,A⟩))/\yC b (a++k) w w':=by
 obtain⟨i,l⟩:=J ((k.map v8).toArray);rw[<-l];have p:=h.lt;have d:=ap w (jc i 65);have m:=js w (jc i 65);obtain⟨c,f⟩:=J (w.alloc (jc i 65));obtain⟨g,n⟩:=J w.heap.size;have s:=O f;have t:=O n;rw[<-f]at d;rw[<-f,<-n]at m;have u:jk (g≠b):=O Y;have q:=O (h.keep d);have x:=O (d.mono (sn p));have y:jk (∀j v,(k.map v8)[j]?=ja v->c.cell? ((⟨g,0,A⟩:jM).add j)=ja v):=O (IM k g (by rw[<-l];exact m));have v:=O o;have z:jk (a.length+32<=1000000):=O Y;clear l h p d m f n o r
 go_enter func163,ntmps163
 go_upto_region 1 with fail
 rw[<-s,<-t];refine jT ?_;refine dj (λd=>True) (.t 0 (.t 1 (.t 2 (.t 3 (.o 4 .done))))) af af af L (λ_ _ _ _ h=>h) trivial ?_;iterate 4 refine aK ?_
 refine aE T (λd f=>?_);go_simp;refine(GC b a k g 32 32 c.drew (q.keep (bX c)) v u y z).mono ?_;rintro e l ⟨rfl,d⟩;have j:jk (yC b (a++k) c l):=O ⟨d.buf,((bX c).mono (sn q.lt)).trans d.bel⟩;clear d;refine f _ _ trivial λ_=>?_
 clear f;refine G ?_;refine jR ?_
 go_wp2_with fail
 go_ret;exact⟨T,j.buf,x.trans j.bel⟩
theorem Dn(b:je)(a:LBy)(s:ByteArray)(B:s.size<=100000)(w:jg)(h:Buf b a w)(C:a.length<=900000)(t:bS w):
 jr jm 165 #[jA (ja ⟨b,0,A⟩),jj s] w λe w'=>e=jo (jq ((dn (co s) a).map v8).toArray)/\jl w w w':=by
 obtain⟨g,i⟩:=J (dn (co s) a);have j:=iQ (co s) a;rw[<-i]at j⊢;have k:(g.map v8).toArray.size=32:=by rw[jU,jD,j]
 have l:(g.map v8).toArray.all (·.oneCell')=jf:=by
  rw[List.all_toArray,List.all_eq_true];exact λc d=>iu _ c d
 obtain⟨m,n⟩:=J ((g.map v8).toArray);rw[<-n]at k l⊢;have D:=O n;have E:=O i;have o:=O k;have F:=O l;have c:=ap w (jc a8 65);have p:=js w (jc a8 65);obtain⟨H,d⟩:=J (w.alloc (jc a8 65));obtain⟨f,q⟩:=J w.heap.size;have K:=O d;rw[<-d]at c;rw[<-d,<-q]at p;have u:=O (h.keep c);have x:=O (t.below c);have y:=O c;have r:=O p;have z:=O q;clear h c p t n i j k l d q
 go_enter func165,ntmps165
 go_wp2_with fail
 rw[<-K,<-z];refine(Rf b a H u).mono ?_;rintro e l ⟨v,rfl,d,c⟩;have h:=su s B v a C l (bj.of_own (by rw[jD]at d;exact d)) (x.below c).num (x.below c).start;rw[<-E,<-D]at h;have j:=O h;have i:=O ((c.block _ (jK.1 r).1).trans r);have k:=aj y c;clear c r y u h d
 go_wp2_with fail
 refine j.mono ?_;rintro e h ⟨rfl,c⟩;have d:=O ((c.block _ (jK.1 i).1).trans i);have n:=aj k c;clear c i k j
 go_wp2_with (refine ow T λ_ c=>pz 65 _ _ T f m T T 65 _ d.out (by rw[o];rfl) (by rw[o];rfl) F (c _ _ ?_))
 have c:(h.setRow f m).heap[f]?=ja (jc m 65 (0,0)):=p6 _ _ _ _ _ _ d.out;refine jX (qe T _ _ f 65 _ (0,0) _ T c mz T (by rw[o];rfl)) T ?_;exact⟨T,qa n.out (by rw[z];exact jn _) _⟩
def lu(s:ByteArray)(nums:jh jd):Val:=vL (.mk 2 0 s []::nums.map vI)
def dX(k:LBy)(s:ByteArray)(nums:jh jd):LBy:=dn (co ⟨#[100,101,114,105,118,101]⟩) (k++enc (lu s nums))
theorem pE(k s nums):(dX k s nums).length=32:=iQ _ _
def lI(s:ByteArray)(nums:jh jd):jh ji:=[I N 2,I N 0,jj s,jb A 0 0]++ij nums
theorem Sx{a:ji}{s:ByteArray}{nums:jh jd}(b:w.ownsRow B 135 4 a (nums.length+1) (lI s nums))(c:∀g,a.ownBlock=ja g->D g):aW D w (lu s nums) a:=by
 rw[lu,vL,aW];refine⟨dG::j9 nums.length dG,?_,?_⟩
 ·rw[jW,jD];exact aH.of_own b c
 rw[aN];refine⟨dG,_,T,?_,ye nums⟩;rw[aW];exact⟨[],⟨T,A,0,T,jn _,λ_=>rfl,λh=>jG h L⟩,by rw[aN]⟩
structure AW(s:ByteArray)(nums:jh jd):Prop where
 wf:wfV 16 (lu s nums)
 len:(enc (lu s nums)).length<=800000
 cnt:nums.length<=100000
theorem QM(s:ByteArray)(l:jh jd)(n:jd):lI s (l++[n])=lI s l++[I N 1,I N n,jj ⟨#[]⟩,jb A 0 0]:=by
 unfold lI;rw[IZ,j6]
theorem NH{i:je}(h:w.ownsRow B e m d i b)(sz:0<i):∃g c,d=jb (ja ⟨g,0,A⟩) i c/\B<=g/\g<w.heap.size/\∀j xs,b[j]?=ja xs->w.cell? ((⟨g,0,A⟩:jM).add j)=ja xs:=by
 rcases h.2 with⟨rfl,o⟩|⟨g,f,p,rfl,n,v,q,r,s,k⟩
 ·omega
 refine⟨g,f,T,n,(jK.1 v).1,λj xs a=>?_⟩;have e:(⟨g,0,A⟩:jM).add j=⟨g,j,A⟩:=by unfold Addr.add;split<;>simp_all
 rw[e];refine ah v ?_;rw[<-k]at a;have l:=(xo.1 a).1;rw[qg]at l;rw[rv Y]at a;rw[<-a];simp
theorem FH(h:∀j w',b[j]?=ja w'->w.cell? ((⟨B,0,A⟩:jM).add j)=ja w')(xs:a.heap[B]?=w.heap[B]?):∀j w',b[j]?=ja w'->a.cell? ((⟨B,0,A⟩:jM).add j)=ja w':=by
 intro j w' c;have e:(⟨B,0,A⟩:jM).add j=⟨B,j,A⟩:=by unfold Addr.add;split<;>simp_all
 have:=h j w' c;rw[e]at this⊢;exact(dV xs).trans this
theorem sI(k:LBy)(r:k.length=32)(s:ByteArray)(l:jh jd)(v:ji)(w:jg)(hv:dh w v l)(f:AW s l)(K:bS w):
 jr jm 109 #[jq (k.map v8).toArray,jj s,v] w λe w'=>e=jo (jq ((dX k s l).map v8).toArray)/\jl w w w':=by
 obtain⟨p,c,rfl,hc,t⟩:=hv;obtain⟨n,u⟩:=J l.length;have hl:=f.cnt;rw[<-u]at hc hl t⊢;have z:=O u;have B:=O f;have S:=O t;have C:=O r;obtain⟨h,g⟩:=J ((k.map v8).toArray);have M:h.size=32:=by rw[g,jU,jD,r]
 have x:=ap w (jc h 65);have y:=js w (jc h 65);have E:=ap (w.alloc (jc h 65)) (jc a8 65);have b:=js (w.alloc (jc h 65)) (jc a8 65);rw[jC]at b;obtain⟨a,i⟩:=J ((w.alloc (jc h 65)).alloc (jc a8 65));obtain⟨d,o⟩:=J w.heap.size;have q:=(E.block _ (jK.1 y).1).trans y;have m:=O (x.trans (E.mono x.size));have P:a.heap.size=d+1+1:=by rw[i,o];simp
 rw[<-o]at q b;rw[<-i]at q b m;rw[<-g];have U:=O g;have VI:=O i;have F:=O o;have Ym:=O q;have UR:=O b;have H:=O K;have U9:=O M;have j:=O P;clear u f t r g x y E b i o q K M P
 go_enter func109,ntmps109
 go_upto_region 2 with fail
 rw[<-VI,<-F];have b:=ap a (jc #[I N 2,I N 0,jj s,jb A 0 0] 135);have g:(a.alloc (jc #[I N 2,I N 0,jj s,jb A 0 0] 135)).ownsRow a.heap.size 135 4 (jb (ja ⟨d+1+1,0,A⟩) 1 1) 1 (lI s []):=by
  rw[<-j];refine⟨by simp[lI,ij,cS],.inr ⟨a.heap.size,1,_,T,jn _,js a _,jn _,by unfold j3;omega,rfl,by simp[lI,ij,cS]⟩⟩
 obtain⟨W2,i⟩:=J (a.alloc (jc #[I N 2,I N 0,jj s,jb A 0 0] 135));rw[<-i]at b g⊢;have Ur:=O b;have V:=O g;obtain⟨v2,o⟩:=J (jP (ja ⟨d+1+1,0,A⟩) 1 1);rw[<-o]at V⊢;have bc:=b.size;clear b g i o
 go_wp2_with fail
 go_loopw [7,18] (λg b wr=>∃(i:je) (K:ji),g=K/\b=I N i/\i<=n/\jk (wr.ownsRow a 135 4 K (i+1) (lI s (l.take i)))/\jk (jl a a wr)) (λ_ b _=>n-(jv b).toNat)
 case atStart=>exact⟨0,_,T,T,jJ _,O (by rw[List.take_zero];exact V),Ur⟩
 obtain⟨i,K,rfl,rfl,hi,t,q⟩:=hrel
 by_cases W:i<n
 ·have X:=az ((i:jd)<(n:jd))
  have UN:=az (i<n);obtain⟨g,o,rfl,u⟩:=S Y;have r:i<l.length:=by rw[<-z];exact W
  have E:l.getD i 0=l[i]:=by simp[jO,r]
  obtain⟨y,x⟩:=J (l.getD i 0);have b:=u i W;rw[<-x]at b;have M:wr.cell? ⟨g,o+i,A⟩=ja (I N y):=(dV (q.block g (jN (gg b) m.size))).trans ((dV (m.block g (gg b))).trans b);have H:jk (lI s (l.take (i+1))=lI s (l.take i)++[I N 1,I N y,jj ⟨#[]⟩,jb A 0 0]):=O (by
   rw[o1 r,QM,x,E])
  have P:=q.size;clear E x b u r S
  go_wp2_with (at_builtin;refine Hid.out ?_)
  refine O ?_;refine ow T λ_ x=>pZ _ _ T a.heap.size _ _ _ T (cP t (ap wr _)) _ 1 [I N 1,I N y,jj ⟨#[]⟩,jb A 0 0] T (lA wr [I N 1,I N y,jj ⟨#[]⟩,jb A 0 0] _ _ 4 1 1 T (jn _)) (by simp[j1]) (show i+1+1<=4000000 by omega) (by rw[jC];omega) λE w6 b=>x _ _ ?_
  have r:=O (q.trans (((ap wr _).mono (show a.heap.size<=wr.heap.size by omega)).trans (b.below (cP t (ap wr _)) (by rw[jC];omega))));replace b:=O b.own;clear x
  go_wp2_with fail
  refine⟨⟨i+1,_,T,by go_num,by omega,O (by rw[H];exact b),r⟩,?_⟩;simp only[jv];omega
 have X:=aw ((i:jd)<(n:jd));have UN:=aw (i<n);have o:i=n:=Y;have b:=t.out;rw[o,nn (by rw[<-z];exact jn _),z]at b;obtain⟨p7,c7,rfl⟩:=cO b;have y:=Sx (D:=(·<wr.heap.size)) b (λg u=>(b.lt g u).2);have aa:=O (Fo (lu s l) _ 3 wr T B.wf y (cV B.len));have bd:=O o;clear o b y t
 go_wp2_with fail
 refine aa.mono ?_;rintro e u ⟨vb,rfl,ad,b⟩;have o:=aj q b;clear b
 go_upto_region 9 with fail
 have y:=Buf.new u;have g:=ap u (jc #[jb A 0 0,I N 0,.int .i8 0] 256);obtain⟨M,Zc⟩:=J (u.alloc (jc #[jb A 0 0,I N 0,.int .i8 0] 256));obtain⟨b,P⟩:=J u.heap.size;rw[<-Zc]at y g⊢;rw[<-P]at y⊢;have au:=o.size;have Q:M.heap[d]?=ja (jc h 65 (0,0)):=(g.block _ (aI j)).trans ((o.block _ (aI j)).trans Ym);have ax:M.heap[d+1]?=ja (jc a8 65 (0,0)):=(g.block _ (aI j)).trans ((o.block _ (aI j)).trans UR);have ay:=Q;rw[U]at Q;obtain⟨gb,cb,e3,ba,R,t⟩:=NH ad (D4 _);subst e3;have a1:gb<b:=by rw[P];exact R
 replace t:=FH t (g.block _ R);obtain⟨E,f⟩:=J (enc (lu s l));have a2:E.length<=800000:=by rw[f];exact B.len
 rw[<-f]at t⊢;have a3:=O y;have a4:=O ay;have YH:=O ax;have Zd:=O t;have bb:=O f;have WB:=O a1;have a5:=O a2;have UB:=O (m.trans ((o.mono m.size).trans (g.mono (jz m.size au))));have a6:jk (w.heap.size<=b):=O (dY j F);have Wh:jk (d+1<b):=O (aI j);clear y g Zc P au Q ax ay ad ba R t a1 f a2 aa o q j X UN;refine qQ ?_;refine o8 T 65 _ T d T 65 h (0,0) _ a4.out mz T (by rw[U9];rfl) ?_
 go_wp2_with fail
 have f:=uq b [] k M a3 C ao;rw[<-U]at f;refine f.mono ?_;clear f;rintro e y ⟨rfl,f⟩;rw[qb]at f;have g:jk (∀j v,(E.map v8)[j]?=ja v->y.cell? ((⟨gb,0,A⟩:jM).add j)=ja v):=O (by
  exact FH Zd (f.bel.block _ WB.out))
 have j:=O ((f.bel.block _ Wh.out).trans YH);have q:=O (UB.trans (f.bel.mono a6));have t:=O f.buf;clear f YH UB Zd a4 a3
 go_wp2_with fail
 refine(GC b k E gb E.length cb y t T (Nat.ne_of_lt WB) g (by have:=a5.out;rw[C];omega)).mono ?_;rintro e w6 ⟨rfl,f⟩;have o:=O ((f.bel.block _ Wh.out).trans j);have r:=O (q.trans (f.bel.mono a6));have ad:=O f.buf;clear f j q t g;have f:=Dn b (k++E) ⟨#[100,101,114,105,118,101]⟩ L w6 ad (by have:=a5.out;rw[jL,C];omega) (H.below r);have P:dn (co ⟨#[100,101,114,105,118,101]⟩) (k++E)=dX k s l:=by rw[bb];rfl
 rw[P]at f;have Q:=pE k s l;have q:=ff (dX k s l);obtain⟨g,j⟩:=J (((dX k s l).map v8).toArray);have R:g.size=32:=by rw[j,jU,jD,Q]
 rw[<-j]at f q;have aa:=O f;have au:=O j;have t:=O R;have ax:=O q;clear f P Q q j R
 go_wp2_with fail
 refine aa.mono ?_;rintro e q ⟨rfl,f⟩;have j:=O ((f.block _ (jK.1 o).1).trans o);have P:=aj r f;clear f o r aa
 go_wp2_with (refine ow T λ_ x=>pz 65 _ _ T (d+1) g T T 65 _ j.out (by rw[t];rfl) (by rw[t];rfl) ax (x _ _ ?_))
 have f:(q.setRow (d+1) g).heap[d+1]?=ja (jc g 65 (0,0)):=p6 _ _ _ _ _ _ j.out;refine jX (qe T _ _ (d+1) 65 _ (0,0) _ T f mz T (by rw[t];rfl)) T ?_;exact⟨by rw[au],qa P.out (by rw[F];exact Nat.le_succ _) _⟩
def pf(s:ByteArray)(a b:LBy):LBy:=dn (co ⟨#[109,105,120]⟩) ([]++dM (co s)++a++b)
theorem EQ(s a b):(pf s a b).length=32:=iQ _ _
theorem Mv:(jm.info? 65).map (·.size)=ja 32:=by kernel_rfl
theorem tw{a:Act}{o:n0}{x:Operand}(e:h.size=32)(f:o.op=.load 65 x)(g:a.eval x=jA (ja ⟨B,0,A⟩))(i:w.heap[B]?=ja (jc h 65 (0,0))):
 (qy a.eval o).run jm w=.ok (.value (jq h)) w:=by
 have c:=gm (P:=jm) o a 65 x f B 0 g h.toList _ (vS (t:=65) (l:=h.toList) (ak i)) mz T (by rw[Array.length_toList,e];exact Mv)
 simpa using c
theorem Rk(s:ByteArray)(R:s.size<=100000)(g i:LBy)(q:g.length=32)(r:i.length=32)(w:jg)(S:bS w):
 jr jm 157 #[jj s,jq (g.map v8).toArray,jq (i.map v8).toArray] w λe w'=>e=jo (jq ((pf s g i).map v8).toArray)/\jl w w w':=by
 obtain⟨A0,U⟩:=J (((dM (co s)).map v8).toArray);obtain⟨k,t⟩:=J ((g.map v8).toArray);obtain⟨l,u⟩:=J ((i.map v8).toArray);have V:k.size=32:=by rw[t,jU,jD,q]
 have W:l.size=32:=by rw[u,jU,jD,r]
 have X:=EQ s g i;have z:=ff (pf s g i);obtain⟨m,x⟩:=J (((pf s g i).map v8).toArray);have aa:m.size=32:=by rw[x,jU,jD,X]
 rw[<-x]at z⊢;rw[<-t,<-u];obtain⟨f,d⟩:=J w.heap.size;obtain⟨j,c⟩:=J (((w.alloc (jc k 65)).alloc (jc l 65)).alloc (jc a8 65));have hp:j.heap[f]?=ja (jc k 65 (0,0)):=by
  rw[c,d];exact(jF _ _ _ (by simp;omega)).trans ((jF _ _ _ ao).trans (js w _))
 have ad:j.heap[f+1]?=ja (jc l 65 (0,0)):=by
  have h:=js (w.alloc (jc k 65)) (jc l 65);rw[jC]at h;rw[c,d];exact(jF _ _ _ ao).trans h
 have hr:j.heap[f+1+1]?=ja (jc a8 65 (0,0)):=by
  have h:=js ((w.alloc (jc k 65)).alloc (jc l 65)) (jc a8 65);rw[jC,jC]at h;rw[c,d];exact h
 have a:jl w w j:=by
  rw[c];exact(((jy _ w).alloc (jn _) _).alloc ao _).alloc (by simp;omega) _
 have au:j.heap.size=f+1+1+1:=by rw[c,d];simp
 have o:=Buf.new j;have n:=ap j (jc #[jb A 0 0,I N 0,.int .i8 0] 256);obtain⟨W2,B⟩:=J (j.alloc (jc #[jb A 0 0,I N 0,.int .i8 0] 256));rw[<-B]at o n;rw[au]at o;obtain⟨b,C⟩:=J (f+1+1+1);rw[<-C]at o;have D:jk (w.heap.size<=b):=O Y;have E:jk (f<b):=O Y;have F:jk (f+1<b):=O Y;have H:jk (f+1+1<b):=O Y;have ax:=O o;have K:=ae hp n;have M:=ae ad n;have UQ:=ae hr n;have Ur:=O (a.trans (n.mono a.size));have HG:=O d;have VI:=O c;have a2:=O B;have Wd:=O C;have Vr:=O U;have UW:=O t;have Vn:=O u;have a3:=O V;have Zf:=O W;have ay:=O x;have P:=O aa;have a4:=O z;have p:=O q;have a1:=O r;have Q:=O S;have y:jk (s.size<=100000/\(dM (co s)).length=32):=O ⟨R,mI _⟩;clear d c B C U t u V W x X aa z q r S R hp ad hr a au o n
 go_enter func157,ntmps157
 go_upto_region 2 with fail
 rw[<-HG,<-VI,<-a2,<-Wd];refine jT ?_;refine dj (λc=>c.heap[f]?=ja (jc k 65 (0,0))/\c.heap[f+1]?=ja (jc l 65 (0,0))) (.t 0 (.t 4 (.t 6 (.o 1 (.o 2 (.o 3 (.o 5 (.o 7 (.o 8 (.o 9 .done)))))))))) af af af L (λ_ _ _ _ h=>h) ⟨K,M⟩ ?_;obtain⟨o,d⟩:=J W2.drew;have a:=bX W2;rw[<-d]at a⊢;have x:=O (ax.keep a);have z:=ae UQ a;have B:=ae K a;have C:=ae M a;have R:=aj Ur a;clear ax UQ K M Ur a d;refine aK ?_
 (refine aS (v:=jq k) T ai (λc d=>tw a3 T T d.1) (G ?_))
 (refine aS (v:=jq l) T ai (λc d=>tw Zf T T d.2) (G ?_))
 refine aE T (λn c=>?_);go_simp;have d:=Ih s o;rw[d];have a:=AZ s o o.heap.size (jn _);have h:=BZ s o;obtain⟨x1,t⟩:=J (nM s o);rw[<-t]at a h⊢;clear d t;have K:=O (x.keep a);have M:=ae z a;have t:=ae B a;have u:=ae C a;have d:=aj R a;clear x z B C R a;have V:=O h;clear h;go_simp;refine c _ _ ⟨t,u⟩ λ_=>?_
 clear c;refine G ?_;refine aE T (λn c=>?_);go_simp;have h:=tZ _ _ (by rw[kT];have:=y.out;omega) x1 V (Q.below d).num (Q.below d).start;rw[<-Vr]at h;refine h.mono ?_;clear h;rintro e x2 ⟨rfl,a⟩;have B:=O (K.keep a);have C:=ae M a;have x:=ae t a;have z:=ae u a;have R:=aj d a;clear K M t u d a;refine c _ _ ⟨x,z⟩ λ_=>?_
 clear c;refine G ?_;refine aE T (λn c=>?_);go_simp;have h:=uq b [] (dM (co s)) x2 B (mI _) (by have:=y.out;have:=p.out;simp only[j8,jL];omega);rw[<-Vr]at h;refine h.mono ?_;clear h;rintro e W ⟨rfl,d⟩;have K:=O d.buf;have M:=O ((d.bel.block _ H.out).trans C);have t:=O ((d.bel.block _ E.out).trans x);have u:=O ((d.bel.block _ F.out).trans z);have S:=O (R.trans (d.bel.mono D));clear d B C x z R;refine c _ _ ⟨t,u⟩ λ_=>?_
 clear c;refine G ?_;refine aE T (λn c=>?_);go_simp;have h:=uq b ([]++dM (co s)) g W K p (by have:=y.out;have:=p.out;simp only[j8,jL];omega);rw[<-UW]at h;refine h.mono ?_;clear h;rintro e X ⟨rfl,d⟩;have C:=O d.buf;have R:=O ((d.bel.block _ H.out).trans M);have x:=O ((d.bel.block _ E.out).trans t);have z:=O ((d.bel.block _ F.out).trans u);have U:=O (S.trans (d.bel.mono D));clear d K M t u S;refine c _ _ ⟨x,z⟩ λ_=>?_
 clear c;refine G ?_;refine aE T (λn c=>?_);go_simp;have h:=uq b ([]++dM (co s)++g) i X C a1 (by have:=y.out;have:=p.out;simp only[j8,jL];omega);rw[<-Vn]at h;refine h.mono ?_;clear h;rintro e S ⟨rfl,d⟩;have h:=O d.buf;have K:=O ((d.bel.block _ H.out).trans R);have t:=O ((d.bel.block _ E.out).trans x);have u:=O ((d.bel.block _ F.out).trans z);have B:=O (U.trans (d.bel.mono D));clear d C R x z U;refine c _ _ ⟨t,u⟩ λ_=>?_
 clear c;refine G ?_;refine aE T (λn c=>?_);go_simp;have d:=Dn b ([]++dM (co s)++g++i) ⟨#[109,105,120]⟩ L S h (by have q:=mI (co s);have r:=p.out;have x:=a1.out;simp only[j8,jL];omega) (Q.below B);have x:dn (co ⟨#[109,105,120]⟩) ([]++dM (co s)++g++i)=pf s g i:=T;rw[x]at d;rw[<-ay]at d;refine d.mono ?_;clear d x;rintro e d ⟨rfl,a⟩;have U:=O (h.keep a);have x:=ae K a;have C:=ae t a;have M:=ae u a;have R:=aj B a;clear h K t u B a;refine c _ _ ⟨C,M⟩ λ_=>?_
 clear c;refine G ?_;refine aE T (λn c=>?_);rw[jB ai];refine pz 65 _ _ T (f+1+1) m T T 65 _ x.out (by rw[P];rfl) (by rw[P];rfl) a4 (c _ _ ⟨(qf _ _ _ _ Y).trans C,(qf _ _ _ _ Y).trans M⟩ λ_=>?_);clear c;have a:(d.setRow (f+1+1) m).heap[f+1+1]?=ja (jc m 65 (0,0)):=p6 _ _ _ _ _ _ x.out;have c:jl w w (d.setRow (f+1+1) m):=qa R.out (by rw[HG];omega) _;generalize d.setRow (f+1+1) m=z at a c⊢;have h:=O a;have n:=O c;clear a c;refine G ?_;refine jR ?_
 go_wp2_with fail
 refine jX (qe T _ _ (f+1+1) 65 _ (0,0) _ T h mz T (by rw[P];rfl)) T ?_;exact⟨by rw[ay],n⟩
theorem zU(w:jg):dh w (jb A 0 0) []:=⟨A,0,T,jn _,λh=>jG h ao⟩
theorem Hb(a:je)(b:a<2^64):(dc a).length<=10:=mi a b
theorem AN(s:ByteArray)(b:s.size<=1000):AW s [] where
 wf:=by
  rw[lu,vL,wfV];refine .inr (.inr ⟨T,T,T,by simp,λx a=>?_⟩);simp only[r9,List.mem_cons,List.mem_nil_iff,or_false]at a;subst a;rw[wfV];exact .inr (.inl ⟨T,T,by omega,rfl⟩)
 len:=by
  rw[lu,pH];simp only[r9,encs,enc];rw[jI L,jB trivial];have a:=Hb 1 L;have c:=Hb s.size Y;simp only[jW,jL,j8,kT];simp only[j8,mb];omega
 cnt:=by simp
theorem Al(h:w.heap[B]?=ja (jc (j.map v8).toArray e (0,0)))(a:j.length=32):bj w (jb (ja ⟨B,0,A⟩) 32 32) j:=by
 refine⟨_,32,by rw[a],by rw[a];exact jn _,(λh=>by cases h),λ_=>⟨B,0,T,λl b=>ah h ?_⟩⟩;rw[mb];simp[jO,b]
def uY(k:LBy)(s:ByteArray):je:=oZ (co ⟨#[115,99,97,108,97,114]⟩) (dX k s [])
theorem Ha(k:LBy)(o:k.length=32)(s:ByteArray)(y:s.size<=1000)(w:jg)(h:bS w):
 jr jm 159 #[jq (k.map v8).toArray,jj s] w λe w'=>e=jo (I N (uY k s:je))/\jl w w w':=by
 obtain⟨b,i⟩:=J ((k.map v8).toArray);have p:b.size=32:=by rw[i,jU,jD,o]
 have a:=ap w (jc b 65);have c:=js w (jc b 65);obtain⟨z,j⟩:=J w.heap.size;obtain⟨B,l⟩:=J (w.alloc (jc b 65));rw[<-j]at c;rw[<-l]at c a;have d:=sI k o s [] _ B (zU _) (AN s y) (h.below a);rw[<-i]at d⊢;have m:=pE k s [];have n:=ff (dX k s []);obtain⟨f,g⟩:=J (((dX k s []).map v8).toArray);have q:f.size=32:=by rw[g,jU,jD,m]
 rw[<-g]at n d;have C:=O j;have D:=O l;have E:=O a;have r:=O c;have t:=O d;have F:=O g;have u:=O q;have v:=O m;have H:=O n;have K:=O p;have x:=O h;clear i p a c j l d m n g q h
 go_enter func159,ntmps159
 go_upto_region 1 with fail
 rw[<-C,<-D];refine qQ ?_;refine o8 T 65 _ T z T 65 b (0,0) _ r.out mz T (by rw[K];rfl) ?_
 go_wp2_with fail
 refine t.mono ?_;rintro e a ⟨rfl,c⟩;have g:=aj E c;clear c t r
 go_wp2_with (refine ow T λ_ j=>pz 65 _ _ T a.heap.size f T T 65 _ (js a _) (by rw[u];rfl) (by rw[u];rfl) H (j _ _ ?_))
 obtain⟨h,c⟩:=J ((a.alloc (jc a8 65)).setRow a.heap.size f);have i:h.heap[a.heap.size]?=ja (jc f 65 (0,0)):=by rw[c];exact p6 _ _ _ _ _ _ (js a _)
 have d:jl w w h:=by rw[c];exact qa (g.trans ((ap a _).mono g.size)) g.size _
 rw[F]at i;have l:=Iw ⟨#[115,99,97,108,97,114]⟩ L _ _ (by rw[v];decide) h (Al i v) (x.below d).num (x.below d).start;rw[<-c];have m:=O d;clear i c j d;refine l.mono ?_;clear l;rintro e i ⟨rfl,c⟩;have d:=aj m c;clear c
 go_wp2_with fail
 go_ret;exact⟨T,d⟩
theorem KN(n:je)(q:n<=1000000)(w:jg):
 jr jm 216 #[jb A 0 0,I N n] w λe w'=>∃v,e=jo v/\w'.ownsRow w 135 4 v 0 []/\jl w w w':=by
 rcases qI n with b|b
 ·subst b
  go_enter func216,ntmps216
  go_wp2
  go_ret;exact⟨_,T,j0 _ _ _ _,jy _ _⟩
 obtain⟨i,f,g,j,h⟩:=qi Dh;have a:=Lib.run_append_nil_zeros (P:=jm) w 77 3 77 135 i (jq #[I N 0,I N 0,jj ⟨#[]⟩,jb A 0 0]:ji) .i64 .i64 wi jQ f g n b Y Y (by rw[h];omega);have l:=grownCap_ge w n 0 135;have c:=grownCap_le_maxLen w n 0 135 (by unfold j3;omega);generalize grownCap w n 0 135=C at a l c;have d:(Builtin.zeroCells (jq #[I N 0,I N 0,jj ⟨#[]⟩,jb A 0 0]:ji).cells n++Builtin.zeroCells (jq #[I N 0,I N 0,jj ⟨#[]⟩,jb A 0 0]:ji).cells (C-n)).size=C*4:=by
  rw[Array.size_append,size_zeroCells,size_zeroCells];show n*4+(C-n)*4=C*4;omega
 generalize Builtin.zeroCells (jq #[I N 0,I N 0,jj ⟨#[]⟩,jb A 0 0]:ji).cells n++Builtin.zeroCells (jq #[I N 0,I N 0,jj ⟨#[]⟩,jb A 0 0]:ji).cells (C-n)=Z at a d;have m:=O a;have o:=O d;have p:=O c;clear a d c f g j h;have c:(0:jd)<(n:jd):=Y
 go_enter func216,ntmps216
 go_wp2_with (at_builtin;refine Lib.wpList_append_run _ T _ _ 77 3 T _ _ T T _ _ m.out ?_)
 go_ret;refine⟨_,T,⟨T,.inr ⟨w.heap.size,C,Z,T,jn _,js w.drew _,jJ _,p,o,T⟩⟩,?_⟩;exact⟨T,T,T,by simp,λk a=>jF w.drew _ _ a⟩
def sX(w:jg)(v:ji)(l:jh (jh ji)):Prop:=cH w v 4 l.length l.flatten
def fX(a:jh (jh (jh ji)))(k:je):jh (jh ji):=(a.take k).flatten
theorem Gx(a:jh (jh (jh ji)))(k:je)(b:k<a.length):fX a (k+1)=fX a k++a.getD k []:=by
 unfold fX;rw[List.take_add_one,xy];simp[b,jO]
theorem yY(a:jh (jh (jh ji)))(k:je):(fX a k).length<=a.flatten.length:=by
 have h:a.flatten=fX a k++(a.drop k).flatten:=by
  unfold fX;rw[<-xy,xq]
 rw[h];simp
theorem Qr(g m:je)(t:jH)(h:jh ji)(a:jh (jh (jh ji)))(z:h.length=m)(B:a.length=m)(U:a.flatten.length<=1000000)(w:jg)
 (b:w.heap[g]?=ja (jc h.toArray t (0,0))) (c:∀i,i<m->sX w (h.getD i ju) (a.getD i [])) (V:m<=1000) (d:∀e∈a.flatten,∀o∈e,o.oneCell'=jf):
 jr jm 166 #[jb (ja ⟨g,0,A⟩) m m] w λe w'=>∃v,e=jo v/\w'.ownsRow w 135 4 v a.flatten.length a.flatten.flatten/\jl w w w':=by
 have C:g<w.heap.size:=(jK.1 b).1;have f:jk (∀i,i<m->w.cell? ⟨g,i,A⟩=ja (h.getD i ju)):=O λi D=>by
  simp[j5,b,z,D,jO]
 have u:=O c;have E:=O d;clear c b d
 go_enter func166,ntmps166
 go_wp2_with fail
 go_loopw [3,11] (λs b wr=>∃k:je,b=I N k/\k<=m/\s=I N ((fX a k).length:je)/\wr=w) (λ_ b _=>(m-jv b).toNat)
 case atStart=>exact⟨0,T,by omega,rfl,rfl⟩
 obtain⟨k,rfl,W,rfl,c⟩:=hrel;have F:=c.symm;subst F;clear c
 by_cases s:k<m
 ·have l:=f k s
  have H:=yY a (k+1);have d:=Gx a k Y;obtain⟨n,p,c,j,x,y,q⟩:=u k s;rw[j]at l;have r:(fX a (k+1)).length=(fX a k).length+(a.getD k []).length:=by rw[d];simp
  clear j q d n;generalize(a.getD k []).length=n at l r x;have j:=O r;clear r;generalize(fX a k).length=q at j⊢;have K:¬((q:jd)+(n:jd)<0):=Y;have M:q+n<=1000000:=aI j
  go_wp2
  refine⟨⟨k+1,by go_num,by omega,?_,trivial⟩,by simp[jv];omega⟩;rw[j];simp
 have X:jk (k=m):=O Y;have H:=yY a k
 go_wp2_with fail
 refine(KN _ Y _).mono ?_;rintro e w1 ⟨v,rfl,K,c⟩;have M:=O c;clear c
 go_wp2_with fail
 go_loopw [6,27] (λl b c=>∃j:je,b=I N j/\j<=m/\c.ownsRow w 135 4 l (fX a j).length (fX a j).flatten/\jk (jl w w c)) (λ_ b _=>(m-jv b).toNat)
 case atStart=>exact⟨0,T,by omega,by simpa [fX]using K,M⟩
 obtain⟨j,rfl,hj,b,c⟩:=hrel
 by_cases x:j<m
 ·have P:=gh (f j x) (c.block _ C)
  have l:=cH.below (u j x) c;have d:=Gx a j Y;have y:=yY a (j+1);generalize h.getD j ju=vj at P l;have n:∀o∈(a.getD j []).flatten,o.oneCell'=jf:=λo p=>by
   obtain⟨e,he,p⟩:=xz.1 p;refine E e (xz.2 ⟨a.getD j [],?_,he⟩) o p;have q:j<a.length:=Y;simp[jO,q]
  generalize a.getD j []=q at d l n;have aa:=c.size;have r:(fX a j).length+q.length<=1000000:=by rw[d,jL]at y;omega
  have Q:=O d;have R:=O n;have S:=O l;clear d l y n
  go_wp2_with (at_builtin;refine Hid.out ?_)
  refine O ?_;refine ow T λ_ d=>pZ _ _ T w.heap.size _ _ _ T b _ q.length q.flatten T S R Y Y λy w4 f=>d _ _ ?_
  have l:=f.own;have n:=f.grown;clear f d
  go_wp2_with fail
  go_roundw
  case rel=>
   refine⟨j+1,by go_num,by omega,?_,c.grown n Y (λk e=>(b.lt k e).1)⟩;rw[Q]
   simpa using l
  case measure=>simp[jv];omega
 have d:j=m:=Y;have l:fX a j=a.flatten:=by rw[d,<-B];simp[fX]
 rw[l]at b;have n:=O b;clear b d l
 go_wp2
 go_ret;exact⟨_,T,n,c⟩
def mM(w:jg):Prop:=w.var? jm "chartroom/schedule.labels" =ja #[jj ⟨#[105,110,105,116]⟩,jj ⟨#[99,111,109,109,105,116]⟩,jj ⟨#[99,104,105,108,100]⟩]
theorem zN:jm.globalNamed "chartroom/schedule.labels" =ja 1:=by kernel_rfl
theorem mM.below(h:mM w)(b:jl w w w'):mM w':=by
 unfold mM World.var? at*;rw[zN]at h⊢;simp only[Option.bind_some]at h⊢;have c:1<w.heap.size:=by
  rcases qF 1 w.heap.size with a|a
  ·exact a
  rw[Array.getElem?_eq_none a]at h
  cases h
 rw[b.block _ c];exact h
theorem mM.c0(h:mM w):w.cell? ⟨1,0,A⟩=ja (jj ⟨#[105,110,105,116]⟩):=by
 have:=xA zN h 0
 simpa using this
theorem mM.c1(h:mM w):w.cell? ⟨1,1,A⟩=ja (jj ⟨#[99,111,109,109,105,116]⟩):=by
 have:=xA zN h 1
 simpa using this
structure iH(w:jg):Prop where
 dig:bS w
 lab:mM w
theorem iH.below(h:iH w)(a:jl w w w'):iH w':=⟨h.dig.below a,h.lab.below a⟩
def sK(a:ByteArray)(k:LBy):LBy:=dX k a []
def wY(init a:LBy):LBy:=pf ⟨#[101,112,111,99,104]⟩ init (sK ⟨#[99,111,109,109,105,116]⟩ a)
def aU(s:LBy):je:=uY s ⟨#[110,111,100,101]⟩
theorem yM(l k):(sK l k).length=32:=pE _ _ _
theorem Cg(l k):(wY l k).length=32:=EQ _ _ _
structure Arr(l:LBy)(a:jZ ji):Prop where
 eq:a=(l.map v8).toArray
 sz:a.size=32
 one:a.all (·.oneCell')=jf
theorem Arr.mk'(h:j.length=32):∃a,a=(j.map v8).toArray/\Arr j a:=⟨_,T,T,by rw[jU,jD,h],ff _⟩
theorem Ms(k:LBy)(l:k.length=32)(w:jg)(h:iH w):
 jr jm 158 #[I N 1,jq (k.map v8).toArray] w λe w'=>e=jo (jq ((sK ⟨#[99,111,109,109,105,116]⟩ k).map v8).toArray)/\jl w w w':=by
 obtain⟨c,r,s⟩:=Arr.mk' l;obtain⟨f,t,u⟩:=Arr.mk' (yM ⟨#[99,111,109,109,105,116]⟩ k);rw[<-r,<-t];have C:=O l;have x:=O s;have g:=O u;have D:=O h;have m:=ap w (jc c 65);have y:=js w (jc c 65);have a:=ap (w.alloc (jc c 65)) (jc a8 65);have n:=js (w.alloc (jc c 65)) (jc a8 65);rw[jC]at n;obtain⟨B,o⟩:=J ((w.alloc (jc c 65)).alloc (jc a8 65));obtain⟨b,p⟩:=J w.heap.size;have i:=ae y a;have d:=O (m.trans (a.mono m.size));have j:=O n;rw[<-p]at i j;rw[<-o]at i j d;have E:=O o;have q:=O p;clear m y a n o p;have m:=O (aC h.lab.c1 d);have y:jk (1<b+1):=O (by have:=gg h.lab.c1;rw[q];exact Nat.lt_succ_of_lt this);clear r s t u l h
 go_enter func158,ntmps158
 go_upto_region 1 with fail
 rw[<-E,<-q];refine jT ?_;refine dj (λl=>l.heap[b]?=ja (jc c 65 (0,0))/\l.cell? ⟨1,1,A⟩=ja (jj ⟨#[99,111,109,109,105,116]⟩)) (.t 0 (.t 1 (.t 2 (.t 3 (.o 4 (.o 5 .done)))))) af af af L (λ_ _ _ _ h=>h) ⟨i,m⟩ ?_;obtain⟨r,h⟩:=J B.drew;have a:=bX B;rw[<-h]at a⊢;replace d:=aj d a;have n:=ae i a;have o:=ae j a;have p:=O (aC m a);clear a h i j m
 (refine aS (v:=jq c) T ai (λl h=>tw x.sz T T h.1) (G ?_))
 iterate 2 refine aK ?_
 (refine aS (v:=?_) T ai (λl h=>?_) ?_;rotate_left;(have i:=h.2;go_simp;with_reducible rfl);refine G ?_)
 refine aE T (λm h=>?_);go_simp;have i:=sI k C ⟨#[99,111,109,109,105,116]⟩ [] _ r (zU _) (AN _ L) (D.dig.below d);rw[<-x.eq]at i;have j:((dX k ⟨#[99,111,109,109,105,116]⟩ []).map v8).toArray=f:=g.eq.symm;rw[j]at i;refine i.mono ?_;clear i j;rintro e x1 ⟨rfl,a⟩;have i:=ae n a;have j:=ae o a;have l:=O (aC p a);have s:=aj d a;clear a n o p d;refine h _ _ ⟨i,l⟩ λ_=>?_
 clear h;refine G ?_;refine aE T (λm h=>?_);rw[jB ai];refine pz 65 _ _ T (b+1) f T T 65 _ j.out (by rw[g.sz];rfl) (by rw[g.sz];rfl) g.one (h _ _ ⟨(qf _ _ _ _ Y).trans i,(dV (qf _ _ _ _ (Nat.ne_of_lt y))).trans l⟩ λ_=>?_);clear h;have a:(x1.setRow (b+1) f).heap[b+1]?=ja (jc f 65 (0,0)):=p6 _ _ _ _ _ _ j.out;have d:jl w w (x1.setRow (b+1) f):=qa s.out (by rw[q];exact Nat.le_succ _) _;generalize x1.setRow (b+1) f=z at a d⊢;have h:=O a;have m:=O d;clear a d;refine G ?_;refine jR ?_
 go_wp2_with fail
 refine jX (qe T _ _ (b+1) 65 _ (0,0) _ T h mz T (by rw[g.sz];rfl)) T ?_;exact⟨T,m⟩
def sZ:jh (String×DataW Unit):=[("chartroom/digest.start",Rows.laid_chartroom_digest_start),("chartroom/digest.numbers",Rows.laid_chartroom_digest_numbers),("bytes.ErrTooLarge",Rows.laid_bytes_ErrTooLarge),("chartroom/cipher.constants",Rows.laid_chartroom_cipher_constants),("chartroom/schedule.labels",Rows.laid_chartroom_schedule_labels)]
theorem LQ(h:laidMetH jm sZ w):ly w/\iH w:=by
 have i:(Rows.laid_chartroom_digest_start:DataW Unit)=Lib.tabData .u32 (fD.map λx=>(x.toNat:jd)):=by kernel_rfl
 have j:(Rows.laid_chartroom_digest_numbers:DataW Unit)=Lib.tabData .u32 (l9.map λx=>(x.toNat:jd)):=by kernel_rfl
 have k:(Rows.laid_chartroom_cipher_constants:DataW Unit)=Lib.tabData .u32 [0x61707865,0x3320646e,0x79622d32,0x6b206574]:=by kernel_rfl
 have l:(Rows.laid_chartroom_schedule_labels:DataW Unit)=uZ [[105,110,105,116],[99,111,109,109,105,116],[99,104,105,108,100]]:=by kernel_rfl
 unfold sZ at h;rw[MakeChecks.laidMetH_plain _ _ _ af,i,j,k,l]at h;have e:=h.tail;have f:=e.tail.tail;have m:=f.tail;have a:=Lib.tabIs_of_head (g:=2) af af underlying324 wt af af e;have b:=Lib.tabIs_of_head (g:=0) af af underlying273 wt af af h;have c:=Lib.tabIs_of_head (g:=7) af af underlying364 wt af af f;have d:=KF (g:=1) af af underlying305 underlying9 af af m;exact⟨⟨a,b,c⟩,⟨a,b⟩,d⟩
theorem door_met(os:Os)(args:jZ ji):laidMetH jm sZ ((World.doorLaid jm 3000 os).forCall (λ_ _=>0) ⟨#[],args,[]⟩).memory:=
 laidMetH_of_parts3 (fuel:=8) (laidMet_of_run' 8 af af) af af
theorem QR(init d:LBy)(q:init.length=32)(r:d.length=32)(w:jg)(x:iH w):
 jr jm 105 #[jq (init.map v8).toArray,jq (d.map v8).toArray] w λe w'=>e=jo (jq ((wY init d).map v8).toArray)/\jl w w w':=by
 obtain⟨c,y,z⟩:=Arr.mk' q;obtain⟨i,B,C⟩:=Arr.mk' r;obtain⟨A3,U,D⟩:=Arr.mk' (yM ⟨#[99,111,109,109,105,116]⟩ d);obtain⟨j,E,F⟩:=Arr.mk' (Cg init d);rw[<-y,<-B,<-E];have V:=O q;have W:=O r;have H:=O z;have K:=O C;have M:=O D;have k:=O F;have P:=O x;obtain⟨Q,b⟩:=J ((((w.alloc (jc c 65)).alloc (jc i 65)).alloc (jc a8 65)));obtain⟨f,h⟩:=J w.heap.size;have a:=js w (jc c 65);have l:=ap w (jc c 65);have g:=js (w.alloc (jc c 65)) (jc i 65);have n:=ap (w.alloc (jc c 65)) (jc i 65);have o:=js ((w.alloc (jc c 65)).alloc (jc i 65)) (jc a8 65);have p:=ap ((w.alloc (jc c 65)).alloc (jc i 65)) (jc a8 65);replace a:=av a n;replace a:=av a p;rw[jC]at g;replace g:=av g p;rw[jC,jC]at o;have s:=((l).trans (n.mono (l).size)).trans (p.mono ((l).trans (n.mono (l).size)).size);rw[<-b]at s;rw[<-b,<-h]at a;rw[<-b,<-h]at g;rw[<-b,<-h]at o;have t:=O a;have u:=O g;have R:=O o;have m:=O s;have X:=O b;have S:=O h;clear s b h a l g n o p;clear y z B C U D E F q r x
 go_enter func105,ntmps105
 go_upto_region 1 with fail
 rw[<-X,<-S];refine jT ?_;refine dj (λb=>b.heap[f]?=ja (jc c 65 (0,0))/\b.heap[f+1]?=ja (jc i 65 (0,0))) (.t 0 (.t 1 (.o 2 (.o 3 (.o 4 .done))))) af af af L (λ_ _ _ _ h=>h) ⟨t,u⟩ ?_;obtain⟨x,g⟩:=J Q.drew;have a:=bX Q;rw[<-g]at a⊢;replace m:=aj m a;have o:=ae t a;have p:=ae u a;have q:=ae R a;clear a g t u R
 (refine aS (v:=jq c) T ai (λb g=>tw H.sz T T g.1) (G ?_))
 (refine aS (v:=jq i) T ai (λb g=>tw K.sz T T g.2) (G ?_))
 refine aE T (λr g=>?_);go_simp;have b:=Ms d W x (P.below m);rw[<-K.eq]at b;rw[<-M.eq]at b;refine b.mono ?_;clear b;rintro e x1 ⟨rfl,a⟩;have h:=aj m a;have l:=ae o a;have n:=ae p a;have s:=ae q a;clear m o p q;clear a;refine g _ _ ⟨l,n⟩ λ_=>?_
 clear g;refine G ?_;refine aE T (λr g=>?_);go_simp;have b:=Rk ⟨#[101,112,111,99,104]⟩ L init (sK ⟨#[99,111,109,109,105,116]⟩ d) V (yM _ _) x1 (P.dig.below h);rw[<-H.eq]at b;rw[<-M.eq]at b;rw[show((pf ⟨#[101,112,111,99,104]⟩ init (sK ⟨#[99,111,109,109,105,116]⟩ d)).map v8).toArray=j from k.eq.symm]at b;refine b.mono ?_;clear b;rintro e x2 ⟨rfl,a⟩;have q:=aj h a;have m:=ae l a;have o:=ae n a;have p:=ae s a;clear h l n s;clear a;refine g _ _ ⟨m,o⟩ λ_=>?_
 clear g;refine G ?_;refine aE T (λr g=>?_);rw[jB ai];refine pz 65 _ _ T (f+1+1) j T T 65 _ p.out (by rw[k.sz];rfl) (by rw[k.sz];rfl) k.one (g _ _ ⟨(qf _ _ _ _ Y).trans m,(qf _ _ _ _ Y).trans o⟩ λ_=>?_);clear g;have a:(x2.setRow (f+1+1) j).heap[f+1+1]?=ja (jc j 65 (0,0)):=p6 _ _ _ _ _ _ p.out;have b:jl w w (x2.setRow (f+1+1) j):=qa q.out (by rw[S];omega) _;generalize x2.setRow (f+1+1) j=z at a b⊢;have g:=O a;have h:=O b;clear a b;refine G ?_;refine jR ?_
 go_wp2_with fail
 refine jX (qe T _ _ (f+1+1) 65 _ (0,0) _ T g mz T (by rw[k.sz];rfl)) T ?_;exact⟨T,h⟩
theorem SZ(k:LBy)(c:k.length=32)(w:jg)(i:iH w):
 jr jm 106 #[jq (k.map v8).toArray] w λe w'=>e=jo (I N (aU k:je))/\jl w w w':=by
 obtain⟨a,j,l⟩:=Arr.mk' c;rw[<-j];have o:=O c;have m:=O l;have p:=O i;obtain⟨q,b⟩:=J ((w.alloc (jc a 65)));obtain⟨r,d⟩:=J w.heap.size;have f:=js w (jc a 65);have n:=ap w (jc a 65);have g:=n;rw[<-b]at g;rw[<-b,<-d]at f;have s:=O f;have h:=O g;have t:=O b;have u:=O d;clear g b d f n;clear j l c i
 go_enter func106,ntmps106
 go_upto_region 1 with fail
 rw[<-t,<-u];refine qQ ?_;refine o8 T 65 _ T r T 65 a (0,0) _ s.out mz T (by rw[m.sz];rfl) ?_
 go_wp2_with fail
 have b:=Ha k o ⟨#[110,111,100,101]⟩ L q (p.dig.below h);rw[<-m.eq]at b;refine b.mono ?_;clear b;rintro e d ⟨rfl,b⟩;have c:=aj h b;clear b h
 go_wp2_with fail
 go_ret;exact⟨T,c⟩
theorem Ef(k:LBy):1<=aU k/\aU k<2305843009213688669:=zJ _ _
def ko(k body:LBy):LBy:=dn (co ⟨#[99,111,110,102,105,114,109]⟩) (k++body)
theorem sW(k b):(ko k b).length=32:=iQ _ _
theorem Py(k body:LBy)(j:k.length=32)(l:body.length=32)(w:jg)(y:iH w):
 jr jm 111 #[jq (k.map v8).toArray,jq (body.map v8).toArray] w λe w'=>e=jo (jq ((ko k body).map v8).toArray)/\jl w w w':=by
 obtain⟨d,z,B⟩:=Arr.mk' j;obtain⟨f,C,D⟩:=Arr.mk' l;obtain⟨g,E,F⟩:=Arr.mk' (sW k body);rw[<-z,<-C,<-E];have s:=O j;have t:=O l;have Q:=O B;have R:=O D;have m:=O F;have H:=O y;obtain⟨K,c⟩:=J ((((w.alloc (jc d 65)).alloc (jc f 23)).alloc (jc a8 23)));obtain⟨b,i⟩:=J w.heap.size;have a:=js w (jc d 65);have n:=ap w (jc d 65);have h:=js (w.alloc (jc d 65)) (jc f 23);have o:=ap (w.alloc (jc d 65)) (jc f 23);have p:=js ((w.alloc (jc d 65)).alloc (jc f 23)) (jc a8 23);have q:=ap ((w.alloc (jc d 65)).alloc (jc f 23)) (jc a8 23);replace a:=av a o;replace a:=av a q;rw[jC]at h;replace h:=av h q;rw[jC,jC]at p;have u:=((n).trans (o.mono (n).size)).trans (q.mono ((n).trans (o.mono (n).size)).size);rw[<-c]at u;rw[<-c,<-i]at a;rw[<-c,<-i]at h;rw[<-c,<-i]at p;have v:=O a;have x:=O h;have M:=O p;have r:=O u;have S:=O c;have P:=O i;clear u c i a n h o p q;clear z B C D E F j l y
 go_enter func111,ntmps111
 go_upto_region 1 with fail
 rw[<-S,<-P];refine jT ?_;refine dj (λa=>a.heap[b]?=ja (jc d 65 (0,0))/\a.heap[b+1]?=ja (jc f 23 (0,0))) (.t 0 (.t 1 (.o 2 (.o 3 (.o 4 (.o 5 .done)))))) af af af L (λ_ _ _ _ h=>h) ⟨v,x⟩ ?_;obtain⟨n,c⟩:=J K.drew;have a:=bX K;rw[<-c]at a⊢;replace r:=aj r a;have u:=ae v a;have y:=ae x a;have z:=ae M a;clear a c v x M;iterate 2 refine aK ?_
 refine aE T (λq c=>?_);go_simp;have a:=ap n (jc #[jb (ja ⟨b,0,A⟩) 32 32,jb (ja ⟨b+1,0,A⟩) 32 32] 68);have i:=js n (jc #[jb (ja ⟨b,0,A⟩) 32 32,jb (ja ⟨b+1,0,A⟩) 32 32] 68);obtain⟨x1,v⟩:=J (n.alloc (jc #[jb (ja ⟨b,0,A⟩) 32 32,jb (ja ⟨b+1,0,A⟩) 32 32] 68));rw[<-v]at a i⊢;obtain⟨C,o⟩:=J n.heap.size;rw[<-o]at i⊢;have F:=O o;clear o;have x:=aj r a;have o:=ae u a;have p:=ae y a;have B:=ae z a;clear r u y z;have y:=O i;clear i v a;refine c _ _ ⟨o,p⟩ λ_=>?_
 clear c;refine G ?_;refine aE T (λq c=>?_);go_simp;have r:=uO C 2 68 [jb (ja ⟨b,0,A⟩) 32 32,jb (ja ⟨b+1,0,A⟩) 32 32] [k,body] T T (by have j:=s.out;have l:=t.out;simp;omega) x1 y (λi u=>by
  match i,u with
  |0,_=>exact Al (by have h:=o.out;rw[Q.eq]at h;exact h) s
  |1,_=>exact Al (by have h:=p.out;rw[R.eq]at h;exact h) t) L
 refine r.mono ?_;clear r;rintro e x2 ⟨D,rfl,h,a⟩;have i:[k,body].flatten=k++body:=by simp
 rw[i]at h;have E:=O (bj.of_own h);clear h i;have h:=aj x a;have i:=ae o a;have r:=ae p a;have u:=ae B a;clear x o p B;clear a;refine c _ _ ⟨i,r⟩ λ_=>?_
 clear c;refine G ?_;refine aE T (λq c=>?_);go_simp;have o:=su ⟨#[99,111,110,102,105,114,109]⟩ L D (k++body) (by have j:=s.out;have l:=t.out;simp;omega) x2 E (H.dig.below h).num (H.dig.below h).start;rw[show((dn (co ⟨#[99,111,110,102,105,114,109]⟩) (k++body)).map v8).toArray=g from m.eq.symm]at o;refine o.mono ?_;clear o;rintro e o ⟨rfl,a⟩;have B:=aj h a;have p:=ae i a;have v:=ae r a;have x:=ae u a;clear h i r u;clear a;refine c _ _ ⟨p,v⟩ λ_=>?_
 clear c;refine G ?_;refine aE T (λq c=>?_);rw[jB ai];refine pz 23 _ _ T (b+1+1) g T T 23 _ x.out (by rw[m.sz];rfl) (by rw[m.sz];rfl) m.one (c _ _ ⟨(qf _ _ _ _ Y).trans p,(qf _ _ _ _ Y).trans v⟩ λ_=>?_);clear c;have a:(o.setRow (b+1+1) g).heap[b+1+1]?=ja (jc g 23 (0,0)):=p6 _ _ _ _ _ _ x.out;have c:jl w w (o.setRow (b+1+1) g):=qa B.out (by rw[P];omega) _;generalize o.setRow (b+1+1) g=z at a c⊢;have h:=O a;have i:=O c;clear a c;refine G ?_;refine jR ?_
 go_wp2_with fail
 refine jX (qe T _ _ (b+1+1) 23 _ (0,0) _ T h wq T (by rw[m.sz];rfl)) T ?_;exact⟨T,i⟩
end Go.Proofs.YtpmlopbaafjefaaGreatDoor
