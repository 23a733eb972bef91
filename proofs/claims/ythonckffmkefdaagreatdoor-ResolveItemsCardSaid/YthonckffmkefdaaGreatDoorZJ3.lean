/- Texts of the proof, part 3 of 7 (Pb Pc Kj Kk Kl Km Kn Ko Ku Kv Kw Kx Ky Kz Ws Df Ea Eb Ec Ed Ee Wb Rq Wc Wd Wt We Wf Wg Wi Wj Wk Wl Wm Wu Wv Wx Wy Wo Ad Ae). -/
import Derived.Handy
import Derived.Lib.SlBytesConst
import Derived.Test.YthonckffmkefdaaGreatDoorZJ2
namespace Go.Proofs.YthonckffmkefdaaGreatDoor
set_option maxHeartbeats 64000000
set_option maxRecDepth 100000
set_option linter.unusedVariables false
set_option linter.unusedSimpArgs false
set_option linter.unusedSectionVars false
open Go.RowKit
open Go.Proofs.Tryz
open Go.Value renaming int->I
open Go.IntKind renaming i64->N,u32->jV,u64->j7
open _root_ renaming rfl->T,Int->jd,Nat->je,List->jh,if_pos->jB,absurd->jG,if_neg->jI,Option->jS,Array->jZ,congrArg->qM
open _root_.Option renaming none->A,some->ja,isSome_iff_exists->r4,isSome_none->xg
open Go.Value renaming slice->jb,string->jj,agg->jq,tuple->jw,pointer->jA
open Go.Obj renaming cells->jc
open _root_.Bool renaming true->jf,false->jp,false_eq_true->xh
open Go renaming World->jg,Value->ji,Calls->jr,Boxed->jt,undef->ju,TypeId->jH,Addr->jM,wp_region_noPanic->jT,bodyPost_ret->jX,maxLen->j3,Oper->nv,grownBy_setCell'->ob,wpList_plain->oj,wpList_load_row->o1,wp_store_row->o8,setRow_heap->pz,below_setRow->p6,results_cell_row->qd,setRow_other->qe,info_parts->qh,callsIn_wide->qv,execOp->qx,results_none->qL,Program->qN,wp_region_lit->qP,bodyPost_end->qW,callsIn_of_wp->sq,callsIn_of_wp_marks->sv,run_takeDeferred->sy,ownsRow_putObj->vi,wpList_append_own->wi
open Go.RowKit renaming Hid->jk,Below->jl,ownsRow_setCell_below->qY
open Go.Proofs.Tryz renaming prog->jm
open _root_.Nat renaming le_refl->jn,le_trans->jz,zero_le->jJ,lt_of_lt_of_le->jN,zero_add->lw,le_of_eq->qg,reduceAdd->qi,reduceSub->qj,mod_eq_of_lt->qA,min_eq_left->qC,lt_or_ge->qE,mod_lt->qG,eq_zero_or_pos->qH,zero_mul->qT,pow_le_pow_right->q8,mul_one->rk,mul_le_mul_right->rv,add_assoc->r7,add_mul->r9,le_of_lt->sn,xor_lt_two_pow->wx,lt_of_le_of_lt->xw
open Go.Ending renaming returned->jo
open Go.World renaming alloc_heap_new->js,size_alloc->jC,ownsRow_nil->j0,cell?->j5,frozen?->r5,putObj_heap_other->xe,there_alloc->xl,var?_cell->xB
open Go.Proofs renaming intOf->jv
open Go.RowKit.Below renaming refl->jy,heap_alloc->jF,mono->qt,heap_setCell->qZ
open _root_.List renaming length_map->jD,length_append->jL,getD->jO,size_toArray->jU,length_cons->jW,map_append->j4,append_assoc->j6,length_nil->j8,replicate->j9,range->mb,take_of_length_le->mz,getElem?_eq_getElem->n0,take_succ_eq_append_getElem->ow,nil_append->qa,cons_append->qb,length_take->qf,push_toArray->qn,append_toArray->qo,eq_nil_of_length_eq_zero->qs,getElem?_map->qu,getElem_mem->qD,getElem?_append_left->qJ,getElem?_append_right->qK,mem_map->qQ,map_cons->qV,append_nil->q7,length_filter_le->q9,getElem?_take_of_lt->rn,map_nil->r8,flatMap_cons->sh,length_mergeSort->xf,range_succ->xm,getElem?_take->xo,getElem?_eq_some_iff->xq,take_append_drop->xr,mem_of_getElem?->xt,getElem?_of_mem->xu,length_take_le'->xx,take_succ_cons->xy,flatten_append->xz,mem_flatten->xA
open Go.Value renaming int->jE,slice->jP,oneCell'->j1,ownBlock->qc,pointer->r6
open _root_.Array renaming getElem?_eq_some_iff->jK,replicate_succ->qk,replicate_zero->ql,getElem?_toList->xi
open Go.Proofs.Tryz renaming underlying3->jQ,underlying27->ms,underlying4->nn,underlying183->qw,func182->qy,ntmps182->qz,underlying30->qO,underlying237->qX,underlying38->sx,underlying192->wq,underlying93->wt,underlying23->wv
open Go.NoPanic renaming normal->jR
open _root_.BitVec renaming ofNat->jY,toNat_ofNat->qB,ofInt_natCast->xa,toNat_xor->xd,ofInt->xn
open Go.IntKind renaming wrap_i64->qF,u64->qI,i64->qS,wrap_u64->qU
open _root_.Int renaming eq_ofNat_of_zero_le->xj,toNat_natCast->xk
variable{j:LBy}{o:Obj}{p r:Prop}{e:jH}{h:jZ ji}{x y:jd}{B m:je}{D:je->Prop}{a w w':jg}{t:jh (jd×jd)}{f:jh Val}{U:jh jd}{b xs:jh ji}{d:ji}
section
open Go.RowKit Go.Shelf
attribute [local go_sem] Oper.semAt_some
theorem FD(n:je)(h:n<4611686018427387904)(w:jg):
 jr jm 224 #[I N n] w λe w'=>e=jo (I N (n/2:je))/\w=w':=by
 go_enter func224,ntmps224
 go_wp2
 go_ret;exact⟨T,T⟩
def upL:je->je->jh je
 |0,_=>[]
 |k+1,n=>if n>1 then n::upL k (n/2)else []
theorem zl:∀(k n:je),∀x∈upL k n,x<=n
 |0,_,x,h=>by simp[upL]at h
 |k+1,n,x,h=>by
  unfold upL at h
  split at h
  ·rcases List.mem_cons.1 h with rfl|h
   ·omega
   have:=zl k (n/2) x h;omega
  simp at h
theorem F6:∀(k n:je),(upL k n).length<=k
 |0,_=>by simp[upL]
 |k+1,n=>by
  unfold upL
  split
  ·have:=F6 k (n/2);simp;omega
  simp
theorem uB(d:je)(a:d<512):(upL 10 (512+d)).length=8+1:=by
 have h:∀d:Fin 512,(upL 10 (512+d.val)).length=8+1:=by decide+kernel
 exact h ⟨d,a⟩
theorem FR(k n:je)(c:n<1024){a:jh je}{x:je}(h:a++[x]<+:upL k n):x<1024/\a.length<k:=by
 have d:=zl k n x (h.subset ar);have b:=h.length_le;have e:=F6 k n;simp at b;omega
theorem Fy(n:jd)(w:jg):
 jr jm 239 #[I N n] w λe w'=>e=jo (.func (.func 263) #[] #[jA (ja ⟨w,0,A⟩)])/\w'=w.alloc (jc #[I N n] 301):=by
 go_enter func239,ntmps239
 go_wp2
 go_ret;exact⟨T,T⟩
def wG(w:jg)(b:je):je:=(jv ((w.cell? ⟨b,0,A⟩).getD (I N 0))).toNat
theorem EP{b:je}{t:jH}(h:jt w b t (I N m)):wG w b=m:=by
 unfold wG;rw[h.cell];simp[jv]
theorem Ea(h:1<m)(a:m<2^B):∃i,B=i+1/\upL B m=m::upL i (m/2)/\m/2<2^i:=by
 rcases B with _|i
 ·simp at a;omega
 exact⟨i,T,by simp[upL,h],by rw[Nat.pow_succ]at a;omega⟩
theorem Fj(h:m<=1):upL B m=[]:=by
 rcases B with _|i
 ·rfl
 simp[upL];omega
set_option maxRecDepth 100000 in
theorem EN(n k:je)(B:n<4611686018427387904)(C:n<2^k)(b:je)(w:jg)(t:jt w b 301 (I N n)):
 eO jm 263 #[jA (ja ⟨b,0,A⟩)] (λm:je=>#[I N (m:jd)]) (·=b) 0 (λxs=>xs=upL k n) (λ_=>True) (λys=>ys<+:upL k n) w:=by
 intro l u X W g h v o p;have D:jt W b 301 (I N n):=(g.block b t.lt).trans t;refine(qv (n:=0)).1 ?_;refine sq func263 T trivial ?_ T;simp only[ntmps263,jU,jW,j8,qi,qj,qk,ql,qn,qo,qa,qb]
 gi_wp2
 gi_loopw [] (λwr=>W.heap.size<=wr.heap.size/\∃(a:jh je) (j m:je),a.length+j=k/\m<2^j/\m<4611686018427387904/\a++upL j m=upL k n/\u a (·=b) wr/\jt wr b 301 (I N m))
  (λwr=>wG wr b)
 case atStart=>
  exact⟨jn _,[],k,n,by simp,C,B,T,p,D⟩
 obtain⟨E,a,j,m,aa,F,ac,c,x,d⟩:=hrel;have hc:=d.cell;have hf:=d.frozen
 by_cases H:1<m
 ·obtain⟨i,rfl,e,K⟩:=Ea H F
  obtain⟨fn,tmps,assign,body,M,y⟩:=o a m (·=b) wr x (by rintro _ rfl;exact d.lt) ⟨upL i (m/2),by rw[<-c,e];simp⟩;have q:jk (a++upL (i+1) m=upL k n):=c;have P:jk (upL (i+1) m=m::upL i (m/2)):=e;clear c e o p v g;have Q:jk (bY W.heap.size u):=h;clear h
  gi_wp2
  refine⟨T,y.mono ?_⟩;rintro e z (⟨rfl,R,r,s⟩|⟨rfl,S,r,s⟩)
  ·have f:jt z b 301 (I N m):=(s b T).trans d
   have ad:=f.cell;have Zc:=f.frozen;have U:=r.size;clear s r y M
   gi_wp2_with fail
   refine⟨trivial,T,(callsIn_wide.2 (FD _ Y _)).mono ?_⟩;rintro e w' ⟨rfl,rfl⟩
   gi_wp2
   go_roundw
   case rel=>
    refine⟨by simpa using jz E U,a++[m],i,m/2,by simp;omega,K,by omega,by rw[<-q,P];simp,Q.keep R ?_,f.set _⟩;exact⟨T,T,T,by simp,λk _ V=>.inl (qZ _ _ _ _ V)⟩
   have V:wG (z.setCell ⟨b,0,A⟩ (I N ((m:jd)/2))) b=m/2:=EP (m:=m/2) (f.set _);rw[V,EP d];omega
  gi_wp2
  refine qW (qL T _ _ _) T ?_;exact⟨⟨_,T⟩,.inr ⟨_,_,trivial,S⟩⟩
 have q:jk (a++upL j m=upL k n):=c;clear c o p h v g
 gi_wp2
 refine⟨λ_ h=>(by cases h),?_⟩
 gi_wp2
 refine qW (qL T _ _ _) T ?_;exact⟨⟨_,T⟩,.inl ⟨_,_,by rw[<-q,Fj Y,q7],x⟩⟩
def gU(n:je):je:=n/2
def kB(n:je):je:=n^^^1
theorem JB(n:je)(h:n<1024)(w:jg):
 jr jm 224 #[I N n] w λe w'=>e=jo (I N (gU n:je))/\w=w':=
 FD n Y w
theorem KF(k:IntKind)(j:je)(f:j<=k.bits)(g:∀n:jd,0<=n->n<2^j->k.wrap n=n)(a b:je)(c:a<2^j)(d:b<2^j):
 bits .xor k a b=((a^^^b:je):jd):=by
 have e:2^j<=2^k.bits:=q8 G f;have h:a%2^k.bits=a:=qA (jN c e);have i:b%2^k.bits=b:=qA (jN d e);have l:a^^^b<2^j:=wx c d;simp only[bits,xa,xd,qB,h,i];exact g _ (Int.natCast_nonneg _) (by exact_mod_cast l)
theorem Rw(n:je)(h:n<1024):bits .xor .i64 (n:jd) 1=((kB n:je):jd):=
 KF .i64 10 G (λn a b=>IntWalk.i64_in n Y) n 1 Y Y
theorem MJ(n:je)(h:n<1024)(w:jg):
 jr jm 201 #[I N n] w λe w'=>e=jo (I N (kB n:je))/\w=w':=by
 go_enter func201,ntmps201
 go_wp2
 go_ret;exact⟨by rw[Rw n h];rfl,rfl⟩
def iv(l:jh je):jh ji:=l.map λn:je=>jE .i64 (n:jd)
def kA(d:je):jh je:=(upL 10 (512+d)).map gU
def nI(d:je):jh je:=(upL 10 (512+d)).map kB
theorem JD(d:je):iv (kA d)=(upL 10 (512+d)).map λn=>jE .i64 (gU n:je):=by simp[iv,kA,Function.comp_def]
theorem SY(d:je):iv (nI d)=(upL 10 (512+d)).map λn=>jE .i64 (kB n:je):=by simp[iv,nI,Function.comp_def]
def yR(w:jg)(v:ji)(xs:jh ji):Prop:=
 (v=jb A 0 0/\xs=[])\/∃b off c,v=jb (ja ⟨b,off,A⟩) xs.length c/\∀j a,xs[j]?=ja a->w.cell? ⟨b,off+j,A⟩=ja a
theorem yR.below{v:ji}(h:yR w v xs)(c:jl w w w'):yR w' v xs:=by
 rcases h with h|⟨b,off,d,rfl,e⟩
 ·exact .inl h
 refine .inr ⟨b,off,d,T,λj f g=>?_⟩;have a:=e j f g;rw[c.cell (p:=⟨b,off+j,A⟩) (World.block_lt_of_cell? w ⟨b,off+j,A⟩ a)];exact a
end
section
open Go.RowKit Go.Shelf
attribute [local go_sem] Oper.semAt_some
theorem BW:(jm.info? 3).map (λi=>(i.zero,i.size,i.bytes))=ja (ja (I N 0),1,8):=by kernel_rfl
set_option maxRecDepth 100000 in
theorem Qb(d:je)(V:d<512)(w:jg):
 jr jm 200 #[I N d,.func (.func 224) #[] #[]] w λe w'=>∃v,e=jo (jw #[v,I N 0])/\
  w'.ownsRow w 3 1 v 9 ((upL 10 (512+d)).map λn=>jE .i64 (gU n:je))/\jl w w w':=by
 obtain⟨X,hi,UA,aa,ac⟩:=qh BW;refine(qv (n:=0)).1 ?_;refine sv func200 T trivial ?_ T;simp only[ntmps200,jU,jW,j8,qi,qj,qk,ql,qn,qo,qa,qb]
 gi_wp2_with fail
 refine⟨trivial,T,(callsIn_wide.2 (Gj _ Y Y _)).mono ?_⟩;rintro e w' ⟨rfl,rfl⟩
 gi_wp2_with fail
 refine⟨trivial,T,(callsIn_wide.2 (Fy _ _)).mono ?_⟩;rintro e w' ⟨rfl,rfl⟩
 gi_wp2_with fail
 have E:jt (((w.alloc (jc #[.func (.func 224) #[] #[]] 299)).alloc (jc #[jb A 0 0] 38)).alloc (jc #[I N (512+d)] 301)) w.heap.size 299 (.func (.func 224) #[] #[]):=
  ((Boxed.new w _ _).alloc _).alloc _
 have F:jt (((w.alloc (jc #[.func (.func 224) #[] #[]] 299)).alloc (jc #[jb A 0 0] 38)).alloc (jc #[I N (512+d)] 301)) (w.heap.size+1) 38 (jb A 0 0):=by
  have:=Boxed.new (w.alloc (jc #[.func (.func 224) #[] #[]] 299)) 38 (jb A 0 0);rw[jC]at this;exact this.alloc _
 have t:jt (((w.alloc (jc #[.func (.func 224) #[] #[]] 299)).alloc (jc #[jb A 0 0] 38)).alloc (jc #[I N (512+d)] 301)) (w.heap.size+1+1) 301 (I N ((512+d:je):jd)):=by
  have:=Boxed.new ((w.alloc (jc #[.func (.func 224) #[] #[]] 299)).alloc (jc #[jb A 0 0] 38)) 301 (I N ((512+d:je):jd));rw[jC,jC]at this;exact this
 have H:jl w w (((w.alloc (jc #[.func (.func 224) #[] #[]] 299)).alloc (jc #[jb A 0 0] 38)).alloc (jc #[I N (512+d)] 301)):=
  (((jy _ w).alloc (jn _) _).alloc ar _).alloc (by simp;omega) _
 have a:(((w.alloc (jc #[.func (.func 224) #[] #[]] 299)).alloc (jc #[jb A 0 0] 38)).alloc (jc #[I N (512+d)] 301)).heap.size=w.heap.size+3:=by simp
 generalize(((w.alloc (jc #[.func (.func 224) #[] #[]] 299)).alloc (jc #[jb A 0 0] 38)).alloc (jc #[I N (512+d)] 301))=o at E F t H a⊢;have a4:jk (o.heap.size=w.heap.size+3):=a;have a5:w.heap.size+3<=o.heap.size:=Y;clear a;refine rh (n:=0) (gf:=263) (lb:=#[jA (ja ⟨w.heap.size+1+1,0,A⟩)]) T (enters_of func263 af T)
  (EN (512+d) 10 Y Y (w.heap.size+1+1) o t) (jJ _) (λ_=>rfl) (by rintro k rfl;exact t.lt)
  (λf Ψ W=>gP (w.heap.size+1) 38 w.heap.size 3 1 f.length (f.map λn=>jE .i64 (gU n:je)) (λ_=>True) Ψ W/\(jt W w.heap.size 299 (.func (.func 224) #[] #[])/\¬Ψ w.heap.size)/\(jl w w W/\∀k,Ψ k->w.heap.size<=k))
  (λ_ _ _ _=>False)
  ((mY o.heap.size (w.heap.size+1) 38 w.heap.size 3 1 (λf=>f.length) (λf:jh je=>f.map λn=>jE .i64 (gU n:je)) (λ_ _=>True)).and ((iQ _ _ _ (λ_=>_)).and (kH _ _ w (jn _) Y)))
  (λ_=>fk _ _)
  ⟨⟨_,F,by omega,j0 _ _ _ _,by simp[qc],trivial⟩,⟨E,by omega⟩,H,by rintro k rfl;omega⟩
  (λx D _ _=>D={tmps:=#[I N d,.func (.func 224) #[] #[],ju,jA (ja ⟨w,0,A⟩),jA (ja ⟨w.heap.size+1,0,A⟩),I N 0,
   I N (512+d),I N x,jw #[I N (512+d),I N 0],I N d,jw #[I N (512+d),I N 0],I N (512+d),I N 0,I N 0,.bool jp,ju,I N (512+d),
   .func (.func 263) #[] #[jA (ja ⟨w.heap.size+1+1,0,A⟩)],I N x,ju,ju,ju,ju,ju,ju,ju],defers:=[]}) (fk _ _)
  ?assign ?body ?done ?stop
 case assign=>
  intro l f x Ψ r K c _ a
  gi_wp2
  exact a _ _ (jy _ _) c T
 case body=>
  rintro l f x Ψ D r ⟨⟨v,c,K,i,M,-⟩,⟨q,P⟩,m,Q⟩ rfl g Ye a6 ba;obtain⟨hx,bb⟩:=FR 10 (512+d) Y g;clear g;have u:=c.cell;have R:=q.cell;have y:=O m;have ad:=m.size;clear m
  gi_wp2
  refine Io (λg=>g.cell? ⟨w.heap.size+1,0,A⟩=ja v/\g.cell? ⟨w,0,A⟩=ja (.func (.func 224) #[] #[])) 6
   [(0,jf),(1,jf),(2,jf),(3,jp),(4,jp),(5,jp),(6,jp)] af af af af rfl (λ_ _ _ _ h=>h) (fun⟨_,_,h⟩=>h) ⟨u,R⟩ ?_
  refine fX (v:=?_) T T (λg j=>?_) ?_
  rotate_left
  ·obtain⟨k,s⟩:=j;go_simp;with_reducible rfl
  refine fX (v:=?_) T T (λg j=>?_) ?_
  rotate_left
  ·obtain⟨k,s⟩:=j;go_simp;with_reducible rfl
  refine fX (v:=?_) T T (λg j=>?_) ?_
  rotate_left
  ·go_simp;with_reducible rfl
  refine dn T (λz a=>?_);go_simp;refine(JB _ Y _).mono ?_;rintro e w' ⟨rfl,rfl⟩;refine a _ _ ⟨u,R⟩ λ_=>?_
  clear a;refine dn T (λz a=>?_);go_simp;have VU:(r.alloc (jc #[I N (gU x:je)] 3)).cell? ⟨w.heap.size+1,0,A⟩=ja v:=(c.alloc _).cell;have B:(r.alloc (jc #[I N (gU x:je)] 3)).cell? ⟨w,0,A⟩=ja (.func (.func 224) #[] #[]):=(q.alloc _).cell;refine a _ _ ⟨VU,B⟩ λ_=>?_
  clear a;refine dn T (λz a=>?_);refine step_append_lies _ T (.tmp 19) (.tmp 23) 38 T w.heap.size 3 X (I N 0) 1 8 sx hi UA aa ac T G v f.length _ T (i.alloc _)
   ⟨r,0,A⟩ 1 1 [I N (gU x:je)] rfl rfl (cell_one_new _ _ _) (by simp[j1]) Y (by unfold j3;omega) Y (by simp;omega) _ rfl ?_
  intro g k S au ax ay bc;have C:=BJ ax;obtain⟨s,a1⟩:=se (B0:=o.heap.size) c G i ad Y K M Ye au C (by
   intro j U;simp only[qc,Option.some.injEq]at U;subst U;simpa using ay)
  have j:jt S w.heap.size 299 (.func (.func 224) #[] #[]):=(q.alloc _).kept C (by have:=q.not_row (e:=3) G i;exact this);have U:jt S (w.heap.size+1) 38 v:=(c.alloc _).kept C (by have:=c.not_row (e:=3) G i;exact this);have a2:=U.cell;have bd:=U.frozen;have a3:=j.cell;refine a _ _ ⟨a2,a3⟩ λ_=>?_
  clear a;refine pA T (λz a=>?_);go_simp;refine a _ _ ⟨⟨s.1,s.2.1.mono (jJ _),s.2.2⟩,?_,⟨j.other Y _,P⟩,y.trans s.2.1,Q⟩;obtain⟨z,b1,b2,b3,b4,-⟩:=a1;exact⟨z,b1,b2,by simpa using b3,b4,trivial⟩
 case done=>
  rintro D xs Ψ W s rfl ⟨⟨v,c,K,i,M,-⟩,⟨q,P⟩,m,Q⟩ a;have u:=c.cell;have x:=c.frozen;have y:=O m;clear m;have j:=uB d V;rw[j]at i;clear j;obtain⟨g,k,rfl⟩:=ownsRow_succ i
  gi_wp2
  refine⟨by simp,.inl ⟨_,_,T,sy (b:=D) (ds:=[]) ?_,?_⟩⟩
  ·exact(KeepsOthers.setCell W _ _).same D _ a T
  have j:jt (W.setCell ⟨w.heap.size+1,0,A⟩ (jb (ja ⟨g,0,A⟩) 9 k)) (w.heap.size+1) 38 (jb (ja ⟨g,0,A⟩) 9 k):=c.set _;have l:(W.setCell ⟨w.heap.size+1,0,A⟩ (jb (ja ⟨g,0,A⟩) 9 k)).heap[D]?=ja (.deferred (ja [])):=(KeepsOthers.setCell W _ _).same D _ a T;have m:(W.setCell ⟨w.heap.size+1,0,A⟩ (jb (ja ⟨g,0,A⟩) 9 k)).ownsRow w.heap.size 3 1 (jb (ja ⟨g,0,A⟩) 9 k) 9 ((upL 10 (512+d)).map λn=>jE .i64 (gU n:je)):=
   i.kept (ob W _ _) (.inr (c.not_row (e:=3) G i).symm)
  have r:jt ((W.setCell ⟨w.heap.size+1,0,A⟩ (jb (ja ⟨g,0,A⟩) 9 k)).putObj D (.deferred A)) (w.heap.size+1) 38 (jb (ja ⟨g,0,A⟩) 9 k):=
   (xe Y).trans j
  have B:=r.cell;refine⟨jw #[jb (ja ⟨g,0,A⟩) 9 k,I N 0],by simp[results,results200,go_sem,B],_,T,vi m _ l T,?_⟩;exact(y.setCell (p:=⟨w.heap.size+1,0,A⟩) ar _).trans (iA Y)
 intro D c f Ψ W _ _ h;exact h.elim
set_option maxRecDepth 100000 in
theorem Js(d:je)(V:d<512)(w:jg):
 jr jm 200 #[I N d,.func (.func 201) #[] #[]] w λe w'=>∃v,e=jo (jw #[v,I N 0])/\
  w'.ownsRow w 3 1 v 9 ((upL 10 (512+d)).map λn=>jE .i64 (kB n:je))/\jl w w w':=by
 obtain⟨X,hi,UA,aa,ac⟩:=qh BW;refine(qv (n:=0)).1 ?_;refine sv func200 T trivial ?_ T;simp only[ntmps200,jU,jW,j8,qi,qj,qk,ql,qn,qo,qa,qb]
 gi_wp2_with fail
 refine⟨trivial,T,(callsIn_wide.2 (Gj _ Y Y _)).mono ?_⟩;rintro e w' ⟨rfl,rfl⟩
 gi_wp2_with fail
 refine⟨trivial,T,(callsIn_wide.2 (Fy _ _)).mono ?_⟩;rintro e w' ⟨rfl,rfl⟩
 gi_wp2_with fail
 have E:jt (((w.alloc (jc #[.func (.func 201) #[] #[]] 299)).alloc (jc #[jb A 0 0] 38)).alloc (jc #[I N (512+d)] 301)) w.heap.size 299 (.func (.func 201) #[] #[]):=
  ((Boxed.new w _ _).alloc _).alloc _
 have F:jt (((w.alloc (jc #[.func (.func 201) #[] #[]] 299)).alloc (jc #[jb A 0 0] 38)).alloc (jc #[I N (512+d)] 301)) (w.heap.size+1) 38 (jb A 0 0):=by
  have:=Boxed.new (w.alloc (jc #[.func (.func 201) #[] #[]] 299)) 38 (jb A 0 0);rw[jC]at this;exact this.alloc _
 have t:jt (((w.alloc (jc #[.func (.func 201) #[] #[]] 299)).alloc (jc #[jb A 0 0] 38)).alloc (jc #[I N (512+d)] 301)) (w.heap.size+1+1) 301 (I N ((512+d:je):jd)):=by
  have:=Boxed.new ((w.alloc (jc #[.func (.func 201) #[] #[]] 299)).alloc (jc #[jb A 0 0] 38)) 301 (I N ((512+d:je):jd));rw[jC,jC]at this;exact this
 have H:jl w w (((w.alloc (jc #[.func (.func 201) #[] #[]] 299)).alloc (jc #[jb A 0 0] 38)).alloc (jc #[I N (512+d)] 301)):=
  (((jy _ w).alloc (jn _) _).alloc ar _).alloc (by simp;omega) _
 have a:(((w.alloc (jc #[.func (.func 201) #[] #[]] 299)).alloc (jc #[jb A 0 0] 38)).alloc (jc #[I N (512+d)] 301)).heap.size=w.heap.size+3:=by simp
 generalize(((w.alloc (jc #[.func (.func 201) #[] #[]] 299)).alloc (jc #[jb A 0 0] 38)).alloc (jc #[I N (512+d)] 301))=o at E F t H a⊢;have a4:jk (o.heap.size=w.heap.size+3):=a;have a5:w.heap.size+3<=o.heap.size:=Y;clear a;refine rh (n:=0) (gf:=263) (lb:=#[jA (ja ⟨w.heap.size+1+1,0,A⟩)]) T (enters_of func263 af T)
  (EN (512+d) 10 Y Y (w.heap.size+1+1) o t) (jJ _) (λ_=>rfl) (by rintro k rfl;exact t.lt)
  (λf Ψ W=>gP (w.heap.size+1) 38 w.heap.size 3 1 f.length (f.map λn=>jE .i64 (kB n:je)) (λ_=>True) Ψ W/\(jt W w.heap.size 299 (.func (.func 201) #[] #[])/\¬Ψ w.heap.size)/\(jl w w W/\∀k,Ψ k->w.heap.size<=k))
  (λ_ _ _ _=>False)
  ((mY o.heap.size (w.heap.size+1) 38 w.heap.size 3 1 (λf=>f.length) (λf:jh je=>f.map λn=>jE .i64 (kB n:je)) (λ_ _=>True)).and ((iQ _ _ _ (λ_=>_)).and (kH _ _ w (jn _) Y)))
  (λ_=>fk _ _)
  ⟨⟨_,F,by omega,j0 _ _ _ _,by simp[qc],trivial⟩,⟨E,by omega⟩,H,by rintro k rfl;omega⟩
  (λx D _ _=>D={tmps:=#[I N d,.func (.func 201) #[] #[],ju,jA (ja ⟨w,0,A⟩),jA (ja ⟨w.heap.size+1,0,A⟩),I N 0,
   I N (512+d),I N x,jw #[I N (512+d),I N 0],I N d,jw #[I N (512+d),I N 0],I N (512+d),I N 0,I N 0,.bool jp,ju,I N (512+d),
   .func (.func 263) #[] #[jA (ja ⟨w.heap.size+1+1,0,A⟩)],I N x,ju,ju,ju,ju,ju,ju,ju],defers:=[]}) (fk _ _)
  ?assign ?body ?done ?stop
 case assign=>
  intro l f x Ψ r K c _ a
  gi_wp2
  exact a _ _ (jy _ _) c T
 case body=>
  rintro l f x Ψ D r ⟨⟨v,c,K,i,M,-⟩,⟨q,P⟩,m,Q⟩ rfl g Ye a6 ba;obtain⟨hx,bb⟩:=FR 10 (512+d) Y g;clear g;have u:=c.cell;have R:=q.cell;have y:=O m;have ad:=m.size;clear m
  gi_wp2
  refine Io (λg=>g.cell? ⟨w.heap.size+1,0,A⟩=ja v/\g.cell? ⟨w,0,A⟩=ja (.func (.func 201) #[] #[])) 6
   [(0,jf),(1,jf),(2,jf),(3,jp),(4,jp),(5,jp),(6,jp)] af af af af rfl (λ_ _ _ _ h=>h) (fun⟨_,_,h⟩=>h) ⟨u,R⟩ ?_
  refine fX (v:=?_) T T (λg j=>?_) ?_
  rotate_left
  ·obtain⟨k,s⟩:=j;go_simp;with_reducible rfl
  refine fX (v:=?_) T T (λg j=>?_) ?_
  rotate_left
  ·obtain⟨k,s⟩:=j;go_simp;with_reducible rfl
  refine fX (v:=?_) T T (λg j=>?_) ?_
  rotate_left
  ·go_simp;with_reducible rfl
  refine dn T (λz a=>?_);go_simp;refine(MJ _ Y _).mono ?_;rintro e w' ⟨rfl,rfl⟩;refine a _ _ ⟨u,R⟩ λ_=>?_
  clear a;refine dn T (λz a=>?_);go_simp;have VU:(r.alloc (jc #[I N (kB x:je)] 3)).cell? ⟨w.heap.size+1,0,A⟩=ja v:=(c.alloc _).cell;have B:(r.alloc (jc #[I N (kB x:je)] 3)).cell? ⟨w,0,A⟩=ja (.func (.func 201) #[] #[]):=(q.alloc _).cell;refine a _ _ ⟨VU,B⟩ λ_=>?_
  clear a;refine dn T (λz a=>?_);refine step_append_lies _ T (.tmp 19) (.tmp 23) 38 T w.heap.size 3 X (I N 0) 1 8 sx hi UA aa ac T G v f.length _ T (i.alloc _)
   ⟨r,0,A⟩ 1 1 [I N (kB x:je)] rfl rfl (cell_one_new _ _ _) (by simp[j1]) Y (by unfold j3;omega) Y (by simp;omega) _ rfl ?_
  intro g k S au ax ay bc;have C:=BJ ax;obtain⟨s,a1⟩:=se (B0:=o.heap.size) c G i ad Y K M Ye au C (by
   intro j U;simp only[qc,Option.some.injEq]at U;subst U;simpa using ay)
  have j:jt S w.heap.size 299 (.func (.func 201) #[] #[]):=(q.alloc _).kept C (by have:=q.not_row (e:=3) G i;exact this);have U:jt S (w.heap.size+1) 38 v:=(c.alloc _).kept C (by have:=c.not_row (e:=3) G i;exact this);have a2:=U.cell;have bd:=U.frozen;have a3:=j.cell;refine a _ _ ⟨a2,a3⟩ λ_=>?_
  clear a;refine pA T (λz a=>?_);go_simp;refine a _ _ ⟨⟨s.1,s.2.1.mono (jJ _),s.2.2⟩,?_,⟨j.other Y _,P⟩,y.trans s.2.1,Q⟩;obtain⟨z,b1,b2,b3,b4,-⟩:=a1;exact⟨z,b1,b2,by simpa using b3,b4,trivial⟩
 case done=>
  rintro D xs Ψ W s rfl ⟨⟨v,c,K,i,M,-⟩,⟨q,P⟩,m,Q⟩ a;have u:=c.cell;have x:=c.frozen;have y:=O m;clear m;have j:=uB d V;rw[j]at i;clear j;obtain⟨g,k,rfl⟩:=ownsRow_succ i
  gi_wp2
  refine⟨by simp,.inl ⟨_,_,T,sy (b:=D) (ds:=[]) ?_,?_⟩⟩
  ·exact(KeepsOthers.setCell W _ _).same D _ a T
  have j:jt (W.setCell ⟨w.heap.size+1,0,A⟩ (jb (ja ⟨g,0,A⟩) 9 k)) (w.heap.size+1) 38 (jb (ja ⟨g,0,A⟩) 9 k):=c.set _;have l:(W.setCell ⟨w.heap.size+1,0,A⟩ (jb (ja ⟨g,0,A⟩) 9 k)).heap[D]?=ja (.deferred (ja [])):=(KeepsOthers.setCell W _ _).same D _ a T;have m:(W.setCell ⟨w.heap.size+1,0,A⟩ (jb (ja ⟨g,0,A⟩) 9 k)).ownsRow w.heap.size 3 1 (jb (ja ⟨g,0,A⟩) 9 k) 9 ((upL 10 (512+d)).map λn=>jE .i64 (kB n:je)):=
   i.kept (ob W _ _) (.inr (c.not_row (e:=3) G i).symm)
  have r:jt ((W.setCell ⟨w.heap.size+1,0,A⟩ (jb (ja ⟨g,0,A⟩) 9 k)).putObj D (.deferred A)) (w.heap.size+1) 38 (jb (ja ⟨g,0,A⟩) 9 k):=
   (xe Y).trans j
  have B:=r.cell;refine⟨jw #[jb (ja ⟨g,0,A⟩) 9 k,I N 0],by simp[results,results200,go_sem,B],_,T,vi m _ l T,?_⟩;exact(y.setCell (p:=⟨w.heap.size+1,0,A⟩) ar _).trans (iA Y)
 intro D c f Ψ W _ _ h;exact h.elim
theorem SC(d:je)(a:d<512)(w:jg):
 jr jm 164 #[I N d] w λe w'=>∃v,e=jo (jw #[v,I N 0])/\
  w'.ownsRow w 3 1 v 9 (iv (kA d))/\jl w w w':=by
 rw[JD]
 go_enter func164,ntmps164
 go_wp2_with fail
 refine(Qb d a _).mono ?_;rintro e w' ⟨v,rfl,b,c⟩
 go_wp2
 go_ret2;exact⟨v,T,b,c⟩
theorem KM(d:je)(a:d<512)(w:jg):
 jr jm 146 #[I N d] w λe w'=>∃v,e=jo (jw #[v,I N 0])/\
  w'.ownsRow w 3 1 v 9 (iv (nI d))/\jl w w w':=by
 rw[SY]
 go_enter func146,ntmps146
 go_wp2_with fail
 refine(Js d a _).mono ?_;rintro e w' ⟨v,rfl,b,c⟩
 go_wp2
 go_ret2;exact⟨v,T,b,c⟩
end
section
open Go.RowKit Go.Sort
theorem Cx(v:ji)(xs:jh jd)(base b:je)(w:jg)(h:w.ownsRow base 3 1 v xs.length (xs.map (jE .i64)))(o:b<=base)(p:xs.length<=1000000):
 jr jm 165 #[v] w λe w'=>e=jo (jw #[])/\w'.ownsRow base 3 1 v xs.length ((xs.mergeSort leI).map (jE .i64))/\jl b w w':=by
 rcases h.2 with⟨rfl,c⟩|⟨g,d,q,rfl,f,a,i,j,l,m⟩
 ·refine(Tryzx.slices_Sort_int_none A 0 w).mono ?_
  rintro e w' ⟨rfl,rfl⟩;have:xs=[]:=qs c;subst this;exact⟨T,by simpa using h,jy _ _⟩
 refine(Tryzx.slices_Sort_int g 0 d xs w (holds_of_block_i a (ak m)) (jK.1 a).1 Y).mono ?_;rintro e w' ⟨rfl,n,os,rfl⟩;exact⟨T,ownsRow_sorted_i ar f a i j l,(jy b w).grown (grownBy_sorted_i _) (by have:=(jK.1 a).1;omega) (λk e=>by cases e;omega)⟩
theorem Fe{gf:je}{lb:jZ ji}(d:∀args w,(callFunc gf args).run jm w=.ok (.enter gf args) w){c:je->Prop}{f:je}{S n V:jh jd->Prop}{w:jg}
 (g:eO jm gf lb (λx:jd=>#[I N x]) c f S n V w) (h:f<=w.heap.size) (i:∀k,c k->k<w.heap.size) (j:∀ys,V ys->ys.length<=1000000) (a:∀xs,S xs->xs.length<=1000000) (b:je) (l:b<=w.heap.size) (m:∀k,c k->b<=k):
 jr jm 170 #[.func (.func gf) #[] lb] w λe w'=>∃v xs,e=jo v/\S xs/\w'.ownsRow w 3 1 v xs.length ((xs.mergeSort leI).map (jE .i64))/\jl b w w':=by
 have k:=O (Dx d g h i j b l m);have o:=O a;clear d g h i j m a
 go_enter func170,ntmps170
 go_wp2_with fail
 refine k.mono ?_;rintro e h ⟨v,xs,rfl,a,d,g⟩;have i:=O (Cx v xs w.heap.size b h d l (o xs a));have j:=O g;clear d g
 go_wp2_with fail
 refine i.mono ?_;rintro e q ⟨rfl,d,g⟩;have m:=O d;have p:=O g;clear d g
 go_wp2
 go_ret;exact⟨v,xs,T,a,m,j.trans p⟩
theorem Jr(v:ji)(xs:jh jd)(base a:je)(w:jg)(h:w.ownsRow base 3 1 v xs.length (xs.map (jE .i64)))(y:a<=base)(z:xs.length<=1000000):
 jr jm 166 #[v] w λe w'=>∃c,e=jo c/\w'.ownsRow base 3 1 c (Lib.compact xs).length ((Lib.compact xs).map (jE .i64))/\jl a w w':=by
 rcases h.2 with⟨rfl,o⟩|⟨g,d,p,rfl,r,b,B,s,f,t⟩
 ·refine(Tryzx.slices_Compact_int_empty A 0 w).mono ?_
  rintro e w' ⟨rfl,rfl⟩;have:xs=[]:=qs o;subst this;exact⟨_,T,by simpa [Lib.compact,Lib.compactUpTo]using h,jy _ _⟩
 have C:=(jK.1 b).1;refine(Tryzx.slices_Compact_int g 0 d xs w (holds_of_block_i b (ak t)) Y Y).mono ?_;rintro e w' ⟨rfl,q,rfl⟩;have u:(Lib.compact xs).length<=xs.length:=by
  unfold Lib.compact Lib.compactUpTo;rw[jD];exact jz (q9 _ _) ar
 have x:∀W:jg,grow W #[]=W:=λW=>by simp[grow]
 have i:=heap_sorted_i (n:=q) (os:=#[]) (Lib.compact xs++j9 (xs.length-(Lib.compact xs).length) 0).toArray b;have j:=grownBy_sorted_i (w:=w) (g:=g) (n:=q) (os:=#[]) (Lib.compact xs++j9 (xs.length-(Lib.compact xs).length) 0).toArray;rw[x]at i j;refine⟨_,T,⟨by simp,.inr ⟨g,d,_,T,r,i,by omega,s,by simp[putCells,f],?_⟩⟩,(jy a w).grown j Y (λk e=>by cases e;omega)⟩;have k:(Lib.compact xs++j9 (xs.length-(Lib.compact xs).length) 0).length=xs.length:=by simp;omega
 have l:=take_putCells_i p (Lib.compact xs++j9 (xs.length-(Lib.compact xs).length) 0) (by rw[k,f];omega);rw[k]at l;have m:=qM (List.take (Lib.compact xs).length) l;rw[List.take_take,qC u]at m;rw[rk,m,<-List.map_take,List.take_left']
 rfl
end
theorem Bp(t:jh (jd×jd))(a p:jd):gC (t++[(a,p)])=gC t++if 512<=a/\a<=1023 then [a-512]else []:=by
 unfold gC;rw[List.filter_append,j4]
 congr 1
 by_cases h:512<=a/\a<=1023
 ·simp[h.1,h.2]
 rw[jI h];simp only[List.filter_cons,List.filter_nil];rw[jI (ak h)]
 rfl
theorem yq(t:jh (jd×jd)):(gC t).length<=t.length:=by
 unfold gC;rw[jD];exact q9 _ _
theorem tH{wr:jg}{g o k:je}(l:∀j,j<t.length->w.cell? ⟨g,o+j*2,A⟩=ja (I N (t.getD j (0,0)).1)/\w.cell? ⟨g,o+j*2+1,A⟩=ja (I N (t.getD j (0,0)).2))
 (e:∀x∈t,aO x.1/\aO x.2) (b:k<t.length) (f:jl w w wr):
 ∃a p,wr.cell? ⟨g,o+k*2,A⟩=ja (I N a)/\wr.cell? ⟨g,o+k*2+1,A⟩=ja (I N p)/\aO a/\aO p/\t.getD k (0,0)=(a,p)/\t.take (k+1)=t.take k++[(a,p)]/\(a,p)∈t:=by
 obtain⟨h,i⟩:=l k b;have c:t.getD k (0,0)=t[k]:=by simp[jO,b]
 have d:t[k]∈t:=qD b;refine⟨t[k].1,t[k].2,?_,?_,(e _ d).1,(e _ d).2,c,by rw[ow b],d⟩
 ·rw[<-c];exact cH h (f.block g (eH h))
 rw[<-c];exact cH i (f.block g (eH i))
theorem tD(t:jh (jd×jd))(v:ji)(w:jg)(f:bH w v t)(u:t.length<=1000000):
 jr jm 120 #[jq #[v]] w λe w'=>∃b,e=jo b/\w'.ownsRow w 3 1 b (cr t).length ((cr t).map (jE .i64))/\jl w w w':=by
 obtain⟨p,c,rfl,F,j,d,g⟩:=f;obtain⟨H,K,M,P,Q⟩:=qh Dm
 go_enter func120,ntmps120
 go_wp2_with fail
 obtain⟨x,a⟩:=J (w.alloc (jc #[jb p t.length c] 49));have i:jl w w x:=by rw[a];exact(jy _ w).alloc (jn _) _
 have R:=O (j0 x w.heap.size 3 1);rw[<-a];clear a;have S:=O i;have U:=O d;have V:=O g;have y:=O (λk=>jz (yq (t.take k)) (by rw[qf];exact Nat.min_le_left k _));obtain⟨n,a⟩:=J t.length;have h:=O a;rw[<-a]at u F⊢;clear i d g a j
 go_loopw [2,8] (λb i wr=>∃k:je,i=I N k/\k<=n/\jk (wr.ownsRow w 3 1 b (gC (t.take k)).length ((gC (t.take k)).map (jE .i64)))/\jk (jl w w wr)) (λ_ i _=>n-(jv i).toNat)
 case atStart=>exact⟨0,T,jJ _,R,S⟩
 obtain⟨k,rfl,hk,z,d⟩:=hrel
 by_cases W:k<n
 ·have X:=az ((k:jd)<(n:jd))
  have UC:=az (k<n);obtain⟨g,o,rfl,j⟩:=U.out (by rw[<-h];omega);obtain⟨a,m,c1,c2,B,q,-,f,-⟩:=tH j V.out (by rw[<-h];exact W) d;have r:=O f;have ac:=y k;have s:=O (d.alloc d.size (jc #[I N a,I N m] 166));have i:=O (z.alloc (jc #[I N a,I N m] 166));have ad:w.heap.size<=wr.heap.size:=d.size;clear j f B q
  by_cases h5:512<=a
  ·have aa:=az (512<=a)
   by_cases h6:a<=1023
   ·have hd2:=az (a<=1023)
    have C:=O (cell_one_new (wr.alloc (jc #[I N a,I N m] 166)) (I N (a-512)) 3);rw[jC]at C
    go_wp2_with (at_builtin;refine wi _ T _ _ 38 T w.heap.size 3 H (I N 0) 1 8 sx K M P Q T G _ _ _ T (i.alloc _) ⟨wr.heap.size+1,0,A⟩ 1 1 [I N (a-512)] T T C (by simp[j1]) (by unfold j3;omega) Y (by simp;omega) ?_;intro v' B D E _)
    have Vt:=O D;have l:=s.out;have Uf:=O ((Below.alloc l l.size (jc #[I N (a-512)] 3)).grown E (by have:=l.size;simp;omega) (λj hj=>(i.lt j hj).1));clear D E l;refine⟨⟨k+1,by go_num,by omega,?_,Uf⟩,by simp only[jv];omega⟩;rw[r,Bp,jB ⟨h5,h6⟩,jL,j4];exact Vt
   have hd2:=aw (a<=1023)
   go_wp2
   refine⟨⟨k+1,by go_num,by omega,?_,s⟩,by simp only[jv];omega⟩;rw[r,Bp,jI Y,q7];exact i
  have aa:=aw (512<=a)
  go_wp2
  refine⟨⟨k+1,by go_num,by omega,?_,s⟩,by simp only[jv];omega⟩;rw[r,Bp,jI Y,q7];exact i
 have X:=aw ((k:jd)<(n:jd));have UC:=aw (k<n);obtain rfl:k=n:=Y;have a:=z.out;rw[h,List.take_length]at a;have i:=y k;have g:(gC t).length<=1000000:=jz (yq t) (by rw[<-h];exact u);have j:=O (Cx _ (gC t) w.heap.size w.heap.size wr a (jn _) g);have l:=O g;clear a i g
 go_wp2_with fail
 refine j.mono ?_;rintro e q ⟨rfl,g,i⟩;have a:((gC t).mergeSort leI).length=(gC t).length:=xf _;have m:=O (Jr _ ((gC t).mergeSort leI) w.heap.size w.heap.size q (by rw[a];exact g) (jn _) (by rw[a];exact l));have o:=O i;clear g i a
 go_wp2_with fail
 refine m.mono ?_;rintro e s ⟨b,rfl,a,g⟩;have i:=O a;have r:=O g;clear a g
 go_wp2
 go_ret;exact⟨b,T,i,d.trans (o.trans r)⟩
theorem Jv(t:jh (jd×jd))(v:ji)(x:jd)(w:jg)(d:bH w v t)(h:t.length<=1000000)(g:aO x):
 jr jm 45 #[jq #[v],I N x] w λe w'=>e=jo (jw #[I N ((bG t x).getD 0),.bool (bG t x).isSome])/\jl w w w':=by
 have a:jl w w (w.alloc (jc #[v] 49)):=(jy _ w).alloc (jn _) _;have i:=O (zd t v (w.alloc (jc #[v] 49)) (d.below a) h);obtain⟨p,c,rfl,-,-,-,-⟩:=d;have j:=O g;have k:=O a;obtain⟨f,b⟩:∃f,bG t x=f:=⟨_,T⟩;rw[b];have l:=O b;clear g a b
 go_enter func45,ntmps45
 go_wp2_with fail
 refine i.mono ?_;rintro e q ⟨b,rfl,m,a,g⟩;have n:=O a;have o:=ai k g;clear a g m
 go_wp2_with (at_lookup;refine vD (he:=jQ) T _ _ 183 T jQ qw (pJ _) b t.length _ T n x T j ?_;rw[l])
 go_ret2;exact⟨T,o⟩
theorem pI{v:ji}{l:jh jd}(h:w.ownsRow B 3 1 v l.length (l.map (jE .i64))):
 ∃p c,v=jb p l.length c/\l.length<=c/\(0<l.length->∃g,p=ja ⟨g,0,A⟩/\B<=g/\g<w.heap.size/\∀j,j<l.length->w.cell? ⟨g,j,A⟩=ja (I N (l.getD j 0))):=by
 rcases h.2 with⟨rfl,d⟩|⟨g,f,n,rfl,i,a,k,o,q,m⟩
 ·exact⟨A,0,by rw[d],by omega,λh=>by omega⟩
 refine⟨_,f,T,k,λ_=>⟨g,T,i,(jK.1 a).1,λj b=>?_⟩⟩;have e:=qM (λz:jh ji=>z[j]?) m;simp only[rk]at e;rw[rn b]at e;unfold j5;rw[a];simp only[xg,xh,if_false];rw[<-xi,e];simp[jO,b]
def ef(a:jh jd)(y:jd):jS Bool:=if y∈a then ja jf else A
theorem zh(a:jh jd)(z:jd):(λy=>if y=z then ja jf else ef a y)=ef (a++[z]):=by
 funext y
 unfold ef
 by_cases h:y=z
 ·simp[h]
 simp[h]
def bS(d:jd):jh jd:=(kA d.toNat).map λn:je=>(n:jd)
def fL(a:jh jd):jh jd:=a.flatMap λd=>(512+d)::bS d
theorem Mq(a:jh jd)(d:jd):fL (a++[d])=(fL a++[512+d])++bS d:=by
 simp[fL,List.flatMap_append]
theorem tR(d:jd)(a:0<=d)(b:d<512):(bS d).length=9:=by
 unfold bS kA;rw[jD,jD,uB _ Y]
theorem Ab(d:jd)(c:0<=d)(e:d<512):∀x∈bS d,0<=x/\x<1024:=by
 intro x a;unfold bS kA at a;simp only[qQ]at a;obtain⟨n,⟨m,b,rfl⟩,rfl⟩:=a;have:=zl 10 (512+d.toNat) m b;unfold gU;omega
theorem Cl(d:jd)(a:0<=d)(b:d<512)(w:jg):
 jr jm 164 #[I N d] w λe w'=>∃v,e=jo (jw #[v,I N 0])/\w'.ownsRow w 3 1 v (bS d).length ((bS d).map (jE .i64))/\jl w w w':=by
 obtain⟨n,rfl⟩:=xj a;refine(SC n Y w).mono ?_;rintro e w' ⟨v,rfl,c,f⟩;refine⟨v,T,?_,f⟩;rw[tR _ a b];have e:iv (kA n)=(bS (n:jd)).map (jE .i64):=by simp[iv,bS,Function.comp_def]
 rw[<-e];exact c
def mH(t:jh (jd×jd))(U:jh jd)(i:je):Prop:=
 (t.getD i (0,0)).1<1\/1023<(t.getD i (0,0)).1\/(0<i/\(t.getD i (0,0)).1<=(t.getD (i-1) (0,0)).1)\/¬bJ (t.getD i (0,0)).2\/(t.getD i (0,0)).1∉U
def LF(t:jh (jd×jd)):Prop:=∃i,i<t.length/\mH t (fL (cr t)) i
noncomputable def dc(t:jh (jd×jd)):jd:=by classical exact if LF t then 210 else 0
theorem zg(h:jl B w a)(n:je):jl B w (a.drewN n):=h.trans ⟨T,T,T,jn _,λ_ _=>rfl⟩
theorem nr(h:x=y):Ending.returned (I N y)=jo (I N x):=by rw[h]
theorem BR(h:t.getD B (0,0)=(x,y))(e:1<=x)(f:x<=1023)(b:¬(0<B/\x<=(t.getD (B-1) (0,0)).1))(c:bJ y)(d:x∈U):¬mH t U B:=by
 unfold mH;rw[h];rintro(a|a|a|a|a)
 ·exact jG a (by show ¬x<1;omega)
 ·exact jG a (by show ¬1023<x;omega)
 ·exact b a
 ·exact a c
 exact a d
theorem D6(h:∀j,j<B->¬mH t U j)(b:¬mH t U B):∀j,j<B+1->¬mH t U j:=by
 intro j c
 rcases qE j B with a|a
 ·exact h j a
 obtain rfl:j=B:=Y;exact b
theorem Ba(w:jg):(zeroValue 4).run jm w=.ok (.bool jp) w:=by kernel_rfl
theorem nM{k:je}(a:U=fL (cr t))(b:k<t.length)(h:mH t U k):dc t=210:=by
 unfold dc;rw[jB];subst a;exact⟨k,b,h⟩
theorem BS(a:U=fL (cr t))(h:∀j,j<t.length->¬mH t U j):dc t=0:=by
 unfold dc;rw[jI];subst a;rintro⟨i,b,c⟩;exact h i b c
theorem wW(t:jh (jd×jd))(v:ji)(w:jg)(ht:bH w v t)(hl:t.length<=1000000):
 jr jm 116 #[jq #[v]] w λe w'=>e=jo (I N (dc t))/\jl w w w':=by
 have a:jl w w ((w.alloc (jc #[v] 49)).alloc (.map #[] 0)):=((jy _ w).alloc (jn _) _).alloc ar _;have j:=O (tD t v ((w.alloc (jc #[v] 49)).alloc (.map #[] 0)) (ht.below a) hl);have b:aY (ig nn) 3 ((w.alloc (jc #[v] 49)).alloc (.map #[] 0)) (w.heap.size+1) 0 (λ_=>A):=by
  have h:=aY.made (ig nn) 3 (w.alloc (jc #[v] 49));rw[jC]at h;exact h
 have X:=O ht;obtain⟨p,c,rfl,hc,-,-,-⟩:=ht;obtain⟨W0,i⟩:=J ((w.alloc (jc #[jb p t.length c] 49)).alloc (.map #[] 0));have k:W0.heap[w.heap.size]?=ja (jc #[jb p t.length c] 49 (0,0)):=by
  rw[i];exact(jF _ _ _ ar).trans (js w _)
 have d:=@run_makeMap jm
 go_enter func116,ntmps116
 go_wp2_with fail
 rw[<-i]at j a b⊢;clear d;refine j.mono ?_;rintro e w1 ⟨bi,rfl,ac,g⟩;obtain⟨pu,cu,rfl,a4,q⟩:=pI ac;have D:=O q;have F:=O (b.below g b.lt);have UD:=O ((g.block _ (jK.1 k).1).trans k);have Uf:=O (a.trans (g.mono a.size));have bb:w.heap.size+1<w1.heap.size:=jN b.lt g.size;obtain⟨B,m⟩:=J (w.heap.size+1);rw[<-m]at F bb⊢;have bk:w.heap.size<B:=Y;have bl:B<W0.heap.size:=by rw[i,m];simp
 have YL:=O (jz (show(cr t).length<=(gC t).length by
  unfold cr Lib.compact Lib.compactUpTo;rw[jD];exact jz (q9 _ _) ar) (yq t))
 have H:=O (λd=>(oA t d).1);obtain⟨M,o⟩:=J (cr t);rw[<-o]at D YL H a4⊢;have bc:=O o;obtain⟨n,f⟩:=J M.length;have bm:n<=1000000:=by rw[f];exact jz YL hl
 have r:=O f;rw[<-f]at a4⊢;clear i k a b ac g q j m f o
 go_wp2_with fail
 go_loopw [16] (λi wr=>∃k:je,i=I N k/\k<=n/\jk (aY (ig nn) 3 wr B (k*10) (ef (fL (M.take k))))/\jk (jl w w wr)/\jk (∀b,b<w1.heap.size->b≠B->wr.heap[b]?=w1.heap[b]?)/\w1.heap.size<=wr.heap.size) (λi _=>n-(jv i).toNat)
 case atStart=>exact⟨0,T,jJ _,O (F.congr (λx _=>by simp[fL,ef])),Uf,O (λ_ _ _=>rfl),jn _⟩
 obtain⟨k,rfl,hk,HM,HB,q,ba⟩:=hrel
 by_cases V:k<n
 ·have hd:=az ((k:jd)<(n:jd))
  have UC:=az (k<n);obtain⟨g,rfl,bn,WW,s⟩:=D.out (by rw[<-r];omega);have a:k<M.length:=by rw[<-r];exact V
  have j:=s k a;have m:M.getD k 0=M[k]:=by simp[jO,a]
  have U:=O (ow a);obtain⟨u,y,-⟩:=H M[k] (qD a);rw[m]at j;obtain⟨d,o⟩:=J (M[k]);rw[<-o]at j u y U;have P:wr.cell? ⟨g,k,A⟩=ja (I N d):=cH j (q g WW Y);clear j m a s o;have U9:g<wr.heap.size:=Y;have a5:=O (Cl d u y);have K:=O (tR d u y);have a6:=O (Ab d u y);have a:aO (512+d):=aO.of Y;have HI:=O a;clear a
  go_wp2_with fail
  refine(a5 _).mono ?_;rintro e w2 ⟨pv,rfl,ac,a⟩;obtain⟨pp,cp,rfl,bd,j⟩:=pI ac;rw[K]at bd j⊢;obtain⟨o,rfl,bo,bf,z⟩:=j Y;have C:=O (HM.below a Y);have S:=ai HB a;have W:jk (∀b,b<w1.heap.size->b≠B->w2.heap[b]?=w1.heap[b]?):=O λb m f=>(a.block b Y).trans (q b m f)
  have bp:=a.size;have Uy:=O z;clear ac a j z P
  go_wp2_with (at_mapUpdate;refine ot (E:=ig nn) T _ _ _ 237 T jQ qX B _ _ T C (by unfold j3;omega) (512+d) T HI jf T trivial ?_;intro a aa Q;have R:=O aa;have z:=O Q;have j:=Q.grown.size;clear aa Q)
  have R:jk (aY (ig nn) 3 a B (k*10+1+0) (ef (fL (M.take k)++[512+d]++(bS d).take 0))):=O (by
   have h:=R.out;rw[zh]at h
   simpa using h)
  have Yt:jk (∀b,b<w1.heap.size->b≠B->a.heap[b]?=w1.heap[b]?):=O λb m f=>(z.grown.block b Y (ak f)).trans (W b m f)
  have Uj:jk (jl w w a):=O (S.grown z.grown Y (λj e=>by cases e;omega));have UQ:jk (∀j,j<9->a.cell? ⟨o,j,A⟩=ja (I N ((bS d).getD j 0))):=O λj hj=>cH (Uy j hj) (z.grown.block o bf (by simp;omega))
  have bq:o<a.heap.size:=Y;clear z W S Uy C
  go_wp2_with fail
  go_loopw [30] (λi wr=>∃j:je,i=I N j/\j<=9/\jk (aY (ig nn) 3 wr B (k*10+1+j) (ef (fL (M.take k)++[512+d]++(bS d).take j)))/\jk (jl w w wr)/\jk (∀b,b<a.heap.size->b≠B->wr.heap[b]?=a.heap[b]?)/\a.heap.size<=wr.heap.size) (λi _=>9-(jv i).toNat)
  case atStart=>exact⟨0,T,jJ _,R,Uj,O (λ_ _ _=>rfl),jn _⟩
  obtain⟨j,rfl,hj,ad,au,S,br⟩:=hrel
  by_cases ax:j<9
  ·have bg:=az ((j:jd)<9)
   have cy:wr.cell? ⟨o,j,A⟩=ja (I N ((bS d).getD j 0)):=cH (UQ j ax) (S o Y Y);have C:j<(bS d).length:=by rw[K];exact ax
   have W:(bS d).getD j 0=(bS d)[j]:=by simp[jO,C]
   have ay:=O (ow C);have a1:=O (a6 _ (qD C));rw[W]at cy;obtain⟨z,hz⟩:=J ((bS d)[j]);rw[<-hz]at cy ay a1;have bh:jk (aO z):=O (aO.of (x:=z) (aI a1));have bs:o<wr.heap.size:=Y;clear C W hz
   go_wp2_with (at_mapUpdate;refine ot (E:=ig nn) T _ _ _ 237 T jQ qX B _ _ T ad (by unfold j3;omega) z T bh jf T trivial ?_;intro w5 a2 C;have W:=O a2;have a3:=O C;have bu:=C.grown.size;clear a2 C)
   refine⟨⟨j+1,by go_num,by omega,O ?_,O (au.grown a3.grown Y (λj e=>by cases e;omega)),O λb m f=>(a3.grown.block b Y (ak f)).trans (S b m f),by omega⟩,by simp only[jv];omega⟩;have h:=W.out;rw[zh]at h;rw[ay,<-j6];exact h
  have bg:=aw ((j:jd)<9);obtain rfl:j=9:=Y
  go_wp2_with fail
  refine⟨⟨k+1,by go_num,by omega,O ?_,au,O λb m f=>(S b Y f).trans (Yt b m f),by omega⟩,by simp only[jv];omega⟩;have h:=ad.out;rw[mz (l:=bS d) (by rw[K];exact jn _)]at h;rw[U,Mq];exact h.mono (n':=(k+1)*10) Y
 have hd:=aw ((k:jd)<(n:jd));have UC:=aw (k<n);obtain rfl:k=n:=Y;have Wg:jk (wr.heap[w.heap.size]?=ja (jc #[jb p t.length c] 49 (0,0))):=O ((q w.heap.size Y Y).trans UD);have au:jk (aY (ig nn) 3 wr B (k*10) (ef (fL M))):=O (by
  have h:=HM.out;rw[mz (by rw[<-r];exact jn _)]at h;exact h)
 have b:=O (X.below HB);have a5:B<wr.heap.size:=Y;obtain⟨U,a⟩:=J (fL M);rw[<-a]at au;have HU:jk (U=fL (cr t)):=O (by rw[a,bc]);obtain⟨k',d⟩:=J k;rw[<-d]at au;clear a HM q D H X UD Uf F r d;have cb:wr.cell? ⟨w,0,A⟩=ja (jb p t.length c):=by unfold j5;rw[Wg];rfl
 obtain⟨p',c',he,-,-,a,d⟩:=b.out
 cases he
 have HC:=O a;have a6:=O d;clear a d;obtain⟨n,f⟩:=J t.length;have r:=O f;obtain⟨W3,a⟩:=J wr;have ax:w.heap.size<wr.heap.size:=Y;rw[<-a]at Wg au HC a5 cb HB ax⊢;rw[<-f]at hc hl cb Wg⊢;clear f a ba b
 go_wp2_with fail
 go_loopw [41] (λi wr=>∃k:je,i=I N k/\k<=n/\jk (∀j,j<k->¬mH t U j)/\jk (jl W3 W3 wr)) (λi _=>n-(jv i).toNat)
 case atStart=>exact⟨0,T,jJ _,O (λ_ h=>jG h Y),O (jy _ _)⟩
 obtain⟨k,rfl,hk,HG,WB⟩:=hrel
 by_cases V:k<n
 ·have hd:=az ((k:jd)<(n:jd))
  have UC:=az (k<n);obtain⟨g,o,rfl,s⟩:=HC.out (by rw[<-r];omega);obtain⟨a,q,P,j,i,m,hgt,-,-⟩:=tH s a6.out (by rw[<-r];exact V) WB;have u:wr.cell? ⟨w,0,A⟩=ja (jb (ja ⟨g,o,A⟩) n c):=cH cb (WB.block _ ax);have X:=O hgt;have Wo:=O s;have WM:=O i;have b:=WB.alloc WB.size (jc #[I N a,I N q] 166);have C:w.heap.size<wr.heap.size:=jN ax WB.size;have x:wr.heap.size<(wr.alloc (jc #[I N a,I N q] 166)).heap.size:=by simp
  have y:(wr.alloc (jc #[I N a,I N q] 166)).cell? ⟨wr,0,A⟩=ja (I N a):=by
   unfold j5;rw[js];rfl
  have z:(wr.alloc (jc #[I N a,I N q] 166)).cell? ⟨wr,1,A⟩=ja (I N q):=by
   unfold j5;rw[js];rfl
  have d:(wr.alloc (jc #[I N a,I N q] 166)).cell? ⟨w,0,A⟩=ja (jb (ja ⟨g,o,A⟩) n c):=cH cb (b.block _ ax);have W:jk (aY (ig nn) 3 (wr.alloc (jc #[I N a,I N q] 166)) B (k'*10) (ef U)):=O (au.below b a5);have H:=ai HB b;have aa:=O b;clear s hgt i m b
  go_upto_region 16 with fail
  obtain⟨K,b⟩:=J (wr.alloc (jc #[I N a,I N q] 166));rw[<-b]at x y z d W H aa⊢;clear b P j u C
  by_cases h1:a<1
  ·have bd:=az (a<1)
   have s:jk (dc t=210):=O<|nM HU.out (by rw[<-r];exact V) (.inl (by rw[X];exact h1))
   go_quiet (fail)
   go_wp2_with fail
   go_ret;exact⟨nr s,zg H _⟩
  have bd:=aw (a<1)
  by_cases h2:1023<a
  ·have hd2:=az (1023<a)
   have s:jk (dc t=210):=O<|nM HU.out (by rw[<-r];exact V) (.inr (.inl (by rw[X];exact h2)))
   go_quiet (fail)
   go_wp2_with fail
   go_ret;exact⟨nr s,zg H _⟩
  have hd2:=aw (1023<a)
  by_cases h3:0<k
  ·have hd3:=az (0<(k:jd))
   have bf:=az (0<k);obtain⟨m,b⟩:=J (k-1);have bn:(k:jd)-1=(m:jd):=Y;have bg:m<n:=Y;obtain⟨a2,q2,c3,-,-,-,i,-,-⟩:=tH Wo a6 (k:=m) (by rw[<-r];exact bg) aa;have ba:=O i;have HM:=O b;clear i b
   by_cases h4:a<=a2
   ·have bh:=az (a<=a2)
    have s:jk (dc t=210):=O<|nM HU.out (by rw[<-r];exact V) (.inr (.inr (.inl (by rw[<-HM,X,ba];exact⟨h3,h4⟩))))
    go_quiet (fail)
    go_wp2_with fail
    go_ret;exact⟨nr s,zg H _⟩
   have bh:=aw (a<=a2);have ad:B<K.heap.size:=by have:=WB.size;omega
   have P:=O (gA q);have bo:qS.wrap (m:jd)=(m:jd):=by rw[qF];omega
   have bp:(0:jd)<=(m:jd):=Y;have bq:(m:jd)<(n:jd):=Y;have br:(m:jd)<=(n:jd):=Y;have ay:jk (¬(0<k/\a<=(t.getD (k-1) (0,0)).1)):=O (by rw[<-HM,ba];exact λh=>h4 h.2)
   by_cases C:bJ q
   ·have Q:cS q=0:=gD C
    rw[Q]at P;have a1:=O C;clear Q C;have u:∀w',aY (ig nn) 3 w' B (k'*10) (ef U)->(Instr.lookup 237 (.map (ja B)) (I N a) jp).run jm w'=.ok (.bool ((ef U a).getD jp)) w':=λw' h=>h.look jQ qX (Ba w') WM jp
    have D:=u K.drew (aY.of_block (w':=K.drew) W T)
    by_cases F:a∈U
    ·have R:(ef U a).getD jp=jf:=by unfold ef;rw[jB F];rfl
     rw[R]at D u;have a3:=O F;clear R F;refine jT ?_;refine lH (λw'=>w'.cell? ⟨w,0,A⟩=ja (jb (ja ⟨g,o,A⟩) n c)/\w'.cell? ⟨g,o+m*2,A⟩=ja (I N a2)/\w'.cell? ⟨wr,0,A⟩=ja (I N a)/\w'.cell? ⟨wr,1,A⟩=ja (I N q)/\(Instr.lookup 237 (.map (ja B)) (I N a) jp).run jm w'=.ok (.bool jf) w') 100 [(0,jf),(1,jf),(2,jf),(3,jf),(4,jf),(5,jf),(6,jf),(7,jf),(8,jf),(9,jf),(10,jf),(11,jf),(12,jf),(13,jf),(14,jf),(15,jf),(16,jf),(17,jf),(18,jf),(19,jf),(20,jf),(21,jf),(22,jf),(23,jf),(24,jf),(25,jf),(26,jf),(27,jp),(28,jf),(29,jf),(30,jf),(31,jf),(32,jf),(33,jf),(34,jf),(35,jf),(36,jf)]
      af af af rfl (λ_ _ _ _ h=>h) ⟨d,c3,y,z,D⟩ ?_
     iterate 27 refine ww ?_
     refine dn T (λK' j=>?_);go_simp;refine(P _).mono ?_;rintro e i ⟨rfl,b⟩;refine j _ _ ⟨cH d (b.block _ (eH d)),cH c3 (b.block _ (eH c3)),cH y (b.block _ x),cH z (b.block _ x),u i (aY.of_block (w':=i) W (b.block B ad))⟩ λ_=>?_
     clear j;refine L ?_;iterate 9 refine ww ?_
     refine jR ?_;have S:jk (jl W3 W3 i):=O (aa.trans (qt (w:=K) ⟨b.os,b.tape,b.output,b.size,b.block⟩ aa.size));clear b u D
     go_wp2_with fail
     refine⟨⟨k+1,by go_num,by omega,O (D6 HG (BR X Y Y ay a1 a3)),S⟩,by simp only[jv];omega⟩
    have R:(ef U a).getD jp=jp:=by unfold ef;rw[jI F];rfl
    rw[R]at D u;have s:jk (dc t=210):=O<|nM HU.out (by rw[<-r];exact V) (.inr (.inr (.inr (.inr (by rw[X];exact F)))));clear R F;refine jT ?_;refine lH (λw'=>w'.cell? ⟨w,0,A⟩=ja (jb (ja ⟨g,o,A⟩) n c)/\w'.cell? ⟨g,o+m*2,A⟩=ja (I N a2)/\w'.cell? ⟨wr,0,A⟩=ja (I N a)/\w'.cell? ⟨wr,1,A⟩=ja (I N q)/\(Instr.lookup 237 (.map (ja B)) (I N a) jp).run jm w'=.ok (.bool jp) w') 100 [(0,jf),(1,jf),(2,jf),(3,jf),(4,jf),(5,jf),(6,jf),(7,jf),(8,jf),(9,jf),(10,jf),(11,jf),(12,jf),(13,jf),(14,jf),(15,jf),(16,jf),(17,jf),(18,jf),(19,jf),(20,jf),(21,jf),(22,jf),(23,jf),(24,jf),(25,jf),(26,jf),(27,jp),(28,jf),(29,jf),(30,jf),(31,jf),(32,jf),(33,jf),(34,jf),(35,jf),(36,jf)]
     af af af rfl (λ_ _ _ _ h=>h) ⟨d,c3,y,z,D⟩ ?_
    iterate 27 refine ww ?_
    refine dn T (λK' j=>?_);go_simp;refine(P _).mono ?_;rintro e i ⟨rfl,b⟩;refine j _ _ ⟨cH d (b.block _ (eH d)),cH c3 (b.block _ (eH c3)),cH y (b.block _ x),cH z (b.block _ x),u i (aY.of_block (w':=i) W (b.block B ad))⟩ λ_=>?_
    clear j;refine L ?_;iterate 9 refine ww ?_
    refine jR ?_;have S:jk (jl w w i):=O (H.trans (qt (w:=K) ⟨b.os,b.tape,b.output,b.size,b.block⟩ H.size));clear b u D
    go_wp2_with fail
    go_ret;exact⟨nr s,S⟩
   have Q:cS q=40:=kZ C;rw[Q]at P;have s:jk (dc t=210):=O<|nM HU.out (by rw[<-r];exact V) (.inr (.inr (.inr (.inl (by rw[X];exact C)))));clear Q C;refine jT ?_;refine lH (λw'=>w'.cell? ⟨w,0,A⟩=ja (jb (ja ⟨g,o,A⟩) n c)/\w'.cell? ⟨g,o+m*2,A⟩=ja (I N a2)/\w'.cell? ⟨wr,0,A⟩=ja (I N a)/\w'.cell? ⟨wr,1,A⟩=ja (I N q)) 100 [(0,jf),(1,jf),(2,jf),(3,jf),(4,jf),(5,jf),(6,jf),(7,jf),(8,jf),(9,jf),(10,jf),(11,jf),(12,jf),(13,jf),(14,jf),(15,jf),(16,jf),(17,jf),(18,jf),(19,jf),(20,jf),(21,jf),(22,jf),(23,jf),(24,jf),(25,jf),(26,jf),(27,jp),(28,jf),(29,jf),(30,jf),(31,jf),(32,jf),(33,jf),(34,jf),(35,jf),(36,jf)]
    af af af rfl (λ_ _ _ _ h=>h) ⟨d,c3,y,z⟩ ?_
   iterate 27 refine mi ?_
   refine dn T (λK' j=>?_);go_simp;refine(P _).mono ?_;rintro e i ⟨rfl,b⟩;refine j _ _ ⟨cH d (b.block _ (eH d)),cH c3 (b.block _ (eH c3)),cH y (b.block _ x),cH z (b.block _ x)⟩ λ_=>?_
   clear j;refine L ?_;iterate 3 refine mi ?_
   iterate 5 refine sJ ?_
   refine mi ?_;refine jR ?_;have S:jk (jl w w i):=O (H.trans (qt (w:=K) ⟨b.os,b.tape,b.output,b.size,b.block⟩ H.size));clear b
   go_wp2_with fail
   go_ret;exact⟨nr s,S⟩
  have hd3:=aw (0<(k:jd));have bf:=aw (0<k);have ad:B<K.heap.size:=by have:=WB.size;omega
  have P:=O (gA q);have ay:jk (¬(0<k/\a<=(t.getD (k-1) (0,0)).1)):=O (λh=>h3 h.1);clear h3
  by_cases C:bJ q
  ·have Q:cS q=0:=gD C
   rw[Q]at P;have a1:=O C;clear Q C;have u:∀w',aY (ig nn) 3 w' B (k'*10) (ef U)->(Instr.lookup 237 (.map (ja B)) (I N a) jp).run jm w'=.ok (.bool ((ef U a).getD jp)) w':=λw' h=>h.look jQ qX (Ba w') WM jp
   have D:=u K.drew (aY.of_block (w':=K.drew) W T)
   by_cases F:a∈U
   ·have R:(ef U a).getD jp=jf:=by unfold ef;rw[jB F];rfl
    rw[R]at D u;have a3:=O F;clear R F;refine jT ?_;refine lH (λw'=>w'.cell? ⟨w,0,A⟩=ja (jb (ja ⟨g,o,A⟩) n c)/\w'.cell? ⟨wr,0,A⟩=ja (I N a)/\w'.cell? ⟨wr,1,A⟩=ja (I N q)/\(Instr.lookup 237 (.map (ja B)) (I N a) jp).run jm w'=.ok (.bool jf) w') 100 [(0,jf),(1,jf),(2,jf),(3,jf),(4,jf),(5,jf),(6,jf),(7,jf),(8,jf),(9,jf),(10,jf),(11,jf),(12,jf),(13,jf),(14,jf),(15,jf),(16,jf),(17,jf),(18,jf),(19,jf),(20,jf),(21,jf),(22,jf),(23,jf),(24,jf),(25,jf),(26,jf),(27,jp),(28,jf),(29,jf),(30,jf),(31,jf),(32,jf),(33,jf),(34,jf),(35,jf),(36,jf)]
     af af af rfl (λ_ _ _ _ h=>h) ⟨d,y,z,D⟩ ?_
    iterate 12 refine mi ?_
    iterate 10 refine sJ ?_
    iterate 5 refine mi ?_
    refine dn T (λK' j=>?_);go_simp;refine(P _).mono ?_;rintro e i ⟨rfl,b⟩;refine j _ _ ⟨cH d (b.block _ (eH d)),cH y (b.block _ x),cH z (b.block _ x),u i (aY.of_block (w':=i) W (b.block B ad))⟩ λ_=>?_
    clear j;refine L ?_;iterate 9 refine mi ?_
    refine jR ?_;have S:jk (jl W3 W3 i):=O (aa.trans (qt (w:=K) ⟨b.os,b.tape,b.output,b.size,b.block⟩ aa.size));clear b u D
    go_wp2_with fail
    refine⟨⟨k+1,by go_num,by omega,O (D6 HG (BR X Y Y ay a1 a3)),S⟩,by simp only[jv];omega⟩
   have R:(ef U a).getD jp=jp:=by unfold ef;rw[jI F];rfl
   rw[R]at D u;have s:jk (dc t=210):=O<|nM HU.out (by rw[<-r];exact V) (.inr (.inr (.inr (.inr (by rw[X];exact F)))));clear R F;refine jT ?_;refine lH (λw'=>w'.cell? ⟨w,0,A⟩=ja (jb (ja ⟨g,o,A⟩) n c)/\w'.cell? ⟨wr,0,A⟩=ja (I N a)/\w'.cell? ⟨wr,1,A⟩=ja (I N q)/\(Instr.lookup 237 (.map (ja B)) (I N a) jp).run jm w'=.ok (.bool jp) w') 100 [(0,jf),(1,jf),(2,jf),(3,jf),(4,jf),(5,jf),(6,jf),(7,jf),(8,jf),(9,jf),(10,jf),(11,jf),(12,jf),(13,jf),(14,jf),(15,jf),(16,jf),(17,jf),(18,jf),(19,jf),(20,jf),(21,jf),(22,jf),(23,jf),(24,jf),(25,jf),(26,jf),(27,jp),(28,jf),(29,jf),(30,jf),(31,jf),(32,jf),(33,jf),(34,jf),(35,jf),(36,jf)]
    af af af rfl (λ_ _ _ _ h=>h) ⟨d,y,z,D⟩ ?_
   iterate 12 refine mi ?_
   iterate 10 refine sJ ?_
   iterate 5 refine mi ?_
   refine dn T (λK' j=>?_);go_simp;refine(P _).mono ?_;rintro e i ⟨rfl,b⟩;refine j _ _ ⟨cH d (b.block _ (eH d)),cH y (b.block _ x),cH z (b.block _ x),u i (aY.of_block (w':=i) W (b.block B ad))⟩ λ_=>?_
   clear j;refine L ?_;iterate 9 refine mi ?_
   refine jR ?_;have S:jk (jl w w i):=O (H.trans (qt (w:=K) ⟨b.os,b.tape,b.output,b.size,b.block⟩ H.size));clear b u D
   go_wp2_with fail
   go_ret;exact⟨nr s,S⟩
  have Q:cS q=40:=kZ C;rw[Q]at P;have s:jk (dc t=210):=O<|nM HU.out (by rw[<-r];exact V) (.inr (.inr (.inr (.inl (by rw[X];exact C)))));clear Q C;refine jT ?_;refine lH (λw'=>w'.cell? ⟨w,0,A⟩=ja (jb (ja ⟨g,o,A⟩) n c)/\w'.cell? ⟨wr,0,A⟩=ja (I N a)/\w'.cell? ⟨wr,1,A⟩=ja (I N q)) 100 [(0,jf),(1,jf),(2,jf),(3,jf),(4,jf),(5,jf),(6,jf),(7,jf),(8,jf),(9,jf),(10,jf),(11,jf),(12,jf),(13,jf),(14,jf),(15,jf),(16,jf),(17,jf),(18,jf),(19,jf),(20,jf),(21,jf),(22,jf),(23,jf),(24,jf),(25,jf),(26,jf),(27,jp),(28,jf),(29,jf),(30,jf),(31,jf),(32,jf),(33,jf),(34,jf),(35,jf),(36,jf)]
   af af af rfl (λ_ _ _ _ h=>h) ⟨d,y,z⟩ ?_
  iterate 12 refine vG ?_
  iterate 10 refine sJ ?_
  iterate 5 refine vG ?_
  refine dn T (λK' j=>?_);go_simp;refine(P _).mono ?_;rintro e i ⟨rfl,b⟩;refine j _ _ ⟨cH d (b.block _ (eH d)),cH y (b.block _ x),cH z (b.block _ x)⟩ λ_=>?_
  clear j;refine L ?_;iterate 3 refine vG ?_
  iterate 5 refine sJ ?_
  refine vG ?_;refine jR ?_;have S:jk (jl w w i):=O (H.trans (qt (w:=K) ⟨b.os,b.tape,b.output,b.size,b.block⟩ H.size));clear b
  go_wp2_with fail
  go_ret;exact⟨nr s,S⟩
 have hd:=aw ((k:jd)<(n:jd));have UC:=aw (k<n);obtain rfl:k=n:=Y;have s:jk (dc t=0):=O<|BS HU.out (by rw[<-r];exact HG)
 go_wp2_with fail
 go_ret;exact⟨nr s,HB.trans (WB.mono HB.size)⟩
def hgt(n:je):je:=9-n.log2
theorem vK{n:je}(g:1<=n)(i:n<1024):512<=n*2^hgt n/\n*2^hgt n<1024:=by
 have a:2^n.log2<=n:=Nat.log2_self_le Y;have b:n<2^(n.log2+1):=Nat.lt_log2_self;have c:n.log2<=9:=by
  rcases qE 9 n.log2 with h|h
  ·have:=q8 (n:=2) Y (show 10<=n.log2 from h)
   omega
  exact h
 unfold hgt;obtain⟨l,d⟩:=J n.log2;rw[<-d]at a b c⊢;have e:2^l*2^(9-l)=512:=by rw[<-Nat.pow_add,Nat.add_sub_cancel' c]
 have f:2^(l+1)*2^(9-l)=1024:=by rw[<-Nat.pow_add,show l+1+(9-l)=10 by omega]
 refine⟨?_,?_⟩
 ·rw[<-e];exact rv _ a
 rw[<-f];exact Nat.mul_lt_mul_of_pos_right b (Nat.two_pow_pos _)
theorem SU(a:1<=B)(b:B*2^m<1024):2^m<=1000000:=by
 have:1*2^m<=B*2^m:=rv _ a;omega
noncomputable def lP(t:jh (jd×jd))(x:jd):jd:=if dc t=0 then(if x<1\/1023<x then 200 else 0)else dc t
noncomputable def fc(t:jh (jd×jd))(x:jd):jh jd:=if lP t x=0 then df (bG t) (hgt x.toNat) x.toNat else []
theorem uE{a:je}{size:je}{v:ji}{n:je}(h:w.ownsRow B e size v n xs)(b:a<=B):w.ownsRow a e size v n xs:=by
 refine⟨h.1,?_⟩
 rcases h.2 with c|⟨g,d,f,i,j,k⟩
 ·exact .inl c
 exact .inr ⟨g,d,f,i,jz b j,k⟩
theorem ug(h:x=y):Ending.returned (jw #[d,I N y])=jo (jw #[d,I N x]):=by rw[h]
theorem Nn(t:jh (jd×jd))(v:ji)(x:jd)(w:jg)(c:bH w v t)(f:t.length<=1000000):
 jr jm 147 #[jq #[v],I N x] w λe w'=>∃j,e=jo (jw #[j,I N (lP t x)])/\w'.ownsRow w 3 1 j (fc t x).length ((fc t x).map (jE .i64))/\jl w w w':=by
 have a:jl w w (w.alloc (jc #[v] 49)):=(jy _ w).alloc (jn _) _;have g:=O (wW t v (w.alloc (jc #[v] 49)) (c.below a) f);have h:=O (c.below a);have C:=O f;obtain⟨s,b⟩:=J (w.alloc (jc #[v] 49));have o:s.cell? ⟨w,0,A⟩=ja v:=by rw[b];unfold j5;rw[js];rfl
 have q:s.heap.size=w.heap.size+1:=by rw[b];simp
 obtain⟨E,k⟩:=J (lP t x);obtain⟨V,m⟩:=J (fc t x);have d:=O k;have l:=O m;rw[<-k,<-m];obtain⟨p,n⟩:=J (dc t);have i:=O n;rw[<-b,<-n]at g;rw[<-b]at h a;clear c f k m n
 go_enter func147,ntmps147
 go_wp2_with fail
 rw[<-b];clear b;refine g.mono ?_;rintro e D ⟨rfl,b⟩;have W:=cH o (b.block _ (by show w.heap.size<_;omega));have m:=O (a.trans (b.mono a.size));have F:=O (h.below b);clear b a g h o q
 by_cases q:p=0
 ·subst q
  by_cases H:x<1
  ·have K:=az (x<1)
   have c:jk (E=200):=O (by rw[d];unfold lP;rw[jB i.symm,jB (.inl H)]);have f:jk (V=[]):=O (by rw[l];unfold fc;rw[jI (by rw[<-d,c];decide)])
   go_wp2_with fail
   go_ret2;exact⟨jb A 0 0,ug c,by rw[f];exact j0 _ _ _ _,m⟩
  have K:=aw (x<1)
  by_cases M:1023<x
  ·have hd2:=az (1023<x)
   have c:jk (E=200):=O (by rw[d];unfold lP;rw[jB i.symm,jB (.inr M)]);have f:jk (V=[]):=O (by rw[l];unfold fc;rw[jI (by rw[<-d,c];decide)])
   go_wp2_with fail
   go_ret2;exact⟨jb A 0 0,ug c,by rw[f];exact j0 _ _ _ _,m⟩
  have hd2:=aw (1023<x);have c:jk (E=0):=O (by rw[d];unfold lP;rw[jB i.symm,jI Y]);have f:jk (V=df (bG t) (hgt x.toNat) x.toNat):=O (by rw[l];unfold fc;rw[jB (by rw[<-d,c])]);obtain⟨n,a⟩:=J x.toNat;have P:jk (x=(n:jd)):=O Y;have g:jk (1<=n/\n<1024):=O Y;rw[<-a]at f;clear a
  go_wp2_with fail
  refine(zd t v D F C).mono ?_;rintro e a ⟨b,rfl,r,h,k⟩;have Q:=O h;have o:=ai m k;have R:b<a.heap.size:=h.lt;clear r h k
  go_wp2_with fail
  refine(zy (ja b) x a).mono ?_;rintro e S ⟨rfl,rfl⟩;have u:a.heap.size+2=((a.alloc (jc #[.map (ja b)] 183)).alloc (jc #[I N x] 3)).heap.size:=by simp
  have y:=O ((o.alloc o.size (jc #[.map (ja b)] 183)).alloc (by have:=o.size;simp;omega) (jc #[I N x] 3));have k:jt ((a.alloc (jc #[.map (ja b)] 183)).alloc (jc #[I N x] 3)) a.heap.size 183 (.map (ja b)):=(jF _ _ _ ar).trans (js a _);have z:jt ((a.alloc (jc #[.map (ja b)] 183)).alloc (jc #[I N x] 3)) (a.heap.size+1) 3 (I N (n:jd)):=by
   have h:=js (a.alloc (jc #[.map (ja b)] 183)) (jc #[I N x] 3);rw[jC]at h;rw[<-P];exact h
  have r:=O (AL (bG t) b t.length (hgt n) n (vK g.1 g.2).1 (vK g.1 g.2).2 a.heap.size (a.heap.size+1) a.heap.size _ ((Q.alloc _).alloc _) R k z (by rw[<-u];omega));obtain⟨S,B⟩:=J ((a.alloc (jc #[.map (ja b)] 183)).alloc (jc #[I N x] 3));rw[<-B]at r y u⊢;clear k z B;have z:=O (SU g.1 (vK g.1 g.2).2);have X:w.heap.size<=a.heap.size:=o.size;have B:=O (Dx (λ_ _=>rfl) r Y (by rintro k (rfl|rfl)<;>omega) (λys h=>jz (jz h.length_le (sX _ _ _)) z) w.heap.size Y (by rintro k (rfl|rfl)<;>omega));clear r
  go_wp2_with fail
  refine B.mono ?_;rintro e w4 ⟨j,xs,rfl,rfl,h,k⟩;have r:=O h;have U:=O (y.trans k);clear h k
  go_wp2_with fail
  go_ret2;refine⟨j,ug c,?_,U⟩;rw[f];exact uE r Y
 have a:=aw (p=0);have c:jk (E=p):=O (by rw[d];unfold lP;rw[jI (by rw[<-i];exact q)];exact i.symm);have f:jk (V=[]):=O (by rw[l];unfold fc;rw[jI (by rw[<-d,c];exact q)])
 go_wp2_with fail
 go_ret2;exact⟨jb A 0 0,ug c,by rw[f];exact j0 _ _ _ _,m⟩
theorem F2(b n:je)(f:jd->jS jd)(z:jd)(a:aO z)(w:jg)(h:aY (dP jQ) 3 w b n f):
 jr jm 168 #[.map (ja b),I N z] w λe w'=>e=jo (jw #[])/\aY (dP jQ) 3 w' b n (λy=>if y=z then A else f y)/\w.mapTurned w' b:=by
 have c:=O h;have d:=O a;clear h a
 go_enter func168,ntmps168
 go_wp2_with (refine Jg (E:=dP jQ) T _ _ 183 T jQ qw b n f T c z T d ?_;intro h a g)
 go_end0
 exact⟨T,a,g⟩
def gJ(f:jd->jS jd)(a:jh jd)(y:jd):jS jd:=if y∈a then A else f y
theorem Nq(f:jd->jS jd)(a:jh jd)(z:jd):(λy=>if y=z then A else gJ f a y)=gJ f (a++[z]):=by
 funext y
 unfold gJ
 by_cases h:y=z
 ·simp[h]
 simp[h]
noncomputable def dG(t:jh (jd×jd))(d:jd)(a:Bool):jd:=
 if dc t=0 then(if d<0\/512<=d\/(a=jf/\bG t (512+d)=A)then 200 else 0)else dc t
theorem ve{v:ji}(h:x=y):Ending.returned (jw #[d,v,I N y])=jo (jw #[d,v,I N x]):=by rw[h]
def pi(t:jh (jd×jd))(d:jd)(w:jg)(E:jd)(e:Ending)(w':jg):Prop:=
 jl w w w'/\(E≠0->e=jo (jw #[.map A,jb A 0 0,I N E]))/\
 (E=0->∃b p c,e=jo (jw #[.map (ja b),jb p 9 c,I N 0])/\w.heap.size<=b/\aY (dP jQ) 3 w' b t.length (gJ (bG t) ((512+d)::bS d))/\w'.ownsRow w 3 1 (jb p 9 c) 9 ((bS d).map (jE .i64)))
theorem pi.bad{e:Ending}(w':jl w w a)(b:y≠0)(h:e=jo (jw #[.map A,jb A 0 0,I N y])):pi t x w y e a:=
 ⟨w',λ_=>h,λc=>jG c b⟩
theorem Ai(t:jh (jd×jd))(v:ji)(d:jd)(g:Bool)(w:jg)(f:bH w v t)(h:t.length<=1000000)(r:aO d):
 jr jm 125 #[jq #[v],I N d,.bool g] w λe w'=>pi t d w (dG t d g) e w':=by
 have a:jl w w (w.alloc (jc #[v] 49)):=(jy _ w).alloc (jn _) _;have i:=O (wW t v (w.alloc (jc #[v] 49)) (f.below a) h);have j:=O (f.below a);have HL:=O h;obtain⟨K,b⟩:=J (w.alloc (jc #[v] 49));have p:K.cell? ⟨w,0,A⟩=ja v:=by rw[b];unfold j5;rw[js];rfl
 have y:K.heap.size=w.heap.size+1:=by rw[b];simp
 obtain⟨E,k⟩:=J (dG t d g);have n:=O k;rw[<-k];obtain⟨s,o⟩:=J (dc t);have m:=O o;rw[<-b,<-o]at i;rw[<-b]at j a;obtain⟨z,c⟩:=J (qS.wrap (512+d));have M:jk (aO z):=O (aO.of (x:=z) (by rw[c,qF];omega));have YZ:jk (0<=d->d<512->z=512+d):=O (λq P=>by rw[c,qF];omega);have Q:=c.symm;clear f h k o r c
 go_enter func125,ntmps125
 go_wp2_with fail
 rw[<-b];clear b;refine i.mono ?_;rintro e w1 ⟨rfl,b⟩;have bd:=cH p (b.block _ (by show w.heap.size<_;omega));have u:=O (a.trans (b.mono a.size));have Vf:=O (j.below b);clear b a i j p y
 by_cases q:s=0
 ·subst q
  go_wp2_with fail
  refine(zd t v w1 Vf HL).mono ?_;rintro e o ⟨b,rfl,c,a,f⟩;have y:=O a;have i:=ai u f;have au:b<o.heap.size:=a.lt;have r:jk (w.heap.size<=b):=O (jz u.size c);clear c a f
  go_upto_region 6 with(at_lookup;refine vD (he:=jQ) T _ _ 183 T jQ qw (pJ _) b t.length _ T y z (by first|rfl|(simp only[Q])) M ?_)
  obtain⟨B,a⟩:=J ((bG t z).isSome);obtain⟨gv,c⟩:=J ((bG t z).getD 0);rw[<-a,<-c];have R:=O a;clear a c Q
  by_cases P:d<0
  ·have ax:=az (d<0)
   have a:jk (E=200):=O (by rw[n];unfold dG;rw[jB m.symm,jB (.inl P)])
   go_wp2_with fail
   go_ret3
   exact pi.bad i.out (by rw[a];decide) (ve a)
  have ax:=aw (d<0)
  by_cases h2:512<=d
  ·have hd2:=az (512<=d)
   have a:jk (E=200):=O (by rw[n];unfold dG;rw[jB m.symm,jB (.inr (.inl h2))])
   go_wp2_with fail
   go_ret3
   exact pi.bad i.out (by rw[a];decide) (ve a)
  have hd2:=aw (512<=d);have ay:=YZ Y Y;subst ay
  by_cases c:g=jf/\B=jp
  ·obtain⟨rfl,rfl⟩:=c
   have p:bG t (512+d)=A:=by
    have:=R.out
    cases h:bG t (512+d)with
    |none=>rfl
    |some x=>rw[h]at this;cases this
   have a:jk (E=200):=O (by
    rw[n];unfold dG;rw[jB m.symm,jB (.inr (.inr ⟨T,p⟩))])
   clear p
   go_wp2_with fail
   go_ret3
   exact pi.bad i.out (by rw[a];decide) (ve a)
  have a:jk (E=0):=O (by
   rw[n];unfold dG;rw[jB m.symm,jI];rintro(h|h|⟨h,f⟩)
   ·omega
   ·omega
   exact c ⟨h,by rw[R,f];rfl⟩)
  have a1:g=jp\/(g=jf/\B=jf):=by cases g<;>cases B<;>simp_all
  have HI:=M;have a2:=O (Cl d Y Y o);have C:=O (tR d Y Y);have a3:=O (Ab d Y Y);have Yf:qS.wrap (512+d)=512+d:=by rw[qF];omega
  clear c
  rcases a1 with rfl|⟨rfl,rfl⟩
  all_goals
   go_upto_region 8 with fail
   go_wp2_with fail
   refine a2.mono ?_;rintro e w3 ⟨pv,rfl,j,f⟩;have D:=O j;obtain⟨pp,F,rfl,a4,k⟩:=pI j;rw[C]at a4 k D⊢;obtain⟨c,rfl,bf,a5,S⟩:=k Y;have U:=O (y.below f au);have H:=ai i f;have V:=O S;have Wi:=f.size;clear j f k S
   go_wp2_with fail
   refine(F2 b t.length _ (512+d) HI w3 U).mono ?_;rintro e f ⟨rfl,S,k⟩;have a6:jk (aY (dP jQ) 3 f b t.length (gJ (bG t) ([512+d]++(bS d).take 0))):=O (S.congr (λx _=>by simp[gJ]));have bg:=k.grown.size;have Uq:jk (jl w w f):=O (H.grown k.grown (cT H.size) (λj e=>by cases e;exact r));have WX:jk (∀j,j<9->f.cell? ⟨c,j,A⟩=ja (I N ((bS d).getD j 0))):=O λj W=>cH (V j W) (k.grown.block c a5 (by simp;omega))
   have Yv:jk (f.ownsRow o 3 1 (jb (ja ⟨c,0,A⟩) 9 F) 9 ((bS d).map (jE .i64))):=O (D.kept k.grown (.inr (by simp[qc];omega)));have bh:c<f.heap.size:=Y;clear S k y U i H V D
   go_wp2_with fail
   go_loopw [55] (λi wr=>∃j:je,i=I N j/\j<=9/\jk (aY (dP jQ) 3 wr b t.length (gJ (bG t) ([512+d]++(bS d).take j)))/\jk (jl w w wr)/\jk (wr.ownsRow o 3 1 (jb (ja ⟨c,0,A⟩) 9 F) 9 ((bS d).map (jE .i64)))/\jk (∀k,k<f.heap.size->k≠b->wr.heap[k]?=f.heap[k]?)/\f.heap.size<=wr.heap.size) (λi _=>9-(jv i).toNat)
   case atStart=>exact⟨0,T,jJ _,a6,Uq,Yv,O (λ_ _ _=>rfl),jn _⟩
   obtain⟨j,rfl,W,S,D,U,V,bi⟩:=hrel
   by_cases X:j<9
   ·have ba:=az ((j:jd)<9)
    have cy:wr.cell? ⟨c,j,A⟩=ja (I N ((bS d).getD j 0)):=cH (WX j X) (V c Y Y);have i:j<(bS d).length:=by rw[C];exact X
    have H:(bS d).getD j 0=(bS d)[j]:=by simp[jO,i]
    have aa:=O (ow i);have ac:=O (a3 _ (qD i));rw[H]at cy;obtain⟨y,hy⟩:=J ((bS d)[j]);rw[<-hy]at cy aa ac;have bb:jk (aO y):=O (aO.of (x:=y) (aI ac));have bk:c<wr.heap.size:=Y;clear i H hy
    go_wp2_with fail
    refine(F2 b t.length _ y bb wr S).mono ?_;rintro e w5 ⟨rfl,ad,i⟩;have bc:=O ad;have H:=O i;have bl:=i.grown.size;clear ad i
    go_wp2_with fail
    refine⟨⟨j+1,by go_num,by omega,O ?_,O (D.grown H.grown (cT D.size) (λj e=>by cases e;exact r)),O (U.kept H.grown (.inr (by simp[qc];omega))),O λk i p=>(H.grown.block k Y (ak p)).trans (V k i p),by omega⟩,by simp only[jv];omega⟩;have h:=bc.out;rw[Nq]at h;rw[aa,<-j6];exact h
   have ba:=aw ((j:jd)<9);obtain rfl:j=9:=Y;have i:jk (aY (dP jQ) 3 wr b t.length (gJ (bG t) ((512+d)::bS d))):=O (by
    have h:=S.out;rw[mz (l:=bS d) (by rw[C];exact jn _)]at h;exact h)
   have k:w.heap.size<=o.heap.size:=jz r Y
   go_wp2_with fail
   go_ret3
   exact⟨D,λh=>jG a h,λ_=>⟨b,_,F,T,r,i,uE U k⟩⟩
 have b:=aw (s=0);have a:jk (E=s):=O (by rw[n];unfold dG;rw[jI (by rw[<-m];exact q)];exact m.symm)
 go_wp2_with fail
 go_ret3
 exact pi.bad u.out (by rw[a];exact q) (ve a)
theorem O2:(jm.info? 166).map (λi=>(i.zero,i.size,i.bytes))=ja (ja (jq #[I N 0,I N 0]),2,16):=by kernel_rfl
theorem Fv(w:jg)(l:jh ji)(t:jH):∀j a,l[j]?=ja a->(w.alloc (jc l.toArray t)).cell? ((⟨w,0,A⟩:jM).add j)=ja a:=by
 intro j a b;have c:(⟨w,0,A⟩:jM).add j=⟨w,j,A⟩:=by unfold Addr.add;split<;>simp_all
 rw[c];have d:=js w (jc l.toArray t);simp only[j5,d]
 simpa using b
def dI(f:jd->jS jd)(a:jh jd):jh (jd×jd):=a.map λx=>(x,(f x).getD 0)
def kf(t:jh (jd×jd)):jh ji:=t.flatMap λx=>[I N x.1,I N x.2]
theorem R0(t:jh (jd×jd)):∀j,j<t.length->(kf t)[j*2]?=ja (I N (t.getD j (0,0)).1)/\(kf t)[j*2+1]?=ja (I N (t.getD j (0,0)).2):=by
 induction t with
 |nil=>intro j b;simp at b
 |cons a t c=>
  intro j b;have e:kf (a::t)=I N a.1::I N a.2::kf t:=T
  rcases j with _|j
  ·rw[e];exact⟨T,T⟩
  obtain⟨p,q⟩:=c j (ak b);rw[e,show(j+1)*2=j*2+1+1 by omega];exact⟨p,q⟩
def Fr(n:je)(v:ji):Prop:=∀p k c,v=jb p k c->∀a,p=ja a->n<=a.block
theorem Fr.of_own{sz:je}{v:ji}{n:je}(h:w.ownsRow B e sz v n xs):Fr B v:=by
 rintro p k c rfl a rfl
 rcases h.2 with⟨e,-⟩|⟨g,f,i,e,d,-⟩
 ·cases e
 injection e with b
 injection b with b
 subst b;exact d
theorem Fr.mono{n:je}{v:ji}(h:Fr n v)(b:m<=n):Fr m v:=λp k c e a d=>jz b (h p k c e a d)
theorem Fr.nil(n:je):Fr n (jb A 0 0):=by
 rintro p k c e a rfl
 cases e
theorem zC{v:ji}(h:w.ownsRow B 166 2 v t.length (kf t))(b:∀x∈t,aO x.1/\aO x.2):bH w v t:=by
 rcases h.2 with⟨rfl,c⟩|⟨g,f,r,rfl,s,k,l,u,x,m⟩
 ·exact⟨A,0,by rw[c],by omega,λ_=>c,λh=>by omega,b⟩
 refine⟨_,f,T,l,(λh=>by cases h),λy=>⟨g,0,T,λj n=>?_⟩,b⟩;obtain⟨p,q⟩:=R0 t j n;have e:∀i a,i<t.length*2->(kf t)[i]?=ja a->w.cell? ⟨g,i,A⟩=ja a:=λi a o d=>by
  rw[<-m,rn o]at d;unfold j5;rw[k];simp only[xg,xh,if_false];rw[<-xi,d]
 rw[lw];exact⟨e _ _ Y p,e _ _ Y q⟩
theorem uV(h:w.ownsRow B 166 2 d m b):∃p c,d=jb p m c:=by
 rcases h.2 with⟨rfl,a⟩|⟨g,xs,v,rfl,e,f,i,j,k,l⟩
 ·exact⟨A,0,by rw[a]⟩
 exact⟨_,xs,T⟩
theorem Br(b n:je)(f:jd->jS jd)(w:jg)(c:aY (dP jQ) 3 w b n f)(d:n<=1000000)(g:∀xs,k6 f xs->xs.length<=1000000)(h:∀x v,aO x->f x=ja v->aO v):
 jr jm 128 #[.map (ja b)] w λe w'=>∃v xs,e=jo (jq #[v])/\k6 f xs/\(w'.ownsRow w 166 2 v (dI f (xs.mergeSort leI)).length (kf (dI f (xs.mergeSort leI)))/\∀x∈dI f (xs.mergeSort leI),aO x.1/\aO x.2)/\jl w w w':=by
 obtain⟨W,X,UA,aa,ac⟩:=qh O2;have HM:=O c;have HN:=O d;have M:=O g;have HV:=O h;have ba:b<w.heap.size:=c.lt;clear c d g h
 go_enter func128,ntmps128
 go_wp2_with fail
 have h:jt (w.alloc (jc #[jb A 0 0] 49)) w.heap.size 49 (jb A 0 0):=js w _;have d:jl w w (w.alloc (jc #[jb A 0 0] 49)):=(jy _ w).alloc (jn _) _;have i:=HM.alloc (jc #[jb A 0 0] 49);have ad:w.heap.size<(w.alloc (jc #[jb A 0 0] 49)).heap.size:=by simp
 obtain⟨l,c⟩:=J (w.alloc (jc #[jb A 0 0] 49));rw[<-c]at h d i ad⊢;clear c;refine(Ez (ja b) l).mono ?_;rintro e w1 ⟨rfl,rfl⟩;have au:l.heap.size<(l.alloc (jc #[.map (ja b)] 183)).heap.size:=by simp
 have g:jt (l.alloc (jc #[.map (ja b)] 183)) l.heap.size 183 (.map (ja b)):=js l _;have j:jt (l.alloc (jc #[.map (ja b)] 183)) w.heap.size 49 (jb A 0 0):=(jF _ _ _ Y).trans h;have c:=i.alloc (jc #[.map (ja b)] 183);have k:=d.alloc d.size (jc #[.map (ja b)] 183);obtain⟨D,m⟩:=J (l.alloc (jc #[.map (ja b)] 183));rw[<-m]at au g j c k⊢;clear m h i d;have m:=O (Fe (λ_ _=>rfl) (Nz b n l.heap.size D.heap.size f D c g c.lt g.lt) (jn _) (λ_ h=>h.elim) (λys h=>jz h HN) M D.heap.size (jn _) (λ_ h=>h.elim));have q:=O c;have r:=O k;have u:=O j;clear c k j g
 go_wp2_with fail
 refine m.mono ?_;rintro e o ⟨bb,xs,rfl,g,i,d⟩;have j:(xs.mergeSort leI).length=xs.length:=xf _;have t:jk (∀x∈xs.mergeSort leI,aO x):=O (λx p=>(g.2.1 x ((uN xs x).1 p)).1);have s:=O (M xs g);have Yl:=O g;obtain⟨c,k⟩:=J (xs.mergeSort leI);rw[<-k]at i t j;rw[<-j]at i s;have Vn:=O k;clear g k j m;obtain⟨pu,cu,rfl,ax,j⟩:=pI i;have ay:=O j;have Vw:=O (q.below d (cT q.lt));have Ug:=O (r.trans (d.mono Y));have a1:jk (jt o w.heap.size 49 (jb A 0 0)):=O ((d.block _ Y).trans u);have bc:=d.size;obtain⟨m,g⟩:=J c.length;rw[<-g]at ax s⊢;have E:=O g;clear i j d g q r u
 go_wp2_with fail
 go_loopw [9] (λi wr=>∃(k:je) (q:jS jM) (d:je),i=I N k/\k<=m/\jk (jt wr w.heap.size 49 (jb q k d))/\jk (wr.ownsRow o 166 2 (jb q k d) k (kf (dI f (c.take k))))/\jk (∀k,k<o.heap.size->k≠w.heap.size->wr.heap[k]?=o.heap[k]?)/\jk (jl w w wr)/\o.heap.size<=wr.heap.size) (λi _=>m-(jv i).toNat)
 case atStart=>exact⟨0,A,0,T,jJ _,a1,O (j0 _ _ _ _),O (λ_ _ _=>rfl),Ug,jn _⟩
 obtain⟨k,q,d,rfl,hk,i,P,F,r,bd⟩:=hrel
 by_cases a2:k<m
 ·have hd:=az ((k:jd)<(m:jd))
  have UC:=az (k<m);have bf:m<=1000000:=s.out;have j:k<c.length:=by rw[<-E];exact a2
  obtain⟨g,rfl,bg,WW,B⟩:=ay Y;have u:=B k j;have C:c.getD k 0=c[k]:=by simp[jO,j]
  have Q:=O (ow j);have R:=O (t c[k] (qD j));rw[C]at u;obtain⟨x,p⟩:=J (c[k]);rw[<-p]at u Q R;have c1:wr.cell? ⟨g,k,A⟩=ja (I N x):=cH u (F g WW Y);have a3:=O (Vw.of_block (F b Y Y));have U9:g<wr.heap.size:=Y;have cb:=i.cell;have cf:=i.frozen;obtain⟨y,H⟩:=J ((f x).getD 0);have S:=O H;have z:=O (P.alloc (jc #[I N x,I N y] 166));have Ym:=O (Fv wr [I N x,I N y] 166);clear u C j B p H
  go_upto_region 4 with fail
  go_wp2_with (first
   |(at_lookup;refine No (he:=jQ) T _ _ 183 T jQ qw (pJ _) b n _ T a3 x T R ?_;rw[<-S])
   |(at_builtin;refine wi _ T _ _ 47 T o.heap.size 166 W (jq #[I N 0,I N 0]) 2 16 underlying47 X UA aa ac T G _ _ _ T z ⟨wr,0,A⟩ 1 1 [I N x,I N y] T T Ym (by simp[j1]) (by have:=s.out;unfold j3;omega) (aI s) (by simp;omega) ?_;intro v' H K j _;have a4:=O K;have U:jk ((wr.alloc (jc #[I N x,I N y] 166)).grownBy H (jP q k d).ownBlock):=O j;obtain⟨u,B,rfl⟩:=uV K;have a5:=j.size;have C:jt H w.heap.size 49 (jb q k d):=(j.block w.heap.size (by simp;omega) (λe=>by have:=(z.lt _ e.symm).1;omega)).trans ((jF _ _ _ Y).trans i);have V:=C.cell;have a6:=C.frozen;have Yo:=O (Boxed.set (jb u (k+1) B) C);clear K j C))
  have a6:=O (qY a4 (a:=⟨w,0,A⟩) (by show w.heap.size<o.heap.size;omega) (jb u (k+1) B));have C:=O (ob H w.heap.size (jb u (k+1) B));have bh:=C.size;rw[jC]at a5;have e1:kf (dI f (c.take (k+1)))=kf (dI f (c.take k))++[I N x,I N y]:=by rw[Q,S];simp[dI,kf]
  refine⟨⟨k+1,u,B,by go_num,by omega,Yo,O (by rw[e1];exact a6),O (λj hj K=>?_),O ?_,by omega⟩,by simp only[jv];omega⟩
  ·refine(C.block j Y (ak K)).trans ((U.block j (by rw[jC];omega) (λe=>by have:=(z.lt _ e.symm).1;omega)).trans ((jF _ _ _ Y).trans (F j hj K)))
  exact((r.alloc r.size (jc #[I N x,I N y] 166)).grown U (by have:=r.size;rw[jC];omega) (λj e=>by have:=(z.lt _ e).1;omega)).grown C (cT r.size) (λj e=>by cases e;exact jn _)
 have hd:=aw ((k:jd)<(m:jd));have UC:=aw (k<m);obtain rfl:k=m:=Y;have cb:=i.cell;have cf:=i.frozen;have u:jk (wr.ownsRow o 166 2 (jb q k d) (dI f c).length (kf (dI f c))):=O (by
  have h:=P.out;rw[mz (by rw[<-E];exact jn _)]at h;have e:(dI f c).length=k:=by unfold dI;rw[jD,<-E]
  rw[e];exact h)
 have B:=O (ob wr w.heap.size (jb q k d));have C:w.heap.size<=wr.heap.size:=r.size
 go_wp2_with fail
 have V:=(Boxed.set (jb q k d) i).cell;refine jX (v:=jq #[jb q k d]) (by simp[results,results128,go_sem,V]) T ?_;refine⟨jb q k d,xs,T,Yl,?_,r.grown B C (λj e=>by cases e;exact jn _)⟩;rw[<-Vn];refine⟨uE (qY u (a:=⟨w,0,A⟩) (by show w.heap.size<o.heap.size;omega) _) Y,?_⟩;intro x p;obtain⟨z,g,rfl⟩:=qQ.1 p;refine⟨t z g,?_⟩;show aO ((f z).getD 0)
 cases h:f z with
 |none=>exact aO.of ar
 |some y=>exact HV z y (t z g) h
theorem oF(h:bG t x=ja y):(x,y)∈t:=by
 unfold bG at h
 cases hf:t.find? (λv=>v.1==x)with
 |none=>rw[hf]at h;cases h
 |some v=>
  rw[hf]at h;have c:=List.find?_some hf;have d:=List.mem_of_find?_eq_some hf;obtain⟨a,b⟩:=v;simp at h c;subst h;subst c;exact d
def iO(t:jh (jd×jd))(d x:jd)(y:jd):jS jd:=if y=512+d then ja x else gJ (bG t) ((512+d)::bS d) y
theorem rN{f:jd->jS jd}(h:gJ f U x=ja y):f x=ja y/\x∉U:=by
 unfold gJ at h
 split at h
 ·cases h
 exact⟨h,by assumption⟩
theorem RU(h:k6 (iO t x y) U):U.length<=t.length+1:=by
 have b:U⊆(512+x)::t.map (·.1):=by
  intro d c;obtain⟨-,a⟩:=h.2.1 d c
  by_cases e:d=512+x
  ·rw[e];exact List.mem_cons_self ..
  unfold iO at a;rw[jI e]at a;obtain⟨v,f⟩:=r4.1 a;exact List.mem_cons_of_mem _ (qQ.2 ⟨_,oF (rN f).1,T⟩)
 have:=h.1.length_le_of_subset b
 simpa using this
theorem Pj(a:∀e∈t,aO e.1/\aO e.2)(b:aO y):∀d v,aO d->iO t x y d=ja v->aO v:=by
 intro d v _ h;unfold iO at h
 split at h
 ·cases h;exact b
 exact(a _ (oF (rN h).1)).2
theorem yZ{m:Bool}(h:dG t x m=0):0<=x/\x<512:=by
 unfold dG at h
 split at h
 ·split at h
  ·exact jG h G
  omega
 rename_i a;exact jG h a
noncomputable def gI(t:jh (jd×jd))(d x:jd):jd:=if dG t d jp=0 then(if cS x=0 then 0 else 50)else dG t d jp
def Kk(t:jh (jd×jd))(d x:jd)(w:jg)(E:jd)(e:Ending)(w':jg):Prop:=
 jl w w w'/\(E≠0->e=jo (jw #[jq #[jb A 0 0],I N E]))/\
 (E=0->∃v xs,e=jo (jw #[jq #[v],I N 0])/\k6 (iO t d x) xs/\bH w' v (dI (iO t d x) (xs.mergeSort leI)))
theorem Tz(t:jh (jd×jd))(v:ji)(d x:jd)(w:jg)(b:bH w v t)(g:t.length<=900000)(j:aO d)(l:aO x):
 jr jm 95 #[jq #[v],I N d,I N x] w λe w'=>Kk t d x w (gI t d x) e w':=by
 have o:∀e∈t,aO e.1/\aO e.2:=by obtain⟨p,c,-,-,-,-,h⟩:=b;exact h
 have i:jl w w ((w.alloc (jc #[v] 49)).alloc (jc #[jb A 0 0] 49)):=((jy _ w).alloc (jn _) _).alloc ar _;have m:=O (Ai t v d jp ((w.alloc (jc #[v] 49)).alloc (jc #[jb A 0 0] 49)) (b.below i) Y j);have k:jt ((w.alloc (jc #[v] 49)).alloc (jc #[jb A 0 0] 49)) (w.heap.size+1) 49 (jb A 0 0):=by
  have h:=js (w.alloc (jc #[v] 49)) (jc #[jb A 0 0] 49);rw[jC]at h;exact h
 have ax:=O o;have R:=O l;have D:=O g;obtain⟨E,f⟩:=J (dG t d jp);have n:=O f;rw[<-f]at m;clear b g f o l j
 go_enter func95,ntmps95
 go_wp2_with fail
 obtain⟨W0,b⟩:=J ((w.alloc (jc #[v] 49)).alloc (jc #[jb A 0 0] 49));rw[<-b]at m k i⊢;clear b;refine m.mono ?_;rintro e r ⟨s,F,H⟩;have f:jt r (w.heap.size+1) 49 (jb A 0 0):=(s.block _ k.lt).trans k;have u:=O (i.trans (s.mono i.size));have S:=O f;have a2:w.heap.size+1<r.heap.size:=f.lt
 by_cases l:E=0
 ·obtain⟨b,p,c,rfl,g,o,-⟩:=H l
  have j:=O o;have a3:w.heap.size+1<b:=jN k.lt g;clear F H s i k f m o g;have ay:=yZ (n.symm.trans l);have HZ:jk (aO (512+d)):=O (aO.of (x:=512+d) Y);have Yf:qS.wrap (512+d)=512+d:=by rw[qF];omega
  subst l;obtain⟨d0,d1⟩:=ay
  go_wp2_with fail
  refine(gA x r).mono ?_;rintro e U ⟨rfl,g⟩;have Vw:=O (j.below g j.lt);have y:jk (jt U (w.heap.size+1) 49 (jb A 0 0)):=O ((g.block _ S.lt).trans S);have a4:=g.size;have z:=ai u g;obtain⟨V,o⟩:=J (cS x);rw[<-o];have W:=O o;clear g o j u
  by_cases X:V=0
  ·subst X
   go_wp2_with (at_mapUpdate;refine ot (E:=dP jQ) T _ _ _ 183 T jQ qw b _ _ T Vw (by have:=D.out;unfold j3;omega) (512+d) T HZ x T R ?_;intro C aa K;have Wp:=O aa;have ZL:=O K;have g:=K.grown.size;clear aa K)
   have VZ:jk (jt C (w.heap.size+1) 49 (jb A 0 0)):=O ((ZL.grown.block _ Y (by simp;omega)).trans y);have Uj:=O (z.grown ZL.grown (cT z.size) (λj e=>by cases e;omega));refine(Br b (t.length+1) (iO t d x) C Wp (aI D) (λxs h=>jz (RU h) (aI D)) (Pj ax R)).mono ?_;rintro e w4 ⟨v',xs,rfl,ac,⟨M,ad⟩,o⟩;obtain⟨q,P,rfl⟩:=uV M;have Q:jk (jt w4 (w.heap.size+1) 49 (jb A 0 0)):=O ((o.block _ Y).trans VZ);have Uq:=ai Uj o;have Yl:=O ac;have Yn:=O M;have a1:=O ad;have a5:=o.size;have cb:=Q.cell;have cf:=Q.frozen;have au:gI t d x=0:=by unfold gI;rw[jB n.symm,jB W.symm]
   have g:=O au;clear ac M ad o au
   go_wp2_with fail
   have M:=O (ob w4 (w.heap.size+1) (jb q (dI (iO t d x) (xs.mergeSort leI)).length P));have o:=(Boxed.set (jb q (dI (iO t d x) (xs.mergeSort leI)).length P) Q).cell;refine jX (v:=jw #[jq #[jb q (dI (iO t d x) (xs.mergeSort leI)).length P],I N 0]) (by simp[results,results95,go_sem,o]) T ?_;refine⟨Uq.grown M (cT Uq.size) (λj e=>by cases e;omega),λh=>jG g h,λ_=>⟨_,xs,T,Yl,?_⟩⟩;exact zC (B:=C.heap.size) (qY Yn (a:=⟨w.heap.size+1,0,A⟩) (by show w.heap.size+1<C.heap.size;omega) _) a1
  have q:=aw (V=0);have cb:=y.cell;have cf:=y.frozen;have o:=(Boxed.set (jb A 0 0) y).cell;have g:jk (gI t d x=50):=O (by unfold gI;rw[jB n.symm,jI (by rw[<-W];exact X)])
  go_wp2_with fail
  refine jX (v:=jw #[jq #[jb A 0 0],I N 50]) (by simp[results,results95,go_sem,o]) T ?_;exact⟨z.grown (ob U (w.heap.size+1) _) (cT z.size) (λj e=>by cases e;omega),λ_=>by rw[g],λh=>jG (g.symm.trans h) G⟩
 obtain rfl:=F l;have b:=aw (E=0);have cb:=f.cell;have cf:=f.frozen;have o:=(Boxed.set (jb A 0 0) f).cell;clear F H s i k f m
 go_wp2_with fail
 have g:jk (gI t d x=E):=O (by unfold gI;rw[jI (by rw[<-n];exact l)];exact n.symm);refine jX (v:=jw #[jq #[jb A 0 0],I N E]) (by simp[results,results95,go_sem,o]) T ?_;exact⟨u.grown (ob r (w.heap.size+1) _) (cT u.size) (λj e=>by cases e;omega),λ_=>by rw[g],λh=>jG (g.symm.trans h) l⟩
theorem OP(a c:je)(w:jg)(d:jt w a 183 (.map A))(q:a<c):
 eO jm 226 #[jA (ja ⟨a,0,A⟩)] (λx:jd=>#[I N x]) (λ_=>False) c (λxs=>xs=[]) (λ_=>True) (λys=>ys.length<=0) w:=by
 intro l g r W i f j b m;have o:jt W a 183 (.map A):=(i.block a d.lt).trans d;have s:=o.cell;refine(qv (n:=0)).1 ?_;refine sq func226 T trivial ?_ T;simp only[ntmps226,jU,jW,j8,qi,qj,qk,ql,qn,qo,qa,qb];clear b;have t:=run_range_nilMap (P:=jm) W 183 3 3 qw;have u:∀b,(Instr.next (jA (ja ⟨W,0,A⟩)) jp b).run jm (W.alloc (.mapIter A 0 #[] 0))=_:=λb=>run_next_nilMap W b 0 0 #[]
 have p:jk (g [] (λk=>k=W.heap.size) (W.alloc (.mapIter A 0 #[] 0))):=O (f [] _ _ W _ m (bL.ofGrown (World.grownBy_alloc W _ A) (λk e=>by cases e)) (λ_ h=>h.elim) (λk e=>.inr (by have:=jC W (.mapIter A 0 #[] 0);omega)));clear f j
 gi_wp2
 gi_loopw [3] (λ_ wr=>wr=W.alloc (.mapIter A 0 #[] 0)) (λ_ wr=>0)
 case atStart=>rfl
 subst hrel
 gi_wp2
 refine qW (qL T _ _ _) T ?_;exact⟨⟨_,T⟩,.inl ⟨[],_,T,p⟩⟩
theorem MD(w:jg):jr jm 128 #[.map A] w λe w'=>e=jo (jq #[jb A 0 0])/\jl w w w':=by
 go_enter func128,ntmps128
 go_wp2_with fail
 have d:jt (w.alloc (jc #[jb A 0 0] 49)) w.heap.size 49 (jb A 0 0):=js w _;have b:jl w w (w.alloc (jc #[jb A 0 0] 49)):=(jy _ w).alloc (jn _) _;have m:w.heap.size<(w.alloc (jc #[jb A 0 0] 49)).heap.size:=by simp
 obtain⟨a,c⟩:=J (w.alloc (jc #[jb A 0 0] 49));rw[<-c]at d b m⊢;clear c;refine(Ez A a).mono ?_;rintro e p ⟨rfl,rfl⟩;have n:a.heap.size<(a.alloc (jc #[.map A] 183)).heap.size:=by simp
 have c:jt (a.alloc (jc #[.map A] 183)) a.heap.size 183 (.map A):=js a _;have f:jt (a.alloc (jc #[.map A] 183)) w.heap.size 49 (jb A 0 0):=(jF _ _ _ Y).trans d;have g:=b.alloc b.size (jc #[.map A] 183);obtain⟨k,h⟩:=J (a.alloc (jc #[.map A] 183));rw[<-h]at n c f g⊢;clear h d b;have i:=O (Fe (V:=λys=>ys.length<=0) (λ_ _=>rfl) (OP a.heap.size k.heap.size k c c.lt) (jn _) (λ_ h=>h.elim) (λys h=>by omega) (λxs h=>by rw[h];simp) k.heap.size (jn _) (λ_ h=>h.elim));have h:=O g;have o:=O f;clear g f c
 go_wp2_with fail
 refine i.mono ?_;rintro e f ⟨q,xs,rfl,rfl,b,c⟩;rw[show([]:jh jd).mergeSort leI=[]from by simp]at b;obtain⟨r,s,rfl,-,-⟩:=pI (l:=[]) b;have d:jk (jt f w.heap.size 49 (jb A 0 0)):=O ((c.block _ Y).trans o);have g:=O (h.trans (c.mono Y));have t:=d.cell;have u:=d.frozen;clear b c i
 go_wp2_with fail
 go_loopw [9] (λi wr=>i=I N 0/\wr=f) (λi _=>0)
 case atStart=>exact⟨T,T⟩
 obtain⟨rfl,rfl⟩:=hrel
 go_wp2_with fail
 have b:=(Boxed.set (jb A 0 0) d).cell;refine jX (v:=jq #[jb A 0 0]) (by simp[results,results128,go_sem,b]) T ?_;exact⟨T,g.grown (ob _ w.heap.size _) (cT g.size) (λj e=>by cases e;exact jn _)⟩
def mr(t:jh (jd×jd))(d:jd):jd->jS jd:=gJ (bG t) ((512+d)::bS d)
theorem KW(h:k6 (mr t x) U):U.length<=t.length:=by
 have a:U⊆t.map (·.1):=by
  intro y b;obtain⟨-,c⟩:=h.2.1 y b;obtain⟨v,e⟩:=r4.1 c;exact qQ.2 ⟨_,oF (rN e).1,T⟩
 have:=h.1.length_le_of_subset a
 simpa using this
theorem NV(a:∀e∈t,aO e.1/\aO e.2):∀y v,aO y->mr t x y=ja v->aO v:=
 λy v _ h=>(a _ (oF (rN h).1)).2
def Lc(t:jh (jd×jd))(d:jd)(w:jg)(E:jd)(e:Ending)(w':jg):Prop:=
 jl w w w'/\(E≠0->e=jo (jw #[jq #[jb A 0 0],I N E]))/\
 (E=0->∃v xs,e=jo (jw #[jq #[v],I N 0])/\k6 (mr t d) xs/\bH w' v (dI (mr t d) (xs.mergeSort leI)))
theorem JR(t:jh (jd×jd))(v:ji)(d:jd)(w:jg)(b:bH w v t)(g:t.length<=900000)(i:aO d):
 jr jm 94 #[jq #[v],I N d] w λe w'=>Lc t d w (dG t d jf) e w':=by
 have j:∀e∈t,aO e.1/\aO e.2:=by obtain⟨p,c,-,-,-,-,h⟩:=b;exact h
 have k:jl w w ((w.alloc (jc #[v] 49)).alloc (jc #[jb A 0 0] 49)):=((jy _ w).alloc (jn _) _).alloc ar _;have l:=O (Ai t v d jf ((w.alloc (jc #[v] 49)).alloc (jc #[jb A 0 0] 49)) (b.below k) Y i);have m:jt ((w.alloc (jc #[v] 49)).alloc (jc #[jb A 0 0] 49)) (w.heap.size+1) 49 (jb A 0 0):=by
  have h:=js (w.alloc (jc #[v] 49)) (jc #[jb A 0 0] 49);rw[jC]at h;exact h
 have M:=O j;have D:=O g;obtain⟨E,f⟩:=J (dG t d jf);rw[<-f]at l;rw[<-f];clear b g f j i
 go_enter func94,ntmps94
 go_wp2_with fail
 obtain⟨W,b⟩:=J ((w.alloc (jc #[v] 49)).alloc (jc #[jb A 0 0] 49));rw[<-b]at l m k⊢;clear b;refine l.mono ?_;rintro e g ⟨s,x,y⟩;have u:jt g (w.heap.size+1) 49 (jb A 0 0):=(s.block _ m.lt).trans m;have F:=O (k.trans (s.mono k.size));have H:=O u;have X:w.heap.size+1<g.heap.size:=u.lt
 by_cases n:E=0
 ·obtain⟨b,p,c,rfl,i,f,-⟩:=y n
  have P:jk (aY (dP jQ) 3 g b t.length (mr t d)):=O f;subst n;clear x y s k m u l f i
  go_wp2_with fail
  refine(Br b t.length (mr t d) g P (aI D) (λxs h=>jz (KW h) (aI D)) (NV M)).mono ?_;rintro e o ⟨v',xs,rfl,C,⟨j,K⟩,f⟩;obtain⟨q,z,rfl⟩:=uV j;have i:jk (jt o (w.heap.size+1) 49 (jb A 0 0)):=O ((f.block _ Y).trans H);have r:=ai F f;have Q:=O C;have R:=O j;have S:=O K;have aa:=f.size;have U:=i.cell;have V:=i.frozen;clear C j K f
  go_wp2_with fail
  have K:=O (ob o (w.heap.size+1) (jb q (dI (mr t d) (xs.mergeSort leI)).length z));have C:=(Boxed.set (jb q (dI (mr t d) (xs.mergeSort leI)).length z) i).cell;refine jX (v:=jw #[jq #[jb q (dI (mr t d) (xs.mergeSort leI)).length z],I N 0]) (by simp[results,results94,go_sem,C]) T ?_;refine⟨r.grown K (cT r.size) (λj e=>by cases e;omega),λh=>jG T h,λ_=>⟨_,xs,T,Q,?_⟩⟩;exact zC (B:=g.heap.size) (qY R (a:=⟨w.heap.size+1,0,A⟩) (by show w.heap.size+1<g.heap.size;omega) _) S
 obtain rfl:=x n;have b:=O n;clear x y s k m u l n
 go_wp2_with fail
 refine(MD g).mono ?_;rintro e o ⟨rfl,f⟩;have i:jk (jt o (w.heap.size+1) 49 (jb A 0 0)):=O ((f.block _ Y).trans H);have r:=ai F f;have U:=i.cell;have V:=i.frozen;clear f
 go_wp2_with fail
 have C:=(Boxed.set (jb A 0 0) i).cell;refine jX (v:=jw #[jq #[jb A 0 0],I N E]) (by simp[results,results94,go_sem,C]) T ?_;exact⟨r.grown (ob o (w.heap.size+1) _) (cT r.size) (λj e=>by cases e;omega),λ_=>rfl,λh=>jG h b⟩
def de(w:jg)(v:ji)(l:jh jd):Prop:=
 ∃p c,v=jb p l.length c/\l.length<=c/\(0<l.length->∃g o,p=ja ⟨g,o,A⟩/\∀j,j<l.length->w.cell? ⟨g,o+j,A⟩=ja (I N (l.getD j 0)))
theorem QT(x:jd)(w:jg):jr jm 127 #[I N x] w λe w'=>e=jo (.bool (decide (cS x≠0)))/\jl w w w':=by
 go_enter func127,ntmps127
 go_wp2_with fail
 refine(gA x w).mono ?_;rintro e f ⟨rfl,a⟩;have b:=O a;clear a;obtain⟨c,a⟩:=J (cS x);rw[<-a];have d:=O a;clear a
 by_cases h:c=0
 ·subst h
  go_wp2_with fail
  go_ret;exact⟨by rw[<-d];rfl,b⟩
 have g:=aw (c=0);have a:=O h;clear h
 go_wp2_with fail
 go_ret;exact⟨by rw[<-d];simp[a.out,bne],b⟩
def iu(l:jh jd):Prop:=∀j,j<l.length->cS (l.getD j 0)=0
theorem Lk(l:jh jd)(v:ji)(w:jg)(h:de w v l)(B:l.length<=1000000):
 jr jm 169 #[v,.func (.func 127) #[] #[]] w λe w'=>∃r,e=jo (I N r)/\jk ((iu l->r= -1)/\(¬iu l->0<=r))/\jl w w w':=by
 obtain⟨p,c,rfl,C,b⟩:=h;have D:=O b;obtain⟨n,a⟩:=J l.length;have f:=O a;rw[<-a]at B C⊢;clear b a
 go_enter func169,ntmps169
 go_wp2_with fail
 go_loopw [8] (λi wr=>∃k:je,i=I N k/\k<=n/\jk (∀j,j<k->cS (l.getD j 0)=0)/\jk (jl w w wr)) (λi _=>n-(jv i).toNat)
 case atStart=>exact⟨0,T,jJ _,O (λ_ h=>jG h Y),O (jy _ _)⟩
 obtain⟨k,rfl,K,q,i⟩:=hrel
 by_cases s:k<n
 ·have E:=az ((k:jd)<(n:jd))
  have F:=az (k<n);obtain⟨g,o,rfl,b⟩:=D.out (by rw[<-f];omega);have a:=b k (by rw[<-f];exact s);have H:wr.cell? ⟨g,o+k,A⟩=ja (I N (l.getD k 0)):=cH a (i.block g (eH a));obtain⟨x,d⟩:=J (l.getD k 0);rw[<-d]at H;have t:=O d;clear b a d
  go_wp2_with fail
  refine(QT x wr).mono ?_;rintro e M ⟨rfl,a⟩;have u:=ai i a;clear a
  by_cases a:cS x=0
  ·have d:decide (cS x≠0)=jp:=by simp[a]
   rw[d];have m:=O a;clear d a
   go_wp2_with fail
   refine⟨⟨k+1,by go_num,by omega,O (λj y=>?_),u⟩,by simp only[jv];omega⟩
   rcases qE j k with z|z
   ·exact q j z
   obtain rfl:j=k:=Y;rw[<-t];exact m
  have d:decide (cS x≠0)=jf:=by simp[a]
  rw[d];have m:=O a;clear d a
  go_wp2_with fail
  go_ret;exact⟨_,T,O ⟨λh=>jG (by rw[t];exact h k (by rw[<-f];exact s)) m,λ_=>by omega⟩,u⟩
 have E:=aw ((k:jd)<(n:jd));have F:=aw (k<n);obtain rfl:k=n:=Y
 go_wp2_with fail
 go_ret;exact⟨_,T,O ⟨λ_=>rfl,λh=>jG (λj y=>q j (by rw[f];exact y)) h⟩,i⟩
theorem Tv(l:jh jd)(v:ji)(w:jg)(h:de w v l)(i:l.length<=1000000):
 jr jm 126 #[v,.func (.func 127) #[] #[]] w λe w'=>∃b,e=jo (.bool b)/\jk ((iu l->b=jp)/\(¬iu l->b=jf))/\jl w w w':=by
 have d:=O (Lk l v w h i);obtain⟨p,c,rfl,-,-⟩:=h
 go_enter func126,ntmps126
 go_wp2_with fail
 refine d.mono ?_;rintro e k ⟨r,rfl,a,f⟩;have g:=O f;clear f d
 by_cases f:0<=r
 ·have j:=az (0<=r)
  have d:jk (¬iu l):=O (λh=>by have:=a.1 h;omega);clear a
  go_wp2_with fail
  go_ret;exact⟨jf,T,O ⟨λh=>jG h d,λ_=>rfl⟩,g⟩
 have j:=aw (0<=r);have d:jk (¬¬iu l):=O (λh=>jG (a.2 h) f);clear a
 go_wp2_with fail
 go_ret;exact⟨jp,T,O ⟨λ_=>rfl,λh=>jG h d⟩,g⟩
def InQ(x:jd):Prop:=0<=x/\x<2305843009213688669
instance(x:jd):Decidable (InQ x):=by unfold InQ;infer_instance
theorem JC(x:jd)(w:jg):jr jm 221 #[I N x] w λe w'=>e=jo (.bool (decide (¬InQ x)))/\jl w w w':=by
 obtain⟨r,a⟩:=J (decide (¬InQ x));rw[<-a]
 by_cases c:x<0
 ·have b:=az (x<0)
  obtain rfl:r=jf:=by rw[a];simp[InQ];omega
  clear a
  go_enter func221,ntmps221
  go_wp2
  go_ret;exact⟨T,jy _ _⟩
 have b:=aw (x<0);obtain rfl:r=decide (2305843009213688669<=x):=by rw[a];simp[InQ];omega
 clear a
 go_enter func221,ntmps221
 go_wp2
 go_ret;exact⟨T,jy _ _⟩
def iJ(l:jh jd):Prop:=∀j,j<l.length->InQ (l.getD j 0)
theorem Rv(l:jh jd)(v:ji)(w:jg)(h:de w v l)(B:l.length<=1000000):
 jr jm 169 #[v,.func (.func 221) #[] #[]] w λe w'=>∃r,e=jo (I N r)/\jk ((iJ l->r= -1)/\(¬iJ l->0<=r))/\jl w w w':=by
 obtain⟨p,c,rfl,C,b⟩:=h;have D:=O b;obtain⟨n,a⟩:=J l.length;have f:=O a;rw[<-a]at B C⊢;clear b a
 go_enter func169,ntmps169
 go_wp2_with fail
 go_loopw [8] (λi wr=>∃k:je,i=I N k/\k<=n/\jk (∀j,j<k->InQ (l.getD j 0))/\jk (jl w w wr)) (λi _=>n-(jv i).toNat)
 case atStart=>exact⟨0,T,jJ _,O (λ_ h=>jG h Y),O (jy _ _)⟩
 obtain⟨k,rfl,K,q,i⟩:=hrel
 by_cases s:k<n
 ·have E:=az ((k:jd)<(n:jd))
  have F:=az (k<n);obtain⟨g,o,rfl,b⟩:=D.out (by rw[<-f];omega);have a:=b k (by rw[<-f];exact s);have H:wr.cell? ⟨g,o+k,A⟩=ja (I N (l.getD k 0)):=cH a (i.block g (eH a));obtain⟨x,d⟩:=J (l.getD k 0);rw[<-d]at H;have t:=O d;clear b a d
  go_wp2_with fail
  refine(JC x wr).mono ?_;rintro e M ⟨rfl,a⟩;have u:=ai i a;clear a
  by_cases a:InQ x
  ·have d:decide (¬InQ x)=jp:=by simp[a]
   rw[d];have m:=O a;clear d a
   go_wp2_with fail
   refine⟨⟨k+1,by go_num,by omega,O (λj y=>?_),u⟩,by simp only[jv];omega⟩
   rcases qE j k with z|z
   ·exact q j z
   obtain rfl:j=k:=Y;rw[<-t];exact m
  have d:decide (¬InQ x)=jf:=by simp[a]
  rw[d];have m:=O a;clear d a
  go_wp2_with fail
  go_ret;exact⟨_,T,O ⟨λh=>jG (by rw[t];exact h k (by rw[<-f];exact s)) m,λ_=>by omega⟩,u⟩
 have E:=aw ((k:jd)<(n:jd));have F:=aw (k<n);obtain rfl:k=n:=Y
 go_wp2_with fail
 go_ret;exact⟨_,T,O ⟨λ_=>rfl,λh=>jG (λj y=>q j (by rw[f];exact y)) h⟩,i⟩
theorem OZ(l:jh jd)(v:ji)(w:jg)(h:de w v l)(i:l.length<=1000000):
 jr jm 126 #[v,.func (.func 221) #[] #[]] w λe w'=>∃b,e=jo (.bool b)/\jk ((iJ l->b=jp)/\(¬iJ l->b=jf))/\jl w w w':=by
 have d:=O (Rv l v w h i);obtain⟨p,c,rfl,-,-⟩:=h
 go_enter func126,ntmps126
 go_wp2_with fail
 refine d.mono ?_;rintro e k ⟨r,rfl,a,f⟩;have g:=O f;clear f d
 by_cases f:0<=r
 ·have j:=az (0<=r)
  have d:jk (¬iJ l):=O (λh=>by have:=a.1 h;omega);clear a
  go_wp2_with fail
  go_ret;exact⟨jf,T,O ⟨λh=>jG h d,λ_=>rfl⟩,g⟩
 have j:=aw (0<=r);have d:jk (¬¬iJ l):=O (λh=>jG (a.2 h) f);clear a
 go_wp2_with fail
 go_ret;exact⟨jp,T,O ⟨λ_=>rfl,λh=>jG h d⟩,g⟩
theorem Bh(l:jh jd)(v:ji)(w:jg)(h:de w v l)(f:l.length<=1000000):
 jr jm 162 #[v] w λe w'=>∃a,e=jo (.bool a)/\jk ((iJ l->a=jp)/\(¬iJ l->a=jf))/\jl w w w':=by
 have b:=O (OZ l v w h f);obtain⟨p,c,rfl,-,-⟩:=h
 go_enter func162,ntmps162
 go_wp2_with fail
 refine b.mono ?_;rintro e j ⟨r,rfl,g,d⟩;have i:=O d;clear d b
 go_wp2_with fail
 go_ret;exact⟨_,T,g,i⟩
theorem oe(w:jg)(x:jd):de (w.alloc (jc #[I N x] 3)) (jb (ja ⟨w,0,A⟩) 1 1) [x]:=
 ⟨_,_,rfl,jn _,λ_=>⟨_,_,rfl,λj a=>by
  obtain rfl:j=0:=by simp at a;omega
  exact ah (js w _) T⟩⟩
theorem mp(w:jg)(x y:jd):de (w.alloc (jc #[I N x,I N y] 3)) (jb (ja ⟨w,0,A⟩) 2 2) [x,y]:=
 ⟨_,_,rfl,jn _,λ_=>⟨_,_,rfl,λj a=>by
  simp at a
  rcases(show j=0\/j=1 by omega)with rfl|rfl
  ·exact ah (js w _) T
  exact ah (js w _) T⟩⟩
theorem JP(x:jd):iJ [x]↔InQ x:=⟨λh=>h 0 ar,λh j a=>by
 obtain rfl:j=0:=by simp at a;omega
 exact h⟩
theorem EL(x y:jd):iJ [x,y]↔InQ x/\InQ y:=⟨λh=>⟨h 0 ar,h 1 ar⟩,λh j a=>by
 simp at a
 rcases(show j=0\/j=1 by omega)with rfl|rfl
 ·exact h.1
 exact h.2⟩
theorem AW[Decidable p]{l:jh jd}{b:Bool}(h:(iJ l->b=jp)/\(¬iJ l->b=jf))(e:iJ l↔p):b=decide (¬p):=by
 by_cases a:p
 ·rw[h.1 (e.2 a)];simp[a]
 rw[h.2 (λg=>a (e.1 g))];simp[a]
def lO(x:jd):jd:=if InQ x then 0 else 1
theorem N4(x:jd)(w:jg):
 jr jm 123 #[I N x] w λe w'=>e=jo (I N (lO x))/\jl w w w':=by
 have a:=O (Bh [x] _ _ (oe w x) ar);have b:=O (ao w (jc #[I N x] 3))
 go_enter func123,ntmps123
 go_wp2_with fail
 refine a.mono ?_;rintro e h ⟨r,rfl,c,d⟩;have f:=ai b d;have g:=O (AW c (JP x));clear d a b c
 cases r
 ·go_wp2_with fail
  go_ret;exact⟨by have:=g.out;simp at this;rw[lO,jB this];rfl,f⟩
 go_wp2_with fail
 go_ret;exact⟨by have:=g.out;simp at this;rw[lO,jI this];rfl,f⟩
theorem Ky(x y:jd)(w:jg)(a:InQ x)(b:InQ y):
 jr jm 114 #[I N x,I N y] w λe w'=>e=jo (jw #[I N ((x+y)%2305843009213688669),I N 0])/\jl w w w':=by
 have c:=O (Bh [x,y] _ _ (mp w x y) ar);have d:=O (ao w (jc #[I N x,I N y] 3));have f:=O a;have g:=O b;have j:0<=x+y:=by have:=a.1;have:=b.1;omega
 have k:x+y<4611686018427377338:=by have:=a.2;have:=b.2;omega
 have l:(x+y).tmod 2305843009213688669=(x+y)%2305843009213688669:=Int.tmod_eq_emod_of_nonneg Y;have m:=a.1;have n:=a.2;have o:=b.1;have p:=b.2;clear a b
 go_enter func114,ntmps114
 go_wp2_with fail
 refine c.mono ?_;rintro e q ⟨r,rfl,a,b⟩;have h:=ai d b;have i:=O (AW a (EL x y));obtain rfl:r=jp:=by rw[i];simp[f.out,g.out]
 clear b c d a
 go_wp2_with fail
 go_ret2;exact⟨T,h⟩
theorem Qc(a b:je)(f:a<2305843009213688669)(g:b<2305843009213688669)(w:jg):
 jr jm 222 #[I j7 a,I j7 b] w λe w'=>∃c d:je,e=jo (jw #[I j7 c,I j7 d])/\c<2305843009213688669/\d<18446744073709551616/\jk (c*18446744073709551616+d=a*b)/\w=w':=by
 refine(BZ a b Y Y w).mono ?_;rintro e w' ⟨rfl,rfl⟩;have h:a*b<=2305843009213688668*2305843009213688668:=Nat.mul_le_mul Y Y;refine⟨_,_,T,?_,qG _ G,O (by rw[Nat.mul_comm];exact Nat.div_add_mod _ _),T⟩;generalize a*b=m at h;omega
theorem P8(a b:je)(f:a<2305843009213688669)(d:b<18446744073709551616)(w:jg):
 jr jm 223 #[I j7 a,I j7 b,I j7 2305843009213688669] w λe w'=>
  ∃(q:jd) (r:je),e=jo (jw #[I j7 q,I j7 r])/\(r:jd)<2305843009213688669/\jk (r=(a*18446744073709551616+b)%QN)/\jl w w w':=by
 rcases qH a with rfl|h
 ·refine(DivQ.div64_0 b d w).mono ?_
  rintro e w' ⟨q,rfl,c⟩;exact⟨q,_,T,by omega,O (by rw[qT,lw];rfl),c⟩
 refine(DivQ.div64_1 a b h f d w).mono ?_;rintro e w' ⟨q,rfl,c⟩;exact⟨q,_,T,by omega,O rfl,c⟩
theorem PV(a b:je)(c:a<2305843009213688669)(d:b<2305843009213688669)(w:jg):
 jr jm 163 #[I N a,I N b] w λe w'=>e=jo (I N ((a*b%QN:je):jd))/\jl w w w':=by
 have h:=O (Qc a b c d)
 go_enter func163,ntmps163
 go_wp2_with fail
 refine(h _).mono ?_;rintro e m ⟨i,j,rfl,f,g,k,rfl⟩;have l:=O (P8 i j f g);clear f g c d
 go_wp2_with fail
 refine(l _).mono ?_;rintro e g ⟨q,r,rfl,n,d,c⟩;have f:=O c;clear c
 go_wp2_with fail
 go_ret;exact⟨by rw[<-k,<-d];rfl,f⟩
theorem IU(x y:je)(w:jg)(a:x<2305843009213688669)(b:y<2305843009213688669):
 jr jm 113 #[I N x,I N y] w λe w'=>e=jo (jw #[I N ((x*y%QN:je):jd),I N 0])/\jl w w w':=by
 have c:=O (Bh [(x:jd),(y:jd)] _ _ (mp w x y) ar);have d:=O (ao w (jc #[I N x,I N y] 3));have f:jk (InQ (x:jd)):=O ⟨by omega,by omega⟩;have g:jk (InQ (y:jd)):=O ⟨by omega,by omega⟩;have h:=O (PV x y a b);clear a b
 go_enter func113,ntmps113
 go_wp2_with fail
 refine c.mono ?_;rintro e k ⟨r,rfl,a,b⟩;have i:=ai d b;have j:=O (AW a (EL x y));obtain rfl:r=jp:=by rw[j];simp[f.out,g.out]
 clear b c d a
 go_wp2_with fail
 refine(h _).mono ?_;rintro e c ⟨rfl,a⟩;have b:=ai i a;clear a
 go_wp2_with fail
 go_ret2;exact⟨T,b⟩
def aX(a k:je):je:=a^k%PN
theorem Mf(a k b P:je)(c:1<P)(h:a^b%P=1):(a^k%P)^b%P=1:=by
 rw[<-Nat.pow_mod,<-Nat.pow_mul,Nat.mul_comm,Nat.pow_mul,Nat.pow_mod,h,Nat.one_pow,qA c]
theorem o6{a:je}(h:bJ a)(k:je):bJ (aX a k:je):=by
 have c:a^QN%PN=1:=by have:=h.2.2;rwa [xk]at this
 have b:(aX a k)^QN%PN=1:=Mf a k QN PN (by rw[fl];decide) c;have d:aX a k<PN:=qG _ (by rw[fl];decide);have e:1<=aX a k:=by
  rcases qH (aX a k)with h|h
  ·rw[h,Nat.zero_pow (by unfold QN;decide)]at b
   exact jG b (by rw[Nat.zero_mod];decide)
  exact h
 rw[fl]at d;exact⟨by omega,by omega,by rw[xk];exact b⟩
theorem AR(a k:je)(b:bJ a)(l:k<2305843009213688669)(w:jg):
 jr jm 100 #[I N a,I N k] w λe w'=>e=jo (jw #[I N (aX a k:je),I N 0])/\jl w w w':=by
 have c:=O (gA a w);rw[gD b]at c;have m:=b.2.1;have f:=O (DU a k (by rw[fl];omega) Y);have n:decide ((k:jd)<0)=jp:=by simp
 have hd2:=aw ((2305843009213688669:jd)<=(k:jd));clear b
 go_enter func100,ntmps100
 go_wp2_with fail
 refine c.mono ?_;rintro e o ⟨rfl,b⟩;have g:=O b;clear b c
 go_wp2_with fail
 refine(f _).mono ?_;rintro e p ⟨c,rfl,b,d⟩;have i:=ai g d;have q:(c:jd)<4611686018427377339:=by
  have h:=b.out;have j:c<PN:=by rw[h];exact qG _ (by rw[fl];decide)
  rw[fl]at j;omega
 clear d
 go_wp2_with fail
 go_ret2;exact⟨by rw[aX,<-b];rfl,i⟩
theorem mS:bJ 4:=by
 refine⟨by decide,by decide,?_⟩;rw[<-wm _ QN 62 G]
 decide+kernel
theorem Ta:bJ 4:=mS
theorem wn(k:je)(b:k<2305843009213688669)(w:jg):
 jr jm 98 #[I N k] w λe w'=>e=jo (jw #[I N (aX 4 k:je),I N 0])/\jl w w w':=by
 have c:=O (AR 4 k Ta b)
 go_enter func98,ntmps98
 go_wp2_with fail
 refine(c _).mono ?_;rintro e f ⟨rfl,a⟩;have d:=O a;clear a
 go_wp2_with fail
 go_ret2;exact⟨T,d⟩
theorem OX(a b:je)(c:bJ a)(d:bJ b)(w:jg):
 jr jm 124 #[I N a,I N b] w λe w'=>e=jo (jw #[I N (a*b%PN:je),I N 0])/\jl w w w':=by
 have o:∀W:jg,(Instr.index 266 (jq #[I N a,I N b]) (I N 0)).run jm W=.ok (I N a) W:=λW=>by
  have f:=underlying266;unfold Instr.index;simp[asIntOf,run_underlying f,part]
 have p:∀W:jg,(Instr.index 266 (jq #[I N a,I N b]) (I N 1)).run jm W=.ok (I N b) W:=λW=>by
  have f:=underlying266;unfold Instr.index;simp[asIntOf,run_underlying f,part]
 have g:=O (gA a);have j:=O (gA b);rw[gD c]at g;rw[gD d]at j;have q:=c.2.1;have r:=d.2.1;have l:=O (AI a b (by rw[fl];omega) (by rw[fl];omega));clear c d
 go_enter func124,ntmps124
 go_wp2_with fail
 go_loopw [12] (λi wr=>∃k:je,i=I N k/\k<=2/\jk (jl w w wr)) (λi _=>(2-jv i).toNat)
 case atStart=>exact⟨0,T,by omega,O (jy _ _)⟩
 obtain⟨k,rfl,s,d⟩:=hrel
 rcases(show k=0\/k=1\/k=2 by omega)with rfl|rfl|rfl
 ·go_wp2_with fail
  refine(g _).mono ?_;rintro e h ⟨rfl,c⟩;have f:=ai d c;clear c
  go_wp2_with fail
  go_roundw
  case rel=>exact⟨1,T,by omega,f⟩
  case measure=>simp only[jv];omega
 ·go_wp2_with fail
  refine(j _).mono ?_;rintro e h ⟨rfl,c⟩;have f:=ai d c;clear c
  go_wp2_with fail
  go_roundw
  case rel=>exact⟨2,T,by omega,f⟩
  case measure=>simp only[jv];omega
 go_wp2_with fail
 refine(l _).mono ?_;rintro e t ⟨c,rfl,f,i⟩;have m:=ai d i;have u:(c:jd)<4611686018427377339:=by
  have h:=f.out;have n:c<PN:=by rw[h];exact qG _ (by rw[fl];decide)
  rw[fl]at n;omega
 clear i
 go_wp2_with fail
 go_ret2;exact⟨by rw[<-f];rfl,m⟩
theorem H4(s:ByteArray)(g:s.size<=100000)(v:ji)(l:LBy)(h:l.length<=900000)(w:jg)(b:bD w v l)(a:eM w)(c:gM w):
 jr jm 152 #[jj s,v] w λe w'=>e=jo (I N (oU (bZ s) l:je))/\jl w w w':=by
 have d:=O (sg s g v l h w b a c);have i:jk ((dl (bZ s) l).length=32):=O (iN _ _);obtain⟨m,n,rfl,-,-,-⟩:=b;clear a c
 go_enter func152,ntmps152
 go_wp2_with fail
 refine d.mono ?_;rintro e j ⟨rfl,c⟩;have a:=O (R6 (dl (bZ s) l) i j);obtain⟨o,f⟩:=J (((dl (bZ s) l).map v8).toArray);rw[<-f]at a⊢;have k:=O c;clear c d f
 go_wp2_with fail
 refine a.mono ?_;rintro e p ⟨rfl,c⟩;have f:=ai k c;have d:=ye (dl (bZ s) l);rw[tj]at d;clear c a;obtain⟨r,a⟩:=J (kt (dl (bZ s) l));rw[<-a]at d⊢;have c:=O a;clear a
 go_wp2_with fail
 go_ret;exact⟨by rw[oU,<-c];simp,f⟩
def lh(b c a d:LBy):LBy:=b++c++ip a.length 8++a++d
def oz(a b c d:LBy):LBy:=(dl gR (lh a b c d)).take 16
theorem ru(kb nb hb cb):(oz kb nb hb cb).length=16:=by simp[oz,iN]
theorem J4(n:je)(c:n<9223372036854775808)(w:jg):
 jr jm 209 #[I N n] w λe w'=>∃g a,e=jo (jb (ja ⟨g,0,A⟩) 8 a)/\jk (bD w' (jb (ja ⟨g,0,A⟩) 8 a) (ip n 8))/\jl w w w':=by
 refine(Ko n c w).mono ?_;rintro e w' ⟨v,rfl,b,d⟩;have f:bD w' v (ip n 8):=bD.of_own (B:=w.heap.size) (by rw[De];exact b)
 rcases b.2 with⟨rfl,h⟩|⟨g,a,i,rfl,j⟩
 ·exact jG h G
 exact⟨g,a,T,f,d⟩
theorem Below.al(h:jl w w a)(o:Obj):jl w w (a.alloc o):=h.alloc h.size o
theorem Below.tr{b:jg}(h:jl w w a)(k:jl a a b):jl w w b:=h.trans (k.mono h.size)
theorem Below.dr(h:jl w w a):jl w w a.drew:=⟨h.os,h.tape,h.output,h.size,h.block⟩
theorem Nr(b j X:jg)(c d a f:LBy)(k l m n o:ji)(q:bD b k c)(r:bD b l d)(s:bD j m (ip a.length 8))(u:bD b n a)(w:bD b o f)
 (h:jl b b X) (x:jl j j X) (g:je) (t:jH) (y:X.heap[g]?=ja (jc #[k,l,m,n,o] t (0,0))) (B:(lh c d a f).length<=900000):
 jr jm 111 #[jb (ja ⟨g,0,A⟩) 5 5] X λe w'=>∃v,e=jo v/\jk (bD w' v (lh c d a f))/\jl X X w':=by
 have p:[c,d,ip a.length 8,a,f].flatten=lh c d a f:=by simp[lh]
 refine(uH g 5 t [k,l,m,n,o] [c,d,ip a.length 8,a,f] T T (by rw[p];omega) X y ?_ G).mono ?_
 ·intro i z
  match i,z with
  |0,_=>exact q.below h
  |1,_=>exact r.below h
  |2,_=>exact s.below x
  |3,_=>exact u.below h
  |4,_=>exact w.below h
 rintro e w' ⟨v,rfl,i,z⟩;rw[p]at i;exact⟨v,T,bD.of_own i,z⟩
theorem LQ(a b c d:LBy)(e:a.length=32)(f:b.length=12):(lh a b c d).length=52+c.length+d.length:=by
 simp[lh,e,f,De];omega
theorem wE(w:jg)(o a:Obj):((w.alloc o).alloc a).heap[w.heap.size+1]?=ja a:=by
 have:=js (w.alloc o) a
 rwa [jC]at this
theorem tp(w:jg)(Z:jZ ji)(t:jH)(n:je)(h:Z.size=n):(w.alloc (jc Z t)).there w.heap.size 0 n:=λj c=>by
 have a:=js w (jc Z t);have b:j<Z.size:=Y;simp only[j5,r5,a];simp[b]
theorem pV{b n:je}(h:w.there b 0 n)(a:jl w w w'):w'.there b 0 n:=λj e=>by
 obtain⟨f,g⟩:=h j e;obtain⟨v,c⟩:=r4.1 f;have d:=lX c;exact⟨by rw[gg c (a.block _ d)];rfl,by rw[<-g];simp only[r5,a.block _ d]⟩
theorem thA(w':jl (w.alloc (jc h e)).drew.heap.size (w.alloc (jc h e)).drew a)(b:h.size=32):a.there w.heap.size 0 32:=
 pV (w:=(w.alloc (jc h e)).drew) ((World.there_drew _ _ _ _).2 (tp w h e 32 b)) w'
theorem thN(w':jl (w.alloc (jc h e)).heap.size (w.alloc (jc h e)) a)(b:h.size=32):a.there w.heap.size 0 32:=pV (tp w h e 32 b) w'
theorem Pr(w':jl ((w.alloc (jc h e)).alloc o).heap.size ((w.alloc (jc h e)).alloc o) a)(b:h.size=32):a.there w.heap.size 0 32:=
 pV (xl (tp w h e 32 b) o) w'
theorem Qu(w':jl ((w.alloc o).alloc (jc h e)).heap.size ((w.alloc o).alloc (jc h e)) a)(b:h.size=32):a.there (w.heap.size+1) 0 32:=by
 have Z:=tp (w.alloc o) h e 32 b;rw[jC]at Z;exact pV Z w'
theorem thK(h:w.there B 0 32)(w':jl (w.alloc o).heap.size (w.alloc o) a):a.there B 0 32:=pV (xl h o) w'
theorem Below.cellsFrom(h:jl w w a)(b:je)(c:w.heap.size<=b):∀(w':jh ji) (o:je),jl w w (a.setCells b o w'):=by
 intro w'
 induction w' generalizing a with
 |nil=>intro o;exact h
 |cons v w' d=>intro o;exact d (h.setCell c _) (o+1)
theorem Kn(a b c f:LBy)(x y:ji)(w:jg)(n:a.length=32)(q:b.length=12)(au:c.length<=70000)(ax:f.length<=70000)
 (z:bD w x c) (B:bD w y f) (j:eM w) (k:gM w):
 jr jm 155 #[jq (a.map v8).toArray,jq (b.map v8).toArray,x,y] w λe w'=>
  ∃v,e=jo v/\bD w' v (oz a b c f)/\jl w w w':=by
 have d:(a.map v8).toArray.size=32:=by simp[n]
 have h:(b.map v8).toArray.size=12:=by simp[q]
 generalize l:(a.map v8).toArray=g at d⊢;generalize m:(b.map v8).toArray=i at h⊢;have C:=O z;have D:=O B;obtain⟨ph,ch,rfl,-,-,-⟩:=z;obtain⟨pc,cc,rfl,-,-,-⟩:=B;have E:=O l;have F:=O m;have H:=O j;have K:=O k;have P:=O d;have Q:=O h;clear l m d h j k
 go_enter func155,ntmps155
 go_upto_region 1 with fail
 have d:jl w w ((w.alloc (jc g 27)).alloc (jc i 192)):=
  ⟨rfl,rfl,rfl,by simp;omega,λk n=>by rw[jF _ _ _ (by simp;omega),jF _ _ _ n]⟩
 have k:bD ((w.alloc (jc g 27)).alloc (jc i 192)) (jb (ja ⟨w,0,A⟩) 32 32) a:=by
  refine⟨_,32,by rw[n],by rw[n];exact jn _,λh=>(by cases h),λ_=>⟨w.heap.size,0,T,λj l=>?_⟩⟩;have h:cI ((w.alloc (jc g 27)).alloc (jc i 192)) w.heap.size 27 a:=by
   show _ =ja (Obj.cells (a.map v8).toArray 27 (0,0));rw[E,jF _ _ _ ar];exact js w _
  rw[lw];exact h.cell l
 have m:bD ((w.alloc (jc g 27)).alloc (jc i 192)) (jb (ja ⟨w.heap.size+1,0,A⟩) 12 12) b:=by
  refine⟨_,12,by rw[q],by rw[q];exact jn _,λh=>(by cases h),λ_=>⟨w.heap.size+1,0,T,λj l=>?_⟩⟩;have h:cI ((w.alloc (jc g 27)).alloc (jc i 192)) (w.heap.size+1) 192 b:=by
   show _ =ja (Obj.cells (b.map v8).toArray 192 (0,0));rw[F];have:=js (w.alloc (jc g 27)) (jc i 192)
   simpa using this
  rw[lw];exact h.cell l
 have o:=C.below d;have r:=D.below d;have s:eM ((w.alloc (jc g 27)).alloc (jc i 192)):=H.below d (jn _);have t:gM ((w.alloc (jc g 27)).alloc (jc i 192)):=K.below d (jn _);obtain⟨p,u⟩:=J ((w.alloc (jc g 27)).alloc (jc i 192));rw[<-u]at d k m o r s t⊢;have M:=O d;have R:=O k;have S:=O m;have U:=O o;have V:=O r;have W:=O s;have X:=O t;have aa:jk (w.heap.size+2<=p.heap.size):=O (by rw[u];simp);clear d k m o r s t u C D H K E F P Q;have d:(lh a b c f).length<=900000:=by rw[LQ _ _ _ _ n q];omega
 have t:=O d;clear d;obtain⟨r,d⟩:=J ((dl gR (lh a b c f)).map v8);have k:∀v w,bD w v (lh a b c f)->eM w->gM w->
  jr jm 73 #[jj ⟨#[116,97,103]⟩,v] w λe w'=>e=jo (jq r.toArray)/\jl w w w':=λv w m o s=>by
  rw[d];exact Ja v _ t.out w m o s
 have u:r.length=32:=by rw[d,jD,iN]
 have C:∀v∈r,v.oneCell'=jf:=by rw[d];exact iT _
 have D:(jm.info? 23).map (·.size)=ja 32:=vu;have E:=O k;have F:=O d;have H:=O u;clear k d;have ay:w.heap.size+2<=p.heap.size:=aa.out
 go_cut [9] (λv d=>∃o,v=jA (ja ⟨o,0,A⟩)/\d.rangeAt o 0 r/\jl p p d)
 case first=>
  go_region_held3 (λw'=>True) (trivial) (first
   |(go_at_call 209;refine(J4 c.length Y _).mono ?_;rintro e K ⟨g1,a1,rfl,P,m⟩;try(have Q:=thA m aj))
   |(go_at_call 111;refine(Nr p K _ a b c f _ _ _ _ _ R.out S P U V (by repeat (first|exact jy _ _ |refine Below.al ?_ _ |refine Below.dr ?_|refine Below.tr ?_ k|refine Below.tr ?_ d|refine Below.tr ?_ m)) (by repeat (first|exact jy _ _ |refine Below.al ?_ _ |refine Below.dr ?_|refine Below.tr ?_ k|refine Below.tr ?_ d|refine Below.tr ?_ m)) _ 30 (by first|exact js _ _ |exact wE _ _ _ |exact(jF _ _ _ ar).trans (js _ _)) t).mono ?_;rintro e w2 ⟨v2,rfl,ac,d⟩;first|(have s:=thK Q d)|(have s:=Pr d aj)|(have s:=Qu d aj)|skip)
   |(go_at_call 73;refine(E _ _ (ac.below (by repeat (first|exact jy _ _ |refine Below.al ?_ _ |refine Below.dr ?_|refine Below.tr ?_ k|refine Below.tr ?_ d|refine Below.tr ?_ m))) (W.below (by repeat (first|exact jy _ _ |refine Below.al ?_ _ |refine Below.dr ?_|refine Below.tr ?_ k|refine Below.tr ?_ d|refine Below.tr ?_ m)) (jn _)) (X.below (by repeat (first|exact jy _ _ |refine Below.al ?_ _ |refine Below.dr ?_|refine Below.tr ?_ k|refine Below.tr ?_ d|refine Below.tr ?_ m)) (jn _))).mono ?_;rintro e Q ⟨rfl,k⟩;have a2:=tp Q (a8) 23 32 aj;first|(have ad:=pV s k)|(have ad:=thN k aj)|skip))
  all_goals
   go_wp2_with fail
   go_meet
   refine⟨_,T,World.rangeAt_setCells_same _ _ _ _ (by rw[H];assumption),Below.cellsFrom ?_ _ ?_ _ _⟩
   ·repeat (first|exact jy _ _ |refine Below.al ?_ _ |refine Below.dr ?_|refine Below.tr ?_ k|refine Below.tr ?_ d|refine Below.tr ?_ m)
   have s:=m.size;have K:=d.size;have P:=k.size;simp only[jC,World.drew]at s K P;omega
 obtain⟨o,rfl,d,k⟩:=hcut;have m:∀j,j<16->wc.cell? ⟨o,0+j,A⟩=ja (I .u8 ((oz a b c f).getD j 0).toNat):=λj l=>by
  have s:j<(dl gR (lh a b c f)).length:=by rw[iN];omega
  refine d j _ ?_;rw[F];simp[s,oz,jO,l]
 have s:=O m;have K:=O k;clear m k d u C D
 go_wp2
 go_ret;refine⟨_,T,⟨ja ⟨o,0,A⟩,32,by rw[ru];rfl,by rw[ru];decide,λh=>(by cases h),λ_=>⟨o,0,rfl,λj l=>s j (by rw[ru]at l;exact l)⟩⟩,?_⟩;exact M.trans (K.mono M.size)
def nck(a:je):je:=(a+63)/64
def ckl(a j:je):je:=min 64 (a-64*j)
theorem KL(p:jS jM)(n c:je)(w:jg):
 jr jm 207 #[jb p n c,I N 64] w λe w'=>
  e=jo (.func (.func 244) #[] #[jA (ja ⟨w,0,A⟩),jA (ja ⟨w.heap.size+1,0,A⟩)])/\
  w'=(w.alloc (jc #[jb p n c] 30)).alloc (jc #[I N 64] 3):=by
 go_enter func207,ntmps207
 go_wp2
 go_ret;exact⟨T,T⟩
theorem Po{P:qN}(t e:jH)(a:P.underlying t=ja (.slice e))(b:∀w,(sizeOf e).run P w=.ok 1 w)(g n c l h:je)(d:l<=h)(f:h<=c)(i:l<h)(W:jg):
 (Instr.sliceAt t (jb (ja ⟨g,0,A⟩) n c) (ja (I N (l:jd))) (ja (I N (h:jd))) (ja (I N (h:jd)))).run P W=.ok (jb (ja ⟨g,l,A⟩) (h-l) (h-l)) W:=by
 have he:P.elem t=e:=by simp[Program.elem,a]
 rw[run_sliceAt_slice W t _ _ _ _ (by rw[he];exact a),run_slice_lhm W t _ n c (by rw[he];exact a) .i64 .i64 .i64 _ _ _ Y Y Y Y,he];simp[b,Result.andThen,sliced,Addr.add];rw[jI Y]
 split<;>simp[*]
theorem SR(p:jS jM)(a d f:je)(hp:0<a->p=ja ⟨f,0,A⟩)(hL:a<=d)(ax:a<=100000)(b c:je)(w:jg)
 (e:jt w b 30 (jb p a d)) (h:jt w c 3 (I N 64)):
 eO jm 244 #[jA (ja ⟨b,0,A⟩),jA (ja ⟨c,0,A⟩)] (λj:je=>#[jb (ja ⟨f,64*j,A⟩) (ckl a j) (ckl a j)])
  (λk=>k=b\/k=c) 0 (λxs=>xs=mb (nck a)) (λ_=>True) (λys=>ys<+:mb (nck a)) w:=by
 intro l g Jx W m r z s t;have B:jt W b 30 (jb p a d):=(m.block b e.lt).trans e;have C:jt W c 3 (I N 64):=(m.block c h.lt).trans h;clear e h;refine(qv (n:=0)).1 ?_;refine sq func244 T trivial ?_ T;simp only[ntmps244,jU,jW,j8,qi,qj,qk,ql,qn,qo,qa,qb]
 gi_wp2
 gi_loopw [4] (λi wr=>W.heap.size<=wr.heap.size/\∃j:je,i=I N ((64*j:je):jd)/\j<=nck a/\jk (g (mb j) (λk=>k=b\/k=c) wr)/\jt wr b 30 (jb p a d)/\jt wr c 3 (I N 64))
  (λi _=>100064-(jv i).toNat)
 case atStart=>
  exact⟨jn _,0,T,jJ _,t,B,C⟩
 obtain⟨D,j,rfl,hj,i,u,v⟩:=hrel;have F:=u.cell;have H:=v.cell
 by_cases ay:64*j<a
 ·have x:j<nck a:=by unfold nck;omega
  obtain rfl:p=ja ⟨f,0,A⟩:=hp Y;have e:mb j++[j]<+:mb (nck a):=by
   rw[<-xm];have:mb (j+1)=(mb (nck a)).take (j+1):=by
    rw[List.take_range,qC Y]
   rw[this];exact List.take_prefix _ _
  have HJ:jk (bY W.heap.size g):=r;have HY:=O s;have aa:=O e;have hd:=az (((64*j:je):jd)<(a:jd));have hd2:=az (64*(j:jd)<(a:jd));have E:∀W,(Instr.sliceAt 30 (jb (ja ⟨f,0,A⟩) a d) (ja (I N (64*(j:jd)))) A A).run jm W=.ok (jb (ja ⟨f,64*j,A⟩) (a-64*j) (d-64*j)) W:=λW=>by
   have h:=yg (P:=jm) 30 5 qO iK f 0 a d (64*j) Y Y W
   simpa using h
  clear s t z m r e B C
  gi_wp2
  gi_region
  have e:(Min.min 64 ((a-64*j:je):jd))=((ckl a j:je):jd):=by unfold ckl;omega
  rw[e];have ac:1<=ckl a j:=by unfold ckl;omega
  have ad:ckl a j<=64:=by unfold ckl;omega
  have au:64*j+ckl a j<=a:=by unfold ckl;omega
  have K:jk (g (mb j) (λk=>k=b\/k=c) wr.drew):=HJ.keep i ⟨T,T,T,jn _,λ_ _ _=>.inl T⟩;have o:jt wr.drew b 30 (jb (ja ⟨f,0,A⟩) a d):=u;have q:jt wr.drew c 3 (I N 64):=v;have M:W.heap.size<=wr.drew.heap.size:=D;obtain⟨wo,y⟩:=J wr.drew;rw[<-y]at K o q M⊢;clear y i u v D F H E e;obtain⟨fn,tmps,assign,body,Q,R⟩:=HY (mb j) j (λk=>k=b\/k=c) wo K (by rintro _ (rfl|rfl);exact o.lt;exact q.lt) aa;have F:=o.cell;have H:=q.cell;generalize ckl a j=E at Q ac ad au⊢;have a1:∀W,(Instr.sliceAt 30 (jb (ja ⟨f,0,A⟩) a d) (ja (I N (64*(j:jd)))) (ja (I N (64*(j:jd)+(E:jd)))) (ja (I N (64*(j:jd)+(E:jd))))).run jm W=.ok (jb (ja ⟨f,64*j,A⟩) E E) W:=λW=>by
   have h:=Po (P:=jm) 30 5 qO iK f a d (64*j) (64*j+E) Y Y Y W;rw[show 64*j+E-64*j=E by omega]at h
   simpa using h
  gi_wp2
  refine⟨T,R.mono ?_⟩;rintro e S (⟨rfl,U,y,h⟩|⟨rfl,ZA,y,h⟩)
  ·have V:jt S b 30 (jb (ja ⟨f,0,A⟩) a d):=(h b (.inl T)).trans o
   have X:jt S c 3 (I N 64):=(h c (.inr T)).trans q;have a2:=V.cell;have a3:=X.cell;have Wi:=y.size;clear h y R Q
   gi_wp2
   go_roundw
   case rel=>
    rw[<-xm]at U;exact⟨jz M Wi,j+1,by go_num,by omega,U,V,X⟩
   case measure=>simp[jv];omega
  gi_wp2
  refine jX (qL T _ _ _) T ?_;exact⟨⟨_,T⟩,.inr ⟨_,_,trivial,ZA⟩⟩
 have x:j=nck a:=by unfold nck at*;omega
 have hd2:=aw (64*(j:jd)<(a:jd));have e:jk (g (mb (nck a)) (λk=>k=b\/k=c) wr):=x▸i;clear i x s t r z m hj
 gi_wp2
 refine qW (qL T _ _ _) T ?_;exact⟨⟨_,T⟩,.inl ⟨_,_,T,e⟩⟩
section
variable{w:jg}{a:jh ji}
attribute [local go_sem] Oper.semAt_some
def ksB(a b:LBy)(i:je):BitVec 8:=(oP a b (jY 32 (1+i/64))).getD (i%64) 0
def fC(a b l:LBy):je->LBy
 |0=>l
 |n+1=>(fC a b l n).set n ((fC a b l n).getD n 0^^^ksB a b n)
theorem Pf(kb nb l n):(fC kb nb l n).length=l.length:=by induction n with
 |zero=>rfl
 |succ n a=>simp[fC,a]
def kX(a b l:LBy):LBy:=fC a b l l.length
theorem Ae(kb nb l):(kX kb nb l).length=l.length:=Pf _ _ _ _
theorem S9(x y:BitVec 8):bits .xor .u8 (x.toNat:jd) (y.toNat:jd)=((x^^^y).toNat:jd):=by
 have a:=x.isLt;have b:=y.isLt;have c:x.toNat%2^8=x.toNat:=qA a;have d:y.toNat%2^8=y.toNat:=qA b;have e:x.toNat^^^y.toNat<2^8:=wx a b;show IntKind.u8.wrap ((xn 8 (x.toNat:jd)^^^xn 8 (y.toNat:jd)).toNat:jd)=_;simp only[xa,xd,qB,c,d];exact IntWalk.u8_in _ Y
section
variable {P:qN} {F:Fence} {nF:je}
theorem oB{i:jZ nv}{j:jh nv}{o:nv}{a:Act}{w:jg}{k:Exit->Act->jg->Prop}(m:o.guard=A)(b:jH)(x:Operand)(f:o.op=.load b x)
 (g:je) (n:a.eval x=jA (ja ⟨g,0,A⟩)) (t:jH) (e:jZ ji) (l:je×je) (d:TypeDesc) (p:w.heap[g]?=ja (jc e t l))
 (q:P.underlying b=ja d) (r:(match d with| .struct _ | .array _ _=>jf|_=>jp)=jf) (s:(P.info? b).map (·.size)=ja e.size)
 (h:wpListIn F nF P i k j (a.put o.dst (jq e)) w):wpListIn F nF P i k (o::j) a w:=by
 refine wpListIn_plain m λy u=>?_
 unfold Oper.wpIn;refine⟨by simp[Oper.about,f],?_⟩;rw[Oper.semAt_plain F _ _ (by rw[f];intro c v;cases v)];simp only[qx,f,n,Instr.loadAt,Instr.sureAddr,Sem.run_bind,Sem.run_pure,Result.andThen_ok,run_loadVar_row w g t b e l d p q r s];exact u _ _ h
end
theorem IW{B:je}{e:jH}{g xs n:je}(h:w.ownsRow B e 1 (jb (ja ⟨g,0,A⟩) n xs) n a)(i:je)(s:i<n)(x:ji):
 (w.setCell ⟨g,i,A⟩ x).ownsRow B e 1 (jb (ja ⟨g,0,A⟩) n xs) n (a.set i x):=by
 refine⟨by simpa using h.1,?_⟩
 rcases h.2 with⟨c,_⟩|⟨g',d,f,j,k,b,l,m,o,p⟩
 ·cases c
 obtain⟨rfl,rfl⟩:g=g'/\xs=d:=ak j;have q:=(jK.1 b).1;have r:w.heap[g]=_:=(jK.1 b).2;refine .inr ⟨g,xs,f.setIfInBounds i x,T,k,?_,l,m,by simpa using o,?_⟩
 ·show(w.heap.modify g _)[g]?=_
  rw[Array.getElem?_modify];simp[q,r]
 rw[Array.toList_setIfInBounds,List.take_set,p]
theorem Iu{B:je}{g b n:je}{l:LBy}(h:w.ownsRow B 5 1 (jb (ja ⟨g,0,A⟩) n b) n (l.map v8))(i:je)(o:i<n):
 w.cell? ⟨g,i,A⟩=ja (I .u8 (l.getD i 0).toNat)/\w.frozen? ⟨g,i,A⟩=jp:=by
 rcases h.2 with⟨d,_⟩|⟨g',e,f,j,p,k,q,r,s,m⟩
 ·cases d
 obtain⟨rfl,rfl⟩:g=g'/\b=e:=ak j;have t:l.length=n:=ak h.1;have a:(f.toList.take (n*1))[i]?=(l.map v8)[i]?:=by rw[m]
 have c:i<l.length:=Y;simp only[j5,r5,k];rw[xo,jB Y]at a;simp[c]at a;simp[a,v8,jO,c]
theorem LY{B n:je}{e:jH}{b:ji}(h:w.ownsRow B e 1 b n a)(k:je)(xs:ja k≠b.ownBlock)(x:ji):(w.setCell ⟨k,0,A⟩ x).ownsRow B e 1 b n a:=by
 refine⟨h.1,?_⟩
 rcases h.2 with v|⟨g,c,d,rfl,f,i,j⟩
 ·exact .inl v
 exact .inr ⟨g,c,d,T,f,(qZ _ _ _ _ (show g≠k from λe=>xs (by rw[<-e];rfl))).trans i,j⟩
theorem Hj{w':jg}{B n m:je}{e:jH}{b:ji}(h:w.ownsRow B e 1 b n a)(xs:jl m w w')(v:∀j,b.ownBlock=ja j->j<m):w'.ownsRow B e 1 b n a:=by
 refine⟨h.1,?_⟩
 rcases h.2 with c|⟨g,d,f,rfl,i,j,k⟩
 ·exact .inl c
 exact .inr ⟨g,d,f,T,i,(xs.block _ (v g T)).trans j,k⟩
theorem IS{a:jh je}{x n:je}(h:a++[x]<+:mb n):x=a.length/\a.length<n:=by
 have b:a.length<n:=by have:=h.length_le;simp at this;omega
 refine⟨?_,b⟩;obtain⟨t,d⟩:=h;have c:=qM (λm=>m[a.length]?) d;simp[b]at c;exact c
theorem Lm{β:Type}(B0 base:je)(e:jH)(size:je)(v:ji)(n:β->je)(f:β->jh ji):
 bY B0 (λs Ψ W=>W.ownsRow base e size v (n s) (f s)/\∀j,v.ownBlock=ja j->¬Ψ j):=by
 rintro s Ψ d l B ⟨a,g⟩ i m k;have b:∀j,v.ownBlock=ja j->¬d j:=λj c h=>by
  rcases k _ h with h|h
  ·exact g j c h
  have:=(a.lt j c).2;omega
 exact⟨i.row a b,b⟩
theorem FF{β:Type}(B0 b:je)(C:jZ ji)(t:jH)(d:je×je):bY B0 (fun(_:β) Ψ W=>W.heap[b]?=ja (jc C t d)/\¬Ψ b):=by
 rintro s Ψ e j B ⟨a,f⟩ g k i;have c:¬e b:=λh=>by rcases i _ h with h|h;exact f h;have:=(jK.1 a).1;omega
 exact⟨g.cells a c,c⟩
theorem OA(d:jM)(c:je)(w:jg):
 jr jm 206 #[jb (ja d) 0 c] w λe w'=>∃v,e=jo v/\w'.ownsRow w 5 1 v 0 []/\jl w w w':=by
 have r:∀(w:jg) (a:jS jM) (n c n' b:je),(binOp .eql 30 (jb a n c) (jb A n' b)).run jm w=.ok (.bool a.isNone) w:=λw a n c n' b=>Lib.run_eql_slice_nil w _ _ a n c n' b qO
 obtain⟨i,l,m,o,p⟩:=qh tN;have f:(w.alloc (jc #[] 5)).ownsRow w.heap.size 5 1 (jb (ja ⟨w,0,A⟩) 0 0) 0 []:=
  ⟨rfl,.inr ⟨w.heap.size,0,#[],rfl,jn _,js w _,jn _,by unfold j3;omega,rfl,rfl⟩⟩
 have g:=O f;clear f
 go_enter func206,ntmps206
 go_wp2_with (at_builtin;refine wi _ T _ _ 30 T w.heap.size 5 i (I .u8 0) 1 1 qO l m o p T G _ _ _ T g d 0 c [] T T (λj f h=>(by cases h)) (λf h=>(by cases h)) (by unfold j3;omega) Y ar ?_;intro f s h j _)
 go_ret;refine⟨f,T,by simpa using h,?_⟩;exact Below.grown (w:=w.alloc (jc #[] 5)) ⟨T,T,T,by simp,λk q=>jF _ _ _ q⟩ j ar (λk e=>(g.lt k e).1)
theorem zF{B n:je}{b:ji}(h:w.ownsRow B 5 1 b n a):
 ∃p c,b=jb p n c/\n<=c/\(0<n->∃g,p=ja ⟨g,0,A⟩/\B<=g/\g<w.heap.size):=by
 rcases h.2 with⟨rfl,xs⟩|⟨g,v,i,rfl,d,e,f,j,k,l⟩
 ·exact⟨A,0,by rw[xs],by omega,λh=>by omega⟩
 exact⟨_,v,T,f,λ_=>⟨g,T,d,(jK.1 e).1⟩⟩
theorem JX(v:ji)(l:LBy)(i:l.length<=1000000)(w:jg)(h:bD w v l):
 jr jm 206 #[v] w λe w'=>∃p c,e=jo (jb p l.length c)/\jk (w'.ownsRow w 5 1 (jb p l.length c) l.length (l.map v8))/\jl w w w'/\l.length<=c/\
  jk (0<l.length->∃g,p=ja ⟨g,0,A⟩/\w.heap.size<=g/\g<w'.heap.size):=by
 have a:∀(e:Ending) (w':jg),(∃v,e=jo v/\w'.ownsRow w 5 1 v l.length (l.map v8)/\jl w w w')->∃p c,e=jo (jb p l.length c)/\jk (w'.ownsRow w 5 1 (jb p l.length c) l.length (l.map v8))/\jl w w w'/\l.length<=c/\
  jk (0<l.length->∃g,p=ja ⟨g,0,A⟩/\w.heap.size<=g/\g<w'.heap.size):=by
  rintro e w' ⟨v,rfl,f,j⟩;obtain⟨p,c,rfl,b,d⟩:=zF f;exact⟨p,c,T,f,j,b,d⟩
 obtain⟨p,c,rfl,n,j,k⟩:=h
 rcases qH l.length with f|f
 ·obtain rfl:l=[]:=qs f
  rcases p with _|m
  ·obtain rfl:=j T
   exact(J9 w).mono λe w' ⟨b,d⟩=>a e w' ⟨_,b,j0 _ _ _ _,d▸jy _ _⟩
  exact(OA m c w).mono a
 obtain⟨g,o,rfl,b⟩:=k f;exact(Tm g o c l i w b).mono a
theorem Qd(f i l:LBy)(v:ji)(w:jg)(t:f.length=32)(hn:i.length=12)(hl:l.length<=65536)(hv:bD w v l)(j:sL w):
 jr jm 154 #[jq (f.map v8).toArray,jq (i.map v8).toArray,v] w λe w'=>
  ∃a,e=jo (jw #[a,I N 0])/\w'.ownsRow w 5 1 a l.length ((kX f i l).map v8)/\jl w w w':=by
 have d:(f.map v8).toArray.size=32:=by simp[t]
 have g:(i.map v8).toArray.size=12:=by simp[hn]
 have a:=λc w h=>Jo f i c w t hn h
 generalize o:(f.map v8).toArray=C at d a⊢;generalize p:(i.map v8).toArray=F at g a⊢;have m:jl w w ((w.alloc (jc C 27)).alloc (jc F 192)):=
  ⟨rfl,rfl,rfl,by simp;omega,λk t=>by rw[jF _ _ _ (by simp;omega),jF _ _ _ t]⟩
 have HB:=O m;have HF:=O a;have HV:=O hv;have HT:=O j;have Yl:=O d;have bi:=O g;obtain⟨pv,cv,rfl,-,-,-⟩:=hv;have h1:=aw ((65536:jd)<(l.length:jd));clear a j o p d g m;refine(qv (n:=0)).1 ?_;refine sv func154 T trivial ?_ T;simp only[ntmps154,jU,jW,j8,qi,qj,qk,ql,qn,qo,qa,qb]
 gi_wp2_with fail
 refine⟨trivial,T,(callsIn_wide.2 (JX _ l Y _ (HV.below HB))).mono ?_⟩;rintro e r ⟨p,c,rfl,s,d,bk,x⟩;have a:=O d;clear d
 gi_wp2_with fail
 refine⟨trivial,T,(callsIn_wide.2 (KL p l.length c _)).mono ?_⟩;rintro e w' ⟨rfl,rfl⟩
 gi_wp2_with fail
 have a3:jl w w (((r.alloc (jc #[I jV 1] 281)).alloc (jc #[jb p l.length c] 30)).alloc (jc #[I N 64] 3)):=by
  have h:=HB.trans (a.mono HB.size);exact((h.alloc h.size _).alloc (by have:=h.size;simp;omega) _).alloc (by have:=h.size;simp;omega) _
 have a4:(((r.alloc (jc #[I jV 1] 281)).alloc (jc #[jb p l.length c] 30)).alloc (jc #[I N 64] 3)).heap[w.heap.size]?=ja (jc C 27 (0,0)):=by
  have Q:=a.size;simp at Q;rw[jF _ _ _ (by simp;omega),jF _ _ _ (by simp;omega),jF _ _ _ Y,a.block _ (by simp;omega)];exact(jF _ _ _ ar).trans (js w _)
 have a5:(((r.alloc (jc #[I jV 1] 281)).alloc (jc #[jb p l.length c] 30)).alloc (jc #[I N 64] 3)).heap[w.heap.size+1]?=ja (jc F 192 (0,0)):=by
  have Q:=a.size;simp at Q;rw[jF _ _ _ (by simp;omega),jF _ _ _ (by simp;omega),jF _ _ _ Y,a.block _ ar];exact wE w _ _
 have ad:jt (((r.alloc (jc #[I jV 1] 281)).alloc (jc #[jb p l.length c] 30)).alloc (jc #[I N 64] 3)) r.heap.size 281 (I jV ((jY 32 (1+0)).toNat:jd)):=
  ((Boxed.new r _ _).alloc _).alloc _
 have V:jt (((r.alloc (jc #[I jV 1] 281)).alloc (jc #[jb p l.length c] 30)).alloc (jc #[I N 64] 3)) (r.heap.size+1) 30 (jb p l.length c):=by
  have:=Boxed.new (r.alloc (jc #[I jV 1] 281)) 30 (jb p l.length c);rw[jC]at this;exact this.alloc _
 have X:jt (((r.alloc (jc #[I jV 1] 281)).alloc (jc #[jb p l.length c] 30)).alloc (jc #[I N 64] 3)) (r.heap.size+1+1) 3 (I N 64):=by
  have:=Boxed.new ((r.alloc (jc #[I jV 1] 281)).alloc (jc #[jb p l.length c] 30)) 3 (I N 64);rw[jC,jC]at this;exact this
 have au:=(((s.alloc (jc #[I jV 1] 281)).alloc (jc #[jb p l.length c] 30)).alloc (jc #[I N 64] 3));have ax:(((r.alloc (jc #[I jV 1] 281)).alloc (jc #[jb p l.length c] 30)).alloc (jc #[I N 64] 3)).heap.size=r.heap.size+3:=by simp
 have bl:w.heap.size+2<=r.heap.size:=by have Q:=a.size;simp at Q;omega
 have u:((w.alloc (jc C 27)).alloc (jc F 192)).heap.size=w.heap.size+2:=by simp
 rw[u]at au;obtain⟨W0,y⟩:=J ((((r.alloc (jc #[I jV 1] 281)).alloc (jc #[jb p l.length c] 30)).alloc (jc #[I N 64] 3)));rw[<-y]at a3 a4 a5 ad V X au ax⊢;obtain⟨q,m⟩:=J r.heap.size;have z:0<l.length->∃g,p=ja ⟨g,0,A⟩/\w.heap.size+2<=g/\g<q:=by rw[m,<-u];exact x
 rw[<-m]at ad V X ax bl⊢;obtain⟨d,B,D⟩:∃d,(0<l.length->p=ja ⟨d,0,A⟩)/\(0<l.length->d<q):=by
  rcases qH l.length with j|j
  ·exact⟨0,λh=>by omega,λh=>by omega⟩
  obtain⟨g,o,_,E⟩:=z j;exact⟨g,λ_=>o,λ_=>E⟩
 have bm:∀j,(jP p l.length c).ownBlock=ja j->j<q:=by
  rw[m];intro j o;exact(s.lt j o).2
 have ay:=O ax;have Vu:=O B;have a1:=O bm;clear y m s a x z u D B;refine rh (n:=0) (gf:=244) (lb:=#[jA (ja ⟨q+1,0,A⟩),jA (ja ⟨q+1+1,0,A⟩)]) T (enters_of func244 af T)
  (SR p l.length c d Vu bk Y (q+1) (q+1+1) W0 V X) (jJ _) (λ_=>rfl) (by rintro k (rfl|rfl);exact V.lt;exact X.lt)
  (λs Ψ W=>(W.ownsRow (w.heap.size+2) 5 1 (jb p l.length c) l.length ((fC f i l (min (64*s.length) l.length)).map v8)/\∀j,(jP p l.length c).ownBlock=ja j->¬Ψ j)/\
   (jt W q 281 (I jV ((jY 32 (1+s.length)).toNat:jd))/\¬Ψ q)/\
   (W.heap[w.heap.size]?=ja (jc C 27 (0,0))/\¬Ψ w.heap.size)/\(W.heap[w.heap.size+1]?=ja (jc F 192 (0,0))/\¬Ψ (w.heap.size+1))/\
   (jl w w W/\∀k,Ψ k->w.heap.size<=k))
  (λ_ _ _ _=>False)
  ((Lm W0.heap.size (w.heap.size+2) 5 1 (jb p l.length c) (λ_=>l.length) (λs:jh je=>(fC f i l (min (64*s.length) l.length)).map v8)).and ((iQ _ _ _ (λs:jh je=>I jV ((jY 32 (1+s.length)).toNat:jd))).and
   ((FF _ _ _ _ _).and ((FF _ _ _ _ _).and (kH _ _ w (jn _) (aI ay))))))
  (λ_=>fk _ _)
  ⟨⟨by simpa [fC]using au,λj o=>by have:=a1 j o;omega⟩,⟨ad,by omega⟩,⟨a4,by omega⟩,⟨a5,by omega⟩,a3,by rintro k (rfl|rfl)<;>omega⟩
  (λx a6 _ _=>a6={tmps:=((Value.agg C)::(Value.agg F)::(jP pv l.length cv)::(r6 (ja ⟨w,0,A⟩))::(r6 (ja ⟨w.heap.size+1,0,A⟩))::ju::(jP p l.length c)::(jE .i64 0)::(r6 (ja ⟨q,0,A⟩))::(jP (ja ⟨d,64*x,A⟩) (ckl l.length x) (ckl l.length x))::ju::ju::(jP pv l.length cv)::(jE .i64 l.length)::(Value.bool jp)::(jP pv l.length cv)::(jP p l.length c)::(jP p l.length c)::(Value.func (.func 244) #[] #[jA (ja ⟨q+1,0,A⟩),jA (ja ⟨q+1+1,0,A⟩)])::(jP (ja ⟨d,64*x,A⟩) (ckl l.length x) (ckl l.length x))::ju::ju::ju::ju::ju::ju::ju::ju::ju::ju::ju::ju::ju::ju::ju::ju::ju::ju::ju::ju::ju::ju::ju::ju::[]).toArray,defers:=[]}) (fk _ _)
  ?assign ?body ?done ?stop
 case assign=>
  intro ll s x Ψ u K a _ R
  gi_wp2
  exact R _ _ (jy _ _) a T
 case body=>
  rintro ll s x Ψ a6 u ⟨⟨B,Zx⟩,⟨H,a2⟩,⟨R,ba⟩,⟨hN,bb⟩,K,hΨ⟩ rfl y Ye bC bI;obtain⟨rfl,ZX⟩:=IS y;obtain⟨a,m⟩:=J s.length;have z:(s++[a]).length=a+1:=by rw[m];simp
  have UR:=O z;rw[<-m]at B H ZX⊢;have hL:64*a<l.length:=by unfold nck at ZX;omega
  obtain rfl:p=ja ⟨d,0,A⟩:=Vu Y;clear y m z;obtain⟨y,m⟩:=J (jY 32 (1+a));rw[<-m]at H;have bc:=O m;clear m;have m:sL u:=(Lib.tabBelow_of_tabIs HT) _ K;have bn:=O m;have YA:=O K;have z:=O B;have bd:=O Zx;have HK:=O R;have HN:=O hN;have Yr:=H.cell;have HC:=O H;clear m K B Zx R hN H
  gi_upto_region 7 with fail
  refine wpIn_region_lit ?_;refine oB T 27 _ T w.heap.size T 27 C (0,0) _ HK.out ms T (by rw[Yl];rfl) ?_;refine oB T 192 _ T (w.heap.size+1) T 192 F (0,0) _ HN.out wq T (by rw[bi];rfl) ?_
  gi_wp2_with fail
  refine⟨trivial,T,CallsIn.inRound ll (callsIn_wide.2 ((HF y u bn).mono ?_))⟩;rintro e S ⟨vb,rfl,M,E⟩;obtain⟨p2,c2,rfl,bK,bo⟩:=zF M;obtain⟨D,rfl,WW,bM⟩:=bo G;have U:∀m,m<64->S.cell? ⟨D,m,A⟩=ja (I .u8 ((oP f i y).getD m 0).toNat):=λm hm=>(Iu M m hm).1
  have bN:d<u.heap.size:=(z.lt d T).2;have bp:q<u.heap.size:=HC.lt;have aa:S.ownsRow (w.heap.size+2) 5 1 (jb (ja ⟨d,0,A⟩) l.length c) l.length ((fC f i l (64*a+0)).map v8):=by
   have h:=z.out;rw[qC Y]at h;exact Hj h E (by intro j o;exact(z.lt j o).2)
  have o:jt S q 281 (I jV (y.toNat:jd)):=(E.block _ bp).trans HC;have bq:=O U;have br:=O aa;have Uy:=O o;have Ug:=O E;have bs:1<=ckl l.length a:=by unfold ckl;omega
  have bu:ckl l.length a<=64:=by unfold ckl;omega
  have ac:64*a+ckl l.length a=min (64*(a+1)) l.length:=by unfold ckl;omega
  have bv:64*a+ckl l.length a<=l.length:=by unfold ckl;omega
  have bf:=O ac;have bO:d<S.heap.size:=Y;clear ac U aa o E M Yr;generalize ckl l.length a=E at bs bu bf bv⊢;have aa:∀W,(Instr.sliceAt 30 (jb (ja ⟨D,0,A⟩) 64 c2) A (ja (I N (E:jd))) A).run jm W=.ok (jb (ja ⟨D,0,A⟩) E c2) W:=
   uu (P:=jm) 30 5 qO iK D 0 64 c2 E Y Y
  gi_wp2_with fail
  clear aa
  gi_loopw [28] (λo M=>∃m:je,o=I N m/\m<=E/\jk (M.ownsRow (w.heap.size+2) 5 1 (jb (ja ⟨d,0,A⟩) l.length c) l.length ((fC f i l (64*a+m)).map v8))/\jk (bQ d S M)) (λo _=>(64-jv o).toNat)
  case atStart=>exact⟨0,T,by omega,br,bQ.refl _ _⟩
  obtain⟨m,rfl,hm,o,M⟩:=hrel
  by_cases bT:m<E
  ·have hd:=az ((m:jd)<(E:jd))
   have WI:wr.cell? ⟨D,m,A⟩=ja (I .u8 ((oP f i y).getD m 0).toNat):=gg (bq m Y) (M.block _ (by show D≠d;omega));obtain⟨Vr,bg⟩:=Iu o (64*a+m) Y;have U:fC f i l (64*a+(m+1))=(fC f i l (64*a+m)).set (64*a+m) ((fC f i l (64*a+m)).getD (64*a+m) 0^^^(oP f i y).getD m 0):=by
    show(fC f i l (64*a+m)).set _ (_ ^^^ksB f i (64*a+m))=_;rw[ksB,show(64*a+m)/64=a by omega,show(64*a+m)%64=m by omega,bc]
    rfl
   generalize(oP f i y).getD m 0=kx at WI U;generalize(fC f i l (64*a+m)).getD (64*a+m) 0=px at Vr U;have ac:=O U;clear U
   gi_wp2
   go_roundw
   case rel=>
    refine⟨m+1,by go_num,by omega,?_,M.trans (bQ.setCell _ _ _ _)⟩;have h:=IW o (64*a+m) Y (I .u8 (px^^^kx).toNat);rw[S9,ac,List.map_set];exact h
   case measure=>simp[jv];omega
  have hd:=aw ((m:jd)<(E:jd));have ac:m=E:=Y;have UV:jk (wr.ownsRow (w.heap.size+2) 5 1 (jb (ja ⟨d,0,A⟩) l.length c) l.length ((fC f i l (min (64*(a+1)) l.length)).map v8)):=by
   have h:=o;rw[ac,bf]at h;exact h
  have U:jt wr q 281 (I jV (y.toNat:jd)):=(M.block _ (by have:=a1 d T;show q≠d;omega)).trans Uy;have b0:=U.cell;have b1:=U.frozen;have bw:=O U;clear ac o U
  gi_wp2
  have bA:((y.toNat:jd)+1)%4294967296=((jY 32 (1+(a+1))).toNat:jd):=by rw[bc,qB,qB];omega
  rw[bA];have bB:¬Ψ d:=bd d T;have U:∀k,k<u.heap.size->k≠d->k≠q->(wr.setCell ⟨q,0,A⟩ (I jV ((jY 32 (1+(a+1))).toNat:jd))).heap[k]?=u.heap[k]?:=λk h1 h2 h3=>by
   rw[qZ _ _ _ _ (show k≠q from h3),M.block k h2,Ug.block k h1]
  have bg:u.heap.size<=(wr.setCell ⟨q,0,A⟩ (I jV ((jY 32 (1+(a+1))).toNat:jd))).heap.size:=by
   have h1:=Ug.size;have h2:=M.size;simp only[World.setCell,Array.size_modify];omega
  have b2:=ay.out;have b3:=a1 d T;have bh:=UR.out;have ac:jl 0 u (wr.setCell ⟨q,0,A⟩ (I jV ((jY 32 (1+(a+1))).toNat:jd))):=
   ((Ug.mono (jJ _)).trans (M.below (jJ _))).setCell (jJ _) _
  refine⟨⟨⟨bg,λk o t hA ho=>?_⟩,ac,λk t=>?_⟩,⟨?_,bd⟩,⟨?_,a2⟩,⟨?_,ba⟩,⟨?_,bb⟩,?_,hΨ⟩
  ·exact(U k (jK.1 hA).1 Y Y).trans hA
  ·exact U k (Ye k t) (λe=>bB (e▸t)) (λe=>a2 (e▸t))
  ·show World.ownsRow _ _ _ _ _ _ (List.map v8 (fC f i l (min (64*(s++[a]).length) l.length)))
   rw[bh];exact LY UV q (λe=>by
    have h:d=q:=by simpa [qc]using e.symm
    omega) _
  ·show jt _ _ _ (I jV ((jY 32 (1+(s++[a]).length)).toNat:jd))
   rw[bh];exact bw.set _
  ·exact(U _ (jK.1 HK).1 (by have:=(z.lt d T).1;omega) Y).trans HK
  ·exact(U _ (jK.1 HN).1 (by have:=(z.lt d T).1;omega) Y).trans HN
  refine YA.trans ⟨ac.os,ac.tape,ac.output,bg,λk t=>?_⟩;exact U k (cT YA.size) (by have:=(z.lt d T).1;omega) Y
 case done=>
  rintro D xs Ψ W k rfl ⟨⟨B,Zx⟩,⟨H,a2⟩,⟨R,ba⟩,⟨hN,bb⟩,K,hΨ⟩ a;have aa:fC f i l (min (64*(mb (nck l.length)).length) l.length)=kX f i l:=by
   rw[List.length_range,Nat.min_eq_right (by unfold nck;omega)];rfl
  rw[aa]at B;have z:=O B;have YA:=O K;clear B K aa
  gi_wp2
  refine⟨by simp,.inl ⟨_,_,T,sy (b:=D) (ds:=[]) a,?_⟩⟩;refine⟨jw #[jb p l.length c,I N 0],by simp[results,results154,go_sem],_,T,?_,?_⟩
  ·exact sl (vi z _ a T) Y
  exact YA.trans (iA (aI ay))
 intro D a s Ψ W _ _ h;exact h.elim
end
def oL(a b c l:LBy):LBy:=kX a b l++oz a b c (kX a b l)
theorem Sl(kb nb hb l):(oL kb nb hb l).length=l.length+16:=by simp[oL,Ae,ru]
structure lq(w:jg):Prop where
 num:eM w
 start:gM w
 const:sL w
theorem lq.below(h:lq w)(a:jl w w w'):lq w':=
 ⟨h.num.below a (jn _),h.start.below a (jn _),(Lib.tabBelow_of_tabIs h.const) _ a⟩
theorem Nc(a b d l:LBy)(r v:ji)(w:jg)(f:a.length=32)(s:b.length=12)(S:d.length<=70000)(U:l.length<=65536)(q:bD w r d)(x:bD w v l)(y:lq w):
 jr jm 101 #[jq (a.map v8).toArray,jq (b.map v8).toArray,r,v] w λe w'=>
  ∃t,e=jo (jw #[t,I N 0])/\w'.ownsRow w 5 1 t (l.length+16) ((oL a b d l).map v8)/\jl w w w':=by
 have m:(a.map v8).toArray.size=32:=by simp[f]
 have n:(b.map v8).toArray.size=12:=by simp[s]
 have c:=λv w h p=>Qd a b l v w f s U h p
 have j:=λV w C p D W=>Kn a b d (kX a b l) r V w f s S (by rw[Ae];omega) C p D W
 generalize z:(a.map v8).toArray=g at m c j⊢;generalize B:(b.map v8).toArray=i at n c j⊢;have o:jl w w ((w.alloc (jc g 27)).alloc (jc i 192)):=
  ⟨rfl,rfl,rfl,by simp;omega,λk f=>by rw[jF _ _ _ (by simp;omega),jF _ _ _ f]⟩
 have E:=O o;have X:=O c;have HG:=O j;have HV:=O (x.below o);have aa:=O q;have u:=O y;have F:=O m;have H:=O n;clear c j y z B m n o x q
 go_enter func101,ntmps101
 go_upto_region 1 with fail
 refine qP ?_;refine o1 T 27 _ T w.heap.size T 27 g (0,0) _ ((jF _ _ _ ar).trans (js w _)) ms T (by rw[F];rfl) ?_;refine o1 T 192 _ T (w.heap.size+1) T 192 i (0,0) _ (wE w _ _) wq T (by rw[H];rfl) ?_
 go_wp2_with fail
 refine(X v _ HV.out (u.below E).const).mono ?_;rintro e m ⟨t,rfl,n,q⟩;obtain⟨x,y,rfl,ax,-⟩:=zF n;have z:l.length=(kX a b l).length:=(Ae _ _ _).symm;have c:m.ownsRow (w.heap.size+2) 5 1 (jb x l.length y) (kX a b l).length ((kX a b l).map v8):=by
  rw[<-z];have j:((w.alloc (jc g 27)).alloc (jc i 192)).heap.size=w.heap.size+2:=by simp
  rw[j]at n;exact n
 have K:bD m (jb x l.length y) (kX a b l):=bD.of_own c;have M:∀j,(jP x l.length y).ownBlock=ja j->j<m.heap.size:=λj B=>(n.lt j B).2
 have P:m.heap[w.heap.size]?=ja (jc g 27 (0,0)):=(q.block _ (by simp;omega)).trans ((jF _ _ _ ar).trans (js w _));have Q:m.heap[w.heap.size+1]?=ja (jc i 192 (0,0)):=(q.block _ ar).trans (wE w _ _);have ac:=O c;have ad:=O K;have au:=O M;have WY:=O P;have R:=O Q;have o:=ai E q;have Vn:=O z;clear n c K M P Q q z
 go_upto_region 4 with fail
 refine qP ?_;refine wpList_step (λK n=>?_);go_simp;refine n _ _ ?_;clear n K;refine o1 T 27 _ T w.heap.size T 27 g (0,0) _ WY.out ms T (by rw[F];rfl) ?_;refine o1 T 192 _ T (w.heap.size+1) T 192 i (0,0) _ R.out wq T (by rw[H];rfl) ?_
 go_wp2_with fail
 refine(HG _ _ (aa.below o) ad (u.below o).num (u.below o).start).mono ?_;rintro e M ⟨vt,rfl,z,n⟩;have q:=Hj ac n (λj B=>au j B);rw[<-Vn]at q;have P:w.heap.size+2<=M.heap.size:=by
  have C:=o.size;have p:=n.size;have D:=(jK.1 R).1;omega
 have Q:=O z;have K:=O q;have Ug:=ai o n;clear z q n
 go_wp2_with (at_builtin;refine Dq T _ _ T (w.heap.size+2) _ _ _ T K _ (oz a b d (kX a b l)) T Q.out (by rw[ru];omega) P ?_;intro n z c q)
 go_ret2;refine⟨n,T,?_,Ug.grown q Y (λk e=>jz Y (K.lt k e).1)⟩;rw[ru,<-j4]at c;exact sl c Y
theorem vM{b:je}{l:jh ji}{t:jH}(h:w.heap[b]?=ja (jc l.toArray t (0,0))):w.rangeAt b 0 l:=λj v a=>by
 simp[j5,h,a]
theorem fx{P:qN}(o:nv)(a:Act)(c:jH)(x:Operand)(g:o.op=.load c x)(b f:je)(h:a.eval x=jA (ja ⟨b,f,A⟩)){w:jg}(e:jh ji)(d:TypeDesc)(i:w.rangeAt b f e)
 (j:P.underlying c=ja d) (k:d.isRow=jf) (l:(P.info? c).map (·.size)=ja e.length):(qx a.eval o).run P w=.ok (.value (jq e.toArray)) w:=by
 unfold qx;simp only[g,h,Sem.run_bind,run_loadAt_mid w b f c e d i j k l,Result.andThen_ok,Sem.run_pure]

theorem J5(n:jd)(a:0<=n)(b:n<9223372036854775808):iF n=2*n.toNat:=by unfold iF;rw[jB a]
theorem MK(n:jd)(a:n<0):iF n=2*(-(n+1)).toNat+1:=by unfold iF;rw[jI Y]
theorem PM(a:je)(b:a<18446744073709551616):bits .xor .u64 (a:jd) 0=(a:jd):=by
 have h:=bits_xor_u64_nat a 0 b Y
 simpa using h
theorem Qm(a:je)(b:a<18446744073709551616):bits .xor .u64 (a:jd) 18446744073709551615=((18446744073709551615-a:je):jd):=by
 have h:=bits_xor_u64_nat a 18446744073709551615 b Y;have e:a^^^18446744073709551615=18446744073709551615-a:=by
  apply Nat.eq_of_testBit_eq
  intro i;rw[Nat.testBit_xor,show(18446744073709551615:je)=2^64-1 by decide,Nat.testBit_two_pow_sub_one,show 2^64-1-a=2^64-(a+1) by omega,Nat.testBit_two_pow_sub_succ b]
  by_cases c:i<64
  ·simp[c]
  have:a.testBit i=jp:=Nat.testBit_lt_two_pow (jN b (q8 Y (Nat.le_of_not_lt c):2^64<=2^i));simp[c,this]
 rw[e]at h;exact h
theorem Ig{k:IntKind}(h:x=y):Ending.returned (.int k x)=jo (.int k y):=by rw[h]
theorem KO(n:jd)(f: -9223372036854775808<=n)(a:n<9223372036854775808)(w:jg):
 jr jm 185 #[I N n] w λe w'=>e=jo (I j7 (iF n))/\w=w':=by
 by_cases h:0<=n
 ·rw[J5 n h a]
  go_enter func185,ntmps185
  go_wp2
  go_ret;refine⟨Ig ?_,T⟩;have e:n/9223372036854775808=0:=Y;obtain⟨m,rfl⟩:=xj h;rw[e,show(m:jd)*2=((2*m:je):jd) by omega,PM _ Y]
  rfl
 have b:n<0:=Y;rw[MK n b];have g:n<= -1:=Y
 go_enter func185,ntmps185
 go_wp2
 go_ret;refine⟨Ig ?_,T⟩;obtain⟨m,i⟩:∃m:je,m=(2*n+18446744073709551616).toNat:=⟨_,T⟩;have c:qI.wrap (qI.wrap n*2)=(m:jd):=by simp only[qU];omega
 have d:qI.wrap (n/9223372036854775808)=18446744073709551615:=by simp only[qU];omega
 rw[c,d,Qm _ Y];omega
theorem ML(k:je):bits .or .u8 ((k:jd)%256) 128=(((jY 8 (k%128+128)).toNat:je):jd):=by
 have h:∀j:Fin 256,bits .or .u8 ((j.val:je):jd) 128=(((jY 8 (j.val%128+128)).toNat:je):jd):=by decide+kernel
 have e:=h ⟨k%256,qG _ Y⟩;have a:(k%256)%128=k%128:=Y;simp only[a]at e;rw[<-e]
 rfl
theorem rO(W:jg)(x:ji):cF (W.alloc (jc #[x] 5)) (jb (ja ⟨W,0,A⟩) 1 1) 1 1 [x]:=
 lx W [x] 5 (0,0) 1 1 1 rfl (jn _)
theorem Pb(f:je):∀a,a<128^(f+1)->(cY a).length<=f+1:=by
 induction f with
 |zero=>intro a b;rw[ts Y];simp
 |succ f c=>
  intro a b
  by_cases h:a<128
  ·rw[ts h];simp
  rw[Im h];have:=c (a/128) (by rw[Nat.div_lt_iff_lt_mul Y];rw[Nat.pow_succ]at b;omega);simp;omega
theorem mc(a:je)(b:a<18446744073709551616):(cY a).length<=10:=Pb 9 a (Nat.lt_trans b G)
theorem Ac(B n b:je)(v:ji)(xs:jh ji)(w:jg)(c:w.ownsRow B 5 1 v n xs)(d:B<=w.heap.size)(s:b<18446744073709551616)(D:n<=3000000):
 jr jm 184 #[v,I j7 b] w λe w'=>∃g,e=jo g/\cE B 5 1 w w' v g (n+(cY b).length) (xs++(cY b).map v8):=by
 obtain⟨i,a⟩:=J (cY b);have p:=O (mc b s);rw[<-a]at p⊢;have t:=O a;have u:=O c;have x:=O d;clear a c d
 go_enter func184,ntmps184
 go_wp2_with fail
 go_loopw [0,1] (λd c wr=>∃(a:LBy) (k:je) (j:ji),d=j/\c=I j7 k/\k<=18446744073709551615/\jk (i=a++cY k)/\jk (cE B 5 1 w wr v j (n+a.length) (xs++a.map v8))) (λ_ c _=>(jv c).toNat)
 case atStart=>exact⟨[],b,v,T,T,by omega,O t,O (by simpa using cE.refl u)⟩
 obtain⟨a,k,j,rfl,rfl,E,l,d⟩:=hrel;have F:a.length<=10:=by have y:=p.out;rw[l,jL]at y;omega
 have q:=O (jz x d.grown.size)
 by_cases r:k<128
 ·have z:=aw ((128:jd)<=(k:jd))
  have m:=O (show i=a++[jY 8 k] by rw[l,ts r]);have c:(k:jd)=(((jY 8 k).toNat:je):jd):=by rw[qB];omega
  have o:=O c;clear c
  go_wp2_with (at_builtin;refine Hid.out ?_)
  refine O ?_;refine oj T λ_ f=>oK _ _ T B _ _ _ T (cL d.own (ao wr _)) _ 1 [_] T (rO wr _) (by simp[j1]) (show n+a.length+1<=4000000 by omega) (jz q (ao wr _).size) λg C c=>f _ _ ?_
  replace c:=O c;clear f
  go_wp2_with fail
  go_ret;refine⟨_,T,?_⟩;have h:=d.trans (cE.after (ao wr _) c);rw[show [jE IntKind.u8 (k:jd)]=[jY 8 k].map v8 by rw[o];rfl,j6]at h;rw[m,jL,j4,<-r7];exact h
 have z:=az ((128:jd)<=(k:jd));have m:=O (show i=(a++[jY 8 (k%128+128)])++cY (k/128) by rw[l,Im r];simp);have o:=O (ML k)
 go_wp2_with (at_builtin;refine Hid.out ?_)
 refine O ?_;refine oj T λ_ f=>oK _ _ T B _ _ _ T (cL d.own (ao wr _)) _ 1 [_] T (rO wr _) (by simp[j1]) (show n+a.length+1<=4000000 by omega) (jz q (ao wr _).size) λg C c=>f _ _ ?_
 replace c:=O c;clear f
 go_wp2_with fail
 refine⟨⟨a++[jY 8 (k%128+128)],k/128,_,T,?_,by omega,m,O ?_⟩,?_⟩
 ·exact qM (jE .u64) Y
 ·have h:=d.trans (cE.after (ao wr _) c)
  rw[o,j6]at h;rw[jL,j4,<-r7];exact h
 simp only[jv];omega
section
variable{i:je}
section
variable {P:qN} {ops:jZ nv} {Q:Exit->Act->jg->Prop} {md:Region.Mode} {S:jg->Prop}
abbrev eD:=eK
theorem dm{i:je}{a:Act}{w:jg}(S:jg->Prop)(t:bE)(d:P.follows .mixedOrders=jf)(e:Region.noSelect ops=jf)
 (f:gz .any ops t (Array.replicate ops.size jp)=jf) (g:t.len<=ops.size) (b:∀c a h w,Q (.panic c) a w->Q (.panic c) h w)
 (c:S w.drew) (h:eD P ops Q S t a w.drew):(Code.region i ops jf).wp P Q a w:=
 IK S t d e f g b c h
theorem aV{o:nv}{v:ji}{r:bE}{a:Act}{w:jg}(b:ops[i]?=ja o)(c:Region.wanted o (yielded ops a.tmps)=jf)
 (d:∀w,S w->(qx a.eval o).run P w=.ok (.value v) w) (h:eD P ops Q S r (a.put o.dst v) w):eD P ops Q S (.take i r) a w:=
 R5 b c d h
theorem TA{o:nv}{r:bE}{a:Act}{w:jg}(b:ops[i]?=ja o)(c:Region.wanted o (yielded ops a.tmps)=jp)
 (h:eD P ops Q S r (a.put o.dst ju) w):eD P ops Q S (.take i r) a w:=
 Mm b c h
theorem aE{o:nv}{r:bE}{a:Act}{w:jg}(c:ops[i]?=ja o)
 (h:∀b:Act->jg->Prop,Shut (∀a w,S w->(S w->eD P ops Q S r a w)->b a w)->if Region.wanted o (yielded ops a.tmps)=jf then Oper.wp P o a w b Q else b (a.put o.dst ju) w):
 eD P ops Q S (.one i r) a w:=
 MC c h
theorem NE{o:nv}{v:ji}{r:bE}{a:Act}{w:jg}{f:FuncId}{args:jZ ji}(b:ops[i]?=ja o)(c:Region.wanted o (yielded ops a.tmps)=jf)
 (he:∀w,(qx a.eval o).run P w=.ok (.enter f args) w) (d:∀w,S w->jr P f args w λe w'=>e=jo v/\w'=w) (h:eD P ops Q S r (a.put o.dst v) w):eD P ops Q S (.take i r) a w:=
 Sx b c he d h
theorem iW{j:je}{r y:bE}{a:Act}{w:jg}(b:eD P ops Q S (.one i r) a w)(c:eD P ops Q S (.one j y) a w):eD P ops Q S (.two i j r y) a w:=
 SX b c
end
theorem fG{p q:Prop}(k:q)(h:q->p:=by intro k;refine aV (v:=?_) rfl (by rfl) (λW' hS=>?_) ?_;rotate_left;(go_simp;with_reducible rfl);refine L ?_;exact k):p:=h k
theorem aP{p q:Prop}(k:q)(h:q->p:=by intro k;refine aV (v:=?_) rfl (by rfl) (λW' hS=>?_) ?_;rotate_left;(clear hS;go_simp;with_reducible rfl);refine L ?_;exact k):p:=h k
theorem EY{p q:Prop}(k:q)(h:q->p:=by intro k;refine aV (v:=?_) rfl (by rfl) (λW' hS=>?_) ?_;rotate_left;(obtain⟨k0,k1,k2,k3⟩:=hS;go_simp;with_reducible rfl);refine L ?_;exact k):p:=h k
theorem EV{p q:Prop}(k:q)(h:q->p:=by intro k;refine aV (v:=?_) rfl (by rfl) (λW' hS=>?_) ?_;rotate_left;(obtain⟨k0,k1,k2,k3,k4,k5⟩:=hS;go_simp;with_reducible rfl);refine L ?_;exact k):p:=h k
theorem wM{p q:Prop}(k:q)(h:q->p:=by intro k;refine aV (v:=?_) rfl (by rfl) (λW' hS=>?_) ?_;rotate_left;(have b0:=hS.1.1;have b1:=hS.1.2;clear hS;go_simp;with_reducible rfl);refine L ?_;exact k):p:=h k
theorem il{p q:Prop}(k:q)(h:q->p:=by intro k;refine TA rfl (by rfl) ?_;refine L ?_;exact k):p:=h k
end
def aH(D:je->Prop)(w:jg)(v:ji)(sz n:je)(xs:jh ji):Prop:=
 xs.length=n*sz/\∃(p:jS jM) (c:je),v=jb p n c/\n<=c/\(p=A->c=0)/\
  (0<n->∃g o,p=ja ⟨g,o,A⟩/\D g/\∀(j:je) a,xs[j]?=ja a->w.cell? ⟨g,o+j,A⟩=ja a)
theorem aH.row{D:je->Prop}{w:jg}{v:ji}{sz n:je}{xs:jh ji}(h:aH D w v sz n xs):cF w v sz n xs:=by
 obtain⟨a,p,c,b,d,f,i⟩:=h;refine⟨a,p,c,b,d,f,λj=>?_⟩;obtain⟨g,o,e,-,k⟩:=i j;exact⟨g,o,e,k⟩
theorem dX{w w':jg}{a:jM}(h:w'.heap[a.block]?=w.heap[a.block]?):w'.cell? a=w.cell? a:=by unfold j5;rw[h]
theorem aH.keep{D:je->Prop}{w w':jg}{v:ji}{sz n:je}{xs:jh ji}(h:aH D w v sz n xs)(d:∀g,D g->w'.heap[g]?=w.heap[g]?):aH D w' v sz n xs:=by
 obtain⟨f,p,c,i,k,l,m⟩:=h;refine⟨f,p,c,i,k,l,λq=>?_⟩;obtain⟨g,o,e,b,r⟩:=m q;exact⟨g,o,e,b,λj s t=>(dX (a:=⟨g,o+j,A⟩) (d g b)).trans (r j s t)⟩
theorem aH.mono{D D':je->Prop}{w:jg}{v:ji}{sz n:je}{xs:jh ji}(h:aH D w v sz n xs)(a:∀g,D g->D' g):aH D' w v sz n xs:=by
 obtain⟨b,p,c,d,f,i,j⟩:=h;refine⟨b,p,c,d,f,i,λk=>?_⟩;obtain⟨g,o,e,l,h⟩:=j k;exact⟨g,o,e,a g l,h⟩
def gT(x:Val)(a:ji):jh ji:=[I N x.k,I N x.n,jj x.s,a]
def cR:jh Val->jh ji->jh ji
 |x::xs,a::b=>gT x a++cR xs b
 |_,_=>[]
mutual
def aU(D:je->Prop)(w:jg):Val->ji->Prop
 | .mk _ _ _ l,b=>∃a,aH D w b 4 l.length (cR l a)/\aM D w l a
def aM(D:je->Prop)(w:jg):jh Val->jh ji->Prop
 |[],a=>a=[]
 |x::xs,a=>∃b c,a=b::c/\aU D w x b/\aM D w xs c
end
mutual
theorem aU.keep{D:je->Prop}{w w':jg}(b:∀g,D g->w'.heap[g]?=w.heap[g]?):∀(x:Val) (a:ji),aU D w x a->aU D w' x a
 | .mk k n s l,a,h=>by
  rw[aU]at h⊢;obtain⟨c,d,e⟩:=h;exact⟨c,d.keep b,aM.keep b l c e⟩
theorem aM.keep{D:je->Prop}{w w':jg}(b:∀g,D g->w'.heap[g]?=w.heap[g]?):∀(l:jh Val) (a:jh ji),aM D w l a->aM D w' l a
 |[],a,h=>by rw[aM]at h⊢;exact h
 |x::l,a,h=>by
  rw[aM]at h⊢;obtain⟨c,d,e,f,g⟩:=h;exact⟨c,d,e,aU.keep b x c f,aM.keep b l d g⟩
end
mutual
theorem aU.mono{D D':je->Prop}{w:jg}(b:∀g,D g->D' g):∀(x:Val) (a:ji),aU D w x a->aU D' w x a
 | .mk k n s l,a,h=>by
  rw[aU]at h⊢;obtain⟨c,d,e⟩:=h;exact⟨c,d.mono b,aM.mono b l c e⟩
theorem aM.mono{D D':je->Prop}{w:jg}(b:∀g,D g->D' g):∀(l:jh Val) (a:jh ji),aM D w l a->aM D' w l a
 |[],a,h=>by rw[aM]at h⊢;exact h
 |x::l,a,h=>by
  rw[aM]at h⊢;obtain⟨c,d,e,f,g⟩:=h;exact⟨c,d,e,aU.mono b x c f,aM.mono b l d g⟩
end
theorem aM.len{D:je->Prop}{w:jg}:∀{l:jh Val} {a:jh ji},aM D w l a->a.length=l.length
 |[],a,h=>by rw[aM]at h;rw[h];rfl
 |x::l,a,h=>by
  rw[aM]at h;obtain⟨c,d,rfl,e,b⟩:=h;simp[aM.len b]
theorem aM.at{D:je->Prop}{w:jg}:∀{l:jh Val} {a:jh ji} {i:je} {x:Val},aM D w l a->l[i]?=ja x->∃b,a[i]?=ja b/\aU D w x b
 |[],a,i,x,h,c=>by simp at c
 |y::l,a,i,x,h,c=>by
  rw[aM]at h;obtain⟨b,k,rfl,d,f⟩:=h
  cases i with
  |zero=>
   have e:y=x:=ak c;subst e;exact⟨b,T,d⟩
  |succ i=>
   obtain⟨e,g,j⟩:=aM.at (i:=i) f (ak c);exact⟨e,by simpa using g,j⟩
theorem aM.append{D:je->Prop}{w:jg}:∀{l m:jh Val} {b a:jh ji},aM D w l b->aM D w m a->aM D w (l++m) (b++a)
 |[],m,b,a,h,k=>by rw[aM]at h;rw[h];exact k
 |x::l,m,b,a,h,k=>by
  rw[aM]at h;obtain⟨c,d,rfl,e,f⟩:=h;show aM D w (x::(l++m)) (c::(d++a));rw[aM];exact⟨c,_,T,e,aM.append f k⟩
theorem aM.one{D:je->Prop}{w:jg}{x:Val}{a:ji}(h:aU D w x a):aM D w [x] [a]:=by
 rw[aM];exact⟨a,[],T,h,by rw[aM]⟩
theorem sK:∀(l m:jh Val) (a b:jh ji),a.length=l.length->cR (l++m) (a++b)=cR l a++cR m b
 |[],m,a,b,h=>by
  have:a=[]:=qs (ak h);subst this
  cases m<;>cases b<;>simp[cR]
 |x::l,m,[],b,h=>by simp at h
 |x::l,m,c::a,b,h=>by
  simp only[qb,cR,sK l m a b (ak h),j6]
theorem Bv:∀(l:jh Val) (a:jh ji) (j i:je) (x:Val) (b:ji),l[j]?=ja x->a[j]?=ja b->i<4->(cR l a)[j*4+i]?=(gT x b)[i]?
 |[],a,j,i,x,b,h,_,_=>by simp at h
 |y::l,[],j,i,x,b,_,h,_=>by simp at h
 |y::l,v::a,0,i,x,b,h,c,d=>by
  have e:y=x:=ak h;have f:v=b:=ak c;subst e;subst f;show(gT y v++cR l a)[0*4+i]?=_;rw[qT,lw,qJ (by simp[gT];omega)]
 |y::l,v::a,j+1,i,x,b,h,c,d=>by
  show(gT y v++cR l a)[(j+1)*4+i]?=_;have e:(gT y v).length=4:=T;rw[qK (by rw[e];omega),e,show(j+1)*4+i-4=j*4+i by omega];exact Bv l a j i x b (ak h) (ak c) d
theorem aU.slice{D:je->Prop}{w:jg}{x:Val}{a:ji}(h:aU D w x a):∃b,aH D w a 4 x.l.length (cR x.l b)/\aM D w x.l b:=by
 obtain⟨k,n,s,l⟩:=x;rw[aU]at h;exact h
theorem aU.form{D:je->Prop}{w:jg}{x:Val}{a:ji}(h:aU D w x a):∃p c,a=jb p x.l.length c:=by
 obtain⟨b,⟨-,p,c,e,-⟩,-⟩:=h.slice;exact⟨p,c,e⟩
structure mO(a b:je)(w:jg):Prop where
 tab:∃z,w.heap[a]?=ja (jc #[z,.func (.func 183) #[] #[],.func (.func 186) #[] #[],.func (.func 187) #[] #[jA (ja ⟨b,0,A⟩)]] 285 (0,0))
 ptr:w.heap[b]?=ja (jc #[jA (ja ⟨a,0,A⟩)] 230 (0,0))
theorem NT(w:jg):
 jr jm 134 #[] w λe w'=>∃l s,e=jo (jA (ja ⟨l,0,A⟩))/\mO l s w'/\jl w w w':=by
 have B:∀(fn:Fn) (first m:jZ ji) (w:jg),(Instr.makeFunc fn first m).run jm w=.ok (.func fn first m) w:=λ_ _ _ _=>rfl
 obtain⟨b,a⟩:=J ((w.alloc (jc #[.nilFunc,.nilFunc,.nilFunc,.nilFunc] 285)).alloc (jc #[jA (ja ⟨w,0,A⟩)] 230));have t:b.heap.size=w.heap.size+2:=by rw[a];simp
 have n:b.heap[w.heap.size]?=ja (jc #[.nilFunc,.nilFunc,.nilFunc,.nilFunc] 285 (0,0)):=by
  rw[a,jF _ _ _ ar];exact js w _
 have c:b.heap[w.heap.size+1]?=ja (jc #[jA (ja ⟨w,0,A⟩)] 230 (0,0)):=by
  rw[a];have:=js (w.alloc (jc #[.nilFunc,.nilFunc,.nilFunc,.nilFunc] 285)) (jc #[jA (ja ⟨w,0,A⟩)] 230);rw[jC]at this;exact this
 have o:jl w w b:=by rw[a];exact((jy _ w).alloc (jn _) _).alloc ar _
 obtain⟨C,r2,p,d⟩:=yH (P:=jm) (i:=1) (v:=.func (.func 183) #[] #[]) n G T;obtain⟨D,r3,q,f⟩:=yH (P:=jm) (i:=2) (v:=.func (.func 186) #[] #[]) p G T;obtain⟨u,E,r,g⟩:=yH (P:=jm) (i:=3) (v:=.func (.func 187) #[] #[jA (ja ⟨w.heap.size+1,0,A⟩)]) q G T;have h:=(d.block (w.heap.size+1) Y).trans c;have j:=(f.block (w.heap.size+1) Y).trans h;have k:=(g.block (w.heap.size+1) Y).trans j;have F:=ah (i:=0) h T;have H:=ah (i:=0) j T;have K:=ah (i:=0) k T;have x:=O (((o.trans (d.below (jn _))).trans (f.below (jn _))).trans (g.below (jn _)));have y:jk (mO w.heap.size (w.heap.size+1) u):=O ⟨⟨_,r⟩,k⟩;have z:=ah (i:=0) c T;rw[a]at r2 z;clear t n c o p q r d f g h j k a
 go_enter func134,ntmps134
 go_wp2
 go_ret;exact⟨_,_,T,y,x⟩
theorem aB{a:jM}{v:ji}(h:w.cell? a=ja v)(b:jl w w w'):w'.cell? a=ja v:=
 (dX (b.block _ (ge h))).trans h
theorem fU{w':jM}{b:jS je}(h:w.cell? w'=ja d)(c:w.grownBy a b)(v:b≠ja w'.block):a.cell? w'=ja d:=
 (dX (c.block _ (ge h) (λe=>v e.symm))).trans h
theorem bX(W:jg):jl W W W.drew:=⟨T,T,T,jn _,λ_ _=>rfl⟩
theorem Md(B n:je)(v:ji)(xs:jh ji)(m:jd)(s:ByteArray)(l:ji)(w:jg)(a:w.ownsRow B 5 1 v n xs)(h:B<=w.heap.size)(z: -9223372036854775808<=m)(C:m<9223372036854775808)(S:n<=2900000):
 jr jm 183 #[v,jq #[I N 1,I N m,jj s,l]] w λe w'=>∃r,e=jo r/\cE B 5 1 w w' v r (n+(enc (.mk 1 m s [])).length) (xs++(enc (.mk 1 m s [])).map v8):=by
 have b:enc (.mk 1 m s [])=1#8::cY (iF m):=by rw[enc,jB T]
 have K:=O b;clear b;have j:=js w (jc #[I N 1,I N m,jj s,l] 152);have b:=ah (i:=1) j T;have k:=O (cL a (ao w (jc #[I N 1,I N m,jj s,l] 152)));have g:=O (ao w (jc #[I N 1,I N m,jj s,l] 152));have t:jk (v.ownBlock≠ja w.heap.size):=O (eV a (.inl (jn _)));have M:=O h;obtain⟨p,c,rfl⟩:=cK a;obtain⟨v,d⟩:=J (jP p n c);rw[<-d]at k t a;have D:=O d;clear j h a d
 go_enter func183,ntmps183
 go_upto_region 1 with fail
 obtain⟨u,d⟩:=J w.heap.size;obtain⟨a,h⟩:=J (w.alloc (jc #[I N 1,I N m,jj s,l] 152));have j:u<a.heap.size:=by rw[h,d];simp
 rw[<-h]at b k g⊢;rw[<-d]at b t⊢;have y:jk (B<=a.drew.heap.size):=O (jz M g.size);have E:jk (u<a.drew.heap.size):=O j;replace k:jk (a.drew.ownsRow B 5 1 v n xs):=O (cL k (bX a));replace g:jk (jl w w a.drew):=O (g.trans (bX a|>.mono g.size));replace b:a.drew.cell? ⟨u,1,A⟩=ja (I N m):=b;clear d h j;refine jT ?_;refine dm (λx=>x.cell? ⟨u,1,A⟩=ja (I N m)) (.take 0 (.take 3 (.take 4 (.one 1 (.one 2 (.take 5 (.one 6 (.take 7 .done)))))))) af af af G (λ_ _ _ _ h=>h) b ?_;generalize a.drew=o at b k g y E⊢;have P:=O k;rw[<-D];iterate 3 refine fG ?_
 refine aE T (λF d=>?_);go_simp;refine d _ _ (aB b (ao _ _)) λ_=>?_
 clear d;refine L ?_;refine aE T (λF d=>?_);rw[jB aj];refine oK _ _ T B v _ _ T (cL P (ao o _)) _ 1 [_] T (rO o _) (by simp[j1]) Y (jz y (ao o _).size) λr Q j=>?_
 have q:=t.out;have H:=fU (aB b (ao o (jc #[I .u8 1] 5))) j.grown q;replace j:=O (cE.after (ao o _) j);refine d _ _ H λ_=>?_
 clear d q;refine L ?_
 (refine NE (v:=I j7 (iF m)) (f:=185) (args:=#[I N m]) T aj (λx=>?_) (λx _=>(KO m z C x).mono λe w' h=>⟨h.1,h.2.symm⟩) ?_;·(go_simp;try with_reducible rfl))
 refine L ?_;refine aE T (λF d=>?_);go_simp;have F:=j.grown.size;have q:=j.ne E t;refine(Ac B _ (iF m) r _ Q j.own (jz y F) (zf m z C) Y).mono ?_;rintro e U ⟨V,rfl,x⟩;have R:=fU H x.grown q;replace x:=O (j.trans x);refine d _ _ R λ_=>?_
 clear d F q;refine L ?_;refine fG ?_;refine jR ?_
 go_wp2_with fail
 go_ret;refine⟨_,T,?_⟩;have h:=cE.after g x;rw[K,jW,qV,<-D];rw[j6,show n+1+(cY (iF m)).length=n+((cY (iF m)).length+1) by omega]at h;exact h
theorem I9(B n:je)(v:ji)(xs:jh ji)(m:jd)(s:ByteArray)(l:ji)(w:jg)(a:w.ownsRow B 5 1 v n xs)(g:B<=w.heap.size)(S:n+s.size<=2900000):
 jr jm 186 #[v,jq #[I N 2,I N m,jj s,l]] w λe w'=>∃o,e=jo o/\cE B 5 1 w w' v o (n+(enc (.mk 2 m s [])).length) (xs++(enc (.mk 2 m s [])).map v8):=by
 have b:enc (.mk 2 m s [])=2#8::(cY s.size++bZ s):=by rw[enc,jI G,jB T]
 have K:=O b;clear b;have u:=js w (jc #[I N 2,I N m,jj s,l] 152);have d:=ah (i:=2) u T;have k:=O (cL a (ao w (jc #[I N 2,I N m,jj s,l] 152)));have f:=O (ao w (jc #[I N 2,I N m,jj s,l] 152));have q:jk (v.ownBlock≠ja w.heap.size):=O (eV a (.inl (jn _)));have M:=O g;obtain⟨p,c,rfl⟩:=cK a;obtain⟨v,b⟩:=J (jP p n c);rw[<-b]at k q a;have D:=O b;clear u g a b
 go_enter func186,ntmps186
 go_upto_region 1 with fail
 obtain⟨x,a⟩:=J w.heap.size;obtain⟨b,g⟩:=J (w.alloc (jc #[I N 2,I N m,jj s,l] 152));have h:x<b.heap.size:=by rw[g,a];simp
 rw[<-g]at d k f⊢;rw[<-a]at d q⊢;have y:jk (B<=b.drew.heap.size):=O (jz M f.size);have z:jk (x<b.drew.heap.size):=O h;replace k:jk (b.drew.ownsRow B 5 1 v n xs):=O (cL k (bX b));replace f:jk (jl w w b.drew):=O (f.trans (bX b|>.mono f.size));replace d:b.drew.cell? ⟨x,2,A⟩=ja (jj s):=d;clear a g h;refine jT ?_;refine dm (λa=>a.cell? ⟨x,2,A⟩=ja (jj s)) (.take 0 (.take 3 (.take 4 (.take 5 (.take 6 (.take 8 (.take 9 (.one 1 (.one 2 (.one 7 (.one 10 (.take 11 .done)))))))))))) af af af G (λ_ _ _ _ h=>h) d ?_;generalize b.drew=r at d k f y z⊢;have P:=O k;rw[<-D];iterate 7 refine fG ?_
 refine aE T (λC a=>?_);go_simp;refine a _ _ (aB d (ao _ _)) λ_=>?_
 clear a;refine L ?_;refine aE T (λC a=>?_);rw[jB aj];refine oK _ _ T B v _ _ T (cL P (ao r _)) _ 1 [_] T (rO r _) (by simp[j1]) Y (jz y (ao r _).size) λo Q g=>?_
 have t:=q.out;have E:=fU (aB d (ao r (jc #[I .u8 2] 5))) g.grown t;replace g:=O (cE.after (ao r _) g);refine a _ _ E λ_=>?_
 clear a t;refine L ?_;refine aE T (λC a=>?_);go_simp;rw[show qI.wrap (s.size:jd)=(s.size:jd)from by rw[qU];omega];have F:=g.grown.size;have t:=g.ne z q;refine(Ac B _ s.size o _ Q g.own (jz y F) Y Y).mono ?_;rintro e U ⟨R,rfl,j⟩;have V:=mc s.size Y;have H:=fU E j.grown t;replace j:=O (g.trans j);refine a _ _ H λ_=>?_
 clear a F t;refine L ?_;refine aE T (λC a=>?_);rw[jB aj];refine M6 _ _ T B R _ _ T j.own s T Y (jz y j.grown.size) λo F t=>?_
 have C:=fU H t.grown (j.ne z q);replace t:=O (j.trans t);refine a _ _ C λ_=>?_
 clear a;refine L ?_;refine fG ?_;refine jR ?_
 go_wp2_with fail
 go_ret;refine⟨_,T,?_⟩;have h:=cE.after f t;have u:(s.data.toList.map UInt8.toBitVec)=bZ s:=T;rw[K,jW,qV,jL,j4,kQ,<-D];rw[u,j6,j6,show n+1+(cY s.size).length+s.size=n+((cY s.size).length+s.size+1) by omega]at h;exact h
def Buf(b:je)(a:LBy)(w:jg):Prop:=LibA.IsBuffer 198 (λ_=>A) 5 b b 0 (a.map v8) w
theorem Buf.lt(h:Buf B j w):B<w.heap.size:=LibA.IsBuffer.lt h
theorem Buf.keep{b:je}{a:LBy}(h:Buf b a w)(c:jl w w w'):Buf b a w':=by
 obtain⟨e,v,f,d,g,i⟩:=h;exact⟨e,v,f,d.of_heap (c.block _ d.lt),cL g c,i⟩
theorem Buf.new(w:jg):Buf w.heap.size [] (w.alloc (jc #[jb A 0 0,I N 0,.int .i8 0] 198)):=
 LibA.zero_isBuffer (jn _) (LibA.three_whole (js w _))
theorem uI(k:r)(h:r->p:=by intro k;refine aV (v:=?_) rfl aj (λW' hS=>?_) ?_;rotate_left;(obtain⟨c0,c1⟩:=hS;go_simp;with_reducible rfl);refine L ?_;exact k):p:=h k
theorem QZ(b:je)(d:LBy)(w:jg)(h:Buf b d w):
 jr jm 158 #[jA (ja ⟨b,0,A⟩)] w λe w'=>∃v,e=jo v/\w'.ownsRow b 5 1 v (d.map v8).length (d.map v8)/\jl w w w':=by
 obtain⟨l,K,x⟩:=LibA.IsBuffer.cases h
 rcases x with⟨m,a⟩|⟨g,o,y,a,p,q,r,i,s,t,z⟩
 ·have f:=a.c0
  have j:=a.c1;rw[m];clear a l m h
  go_enter func158,ntmps158
  go_wp2
  refine jT ?_;refine dm (λc=>c.cell? ⟨b,0,A⟩=ja (jb A 0 0)/\c.cell? ⟨b,0+1,A⟩=ja (I N 0)) (.take 0 (.take 1 (.take 2 (.take 3 (.take 4 (.take 5 (.take 6 (.take 7 (.take 8 (.take 9 .done)))))))))) af af af G (λ_ _ _ _ h=>h) ⟨f,j⟩ ?_;iterate 3 refine aP ?_
  refine uI ?_;iterate 3 refine aP ?_
  refine uI ?_;iterate 2 refine aP ?_
  refine jR ?_
  go_wp2_with fail
  go_ret;exact⟨_,T,j0 _ _ _ _,bX _⟩
 have f:=a.c0;have j:=a.c1;have B:=i;unfold j3 at B;have C:=O q;have D:=O p;have E:=O i;have F:=O s;have H:=O t;obtain⟨n,k⟩:=J ((d.map v8).length);rw[<-k]at r f⊢;have u:=O k;clear a l h q p i s t z k
 go_enter func158,ntmps158
 go_wp2
 refine jT ?_;refine dm (λc=>c.cell? ⟨b,0,A⟩=ja (jb (ja ⟨g,0,A⟩) n o)/\c.cell? ⟨b,0+1,A⟩=ja (I N 0)) (.take 0 (.take 1 (.take 2 (.take 3 (.take 4 (.take 5 (.take 6 (.take 7 (.take 8 (.take 9 .done)))))))))) af af af G (λ_ _ _ _ h=>h) ⟨f,j⟩ ?_;iterate 3 refine aP ?_
 refine uI ?_;iterate 3 refine aP ?_
 refine uI ?_;iterate 2 refine aP ?_
 refine jR ?_
 go_wp2_with fail
 go_ret;exact⟨_,T,⟨by simp[u.out],.inr ⟨g,o,y,T,D,C,r,E,by rw[F];simp,by rw[rk,u];exact H⟩⟩,bX _⟩
def wrF(k:jd):je:=if k=1 then 183 else if k=2 then 186 else 187
def wrL(a:je)(k:jd):jZ ji:=if k=1 then #[]else if k=2 then #[]else #[jA (ja ⟨a,0,A⟩)]
def rW(b a:je)(x:Val):Prop:=
 ∀(B n:je) (v:ji) (xs:jh ji) (c:ji) (d:jd) (w:jg),x.k=d->w.ownsRow B 5 1 v n xs->B<=w.heap.size->aU (·<B) w x c->mO b a w->b<B->a<B->n+(enc x).length<=2900000->
  jr jm (wrF x.k) (#[v,jq #[I N d,I N x.n,jj x.s,c]]++wrL a x.k) w λe w'=>∃f,e=jo f/\cE B 5 1 w w' v f (n+(enc x).length) (xs++(enc x).map v8)
theorem Dd(k:jd)(args:jZ ji)(w:jg):(callFunc (wrF k) args).run jm w=.ok (.enter (wrF k) args) w:=by
 unfold wrF
 split
 ·rfl
 split<;>rfl
theorem mO.at{a b:je}(h:mO a b w){k:jd}{m:je}(c:k=(m:jd))(e:1<=m)(f:m<=3):w.cell? ⟨a,m,A⟩=ja (.func (.func (wrF k)) #[] (wrL b k)):=by
 obtain⟨z,d⟩:=h.tab;subst c;have:m=1\/m=2\/m=3:=Y
 rcases this with rfl|rfl|rfl<;>exact ah d T
theorem mO.keep{a b:je}(h:mO a b w)(c:jl B w w')(d:a<B)(e:b<B):mO a b w':=by
 obtain⟨⟨z,f⟩,g⟩:=h;exact⟨⟨z,(c.block _ d).trans f⟩,(c.block _ e).trans g⟩
theorem wh{u:Val}(h:f[B]?=ja u):encs (f.take (B+1))=encs (f.take B)++enc u:=by
 obtain⟨a,e⟩:=xq.1 h;rw[ow a,yY,e];simp[encs]
theorem wA(l:jh Val)(i:je):(encs (l.take i)).length<=(encs l).length:=by
 have h:=yY (l.take i) (l.drop i);rw[xr]at h;rw[h,jL];omega
theorem Pg(z t:je)(m:jd)(s:ByteArray)(l:jh Val)(j:∀x∈l,(1<=x.k/\x.k<=3)/\rW z t x):rW z t (.mk 3 m s l):=by
 intro B n v xs u kk w bh e k Q o q r b;obtain rfl:(3:jd)=kk:=bh;have a:enc (.mk 3 m s l)=3#8::(cY l.length++encs l):=by rw[enc,jI G,jI G]
 have HE:=O a;show jr jm 187 #[v,jq #[I N 3,I N m,jj s,u],jA (ja ⟨t,0,A⟩)] w _;have a3:n+((cY l.length).length+(encs l).length+1)<=2900000:=by rw[a,jW,jL]at b;omega
 have bi:=AM l;clear a b;have M:=js w (jc #[I N 3,I N m,jj s,u] 152);have a:=ah (i:=3) M T;have f:=O (cL e (ao w (jc #[I N 3,I N m,jj s,u] 152)));have b:=O (ao w (jc #[I N 3,I N m,jj s,u] 152));have HN:jk (v.ownBlock≠ja w.heap.size):=O (eV e (.inl (jn _)));have R:=O k;have YV:=O e;have Vn:=O j;obtain⟨us,a2,g⟩:=Q.slice;replace a2:aH (·<B) w u 4 l.length (cR l us):=a2;replace g:aM (·<B) w l us:=g;obtain⟨E,pu,S,y,C,F,D⟩:=a2;have a4:=O g;have Z3:=O D;have hu:u=jb pu l.length S:=y;have bk:l.length<=S:=C;obtain⟨d,h⟩:=J l.length;rw[<-h]at hu bk a3 bi;have U:=O h;subst hu;have YW:jk (n+((cY d).length+(encs l).length+1)<=2900000):=O a3;have HT:=O o;have V:=O q;have W:=O r;obtain⟨p,c,rfl⟩:=cK e;obtain⟨v,Q⟩:=J (jP p n c);rw[<-Q]at f HN YV;have HV:=O Q;have bs:=mc d Y;have bu:d<=2900000:=Y;have H:n+30<=3000000\/2999970<n:=Y;clear M k e Q j E y C F D g h o q r H
 go_enter func187,ntmps187
 go_upto_region 1 with fail
 obtain⟨X,e⟩:=J w.heap.size;obtain⟨C,g⟩:=J (w.alloc (jc #[I N 3,I N m,jj s,jb pu d S] 152));have h:X<C.heap.size:=by rw[g,e];simp
 rw[<-g]at a f b⊢;rw[<-e]at a HN⊢;have bv:jk (X=w.heap.size):=O e;have j:jk (B<=C.drew.heap.size):=O (jz R b.size);have o:jk (X<C.drew.heap.size):=O h;replace f:jk (C.drew.ownsRow B 5 1 v n xs):=O (cL f (bX C));replace b:jk (jl w w C.drew):=O (b.trans (bX C|>.mono b.size));replace a:C.drew.cell? ⟨X,3,A⟩=ja (jb pu d S):=a;clear e g h;refine jT ?_;refine dm (λE=>E.cell? ⟨X,3,A⟩=ja (jb pu d S)) (.take 0 (.take 3 (.take 4 (.take 5 (.take 6 (.one 1 (.one 2 (.one 7 (.take 8 .done))))))))) af af af G (λ_ _ _ _ h=>h) a ?_;generalize C.drew=W1 at a f b j o⊢;have y:=O f;rw[<-HV];iterate 5 refine fG ?_
 refine aE T (λK' k=>?_);go_simp;refine k _ _ (aB a (ao _ _)) λ_=>?_
 clear k;refine L ?_;refine aE T (λK' k=>?_);rw[jB aj];refine oK _ _ T B v _ _ T (cL y (ao W1 _)) _ 1 [_] T (rO W1 _) (by simp[j1]) Y (jz j (ao W1 _).size) λv' w5 H=>?_
 have g:=HN.out;have q:=fU (aB a (ao W1 (jc #[I .u8 3] 5))) H.grown g;replace H:=O (cE.after (ao W1 _) H);refine k _ _ q λ_=>?_
 clear k g;refine L ?_;refine aE T (λK' k=>?_);go_simp;rw[show qI.wrap (d:jd)=(d:jd)from by rw[qU];omega];have r:=H.grown.size;have g:=H.ne o HN;refine(Ac B _ d v' _ w5 H.own (jz j r) Y Y).mono ?_;rintro e w6 ⟨v6,rfl,K⟩;have c6:=fU q K.grown g;have bw:=K.ne (jN o r) g;replace K:=O (H.trans K);refine k _ _ c6 λ_=>?_
 clear k r g;refine L ?_;refine fG ?_;refine jR ?_;replace K:jk (cE B 5 1 w w6 v v6 (n+1+(cY d).length) (xs++[I .u8 3]++(cY d).map v8)):=O (cE.after b K);clear a q f y b j o
 go_wp2_with fail
 go_loopw [0,19] (λb a wr=>∃(i:je) (vr:ji),b=vr/\a=I N i/\i<=d/\jk (cE B 5 1 w wr v vr (n+1+(cY d).length+(encs (l.take i)).length) (xs++[I .u8 3]++(cY d).map v8++(encs (l.take i)).map v8))) (λ_ a _=>d-(jv a).toNat)
 case atStart=>exact⟨0,v6,T,T,jJ _,by simpa [encs]using K⟩
 obtain⟨i,vr,rfl,rfl,hi,r⟩:=hrel
 by_cases a5:i<d
 ·have hd:=az ((i:jd)<(d:jd))
  have UC:=az (i<d);obtain⟨g,o,rfl,au,j⟩:=Z3 (aI U);obtain⟨x,y⟩:∃x,l[i]?=ja x:=⟨l[i]'(by rw[<-U];exact a5),n0 (by rw[<-U];exact a5)⟩;obtain⟨D,P,ad⟩:=a4.at y;have F:=λq hq=>Bv l us i q x D y P hq
  have U9:=r.below YV R;have VV:∀a u,a.block<B->w.cell? a=ja u->wr.cell? a=ja u:=λa u ha hu=>(dX (U9.block _ ha)).trans hu
  have d0:wr.cell? ⟨g,o+i*4,A⟩=ja (I N x.k):=VV _ _ au (j (i*4+0) _ (F 0 G));have d1:wr.cell? ⟨g,o+i*4+1,A⟩=ja (I N x.n):=VV _ _ au (j (i*4+1) _ (F 1 G));have d2:wr.cell? ⟨g,o+i*4+2,A⟩=ja (jj x.s):=VV _ _ au (j (i*4+2) _ (F 2 G));have d3:wr.cell? ⟨g,o+i*4+3,A⟩=ja D:=VV _ _ au (j (i*4+3) _ (F 3 G));have HI:=O y;have U3:x∈l:=xt y;obtain⟨⟨ay,UY⟩,hw⟩:=Vn x U3;have HW:=O hw;have HX:=O (aU.keep (λb M=>U9.block b M) x D ad);have a6:=O (HT.keep U9 V W);obtain⟨aa,ac,bl⟩:=ad.form;obtain⟨f,ax⟩:∃f:je,x.k=(f:jd):=⟨x.k.toNat,by omega⟩;have ba:=O ax;have bm:1<=f:=Y;have bn:f<=3:=Y;have bo:z<wr.heap.size:=jN V (jz R r.grown.size);have bp:t<wr.heap.size:=jN W (jz R r.grown.size);have bb:u0.ownBlock≠ja z:=eV r.own (.inr V);have bc:u0.ownBlock≠ja t:=eV r.own (.inr W);rw[ax]at d0;subst bl;clear y P ad F U9 VV j U3 hw ay UY ax a4 Z3
  go_upto_region 5 with fail
  obtain⟨y,ax⟩:=J wr.heap.size;have F:=js wr (jc #[I N f,I N x.n,jj x.s,jb aa x.l.length ac] 152);have UM:=ao wr (jc #[I N f,I N x.n,jj x.s,jb aa x.l.length ac] 152);have bd:(wr.alloc (jc #[I N f,I N x.n,jj x.s,jb aa x.l.length ac] 152)).heap.size=y+1:=by rw[ax];simp
  have bq:jk (u0.ownBlock≠ja y):=O (eV r.own (.inl (qg ax.symm)));rw[<-ax]at F⊢;obtain⟨j,Y6⟩:=J (wr.alloc (jc #[I N f,I N x.n,jj x.s,jb aa x.l.length ac] 152));rw[<-Y6]at F UM bd⊢;obtain⟨D,P⟩:=J (jP aa x.l.length ac);rw[<-P]at HX F;have bA:=O P;have ad:jl wr wr j.drew:=UM.trans ((bX j).mono UM.size);have Vj:jk (cE B 5 1 w j.drew v u0 (n+1+(cY d).length+(encs (l.take i)).length) (xs++[I .u8 3]++(cY d).map v8++(encs (l.take i)).map v8)):=O (r.trans (cE.after ad (cE.refl (cL r.own ad))));have ay:B<=wr.heap.size:=jz R r.grown.size;have bf:jk (aU (·<B) j.drew x D):=O (aU.keep (λb M=>ad.block b (jN M ay)) x D HX);have a1:jk (mO z t j.drew):=O (a6.keep (ad.mono ay) V W);have YF:j.drew.cell? ⟨t,0,A⟩=ja (jA (ja ⟨z,0,A⟩))/\j.drew.cell? ⟨y,0,A⟩=ja (I N f)/\j.drew.cell? ⟨y,1,A⟩=ja (I N x.n)/\j.drew.cell? ⟨y,2,A⟩=ja (jj x.s)/\j.drew.cell? ⟨y,3,A⟩=ja D/\j.drew.cell? ⟨z,f,A⟩=ja (.func (.func (wrF x.k)) #[] (wrL t x.k)):=
   ⟨ah a1.ptr rfl,ah F rfl,ah F rfl,ah F rfl,ah F rfl,a1.at ba bm bn⟩
  have bg:jk (B<=j.drew.heap.size):=O (jz ay UM.size);have br:=O bc;have Ym:=O bb;have bB:(f:jd)<4:=Y;clear F UM bd ad ay bc bb HX a6 r bo bp d0 d1 d2 d3 Y6 c6 P ax;refine jT ?_;refine dm (λE=>E.cell? ⟨t,0,A⟩=ja (jA (ja ⟨z,0,A⟩))/\E.cell? ⟨y,0,A⟩=ja (I N f)/\E.cell? ⟨y,1,A⟩=ja (I N x.n)/\E.cell? ⟨y,2,A⟩=ja (jj x.s)/\E.cell? ⟨y,3,A⟩=ja D/\E.cell? ⟨z,f,A⟩=ja (.func (.func (wrF x.k)) #[] (wrL t x.k))) (.take 0 (.take 1 (.take 2 (.take 3 (.take 4 (.take 5 (.take 6 (.take 7 (.take 8 (.one 9 (.take 10 .done))))))))))) af af af G (λ_ _ _ _ h=>h) YF ?_;generalize j.drew=wb at YF Vj bf a1 bg⊢;iterate 9 refine EV ?_
  refine aE T (λK' k=>?_);have EG:=Dd x.k;go_simp;refine(HW B _ u0 _ D _ wb ba Vj.own bg bf a1 V W (by have E:=YW.out;have b:=wA l (i+1);rw[wh HI,jL]at b;omega)).mono ?_;rintro e w7 ⟨v7,rfl,b⟩;obtain⟨k0,k1,k2,k3,k4,k5⟩:=YF;have F:=br.out;have E:=bq.out;have P:=Ym.out;refine k _ _ ⟨fU k0 b.grown F,fU k1 b.grown E,fU k2 b.grown E,fU k3 b.grown E,fU k4 b.grown E,fU k5 b.grown P⟩ λ_=>?_
  replace b:=O (Vj.trans b);clear k EG F E P;refine L ?_;refine EV ?_;refine jR ?_
  go_wp2_with fail
  refine⟨⟨i+1,v7,T,by go_num,by omega,O ?_⟩,?_⟩
  ·have h:=b.out
   rw[wh HI,jL,j4,<-r7,<-j6];exact h
  simp only[jv];omega
 have hd:=aw ((i:jd)<(d:jd));have UC:=aw (i<d);have a:l.take i=l:=mz (by rw[<-U];omega);have b:=O a;clear a
 go_wp2_with fail
 go_ret;refine⟨_,T,?_⟩;have h:=r.out;rw[b]at h;rw[HE,jW,qV,jL,j4,<-U,<-HV];rw[j6,j6,show n+1+(cY d).length+(encs l).length=n+((cY d).length+(encs l).length+1) by omega]at h;exact h
theorem O7(e g:je):∀(f:je) (x:Val),wfV f x->(1<=x.k/\x.k<=3)/\rW e g x:=by
 have p:∀(m:jd) (s:ByteArray) (l:jh Val),-9223372036854775808<=m->m<9223372036854775808->s=emS->l=[]->rW e g (.mk 1 m s l):=by
  intro m s l a b d c B n v xs h i w j k o r t u y z;obtain rfl:(1:jd)=i:=j;subst c;have C:(enc (.mk 1 m s [])).length<=11:=by
   rw[enc,jB T,jW];have:=mc _ (zf m a b);omega
  exact Md B n v xs m s h w k o a b Y
 have q:∀(m:jd) (s:ByteArray) (l:jh Val),l=[]->rW e g (.mk 2 m s l):=by
  intro m s l c B n v xs h i w j k o r t u y z;obtain rfl:(2:jd)=i:=j;subst c;have C:(enc (.mk 2 m s [])).length=(cY s.size).length+s.size+1:=by
   rw[enc,jI G,jB T,jW,jL,kQ]
  exact I9 B n v xs m s h w k o Y
 intro f
 induction f with
 |zero=>
  rintro⟨k,m,s,l⟩ h;rw[wfV]at h
  rcases h with⟨rfl,a,b,d,c⟩|⟨rfl,rfl,a,c⟩|⟨-,-,-,-,h⟩
  ·exact⟨by simp[Val.k],p m s l a b d c⟩
  ·exact⟨by simp[Val.k],q 0 s l c⟩
  exact h.elim
 |succ f i=>
  rintro⟨k,m,s,l⟩ h;rw[wfV]at h
  rcases h with⟨rfl,a,b,d,c⟩|⟨rfl,rfl,a,c⟩|⟨rfl,rfl,d,-,h⟩
  ·exact⟨by simp[Val.k],p m s l a b d c⟩
  ·exact⟨by simp[Val.k],q 0 s l c⟩
  exact⟨by simp[Val.k],Pg e g 0 s l λx j=>i x (h x j)⟩
theorem N0(n:jd)(b:ji)(w:jg)(d:∃p c,b=jb p 0 c):
 jr jm 182 #[jq #[I N 1,I N n,jj ⟨#[]⟩,b]] w λe w'=>e=jo (jw #[I N 0,.bool jf])/\jl w w w':=by
 obtain⟨p,c,rfl⟩:=d
 by_cases a:n=0
 ·subst a
  go_enter qy,qz
  go_wp2_with fail
  go_ret2;exact⟨T,((jy _ w).alloc (jn _) _).alloc ar _⟩
 have f:((n==0):Bool)=jp:=ak a;have g:decide (n=0)=jp:=ak a;clear a
 go_enter qy,qz
 go_wp2_with fail
 go_ret2;exact⟨T,((jy _ w).alloc (jn _) _).alloc ar _⟩
theorem Nw(s:ByteArray)(b:ji)(w:jg)(d:∃p c,b=jb p 0 c):
 jr jm 182 #[jq #[I N 2,I N 0,jj s,b]] w λe w'=>e=jo (jw #[I N 0,.bool jf])/\jl w w w':=by
 obtain⟨p,c,rfl⟩:=d
 by_cases a:s.toList=[]
 ·have f:(s.toList==([]:jh UInt8))=jf:=ak a
  clear a
  go_enter qy,qz
  go_wp2_with fail
  go_ret2;exact⟨T,((jy _ w).alloc (jn _) _).alloc ar _⟩
 have f:(s.toList==([]:jh UInt8))=jp:=ak a;have hd2:decide (s.toList=[])=jp:=ak a
 go_enter qy,qz
 go_wp2_with fail
 go_ret2;exact⟨T,((jy _ w).alloc (jn _) _).alloc ar _⟩
def sP(f:je)(x:Val):Prop:=∀(a:ji) (b:jd) (w:jg),x.k=b->aU (·<w.heap.size) w x a->
 jr jm 182 #[jq #[I N b,I N x.n,jj x.s,a]] w λe w'=>∃d:je,e=jo (jw #[I N d,.bool jf])/\d<=f/\jl w w w'
theorem SH(f:je)(hf:f<=1000)(l:jh Val)(i:∀x∈l,sP f x)(ad:l.length<=3000000):sP (f+1) (.mk 3 0 emS l):=by
 intro h kk w au m;obtain rfl:(3:jd)=kk:=au;show jr jm 182 #[jq #[I N 3,I N 0,jj ⟨#[]⟩,h]] w _;obtain⟨z,B,d⟩:=m.slice;replace B:aH (·<w.heap.size) w h 4 l.length (cR l z):=B;replace d:aM (·<w.heap.size) w l z:=d;obtain⟨r,S,C,n,o,s,p⟩:=B;have D:=O d;have E:=O p;have ax:l.length<=C:=o;obtain⟨c,e⟩:=J l.length;have F:h=jb S c C:=by rw[e];exact n
 rw[<-e]at ax ad;have H:=O e;subst F;have Vn:=O i;have a:jl w w ((w.alloc (jc #[I N 3,I N 0,jj ⟨#[]⟩,jb S c C] 152)).alloc (jc #[.bool jp,.bool (decide (c=0)),.bool (decide (c=0)),.bool jf] 328)):=((jy _ w).alloc (jn _) _).alloc ar _
 by_cases j:c=0
 ·have g:decide (c=0)=jf:=decide_eq_true j
  subst j;rw[g]at a;have K:=O a;clear r n o s p d e i m a g E D
  go_enter qy,qz
  go_wp2_with fail
  go_loopw [2,57] (λq b wr=>q=I N 0/\b=I N 0/\jk (jl w w wr)) (λ_ b _=>0)
  case atStart=>exact⟨T,T,K⟩
  obtain⟨rfl,rfl,k⟩:=hrel
  go_wp2_with fail
  go_ret2;exact⟨1,T,by omega,k⟩
 have g:decide (c=0)=jp:=decide_eq_false j;have a6:decide ((c:jd)=0)=jp:=ak j;have hd2:(((c:jd)==0):Bool)=jp:=ak j;rw[g]at a;have K:=O a;clear r n o s p d e i m a g
 go_enter qy,qz
 go_wp2_with fail
 go_loopw [2,57] (λq b wr=>∃i d:je,q=I N d/\b=I N i/\i<=c/\d<=f/\jk (jl w w wr)) (λ_ b _=>c-(jv b).toNat)
 case atStart=>exact⟨0,0,T,T,jJ _,jJ _,K⟩
 obtain⟨i,d,rfl,rfl,hi,hd,k⟩:=hrel
 by_cases U:i<c
 ·have ay:=az ((i:jd)<(c:jd))
  have a1:=az (i<c);obtain⟨g,o,rfl,r,m⟩:=E (aI H);obtain⟨x,s⟩:∃x,l[i]?=ja x:=⟨l[i]'(by rw[<-H];exact U),n0 (by rw[<-H];exact U)⟩;obtain⟨t,V,M⟩:=D.at s;have n:=λq hq=>Bv l z i q x t s V hq
  have u:=k.out;have p:∀a h,a.block<w.heap.size->w.cell? a=ja h->wr.cell? a=ja h:=λa h ha F=>(dX (u.block _ ha)).trans F
  have d0:wr.cell? ⟨g,o+i*4,A⟩=ja (I N x.k):=p _ _ r (m (i*4+0) _ (n 0 G));have d1:wr.cell? ⟨g,o+i*4+1,A⟩=ja (I N x.n):=p _ _ r (m (i*4+1) _ (n 1 G));have d2:wr.cell? ⟨g,o+i*4+2,A⟩=ja (jj x.s):=p _ _ r (m (i*4+2) _ (n 2 G));have d3:wr.cell? ⟨g,o+i*4+3,A⟩=ja t:=p _ _ r (m (i*4+3) _ (n 3 G));have HF:=O (Vn x (xt s));have W:=u.size;have X:=O (aU.mono (D':=(·<wr.heap.size)) (λb (e:b<w.heap.size)=>jN e W) x t (aU.keep (λb e=>u.block b e) x t M));obtain⟨aa,ac,a2⟩:=M.form;obtain⟨v,P⟩:∃v,x.k=v:=⟨_,T⟩;obtain⟨nx,Q⟩:∃nx,x.n=nx:=⟨_,T⟩;obtain⟨y,R⟩:∃y,x.s=y:=⟨_,T⟩;rw[P]at d0;rw[Q]at d1;rw[R]at d2;have a3:=O P;have a4:=O Q;have a5:=O R;subst a2;clear s V M n u p m P Q R D E W
  go_upto_region 9 with fail
  have m:=ao wr (jc #[I N v,I N nx,jj y,jb aa x.l.length ac] 152);have s:=O (aU.mono (D':=(·<(wr.alloc (jc #[I N v,I N nx,jj y,jb aa x.l.length ac] 152)).heap.size)) (λb (e:b<wr.heap.size)=>jN e m.size) x _ (aU.keep (λb e=>m.block b e) x _ X.out));have u:=ai k m;clear m X
  go_wp2_with fail
  have b:=HF _ _ _ a3.out s;rw[a4,a5]at b;refine b.mono ?_;rintro e R ⟨n,rfl,V,p⟩;have M:=ai u p;obtain⟨m,P⟩:∃m:je,max (d:jd) (n:jd)=(m:jd):=⟨max d n,by omega⟩;have Q:m<=f:=Y;clear p b
  go_wp2_with fail
  refine⟨⟨i+1,m,?_,by go_num,by omega,Q,M⟩,?_⟩
  ·first|exact T|exact qM (jE .i64) P
  simp only[jv];omega
 have ay:=aw ((i:jd)<(c:jd));have a1:=aw (i<c)
 go_wp2_with fail
 go_ret2;exact⟨d+1,T,by omega,k⟩
theorem Tj:∀(f:je),f<=1000->∀x,wfV f x->(enc x).length<=3000000->sP f x:=by
 have g:∀(f:je) (m:jd),sP f (.mk 1 m emS []):=by
  intro f m a b w c d;obtain rfl:(1:jd)=b:=c;exact(N0 m a w d.form).mono λe w' h=>⟨0,h.1,jJ _,h.2⟩
 have j:∀(f:je) (s:ByteArray),sP f (.mk 2 0 s []):=by
  intro f s a b w c d;obtain rfl:(2:jd)=b:=c;exact(Nw s a w d.form).mono λe w' h=>⟨0,h.1,jJ _,h.2⟩
 intro f
 induction f with
 |zero=>
  rintro -⟨k,m,s,l⟩ h d;rw[wfV]at h
  rcases h with⟨rfl,a,b,rfl,rfl⟩|⟨rfl,rfl,a,rfl⟩|⟨-,-,-,-,h⟩
  ·exact g 0 m
  ·exact j 0 s
  exact h.elim
 |succ f n=>
  rintro q ⟨k,m,s,l⟩ h d;rw[wfV]at h
  rcases h with⟨rfl,a,b,rfl,rfl⟩|⟨rfl,rfl,a,rfl⟩|⟨rfl,rfl,rfl,-,h⟩
  ·exact g _ m
  ·exact j _ s
  have e:(enc (.mk 3 0 emS l)).length=(cY l.length).length+(encs l).length+1:=by
   rw[enc,jI G,jI G,jW,jL]
  have r:=AM l;refine SH f Y l (λx c=>n Y x (h x c) ?_) Y;have:(enc x).length<=(encs l).length:=by
   obtain⟨i,o⟩:=xu c;have p:=wA l (i+1);rw[wh o,jL]at p;omega
  omega
theorem JK(x:Val)(h:ji)(a:jd)(w:jg)(i:x.k=a)(j:wfV 16 x)(f:aU (·<w.heap.size) w x h)(l:(enc x).length<=2900000):
 jr jm 133 #[jq #[I N a,I N x.n,jj x.s,h]] w λe w'=>e=jo (I N 0)/\jl w w w':=by
 obtain⟨p,c,rfl⟩:=f.form;have d:=ao w (jc #[I N a,I N x.n,jj x.s,jb p x.l.length c] 152);have k:=O (aU.mono (D':=(·<(w.alloc (jc #[I N a,I N x.n,jj x.s,jb p x.l.length c] 152)).heap.size)) (λb (g:b<w.heap.size)=>jN g d.size) x _ (aU.keep (λb g=>d.block b g) x _ f));have g:=O (Tj 16 G x j Y _ _ _ i k);have m:=O d;clear f d k;generalize x.n=k at*;generalize x.s=xs at*;generalize x.l.length=n at*;clear i j l
 go_enter func133,ntmps133
 go_wp2_with fail
 refine g.mono ?_;rintro e i ⟨d,rfl,j,b⟩;have f:=ai m b;have l:=aw ((16:jd)<(d:jd));clear b
 go_wp2_with fail
 go_ret;exact⟨T,f⟩
theorem ES(x:Val)(u:ji)(q:jd)(w:jg)(h:x.k=q)(j:wfV 16 x)(a:aU (·<w.heap.size) w x u)(H:(enc x).length<=2900000):
 jr jm 71 #[jq #[I N q,I N x.n,jj x.s,u]] w λe w'=>∃v,e=jo (jw #[v,I N 0])/\w'.ownsRow w 5 1 v (enc x).length ((enc x).map v8)/\jl w w w':=by
 obtain⟨p,c,rfl⟩:=a.form;have y:=O (λr s=>O7 r s 16 x j);obtain⟨o,t⟩:=(y 0 0).1;obtain⟨d,K⟩:∃d:je,q=(d:jd):=⟨q.toNat,by omega⟩;have M:1<=d:=Y;have P:d<=3:=Y;have aa:(d:jd)<4:=Y;subst K;have B:=O h;have g:=ao w (jc #[I N d,I N x.n,jj x.s,jb p x.l.length c] 152);have k:=js w (jc #[I N d,I N x.n,jj x.s,jb p x.l.length c] 152);have C:=O a;have l:=O (JK x _ _ _ h j (aU.mono (D':=(·<(w.alloc (jc #[I N d,I N x.n,jj x.s,jb p x.l.length c] 152)).heap.size)) (λb (f:b<w.heap.size)=>jN f g.size) x _ (aU.keep (λb f=>g.block b f) x _ a)) H);have m:=O g;have n:=O k;clear a g k o t h j;obtain⟨D,a⟩:=J x.n;obtain⟨xs,g⟩:=J x.s;obtain⟨E,h⟩:=J x.l.length;rw[<-a,<-g,<-h]at l n m⊢;rw[<-h]at C;have Q:=O a;have R:=O g;clear a g h
 go_enter func71,ntmps71
 go_wp2_with fail
 refine l.mono ?_;rintro e k ⟨rfl,g⟩;obtain⟨b,f⟩:=J w.heap.size;have a:=(g.block w.heap.size ar).trans n;rw[<-f]at a⊢;have j:=ah (i:=0) a T;have o:=ah (i:=1) a T;have t:=ah (i:=2) a T;have z:=ah (i:=3) a T;have h:=ai m g;clear g a f n l m
 go_upto_region 4 with fail
 have F:jk (jl w w k.drew):=O (h.trans ((bX k).mono h.size));have l:k.drew.cell? ⟨b,0,A⟩=ja (I N d)/\k.drew.cell? ⟨b,1,A⟩=ja (I N D)/\k.drew.cell? ⟨b,2,A⟩=ja (jj xs)/\k.drew.cell? ⟨b,3,A⟩=ja (jb p E c):=⟨j,o,t,z⟩;clear j o t z h;refine jT ?_;refine dm (λa=>a.cell? ⟨b,0,A⟩=ja (I N d)/\a.cell? ⟨b,1,A⟩=ja (I N D)/\a.cell? ⟨b,2,A⟩=ja (jj xs)/\a.cell? ⟨b,3,A⟩=ja (jb p E c)) (.take 1 (.take 2 (.take 7 (.one 0 (.one 3 (.one 4 (.one 5 (.one 6 (.one 8 (.take 9 (.take 10 .done))))))))))) af af af G (λ_ _ _ _ h=>h) l ?_;generalize k.drew=S at l F⊢;iterate 3 refine EY ?_
 refine aE T (λm a=>?_);go_simp;refine(NT S).mono ?_;rintro e t ⟨r,s,rfl,n,j⟩;have g:=And.intro (aB l.1 j) (And.intro (aB l.2.1 j) (And.intro (aB l.2.2.1 j) (aB l.2.2.2 j)));have U:=O n;have o:=ai F j;have V:=O (aU.keep (λb f=>o.block b f) x _ C.out);have hgt:=(jK.1 n.ptr).1;have W:r<t.heap.size:=by obtain⟨z,X⟩:=n.tab;exact(jK.1 X).1
 have ac:=n.at B M P;refine a _ _ g λ_=>?_
 clear a j n;refine L ?_;refine aE T (λm a=>?_);go_simp;refine a _ _ g λ_=>?_
 clear a;refine L ?_;refine aE T (λm a=>?_);go_simp;refine a _ _ g λ_=>?_
 clear a;refine L ?_;refine aE T (λm a=>?_);go_simp;refine a _ _ g λ_=>?_
 clear a;refine L ?_;refine aE T (λm a=>?_);go_simp;refine a _ _ g λ_=>?_
 clear a;refine L ?_;refine aE T (λm a=>?_);have EG:=Dd x.k;go_simp;have n:=y r s|>.2 t.heap.size 0 (jb A 0 0) [] _ _ t B (j0 _ _ _ _) (jn _) (aU.mono (λb (f:b<w.heap.size)=>jN f o.size) x _ V.out) U W hgt Y;rw[<-Q,<-R]at n;refine n.mono ?_;rintro e W3 ⟨v3,rfl,j⟩;have Uj:=O (o.trans ((j.below (j0 _ _ _ _) (jn _)).mono o.size));have m:(jP A 0 0).ownBlock≠ja b:=by simp[qc]
 have c3:=And.intro (fU g.1 j.grown m) (And.intro (fU g.2.1 j.grown m) (And.intro (fU g.2.2.1 j.grown m) (fU g.2.2.2 j.grown m)));replace j:=O j;refine a _ _ c3 λ_=>?_
 clear a EG n;refine L ?_;iterate 2 refine EY ?_
 refine jR ?_
 go_wp2_with fail
 go_ret2;refine⟨_,T,?_,Uj⟩;have h:=j.own;rw[lw,qa]at h;exact sl h o.size
theorem QQ(l:LBy):Bl l=ofB l:=by
 unfold Bl ofB strOfNums rI;rw[List.map_map]
 congr 1
 congr 1
 refine List.map_congr_left λb _=>?_
 apply UInt8.eq_of_toBitVec_eq
 simp
theorem kN(n:jd)(w:jg):
 jr jm 75 #[I N n] w λe w'=>e=jo (jq #[I N 1,I N n,jj ⟨#[]⟩,jb A 0 0])/\jl w w w':=by
 go_enter func75,ntmps75
 go_wp2_with fail
 exact jX (v:=jq #[I N 1,I N n,jj ⟨#[]⟩,jb A 0 0]) (by simp[results,results75,go_sem]) T ⟨T,(jy _ _).alloc (jn _) _⟩
theorem mP(p:jS jM)(n c:je)(w:jg):
 jr jm 72 #[jb p n c] w λe w'=>e=jo (jq #[I N 3,I N 0,jj ⟨#[]⟩,jb p n c])/\jl w w w':=by
 go_enter func72,ntmps72
 go_wp2_with fail
 exact jX (v:=jq #[I N 3,I N 0,jj ⟨#[]⟩,jb p n c]) (by simp[results,results72,go_sem]) T ⟨T,(jy _ _).alloc (jn _) _⟩
theorem vR(v:ji)(l:LBy)(w:jg)(a:bD w v l):
 jr jm 76 #[v] w λe w'=>e=jo (jq #[I N 2,I N 0,jj (ofB l),jb A 0 0])/\jl w w w':=by
 have b:=Jb (a.below (ao w (jc #[I N 0,I N 0,jj ⟨#[]⟩,jb A 0 0] 152)));rw[QQ]at b;obtain⟨p,c,rfl,-,-,-⟩:=a;obtain⟨s,d⟩:=J (ofB l);rw[<-d]at b⊢;clear d
 go_enter func76,ntmps76
 go_wp2_with fail
 exact jX (v:=jq #[I N 2,I N 0,jj s,jb A 0 0]) (by simp[results,results76,go_sem]) T ⟨T,(jy _ _).alloc (jn _) _⟩
theorem C6:(jm.info? 152).map (λi=>(i.zero,i.size,i.bytes))=ja (ja (jq #[I N 0,I N 0,jj ⟨#[]⟩,jb A 0 0]),4,56):=by kernel_rfl
theorem pT{w:jg}{o:nv}{a:Act}{K:Act->jg->Prop}{d:Exit->Act->jg->Prop}(s x:Operand)
 (e:o.op=.call {callee:=.builtin .append,args:=#[s,x],argTypes:=#[93,93]})
 (B:je) (v:ji) (n:je) (xs:jh ji) (f:a.eval s=v) (g:w.ownsRow B 152 4 v n xs) (b:ji) (m:je) (ys:jh ji) (i:a.eval x=b) (j:cF w b 4 m ys) (k:∀b∈ys,b.oneCell'=jf)
 (D:n+m<=4000000) (l:B<=w.heap.size) (h:∀c w',cE B 152 4 w w' v c (n+m) (xs++ys)->K (a.put o.dst c) w'):o.wp jm a w K d:=by
 obtain⟨p,q,r,t,u⟩:=qh C6;exact nP s x 93 e B 152 p _ 4 56 wt q r t u T G v n xs f g b m ys i j k (by unfold j3;omega) Y l
  λc w' y z C=>h c w' (oo y z C)
abbrev dH:ji:=jb A 0 0
theorem k8(n:jd):aU D w (vI n) dH:=by
 rw[vI,aU];exact⟨[],⟨T,A,0,T,jn _,λ_=>rfl,λh=>jG h G⟩,by rw[aM]⟩
theorem vx(b:LBy):aU D w (vT b) dH:=by
 rw[vT,aU];exact⟨[],⟨T,A,0,T,jn _,λ_=>rfl,λh=>jG h G⟩,by rw[aM]⟩
theorem wX:∀(l:jh jd),aM D w (l.map vI) (j9 l.length dH)
 |[]=>by rw[r8,aM];rfl
 |x::l=>by
  rw[qV,aM];exact⟨dH,_,T,k8 x,wX l⟩
def ib(l:jh jd):jh ji:=cR (l.map vI) (j9 l.length dH)
theorem Iy(l:jh jd)(n:jd):ib (l++[n])=ib l++[I N 1,I N n,jj ⟨#[]⟩,jb A 0 0]:=by
 unfold ib;rw[j4,jL,show j9 (l.length+[n].length) dH=j9 l.length dH++[dH] by simp[List.replicate_succ']];rw[sK _ _ _ _ ar]
 rfl
theorem tC(l:jh jd)(v:ji)(w:jg)(u:de w v l)(x:l.length<=1000000):
 jr jm 74 #[v] w λe w'=>∃j,e=jo j/\w'.ownsRow w 152 4 j l.length (ib l)/\jl w w w':=by
 obtain⟨p,c,rfl,z,a⟩:=u;obtain⟨n,b⟩:=J l.length;rw[<-b]at z x a⊢;have k:=O b;have m:=O a;clear b a
 go_enter func74,ntmps74
 go_wp2_with fail
 go_loopw [3,8] (λa v8 wr=>∃(i:je) (f:ji),a=f/\v8=I N i/\i<=n/\jk (wr.ownsRow w 152 4 f i (ib (l.take i)))/\jk (jl w w wr)) (λ_ v8 _=>n-(jv v8).toNat)
 case atStart=>exact⟨0,_,T,T,jJ _,O (by simpa [ib,cR]using j0 w w.heap.size 152 4),O (jy _ _)⟩
 obtain⟨i,f,rfl,rfl,H,q,b⟩:=hrel
 by_cases r:i<n
 ·have B:=az ((i:jd)<(n:jd))
  have C:=az (i<n);obtain⟨g,o,rfl,s⟩:=m Y;have d:i<l.length:=by rw[<-k];exact r
  have t:l.getD i 0=l[i]:=by simp[jO,d]
  obtain⟨y,h⟩:=J (l.getD i 0);have a:=s i r;rw[<-h]at a;have K:wr.cell? ⟨g,o+i,A⟩=ja (I N y):=(dX (b.block g (ge a))).trans a;have D:jk (ib (l.take (i+1))=ib (l.take i)++[I N 1,I N y,jj ⟨#[]⟩,jb A 0 0]):=O (by
   rw[ow d,Iy,h,t])
  have E:=b.size;clear t h a s d m
  go_wp2_with fail
  refine(kN y wr).mono ?_;rintro e a ⟨rfl,d⟩;have h:=bj q d;have t:=O (b.trans (d.mono E));have M:=d.size;clear d
  go_wp2_with (at_builtin;refine Hid.out ?_)
  refine O ?_;refine oj T λ_ s=>pT _ _ T w.heap.size _ _ _ T (cL h (ao a _)) _ 1 [I N 1,I N y,jj ⟨#[]⟩,jb A 0 0] T (lx a [I N 1,I N y,jj ⟨#[]⟩,jb A 0 0] _ _ 4 1 1 T (jn _)) (by simp[j1]) (show i+1<=4000000 by omega) (by rw[jC];omega) λP Q d=>s _ _ ?_
  have F:=O (t.trans (((ao a _).mono (show w.heap.size<=a.heap.size by omega)).trans (d.below (cL h (ao a _)) (by rw[jC];omega))));replace d:=O d.own;clear s
  go_wp2_with fail
  refine⟨⟨i+1,_,T,by go_num,by omega,O (by rw[D];exact d),F⟩,?_⟩;simp only[jv];omega
 have B:=aw ((i:jd)<(n:jd));have C:=aw (i<n);have a:i=n:=Y;have d:=O a;clear a
 go_wp2_with fail
 go_ret;refine⟨_,T,?_,b⟩;have h:=q.out;rw[d,mz (by rw[<-k];exact jn _)]at h;exact h
section
variable{b:je}{D:je->Prop}{w w':jg}
section
variable {α:Type}
def dR(f:α->ji->jh ji):jh α->jh ji->jh ji
 |x::xs,a::b=>f x a++dR f xs b
 |_,_=>[]
theorem Df(f:α->ji->jh ji):∀(l m:jh α) (a b:jh ji),a.length=l.length->dR f (l++m) (a++b)=dR f l a++dR f m b
 |[],m,a,b,h=>by
  have:a=[]:=qs (ak h);subst this
  cases m<;>cases b<;>simp[dR]
 |x::l,m,[],b,h=>by simp at h
 |x::l,m,c::a,b,h=>by
  simp only[qb,dR,Df f l m a b (ak h),j6]
theorem wR(f:α->ji->jh ji)(k:je)(c:∀x a,(f x a).length=k):∀(l:jh α) (b:jh ji) (j i:je) (x:α) (a:ji),l[j]?=ja x->b[j]?=ja a->i<k->(dR f l b)[j*k+i]?=(f x a)[i]?
 |[],b,j,i,x,a,h,_,_=>by simp at h
 |y::l,[],j,i,x,a,_,h,_=>by simp at h
 |y::l,v::b,0,i,x,a,h,d,g=>by
  have e:y=x:=ak h;have m:v=a:=ak d;subst e;subst m;show(f y v++dR f l b)[0*k+i]?=_;rw[qT,lw,qJ (by rw[c];exact g)]
 |y::l,v::b,j+1,i,x,a,h,d,g=>by
  show(f y v++dR f l b)[(j+1)*k+i]?=_;have m:(f y v).length=k:=c _ _;have e:(j+1)*k=k+j*k:=by rw[r9];omega
  rw[qK (by rw[m,e];omega),m,show(j+1)*k+i-k=j*k+i by omega];exact wR f k c l b j i x a (ak h) (ak d) g
theorem flat_length(f:α->jh ji)(k:je)(a:∀x,(f x).length=k)(l:jh α):(l.flatMap f).length=l.length*k:=by
 induction l with
 |nil=>simp
 |cons x l b=>rw[sh,jL,b,a,jW,r9];omega
theorem flat_get(f:α->jh ji)(k:je)(a:∀x,(f x).length=k):∀(l:jh α) (j i:je) (x:α),l[j]?=ja x->i<k->(l.flatMap f)[j*k+i]?=(f x)[i]?
 |[],j,i,x,h,_=>by simp at h
 |y::l,0,i,x,h,b=>by
  have e:y=x:=ak h;subst e;rw[sh,qT,lw,qJ (by rw[a];exact b)]
 |y::l,j+1,i,x,h,b=>by
  have e:(j+1)*k=k+j*k:=by rw[r9];omega
  rw[sh,qK (by rw[a,e];omega),a,show(j+1)*k+i-k=j*k+i by omega];exact flat_get f k a l j i x (ak h) b
end
def ey(D:je->Prop)(w:jg):jh (LBy)->jh ji->Prop
 |[],a=>a=[]
 |b::e,a=>∃c d,a=c::d/\aH D w c 1 b.length (b.map v8)/\ey D w e d
theorem ey.keep(d:∀g,D g->w'.heap[g]?=w.heap[g]?):∀{c:jh (LBy)} {a:jh ji},ey D w c a->ey D w' c a
 |[],a,h=>h
 |b::c,a,⟨e,f,g,i,j⟩=>⟨e,f,g,i.keep d,j.keep d⟩
theorem ey.mono{D':je->Prop}(d:∀g,D g->D' g):∀{c:jh (LBy)} {a:jh ji},ey D w c a->ey D' w c a
 |[],a,h=>h
 |b::c,a,⟨e,f,g,i,j⟩=>⟨e,f,g,i.mono d,j.mono d⟩
theorem ey.len:∀{c:jh (LBy)} {a:jh ji},ey D w c a->a.length=c.length
 |[],a,h=>by rw[show a=[]from h];rfl
 |b::c,a,⟨f,g,d,i,e⟩=>by rw[d];simp[e.len]
theorem ey.at:∀{f:jh (LBy)} {a:jh ji} {i:je} {b:LBy},ey D w f a->f[i]?=ja b->∃c,a[i]?=ja c/\aH D w c 1 b.length (b.map v8)
 |[],a,i,x,h,d=>by simp at d
 |y::l,a,i,x,⟨c,o,g,j,k⟩,d=>by
  subst g
  rcases i with _|i
  ·have e:y=x:=ak d
   subst e;exact⟨c,T,j⟩
  obtain⟨e,m,n⟩:=k.at (i:=i) (ak d);exact⟨e,by simpa using m,n⟩
theorem ey.snoc{b:LBy}{f:ji}(e:aH D w f 1 b.length (b.map v8)):∀{d:jh (LBy)} {a:jh ji},ey D w d a->ey D w (d++[b]) (a++[f])
 |[],a,h=>by rw[show a=[]from h];exact⟨f,[],T,e,T⟩
 |x::d,a,⟨v,c,g,i,j⟩=>⟨v,c++[f],by rw[g];rfl,i,j.snoc e⟩
theorem aH.bytes{v:ji}{l:LBy}(h:aH D w v 1 l.length (l.map v8)):bD w v l:=by
 obtain⟨-,p,c,b,d,f,i⟩:=h;refine⟨p,c,b,d,f,λk=>?_⟩;obtain⟨g,o,e,-,m⟩:=i k;refine⟨g,o,e,λj a=>m j _ ?_⟩;rw[qu,n0 a];simp[jO,a]
theorem aH.form{f:ji}{j:je}{d:jh ji}(h:aH D w f b j d):∃p c,f=jb p j c:=by
 obtain⟨-,p,c,a,-⟩:=h;exact⟨p,c,a⟩
theorem aH.of_own{B sz n:je}{e:jH}{v:ji}{xs:jh ji}(h:w.ownsRow B e sz v n xs)(a:∀g,v.ownBlock=ja g->D g):aH D w v sz n xs:=by
 obtain⟨b,p,c,rfl,d,f,i⟩:=cF.of_own h;refine⟨b,p,c,T,d,f,λj=>?_⟩;obtain⟨g,o,rfl,k⟩:=i j;exact⟨g,o,T,a g T,k⟩
def ap.cells(x:ap):jh ji:=[I N x.k,I N x.d,I N x.p,I N x.v,I N x.c]
def Bx.cells(x:Bx)(a:ji):jh ji:=[I N x.node,I N x.lev,I N x.u,a]
def Wl.cells(x:Wl)(a:ji):jh ji:=[I N x.dev,I N x.u,a]
structure CQ where
 vc:ji
 vp:ji
 vb:ji
 vw:ji
def aF(c:Cmt)(q:CQ):jh ji:=
 I N c.folder::I N c.epoch::(c.parent.map v8++(I N c.author::q.vc::q.vp::q.vb::q.vw::(c.confirm.map v8++[I N c.r,I N c.s])))
structure aZ(D:je->Prop)(w:jg)(c:Cmt)(q:CQ):Prop where
 chg:aH D w q.vc 5 c.chg.length (c.chg.flatMap ap.cells)
 path:aH D w q.vp 1 c.path.length (c.path.map (jE .i64))
 box:∃a,aH D w q.vb 4 c.box.length (dR Bx.cells c.box a)/\ey D w (c.box.map Bx.body) a
 wel:∃a,aH D w q.vw 3 c.wel.length (dR Wl.cells c.wel a)/\ey D w (c.wel.map Wl.body) a
 plen:c.parent.length=32
 clen:c.confirm.length=32
theorem aZ.keep{c:Cmt}{q:CQ}(h:aZ D w c q)(a:∀g,D g->w'.heap[g]?=w.heap[g]?):aZ D w' c q:=by
 obtain⟨b,d,⟨e,f,g⟩,⟨i,j,k⟩,l,m⟩:=h;exact⟨b.keep a,d.keep a,⟨e,f.keep a,g.keep a⟩,⟨i,j.keep a,k.keep a⟩,l,m⟩
theorem aZ.mono{D':je->Prop}{c:Cmt}{q:CQ}(h:aZ D w c q)(a:∀g,D g->D' g):aZ D' w c q:=by
 obtain⟨b,d,⟨e,f,g⟩,⟨i,j,k⟩,l,m⟩:=h;exact⟨b.mono a,d.mono a,⟨e,f.mono a,g.mono a⟩,⟨i,j.mono a,k.mono a⟩,l,m⟩
theorem aZ.below{c:Cmt}{q:CQ}(h:aZ (·<w.heap.size) w c q)(b:jl w w w'):aZ (·<w'.heap.size) w' c q:=
 (h.keep λg a=>b.block g a).mono λg (a:g<w.heap.size)=>jN a b.size
structure dV(w:jg)(b:je)(c:Cmt)(q:CQ):Prop where
 blk:w.heap[b]?=ja (jc (aF c q).toArray 57 (0,0))
 plen:c.parent.length=32
 clen:c.confirm.length=32
theorem dz(c:Cmt)(q:CQ)(a:c.parent.length=32)(b:c.confirm.length=32):(aF c q).length=73:=by
 unfold aF;simp[a,b]
theorem dV.keep{c:Cmt}{q:CQ}(h:dV w b c q)(a:w'.heap[b]?=w.heap[b]?):dV w' b c q:=⟨a.trans h.blk,h.plen,h.clen⟩
theorem dV.get{a:Cmt}{q:CQ}(h:dV w b a q){i:je}{v:ji}(c:(aF a q)[i]?=ja v):w.cell? ⟨b,i,A⟩=ja v:=
 ah h.blk (ak c)
theorem ku(c:Cmt)(q:CQ)(d:c.parent.length=32)(e:c.confirm.length=32):
 (aF c q)[0]?=ja (I N c.folder)/\(aF c q)[1]?=ja (I N c.epoch)/\(aF c q)[34]?=ja (I N c.author)/\(aF c q)[35]?=ja q.vc/\(aF c q)[36]?=ja q.vp/\
 (aF c q)[37]?=ja q.vb/\(aF c q)[38]?=ja q.vw/\(aF c q)[71]?=ja (I N c.r)/\(aF c q)[72]?=ja (I N c.s):=by
 have k:∀(l r:jh ji) (i:je),l.length=32->(l++r)[32+i]?=r[i]?:=λl r i f=>by
  rw[qK Y,f];congr 1;omega
 have a:(c.parent.map v8).length=32:=by rw[jD];exact d
 have b:(c.confirm.map v8).length=32:=by rw[jD];exact e
 unfold aF;refine⟨T,T,?_,?_,?_,?_,?_,?_,?_⟩
 ·exact k _ _ 0 a
 ·exact k _ _ 1 a
 ·exact k _ _ 2 a
 ·exact k _ _ 3 a
 ·exact k _ _ 4 a
 ·exact(k _ _ (5+32) a).trans (k _ _ 0 b)
 exact(k _ _ (5+33) a).trans (k _ _ 1 b)
theorem CV(c:Cmt)(q:CQ)(d:c.parent.length=32){j:je}(f:j<32):(aF c q)[2+j]?=ja (I .u8 (c.parent.getD j 0).toNat):=by
 unfold aF;have e:∀(a b:ji) (l:jh ji),(a::b::l)[2+j]?=l[j]?:=λa b l=>by rw[show 2+j=j+1+1 by omega];rfl
 rw[e,qJ (by rw[jD];omega),qu,n0 Y];simp[jO,d,f]
theorem Nu(c:Cmt)(q:CQ)(g:c.parent.length=32)(h:c.confirm.length=32){j:je}(i:j<32):(aF c q)[39+j]?=ja (I .u8 (c.confirm.getD j 0).toNat):=by
 unfold aF;have e:∀(a b:ji) (l:jh ji),(a::b::l)[39+j]?=l[37+j]?:=λa b l=>by rw[show 39+j=37+j+1+1 by omega];rfl
 have k:(c.parent.map v8).length=32:=by rw[jD];exact g
 have m:∀(a b c d f:ji) (l:jh ji),(a::b::c::d::f::l)[5+j]?=l[j]?:=λa b c d f l=>by rw[show 5+j=j+1+1+1+1+1 by omega];rfl
 rw[e,qK Y,k,show 37+j-32=5+j by omega,m,qJ (by rw[jD];omega),qu,n0 Y];simp[jO,h,i]
theorem dV.parent{c:Cmt}{q:CQ}(h:dV w b c q):bD w (jb (ja ⟨b,2,A⟩) 32 32) c.parent:=
 ⟨_,32,by rw[h.plen],by rw[h.plen];exact jn _,(λe=>by cases e),λ_=>⟨b,2,T,λj a=>h.get (CV c q h.plen (by rw[h.plen]at a;exact a))⟩⟩
theorem dV.confirm{c:Cmt}{q:CQ}(h:dV w b c q):bD w (jb (ja ⟨b,39,A⟩) 32 32) c.confirm:=
 ⟨_,32,by rw[h.clen],by rw[h.clen];exact jn _,(λe=>by cases e),λ_=>⟨b,39,T,λj a=>h.get (Nu c q h.plen h.clen (by rw[h.clen]at a;exact a))⟩⟩
structure Bld(M b:je)(w0 wr:jg)(l:jh Val)(a:ji)(c:jh ji):Prop where
 box:wr.heap[b]?=ja (jc #[I N 3,I N 0,jj ⟨#[]⟩,a] 152 (0,0))
 own:wr.ownsRow M 152 4 a l.length (cR l c)
 kids:aM (λg=>M<=g/\g<wr.heap.size/\a.ownBlock≠ja g) wr l c
 but:dy b M w0 wr
 sz:M<=wr.heap.size
theorem Bld.start{M a:je}(b:w.heap[a]?=ja (jc #[I N 3,I N 0,jj ⟨#[]⟩,dH] 152 (0,0)))(c:M<=w.heap.size):Bld M a w w [] dH []:=
 ⟨b,by simpa [cR]using j0 w M 152 4,by rw[aM],dy.refl _ _ _,c⟩
theorem Bld.later{j:je}{e wr:jg}{l:jh Val}{f:ji}{d:jh ji}(h:Bld b j w e l f d)(i:j<b)(a:jl e e wr):Bld b j w wr l f d:=
 ⟨(a.block j (jN i h.sz)).trans h.box,cL h.own a,aM.mono (λg M=>⟨M.1,jN M.2.1 a.size,M.2.2⟩) l d (aM.keep (λg M=>a.block g M.2.1) l d h.kids),
  h.but.trans (dy.of_below (a.mono h.sz)) (jn _),jz h.sz a.size⟩
theorem Bld.push{M j:je}{w0 c p m:jg}{l:jh Val}{n o:ji}{f:jh ji}(h:Bld M j w0 c l n f)(D:j<M){x:Val}{i:ji}
 (t:aU (λg=>M<=g/\g<c.heap.size/\n.ownBlock≠ja g) c x i) (a:cE M 152 4 c p n o (l.length+1) (cR l f++gT x i))
 (u:m.heap[j]?=ja (jc #[I N 3,I N 0,jj ⟨#[]⟩,o] 152 (0,0))) (b:pQ j p m):Bld M j w0 m (l++[x]) o (f++[i]):=by
 have v:=h.kids.len;have q:∀g,(M<=g/\g<c.heap.size/\n.ownBlock≠ja g)->m.heap[g]?=c.heap[g]?:=λg d=>
  (b.block g Y).trans (a.grown.block g d.2.1 (λe=>d.2.2 e.symm))
 have r:∀g,(M<=g/\g<c.heap.size/\n.ownBlock≠ja g)->(M<=g/\g<m.heap.size/\o.ownBlock≠ja g):=λg d=>
  ⟨d.1,by rw[b.size];exact jN d.2.1 a.grown.size,a.ne d.2.1 d.2.2⟩
 refine⟨u,?_,aM.append (aM.mono r _ _ (aM.keep q _ _ h.kids)) (aM.one (aU.mono r _ _ (aU.keep q _ _ t))),?_,?_⟩
 ·have e:cR (l++[x]) (f++[i])=cR l f++gT x i:=by
   rw[sK l [x] f [i] v];simp[cR]
  rw[e,jL];have s:=a.own;refine⟨s.1,?_⟩
  rcases s.2 with k|⟨g,w,y,z,k,B,C⟩
  ·exact .inl k
  exact .inr ⟨g,w,y,z,k,(b.block g Y).trans B,C⟩
 ·refine h.but.trans ⟨b.os.trans a.grown.os,b.tape.trans a.grown.tape,b.output.trans a.grown.output,by rw[b.size];exact a.grown.size,λk s w=>?_⟩ (jn _)
  refine(b.block k w).trans (a.grown.block k (jN s h.sz) (λe=>?_));have:=(h.own.lt k e.symm).1;omega
 rw[b.size];exact jz h.sz a.grown.size
end
theorem k7{w':jS je}(h:w.heap[B]?=ja o)(b:w.grownBy a w')(c:w'≠ja B):a.heap[B]?=ja o:=
 (b.block B (jK.1 h).1 (λe=>c e.symm)).trans h
theorem av(h:w.heap[B]?=ja o)(w':jl w w a):a.heap[B]?=ja o:=
 (w'.block B (jK.1 h).1).trans h
theorem Bld.fresh{i:jg}(h:Bld B m w a f d b)(p:jl a a i){e:jH}{sz n:je}{c:ji}{xs:jh ji}(j:i.ownsRow a e sz c n xs):
 ∀g,c.ownBlock=ja g->B<=g/\g<i.heap.size/\d.ownBlock≠ja g:=λg k=>by
 obtain⟨l,o⟩:=j.lt g k;exact⟨jz h.sz l,o,λe=>by have:=(h.own.lt g e).2;omega⟩
theorem Bld.fin(h:Bld B m w a f d b):aU (λg=>B<=g/\g<a.heap.size) a (vL f) d:=by
 rw[vL,aU];exact⟨b,aH.of_own h.own (λg wr=>h.own.lt g wr),aM.mono (λg wr=>⟨wr.1,wr.2.1⟩) f b h.kids⟩
theorem sc{a:ji}{l:jh jd}(b:w.ownsRow B 152 4 a l.length (ib l))(c:∀g,a.ownBlock=ja g->D g):aU D w (vL (l.map vI)) a:=by
 rw[vL,aU];exact⟨j9 l.length dH,by rw[jD];exact aH.of_own b c,wX l⟩
theorem Pz(W:jg)(l:jh jd)(t:jH):de (W.alloc (jc (l.map (jE .i64)).toArray t)) (jb (ja ⟨W,0,A⟩) l.length l.length) l:=by
 refine⟨_,l.length,T,jn _,λ_=>⟨W.heap.size,0,T,λj a=>?_⟩⟩;refine ah (js W _) ?_;rw[lw];simp[jO,a]
theorem zn(W:jg)(xs:jh ji)(t:jH)(sz n B:je)(b:B<=W.heap.size)(a:xs.length=n*sz)(c:n<=j3):(W.alloc (jc xs.toArray t)).ownsRow B t sz (jb (ja ⟨W,0,A⟩) n n) n xs:=by
 refine⟨a,.inr ⟨W.heap.size,n,xs.toArray,T,b,js W _,jn _,c,by simpa using a,?_⟩⟩;simp[<-a]
theorem wP{α:Type}{l:jh α}{j:je}(h:j<l.length):∃x,l[j]?=ja x/\l.take (j+1)=l.take j++[x]:=
 ⟨l[j],n0 h,ow h⟩
theorem aM.nil:aM D w [] []:=by rw[aM]
theorem aM.cons{u:Val}(h:aU D w u d)(t:aM D w f b):aM D w (u::f) (d::b):=by
 rw[aM];exact⟨d,b,T,h,t⟩
theorem aH.ints{v:ji}{l:jh jd}(h:aH D w v 1 l.length (l.map (jE .i64))):de w v l:=by
 obtain⟨-,p,c,b,d,m,f⟩:=h;refine⟨p,c,b,d,λi=>?_⟩;obtain⟨g,o,e,-,k⟩:=f i;refine⟨g,o,e,λj a=>k j _ ?_⟩;rw[qu,n0 a];simp[jO,a]
def vz(w w':jg)(c:Cmt)(v:ji):Prop:=∃a,w'.ownsRow w 152 4 v 11 (cR (aR c) a)/\aM (λg=>w.heap.size<=g/\g<w'.heap.size) w' (aR c) a
theorem rf(k:r)(h:r->p:=by intro k;refine fX (v:=?_) rfl aj (λW' hS=>?_) ?_;rotate_left;(have k3:=ah (i:=3) hS.1 rfl;have e0:=ah (i:=0) hS.2 rfl;have e1:=ah (i:=1) hS.2 rfl;have e2:=ah (i:=2) hS.2 rfl;have e3:=ah (i:=3) hS.2 rfl;have e4:=ah (i:=4) hS.2 rfl;go_simp;with_reducible rfl);refine L ?_;exact k):p:=h k
theorem tV(k:r)(h:r->p:=by intro k;refine fX (v:=?_) rfl aj (λW' hS=>?_) ?_;rotate_left;(have k3:=ah (i:=3) hS.1 rfl;have e0:=ah (i:=0) hS.2 rfl;have e1:=ah (i:=1) hS.2 rfl;have e2:=ah (i:=2) hS.2 rfl;have e3:=ah (i:=3) hS.2 rfl;go_simp;with_reducible rfl);refine L ?_;exact k):p:=h k
theorem wu(k:r)(h:r->p:=by intro k;refine fX (v:=?_) rfl aj (λW' hS=>?_) ?_;rotate_left;(have k3:=ah (i:=3) hS.1 rfl;have e0:=ah (i:=0) hS.2 rfl;have e1:=ah (i:=1) hS.2 rfl;have e2:=ah (i:=2) hS.2 rfl;go_simp;with_reducible rfl);refine L ?_;exact k):p:=h k
theorem tl(c:Cmt)(q:CQ)(w:jg)(d:aZ (·<w.heap.size) w c q)(l1:c.chg.length<=1000000)(l2:c.path.length<=1000000)(l3:c.box.length<=1000000)(l4:c.wel.length<=1000000):
 jr jm 29 #[jq (aF c q).toArray] w λe w'=>∃v,e=jo v/\vz w w' c v/\jl w w w':=by
 have h:dV (w.alloc (jc (aF c q).toArray 57)) w.heap.size c q:=⟨js w _,d.plen,d.clen⟩;have i:=ao w (jc (aF c q).toArray 57);have X:=O d;have y:=O h;have C:=O i;obtain⟨Uz,f⟩:=J ((aF c q).toArray);rw[<-f]at y C⊢;have bg:=O f;obtain⟨b,g⟩:=J w.heap.size;rw[<-g]at y;have cm:=O g;clear h i d f g
 go_enter func29,ntmps29
 go_wp2_with fail
 refine(mP A 0 0 _).mono ?_;rintro e w1 ⟨rfl,d⟩;replace y:=O (y.keep (d.block b (by rw[cm];simp)));replace C:=ai C d;clear d
 go_wp2_with fail
 refine(mP A 0 0 _).mono ?_;rintro e w2 ⟨rfl,d⟩;have f:=(jK.1 y.blk).1;replace y:=O (y.keep (d.block b f));replace C:=ai C d;clear d f
 go_wp2_with fail
 refine(mP A 0 0 _).mono ?_;rintro e w3 ⟨rfl,d⟩;have f:=(jK.1 y.blk).1;replace y:=O (y.keep (d.block b f));replace C:=ai C d;clear d f
 go_upto_region 2 with fail
 obtain⟨r,h⟩:=J w3.heap.size;have m:=js w3 (jc #[I N 3,I N 0,jj ⟨#[]⟩,jb A 0 0] 152);have bi:=js (w3.alloc (jc #[I N 3,I N 0,jj ⟨#[]⟩,jb A 0 0] 152)) (jc #[I N 3,I N 0,jj ⟨#[]⟩,jb A 0 0] 152);have WW:=js ((w3.alloc (jc #[I N 3,I N 0,jj ⟨#[]⟩,jb A 0 0] 152)).alloc (jc #[I N 3,I N 0,jj ⟨#[]⟩,jb A 0 0] 152)) (jc #[I N 3,I N 0,jj ⟨#[]⟩,jb A 0 0] 152);have k:jl w3 w3 (((w3.alloc (jc #[I N 3,I N 0,jj ⟨#[]⟩,jb A 0 0] 152)).alloc (jc #[I N 3,I N 0,jj ⟨#[]⟩,jb A 0 0] 152)).alloc (jc #[I N 3,I N 0,jj ⟨#[]⟩,jb A 0 0] 152)):=(((jy _ w3).alloc (jn _) _).alloc ar _).alloc (by simp;omega) _;obtain⟨W,i⟩:=J ((((w3.alloc (jc #[I N 3,I N 0,jj ⟨#[]⟩,jb A 0 0] 152)).alloc (jc #[I N 3,I N 0,jj ⟨#[]⟩,jb A 0 0] 152)).alloc (jc #[I N 3,I N 0,jj ⟨#[]⟩,jb A 0 0] 152)));have n:W.heap[r]?=ja (jc #[I N 3,I N 0,jj ⟨#[]⟩,dH] 152 (0,0)):=by
  rw[i,h,jF _ _ _ (by simp;omega),jF _ _ _ ar];exact m
 have o:W.heap[r+1]?=ja (jc #[I N 3,I N 0,jj ⟨#[]⟩,dH] 152 (0,0)):=by
  rw[i,h,jF _ _ _ ar];simpa using bi
 have p:W.heap[r+2]?=ja (jc #[I N 3,I N 0,jj ⟨#[]⟩,dH] 152 (0,0)):=by
  rw[i,h];simpa using WW
 have s:W.heap.size=r+3:=by rw[i,h];simp
 rw[<-i]at k⊢;have f:=(jK.1 y.blk).1;replace y:=O (y.keep (k.block b f));have t:w.heap.size<=r:=by rw[h];exact C.size
 replace C:=ai C k;have x:b<r:=by rw[h];exact f
 have u:=O t;have YA:=O x;have cs:=O n;have UT:=O o;have U8:=O p;have UX:=O s;rw[<-h,<-cm];have cp:jk (∀g,g<w.heap.size->W.heap[g]?=w.heap[g]?):=O (λg B=>C.block g B);clear m bi WW n o p k f t x s i h;obtain⟨c0,c1,YP,YO,bh,a1,a2,bk,bl⟩:=ku c q X.plen X.clen;replace YO:=y.get YO;obtain⟨bB,p1,q1,a3,bC,bI,VU⟩:=X.chg;obtain⟨n1,a4⟩:=J c.chg.length;rw[a3]at YO;rw[<-a4]at YO l1 bC;have b2:=O a4;have V:=O VU;clear c0 c1 YP bh a1 a2 bk bl bB a3 bI a4 VU
 go_wp2_with fail
 have VR:=O (Bld.start (M:=(r+3)) cs (qg UX.symm))
 go_loopw [18] (λv wr=>∃(i:je) (vr:ji) (us:jh ji),v=I N i/\i<=n1/\jk (Bld (r+3) r W wr ((c.chg.take i).map ap.val) vr us)) (λv _=>n1-(jv v).toNat)
 case atStart=>exact⟨0,dH,[],T,jJ _,VR⟩
 clear VR YO;obtain⟨i,vr,us,rfl,hi,m⟩:=hrel
 by_cases bm:i<n1
 ·have hd:=az ((i:jd)<(n1:jd))
  have UC:=az (i<n1);obtain⟨g,o,rfl,b3,bn⟩:=V (aI b2);obtain⟨x,hx,bo⟩:=wP (l:=c.chg) (j:=i) (by rw[<-b2];exact bm);have bp:g<(r+3):=aI u;have bq:g≠r:=aI u;have U9:=(m.but.block g bp bq).trans (cp g b3);have aa:=λk hk=>(dX (a:=⟨g,o+(i*5+k),A⟩) U9).trans (bn (i*5+k) _ ((flat_get ap.cells 5 (λ_=>rfl) c.chg i k x hx hk).trans (show x.cells[k]?=ja (x.cells.getD k (I N 0)) by have:x.cells.length=5:=T;simp[jO,n0 (show k<x.cells.length by omega)])))
  have d0:wr.cell? ⟨g,o+i*5,A⟩=ja (I N x.k):=aa 0 G;have d1:wr.cell? ⟨g,o+i*5+1,A⟩=ja (I N x.d):=aa 1 G;have d2:wr.cell? ⟨g,o+i*5+2,A⟩=ja (I N x.p):=aa 2 G;have p:wr.cell? ⟨g,o+i*5+3,A⟩=ja (I N x.v):=aa 3 G;have f:wr.cell? ⟨g,o+i*5+4,A⟩=ja (I N x.c):=aa 4 G;have b4:=O bo;clear bp bq U9 aa bn hx bo;obtain⟨P,Q,ac⟩:=cK m.own;have a5:((c.chg.take i).map ap.val).length=i:=by rw[jD,qf,<-b2];omega
  rw[a5]at ac;have br:=O a5;subst ac;clear a5
  go_upto_region 5 with fail
  obtain⟨bx,a6⟩:=J wr.heap.size;have ax:=js wr (jc #[I N x.k,I N x.d,I N x.p,I N x.v,I N x.c] 61);have n:=ao wr (jc #[I N x.k,I N x.d,I N x.p,I N x.v,I N x.c] 61);have ZK:jk ((jP P i Q).ownBlock≠ja bx):=O (eV m.own (.inl (qg a6.symm)));rw[<-a6]at ax⊢;obtain⟨R,Y6⟩:=J (wr.alloc (jc #[I N x.k,I N x.d,I N x.p,I N x.v,I N x.c] 61));rw[<-Y6]at ax n⊢;have ba:=n.trans ((bX R).mono n.size);have ay:jk (Bld (r+3) r W R.drew ((c.chg.take i).map ap.val) (jb P i Q) us):=O (m.later Y ba);have E:R.drew.heap[r]?=ja (jc #[I N 3,I N 0,jj ⟨#[]⟩,jb P i Q] 152 (0,0))/\R.drew.heap[bx]?=ja (jc #[I N x.k,I N x.d,I N x.p,I N x.v,I N x.c] 61 (0,0)):=⟨ay.box,ax⟩;clear ax n Y6 a6 m ba d0 d1 d2 p f;refine jT ?_;refine lH (λF=>F.heap[r]?=ja (jc #[I N 3,I N 0,jj ⟨#[]⟩,jb P i Q] 152 (0,0))/\F.heap[bx]?=ja (jc #[I N x.k,I N x.d,I N x.p,I N x.v,I N x.c] 61 (0,0))) 18 [(0,jf),(1,jf),(2,jf),(3,jf),(4,jf),(5,jf),(6,jf),(7,jf),(8,jf),(9,jf),(10,jf),(11,jf),(12,jp),(13,jp),(14,jp),(15,jp),(16,jp),(17,jf),(18,jp)] af af af G (λ_ _ _ _ h=>h) E ?_;generalize R.drew=wa at E ay⊢;refine fB ?_;refine rf ?_;refine fB ?_;refine rf ?_;refine fB ?_;refine rf ?_;refine fB ?_;refine rf ?_;refine fB ?_;refine rf ?_;refine fB ?_;refine rf ?_;refine dn T (λt f=>?_);go_simp;have n:=ao wa (jc #[I N x.k,I N x.d,I N x.p,I N x.v,I N x.c] 3);have s:de (wa.alloc (jc #[I N x.k,I N x.d,I N x.p,I N x.v,I N x.c] 3)) (jb (ja ⟨wa,0,A⟩) 5 5) [x.k,x.d,x.p,x.v,x.c]:=Pz wa [x.k,x.d,x.p,x.v,x.c] 3;refine f _ _ ⟨av E.1 n,av E.2 n⟩ λS=>?_
  clear f;generalize wa.alloc (jc #[I N x.k,I N x.d,I N x.p,I N x.v,I N x.c] 3)=wb at n s S⊢;have z:=O n;have H:=O s;clear n s;refine L ?_;refine dn T (λt f=>?_);go_simp;refine(tC _ _ wb H ar).mono ?_;rintro e wc ⟨u1,rfl,D,d⟩;obtain⟨s,cu,rfl⟩:=cK D;refine f _ _ ⟨av S.1 d,av S.2 d⟩ λU=>?_
  have Vt:jk (wc.ownsRow wa 152 4 (jb s 5 cu) 5 (ib [x.k,x.d,x.p,x.v,x.c])):=O (sl D z.size);have bs:=ai z d;clear f D d H z S;refine L ?_;refine dn T (λt f=>?_);go_simp;refine(mP s 5 cu wc).mono ?_;rintro e wd ⟨rfl,d⟩;refine f _ _ ⟨av U.1 d,av U.2 d⟩ λad=>?_
  have Va:=bj Vt d;have bu:=ai bs d;clear f d Vt bs U;refine L ?_;refine dn T (λt f=>?_);go_simp;have n:=ao wd (jc #[I N 3,I N 0,jj ⟨#[]⟩,jb s 5 cu] 152);have au:=lx wd [I N 3,I N 0,jj ⟨#[]⟩,jb s 5 cu] 152 (0,0) 4 1 1 T (jn _);refine f _ _ ⟨av ad.1 n,av ad.2 n⟩ λH=>?_
  clear f;replace au:cF (wd.alloc (jc #[I N 3,I N 0,jj ⟨#[]⟩,jb s 5 cu] 152)) (jb (ja ⟨wd,0,A⟩) 1 1) 4 1 [I N 3,I N 0,jj ⟨#[]⟩,jb s 5 cu]:=au;generalize wd.alloc (jc #[I N 3,I N 0,jj ⟨#[]⟩,jb s 5 cu] 152)=we at n au H⊢;have Yk:=bj Va n;have Yj:=ai bu n;have UZ:=O au;have UV:=O (ay.later Y Yj);have b5:=O (sc (l:=[x.k,x.d,x.p,x.v,x.c]) Yk (ay.fresh Yj Yk));clear n au Va bu ad;refine L ?_;refine dn T (λt f=>?_);rw[jB aj];refine pT _ _ T (r+3) (jb P i Q) _ _ T UV.own _ 1 _ T UZ (by simp[j1]) (by rw[br];omega) UV.sz λv' wf K=>?_
  have Ut:=K.own;rw[br]at Ut;obtain⟨pn,cn,rfl⟩:=cK Ut;have bi:=k7 H.1 K.grown (eV UV.own (.inr Y));have WW:=k7 H.2 K.grown ZK;refine f _ _ ⟨bi,WW⟩ λbK=>?_
  replace K:=O K;clear f H Ut;refine L ?_;refine fB ?_;refine pA T (λt f=>?_);obtain⟨⟨vo,c3⟩,f3,bv,bw⟩:=ko (i:=3) (jb pn (i+1) cn) bK.1 ar;go_simp;refine f _ _ ?_;have b6:=O (UV.push Y (x:=ap.val x) b5 K bv bw);clear f c3 f3 bv bw;refine jR ?_
  go_wp2_with fail
  refine⟨⟨i+1,_,_,by go_num,by omega,by rw[b4,j4];exact b6⟩,?_⟩;simp only[jv];omega
 have hd:=aw ((i:jd)<(n1:jd));have UC:=aw (i<n1);have bA:c.chg.take i=c.chg:=mz (by rw[<-b2];omega);replace m:jk (Bld (r+3) r W wr (c.chg.map ap.val) vr us):=O (by rw[<-bA];exact m);clear bA V;obtain⟨bb,bc,ac⟩:=cK m.own;rw[jD,<-b2]at ac;subst ac;have b1:=O m.fin;obtain⟨M2,hM⟩:=J wr.heap.size;have Vw:=O hM;have cv:(r+3)<=M2:=by rw[hM];exact m.sz
 rw[<-hM]at b1;have cg:jk (∀g,g<w.heap.size->wr.heap[g]?=w.heap[g]?):=O (λg B=>(m.but.block g (aI u) (aI u)).trans (cp g B));replace y:=O (y.keep (m.but.block b (aI YA) (aI YA)));replace C:jk (jl w w wr):=O (C.trans (m.but.below (aI u) (aI u)));have Vl:=O m.box;replace UT:=O ((m.but.block (r+1) Y Y).trans UT);replace U8:=O ((m.but.block (r+2) Y Y).trans U8);clear m;clear hM;rename jg=>W2;obtain⟨c0,c1,YP,YO,bh,a1,a2,bk,bl⟩:=ku c q X.plen X.clen;replace a1:=y.get a1;obtain⟨ub,⟨bB,p1,q1,a3,bC,bI,VU⟩,b7⟩:=X.box;have ci:=O b7;clear b7;obtain⟨n2,a4⟩:=J c.box.length;rw[a3]at a1;rw[<-a4]at a1 l3 bC;have b8:=O a4;have Uy:=O VU;clear c0 c1 YP YO bh a2 bk bl bB a3 bI a4 VU
 go_wp2_with fail
 clear bm hd UC hi;have VR:=O (Bld.start (M:=M2) UT (qg Vw))
 go_loopw [44] (λv wr=>∃(i:je) (vr:ji) (us:jh ji),v=I N i/\i<=n2/\jk (Bld M2 (r+1) W2 wr ((c.box.take i).map Bx.val) vr us)) (λv _=>n2-(jv v).toNat)
 case atStart=>exact⟨0,dH,[],T,jJ _,VR⟩
 clear VR a1;obtain⟨i,vr,us,rfl,hi,m⟩:=hrel
 by_cases bm:i<n2
 ·have hd:=az ((i:jd)<(n2:jd))
  have UC:=az (i<n2);obtain⟨g,o,rfl,b3,bn⟩:=Uy (aI b8);obtain⟨x,hx,bo⟩:=wP (l:=c.box) (j:=i) (by rw[<-b8];exact bm);have bp:g<M2:=aI u;have bq:g≠(r+1):=aI u;have U9:=(m.but.block g bp bq).trans (cg g b3);obtain⟨ux,b9,bM⟩:=ci.at (i:=i) (b:=x.body) (by rw[qu,hx];rfl);obtain⟨z,D,rfl⟩:=bM.form;have aa:=λk hk=>(dX (a:=⟨g,o+(i*4+k),A⟩) U9).trans (bn (i*4+k) _ ((wR Bx.cells 4 (λ_ _=>rfl) c.box ub i k x _ hx b9 hk).trans (show(x.cells (jb z x.body.length D))[k]?=ja ((x.cells (jb z x.body.length D)).getD k (I N 0)) by have:(x.cells (jb z x.body.length D)).length=4:=T;simp[jO,n0 (show k<(x.cells (jb z x.body.length D)).length by omega)])))
  have d0:wr.cell? ⟨g,o+i*4,A⟩=ja (I N x.node):=aa 0 G;have d1:wr.cell? ⟨g,o+i*4+1,A⟩=ja (I N x.lev):=aa 1 G;have d2:wr.cell? ⟨g,o+i*4+2,A⟩=ja (I N x.u):=aa 2 G;have p:wr.cell? ⟨g,o+i*4+3,A⟩=ja (jb z x.body.length D):=aa 3 G;clear b9;have b4:=O bo;clear bp bq U9 aa bn hx bo;obtain⟨P,Q,ac⟩:=cK m.own;have a5:((c.box.take i).map Bx.val).length=i:=by rw[jD,qf,<-b8];omega
  rw[a5]at ac;have br:=O a5;subst ac;clear a5
  go_upto_region 10 with fail
  obtain⟨bx,a6⟩:=J wr.heap.size;have ax:=js wr (jc #[I N x.node,I N x.lev,I N x.u,jb z x.body.length D] 105);have n:=ao wr (jc #[I N x.node,I N x.lev,I N x.u,jb z x.body.length D] 105);have ZK:jk ((jP P i Q).ownBlock≠ja bx):=O (eV m.own (.inl (qg a6.symm)));rw[<-a6]at ax⊢;obtain⟨R,Y6⟩:=J (wr.alloc (jc #[I N x.node,I N x.lev,I N x.u,jb z x.body.length D] 105));rw[<-Y6]at ax n⊢;have ba:=n.trans ((bX R).mono n.size);have ay:jk (Bld M2 (r+1) W2 R.drew ((c.box.take i).map Bx.val) (jb P i Q) us):=O (m.later Y ba);have bN:jk (bD R.drew (jb z x.body.length D) x.body):=O ((bM.keep (λg B=>(ba.block g (jN (show g<M2 by have:=u.out;omega) m.sz)).trans ((m.but.block g (aI u) (aI u)).trans (cg g B)))).bytes);clear bM;have E:R.drew.heap[(r+1)]?=ja (jc #[I N 3,I N 0,jj ⟨#[]⟩,jb P i Q] 152 (0,0))/\R.drew.heap[bx]?=ja (jc #[I N x.node,I N x.lev,I N x.u,jb z x.body.length D] 105 (0,0)):=⟨ay.box,ax⟩;clear ax n Y6 a6 m ba d0 d1 d2 p;refine jT ?_;refine lH (λF=>F.heap[(r+1)]?=ja (jc #[I N 3,I N 0,jj ⟨#[]⟩,jb P i Q] 152 (0,0))/\F.heap[bx]?=ja (jc #[I N x.node,I N x.lev,I N x.u,jb z x.body.length D] 105 (0,0))) 21 [(0,jf),(1,jf),(2,jf),(3,jf),(5,jf),(6,jf),(8,jf),(9,jf),(10,jf),(12,jf),(13,jf),(14,jf),(4,jp),(7,jp),(11,jp),(15,jp),(16,jp),(17,jp),(18,jp),(19,jp),(20,jf),(21,jp)] af af af G (λ_ _ _ _ h=>h) E ?_;generalize R.drew=wa at E ay bN⊢;refine fB ?_;refine tV ?_;refine fB ?_;refine tV ?_;refine fB ?_;refine tV ?_;iterate 2 refine fB ?_
  refine tV ?_;iterate 2 refine fB ?_
  refine tV ?_;refine dn T (λt f=>?_);go_simp;refine(kN x.node wa).mono ?_;rintro e cj ⟨rfl,d⟩;refine f _ _ ⟨av E.1 d,av E.2 d⟩ λbO=>?_
  have ca:=O (d);have cb:=O (bN.below d);clear f d E bN;refine L ?_;refine dn T (λt f=>?_);go_simp;refine(kN x.lev cj).mono ?_;rintro e ck ⟨rfl,d⟩;refine f _ _ ⟨av bO.1 d,av bO.2 d⟩ λbT=>?_
  have cc:=ai ca d;have cd:=O (cb.below d);clear f d bO ca cb;refine L ?_;refine dn T (λt f=>?_);go_simp;refine(kN x.u ck).mono ?_;rintro e bf ⟨rfl,d⟩;refine f _ _ ⟨av bT.1 d,av bT.2 d⟩ λp=>?_
  have V:=ai cc d;have bd:=O (cd.below d);clear f d bT cc cd;refine L ?_;refine dn T (λt f=>?_);go_simp;refine(vR _ x.body bf bd).mono ?_;rintro e wb ⟨rfl,d⟩;refine f _ _ ⟨av p.1 d,av p.2 d⟩ λS=>?_
  have b0:=ai V d;clear f d p V bd;refine L ?_;refine dn T (λt f=>?_);go_simp;have n:=ao wb (jc #[I N 1,I N x.node,jj ⟨#[]⟩,jb A 0 0,I N 1,I N x.lev,jj ⟨#[]⟩,jb A 0 0,I N 1,I N x.u,jj ⟨#[]⟩,jb A 0 0,I N 2,I N 0,jj (ofB x.body),jb A 0 0] 152);have V:=zn wb [I N 1,I N x.node,jj ⟨#[]⟩,jb A 0 0,I N 1,I N x.lev,jj ⟨#[]⟩,jb A 0 0,I N 1,I N x.u,jj ⟨#[]⟩,jb A 0 0,I N 2,I N 0,jj (ofB x.body),jb A 0 0] 152 4 4 wa.heap.size b0.size T G;refine f _ _ ⟨av S.1 n,av S.2 n⟩ λU=>?_
  clear f;replace V:(wb.alloc (jc #[I N 1,I N x.node,jj ⟨#[]⟩,jb A 0 0,I N 1,I N x.lev,jj ⟨#[]⟩,jb A 0 0,I N 1,I N x.u,jj ⟨#[]⟩,jb A 0 0,I N 2,I N 0,jj (ofB x.body),jb A 0 0] 152)).ownsRow wa.heap.size 152 4 (jb (ja ⟨wb,0,A⟩) 4 4) 4 [I N 1,I N x.node,jj ⟨#[]⟩,jb A 0 0,I N 1,I N x.lev,jj ⟨#[]⟩,jb A 0 0,I N 1,I N x.u,jj ⟨#[]⟩,jb A 0 0,I N 2,I N 0,jj (ofB x.body),jb A 0 0]:=V;generalize wb.alloc (jc #[I N 1,I N x.node,jj ⟨#[]⟩,jb A 0 0,I N 1,I N x.lev,jj ⟨#[]⟩,jb A 0 0,I N 1,I N x.u,jj ⟨#[]⟩,jb A 0 0,I N 2,I N 0,jj (ofB x.body),jb A 0 0] 152)=wc at n V U⊢;obtain⟨s,ce⟩:∃p:jS jM,p=ja ⟨wb,0,A⟩:=⟨_,T⟩;rw[<-ce]at V⊢;have Vt:=O V;have bs:=ai b0 n;clear n V ce S b0;refine L ?_;refine dn T (λt f=>?_);go_simp;refine(mP s 4 4 wc).mono ?_;rintro e wd ⟨rfl,d⟩;refine f _ _ ⟨av U.1 d,av U.2 d⟩ λad=>?_
  have Va:=bj Vt d;have bu:=ai bs d;clear f d Vt bs U;refine L ?_;refine dn T (λt f=>?_);go_simp;have n:=ao wd (jc #[I N 3,I N 0,jj ⟨#[]⟩,jb s 4 4] 152);have au:=lx wd [I N 3,I N 0,jj ⟨#[]⟩,jb s 4 4] 152 (0,0) 4 1 1 T (jn _);refine f _ _ ⟨av ad.1 n,av ad.2 n⟩ λH=>?_
  clear f;replace au:cF (wd.alloc (jc #[I N 3,I N 0,jj ⟨#[]⟩,jb s 4 4] 152)) (jb (ja ⟨wd,0,A⟩) 1 1) 4 1 [I N 3,I N 0,jj ⟨#[]⟩,jb s 4 4]:=au;generalize wd.alloc (jc #[I N 3,I N 0,jj ⟨#[]⟩,jb s 4 4] 152)=we at n au H⊢;have Yk:=bj Va n;have Yj:=ai bu n;have UZ:=O au;have UV:=O (ay.later Y Yj);have b5:=O (show aU (λg=>M2<=g/\g<we.heap.size/\(jP P i Q).ownBlock≠ja g) we (Bx.val x) (jb s 4 4) by
   unfold Bx.val;rw[vL,aU];refine⟨j9 4 dH,aH.of_own Yk (ay.fresh Yj Yk),?_⟩;exact aM.cons (k8 _) (aM.cons (k8 _) (aM.cons (k8 _) (aM.cons (vx _) (aM.nil)))))
  clear n au Va bu ad;refine L ?_;refine dn T (λt f=>?_);rw[jB aj];refine pT _ _ T M2 (jb P i Q) _ _ T UV.own _ 1 _ T UZ (by simp[j1]) (by rw[br];omega) UV.sz λv' wf K=>?_
  have Ut:=K.own;rw[br]at Ut;obtain⟨pn,cn,rfl⟩:=cK Ut;have bi:=k7 H.1 K.grown (eV UV.own (.inr Y));have WW:=k7 H.2 K.grown ZK;refine f _ _ ⟨bi,WW⟩ λbK=>?_
  replace K:=O K;clear f H Ut;refine L ?_;refine fB ?_;refine pA T (λt f=>?_);obtain⟨⟨vo,c3⟩,f3,bv,bw⟩:=ko (i:=3) (jb pn (i+1) cn) bK.1 ar;go_simp;refine f _ _ ?_;have b6:=O (UV.push Y (x:=Bx.val x) b5 K bv bw);clear f c3 f3 bv bw;refine jR ?_
  go_wp2_with fail
  refine⟨⟨i+1,_,_,by go_num,by omega,by rw[b4,j4];exact b6⟩,?_⟩;simp only[jv];omega
 have hd:=aw ((i:jd)<(n2:jd));have UC:=aw (i<n2);have bA:c.box.take i=c.box:=mz (by rw[<-b8];omega);replace m:jk (Bld M2 (r+1) W2 wr (c.box.map Bx.val) vr us):=O (by rw[<-bA];exact m);clear bA Uy;obtain⟨bd,bf,ac⟩:=cK m.own;rw[jD,<-b8]at ac;subst ac;have cf:=O m.fin;obtain⟨M3,hM⟩:=J wr.heap.size;have Wp:=O hM;have ct:M2<=M3:=by rw[hM];exact m.sz
 rw[<-hM]at cf;have cq:jk (∀g,g<w.heap.size->wr.heap[g]?=w.heap[g]?):=O (λg B=>(m.but.block g (aI u) (aI u)).trans (cg g B));replace y:=O (y.keep (m.but.block b (aI YA) (aI YA)));replace C:jk (jl w w wr):=O (C.trans (m.but.below (aI u) (aI u)));replace Vl:=O ((m.but.block r Y Y).trans Vl);have Vz:=O m.box;replace b1:=O (aU.keep (λg B=>m.but.block g Y Y) _ _ b1.out);replace U8:=O ((m.but.block (r+2) Y Y).trans U8);clear m;clear hM;rename jg=>W3;obtain⟨c0,c1,YP,YO,bh,a1,a2,bk,bl⟩:=ku c q X.plen X.clen;replace a2:=y.get a2;obtain⟨ub,⟨bB,p1,q1,a3,bC,bI,VU⟩,b7⟩:=X.wel;have ci:=O b7;clear b7;obtain⟨n3,a4⟩:=J c.wel.length;rw[a3]at a2;rw[<-a4]at a2 l4 bC;have b7:=O a4;have UQ:=O VU;clear c0 c1 YP YO bh a1 bk bl bB a3 bI a4 VU
 go_wp2_with fail
 clear bm hd UC hi;have VR:=O (Bld.start (M:=M3) U8 (qg Wp))
 go_loopw [73] (λv wr=>∃(i:je) (vr:ji) (us:jh ji),v=I N i/\i<=n3/\jk (Bld M3 (r+1+1) W3 wr ((c.wel.take i).map Wl.val) vr us)) (λv _=>n3-(jv v).toNat)
 case atStart=>exact⟨0,dH,[],T,jJ _,VR⟩
 clear VR a2;obtain⟨i,vr,us,rfl,hi,m⟩:=hrel
 by_cases bm:i<n3
 ·have hd:=az ((i:jd)<(n3:jd))
  have UC:=az (i<n3);obtain⟨g,o,rfl,b3,bn⟩:=UQ (aI b7);obtain⟨x,hx,bo⟩:=wP (l:=c.wel) (j:=i) (by rw[<-b7];exact bm);have bp:g<M3:=aI u;have bq:g≠(r+1+1):=aI u;have U9:=(m.but.block g bp bq).trans (cq g b3);obtain⟨ux,b9,bM⟩:=ci.at (i:=i) (b:=x.body) (by rw[qu,hx];rfl);obtain⟨z,D,rfl⟩:=bM.form;have aa:=λk hk=>(dX (a:=⟨g,o+(i*3+k),A⟩) U9).trans (bn (i*3+k) _ ((wR Wl.cells 3 (λ_ _=>rfl) c.wel ub i k x _ hx b9 hk).trans (show(x.cells (jb z x.body.length D))[k]?=ja ((x.cells (jb z x.body.length D)).getD k (I N 0)) by have:(x.cells (jb z x.body.length D)).length=3:=T;simp[jO,n0 (show k<(x.cells (jb z x.body.length D)).length by omega)])))
  have d0:wr.cell? ⟨g,o+i*3,A⟩=ja (I N x.dev):=aa 0 G;have d1:wr.cell? ⟨g,o+i*3+1,A⟩=ja (I N x.u):=aa 1 G;have d2:wr.cell? ⟨g,o+i*3+2,A⟩=ja (jb z x.body.length D):=aa 2 G;clear b9;have b4:=O bo;clear bp bq U9 aa bn hx bo;obtain⟨P,Q,ac⟩:=cK m.own;have a5:((c.wel.take i).map Wl.val).length=i:=by rw[jD,qf,<-b7];omega
  rw[a5]at ac;have br:=O a5;subst ac;clear a5
  go_upto_region 15 with fail
  obtain⟨bx,a6⟩:=J wr.heap.size;have ax:=js wr (jc #[I N x.dev,I N x.u,jb z x.body.length D] 107);have n:=ao wr (jc #[I N x.dev,I N x.u,jb z x.body.length D] 107);have ZK:jk ((jP P i Q).ownBlock≠ja bx):=O (eV m.own (.inl (qg a6.symm)));rw[<-a6]at ax⊢;obtain⟨R,Y6⟩:=J (wr.alloc (jc #[I N x.dev,I N x.u,jb z x.body.length D] 107));rw[<-Y6]at ax n⊢;have ba:=n.trans ((bX R).mono n.size);have ay:jk (Bld M3 (r+1+1) W3 R.drew ((c.wel.take i).map Wl.val) (jb P i Q) us):=O (m.later Y ba);have bN:jk (bD R.drew (jb z x.body.length D) x.body):=O ((bM.keep (λg B=>(ba.block g (jN (show g<M3 by have:=u.out;omega) m.sz)).trans ((m.but.block g (aI u) (aI u)).trans (cq g B)))).bytes);clear bM;have E:R.drew.heap[(r+1+1)]?=ja (jc #[I N 3,I N 0,jj ⟨#[]⟩,jb P i Q] 152 (0,0))/\R.drew.heap[bx]?=ja (jc #[I N x.dev,I N x.u,jb z x.body.length D] 107 (0,0)):=⟨ay.box,ax⟩;clear ax n Y6 a6 m ba d0 d1 d2;refine jT ?_;refine lH (λF=>F.heap[(r+1+1)]?=ja (jc #[I N 3,I N 0,jj ⟨#[]⟩,jb P i Q] 152 (0,0))/\F.heap[bx]?=ja (jc #[I N x.dev,I N x.u,jb z x.body.length D] 107 (0,0))) 18 [(0,jf),(1,jf),(2,jf),(3,jf),(5,jf),(6,jf),(7,jf),(9,jf),(10,jf),(11,jf),(4,jp),(8,jp),(12,jp),(13,jp),(14,jp),(15,jp),(16,jp),(17,jf),(18,jp)] af af af G (λ_ _ _ _ h=>h) E ?_;generalize R.drew=wa at E ay bN⊢;refine fB ?_;refine wu ?_;refine fB ?_;refine wu ?_;iterate 2 refine fB ?_
  refine wu ?_;iterate 2 refine fB ?_
  refine wu ?_;refine dn T (λt f=>?_);go_simp;refine(kN x.dev wa).mono ?_;rintro e cj ⟨rfl,d⟩;refine f _ _ ⟨av E.1 d,av E.2 d⟩ λbO=>?_
  have ca:=O (d);have cb:=O (bN.below d);clear f d E bN;refine L ?_;refine dn T (λt f=>?_);go_simp;refine(kN x.u cj).mono ?_;rintro e ck ⟨rfl,d⟩;refine f _ _ ⟨av bO.1 d,av bO.2 d⟩ λbT=>?_
  have cc:=ai ca d;have cd:=O (cb.below d);clear f d bO ca cb;refine L ?_;refine dn T (λt f=>?_);go_simp;refine(vR _ x.body ck cd).mono ?_;rintro e wb ⟨rfl,d⟩;refine f _ _ ⟨av bT.1 d,av bT.2 d⟩ λS=>?_
  have b0:=ai cc d;clear f d bT cc cd;refine L ?_;refine dn T (λt f=>?_);go_simp;have n:=ao wb (jc #[I N 1,I N x.dev,jj ⟨#[]⟩,jb A 0 0,I N 1,I N x.u,jj ⟨#[]⟩,jb A 0 0,I N 2,I N 0,jj (ofB x.body),jb A 0 0] 152);have V:=zn wb [I N 1,I N x.dev,jj ⟨#[]⟩,jb A 0 0,I N 1,I N x.u,jj ⟨#[]⟩,jb A 0 0,I N 2,I N 0,jj (ofB x.body),jb A 0 0] 152 4 3 wa.heap.size b0.size T G;refine f _ _ ⟨av S.1 n,av S.2 n⟩ λU=>?_
  clear f;replace V:(wb.alloc (jc #[I N 1,I N x.dev,jj ⟨#[]⟩,jb A 0 0,I N 1,I N x.u,jj ⟨#[]⟩,jb A 0 0,I N 2,I N 0,jj (ofB x.body),jb A 0 0] 152)).ownsRow wa.heap.size 152 4 (jb (ja ⟨wb,0,A⟩) 3 3) 3 [I N 1,I N x.dev,jj ⟨#[]⟩,jb A 0 0,I N 1,I N x.u,jj ⟨#[]⟩,jb A 0 0,I N 2,I N 0,jj (ofB x.body),jb A 0 0]:=V;generalize wb.alloc (jc #[I N 1,I N x.dev,jj ⟨#[]⟩,jb A 0 0,I N 1,I N x.u,jj ⟨#[]⟩,jb A 0 0,I N 2,I N 0,jj (ofB x.body),jb A 0 0] 152)=wc at n V U⊢;obtain⟨s,ce⟩:∃p:jS jM,p=ja ⟨wb,0,A⟩:=⟨_,T⟩;rw[<-ce]at V⊢;have Vt:=O V;have bs:=ai b0 n;clear n V ce S b0;refine L ?_;refine dn T (λt f=>?_);go_simp;refine(mP s 3 3 wc).mono ?_;rintro e wd ⟨rfl,d⟩;refine f _ _ ⟨av U.1 d,av U.2 d⟩ λad=>?_
  have Va:=bj Vt d;have bu:=ai bs d;clear f d Vt bs U;refine L ?_;refine dn T (λt f=>?_);go_simp;have n:=ao wd (jc #[I N 3,I N 0,jj ⟨#[]⟩,jb s 3 3] 152);have au:=lx wd [I N 3,I N 0,jj ⟨#[]⟩,jb s 3 3] 152 (0,0) 4 1 1 T (jn _);refine f _ _ ⟨av ad.1 n,av ad.2 n⟩ λH=>?_
  clear f;replace au:cF (wd.alloc (jc #[I N 3,I N 0,jj ⟨#[]⟩,jb s 3 3] 152)) (jb (ja ⟨wd,0,A⟩) 1 1) 4 1 [I N 3,I N 0,jj ⟨#[]⟩,jb s 3 3]:=au;generalize wd.alloc (jc #[I N 3,I N 0,jj ⟨#[]⟩,jb s 3 3] 152)=we at n au H⊢;have Yk:=bj Va n;have Yj:=ai bu n;have UZ:=O au;have UV:=O (ay.later Y Yj);have b5:=O (show aU (λg=>M3<=g/\g<we.heap.size/\(jP P i Q).ownBlock≠ja g) we (Wl.val x) (jb s 3 3) by
   unfold Wl.val;rw[vL,aU];refine⟨j9 3 dH,aH.of_own Yk (ay.fresh Yj Yk),?_⟩;exact aM.cons (k8 _) (aM.cons (k8 _) (aM.cons (vx _) (aM.nil))))
  clear n au Va bu ad;refine L ?_;refine dn T (λt f=>?_);rw[jB aj];refine pT _ _ T M3 (jb P i Q) _ _ T UV.own _ 1 _ T UZ (by simp[j1]) (by rw[br];omega) UV.sz λv' wf K=>?_
  have Ut:=K.own;rw[br]at Ut;obtain⟨pn,cn,rfl⟩:=cK Ut;have bi:=k7 H.1 K.grown (eV UV.own (.inr Y));have WW:=k7 H.2 K.grown ZK;refine f _ _ ⟨bi,WW⟩ λbK=>?_
  replace K:=O K;clear f H Ut;refine L ?_;refine fB ?_;refine pA T (λt f=>?_);obtain⟨⟨vo,c3⟩,f3,bv,bw⟩:=ko (i:=3) (jb pn (i+1) cn) bK.1 ar;go_simp;refine f _ _ ?_;have b6:=O (UV.push Y (x:=Wl.val x) b5 K bv bw);clear f c3 f3 bv bw;refine jR ?_
  go_wp2_with fail
  refine⟨⟨i+1,_,_,by go_num,by omega,by rw[b4,j4];exact b6⟩,?_⟩;simp only[jv];omega
 have hd:=aw ((i:jd)<(n3:jd));have UC:=aw (i<n3);have bA:c.wel.take i=c.wel:=mz (by rw[<-b7];omega);replace m:jk (Bld M3 (r+1+1) W3 wr (c.wel.map Wl.val) vr us):=O (by rw[<-bA];exact m);clear bA UQ;obtain⟨n,o,ac⟩:=cK m.own;rw[jD,<-b7]at ac;subst ac;have x:=O m.fin;have D:jk (wr.heap[r+1+1]?=ja (jc #[I N 3,I N 0,jj ⟨#[]⟩,jb n n3 o] 152 (0,0))):=O m.box;have K:jk (wr.heap[r]?=ja (jc #[I N 3,I N 0,jj ⟨#[]⟩,jb bb n1 bc] 152 (0,0))):=O ((m.but.block r Y Y).trans Vl);have P:jk (wr.heap[r+1]?=ja (jc #[I N 3,I N 0,jj ⟨#[]⟩,jb bd n2 bf] 152 (0,0))):=O ((m.but.block (r+1) Y Y).trans Vz);have p:=m.sz;have z:=Wp.out;have Q:M2<=M3:=ct;replace b1:jk (aU (λg=>w.heap.size<=g/\g<wr.heap.size) wr (vL (c.chg.map ap.val)) (jb bb n1 bc)):=O (aU.mono (λg B=>⟨by have:=u.out;omega,by omega⟩) _ _ (aU.keep (λg B=>m.but.block g Y Y) _ _ b1.out));replace cf:jk (aU (λg=>w.heap.size<=g/\g<wr.heap.size) wr (vL (c.box.map Bx.val)) (jb bd n2 bf)):=O (aU.mono (λg B=>⟨by have:=u.out;omega,by omega⟩) _ _ (aU.keep (λg B=>m.but.block g Y Y) _ _ cf.out));replace x:jk (aU (λg=>w.heap.size<=g/\g<wr.heap.size) wr (vL (c.wel.map Wl.val)) (jb n n3 o)):=O (aU.mono (λg B=>⟨by have:=u.out;omega,by omega⟩) _ _ x.out);replace y:=O (y.keep (m.but.block b (aI YA) (aI YA)));replace C:jk (jl w w wr):=O (C.trans (m.but.below (aI u) (aI u)));clear p z Q
 go_upto_region 17 with fail
 obtain⟨c0,c1,YP,YO,bh,a1,a2,bk,bl⟩:=ku c q X.plen X.clen;have Q:=O X.path;obtain⟨bB,R,qp,a3,bC,bI,VU⟩:=X.path;rw[a3]at bh Q;have Vg:jk (Uz[0]?=ja (I N c.folder)):=O (by rw[bg];simpa using c0);have UI:jk (Uz[1]?=ja (I N c.epoch)):=O (by rw[bg];simpa using c1);have aa:jk (Uz[34]?=ja (I N c.author)):=O (by rw[bg];simpa using YP);have au:jk (Uz[36]?=ja (jb R c.path.length qp)):=O (by rw[bg];simpa using bh);have ax:jk (Uz[71]?=ja (I N c.r)):=O (by rw[bg];simpa using bk);have ay:jk (Uz[72]?=ja (I N c.s)):=O (by rw[bg];simpa using bl);have p:wr.drew.heap[b]?=ja (jc Uz 57 (0,0))/\wr.drew.heap[r]?=ja (jc #[I N 3,I N 0,jj ⟨#[]⟩,jb bb n1 bc] 152 (0,0))/\wr.drew.heap[r+1]?=ja (jc #[I N 3,I N 0,jj ⟨#[]⟩,jb bd n2 bf] 152 (0,0))/\wr.drew.heap[r+1+1]?=ja (jc #[I N 3,I N 0,jj ⟨#[]⟩,jb n n3 o] 152 (0,0)):=⟨by rw[bg];exact y.blk,K,P,D⟩;have z:jk (jl wr wr wr.drew):=O (bX wr);clear c0 c1 YP YO bh a1 a2 bk bl bB a3 bC bI VU bm hd UC hi Vl Vz K P D m y;refine jT ?_;refine dm (λF=>F.heap[b]?=ja (jc Uz 57 (0,0))/\F.heap[r]?=ja (jc #[I N 3,I N 0,jj ⟨#[]⟩,jb bb n1 bc] 152 (0,0))/\F.heap[r+1]?=ja (jc #[I N 3,I N 0,jj ⟨#[]⟩,jb bd n2 bf] 152 (0,0))/\F.heap[r+1+1]?=ja (jc #[I N 3,I N 0,jj ⟨#[]⟩,jb n n3 o] 152 (0,0))) (.take 0 (.take 1 (.take 3 (.take 4 (.take 6 (.take 7 (.take 9 (.take 10 (.take 12 (.take 13 (.take 14 (.take 17 (.take 18 (.take 19 (.take 20 (.take 22 (.take 23 (.take 24 (.take 26 (.take 27 (.take 28 (.one 2 (.one 5 (.one 8 (.one 11 (.one 15 (.one 16 (.one 21 (.one 25 (.one 29 (.one 30 (.take 31 .done)))))))))))))))))))))))))))))))) af af af G (λ_ _ _ _ h=>h) p ?_;generalize wr.drew=x0 at p z⊢;refine fG ?_
 (refine aV (v:=?_) T aj (λF m=>?_) ?_;rotate_left;(have k:=ah m.1 Vg;go_simp;with_reducible rfl);refine L ?_)
 refine fG ?_
 (refine aV (v:=?_) T aj (λF m=>?_) ?_;rotate_left;(have k:=ah m.1 UI;go_simp;with_reducible rfl);refine L ?_)
 iterate 3 refine fG ?_
 (refine aV (v:=?_) T aj (λF m=>?_) ?_;rotate_left;(have k:=ah m.1 aa;go_simp;with_reducible rfl);refine L ?_)
 (refine aV (v:=?_) T aj (λF m=>?_) ?_;rotate_left;(have y:=ah (i:=0) m.2.1 T;have D:=ah (i:=1) m.2.1 T;have K:=ah (i:=2) m.2.1 T;have P:=ah (i:=3) m.2.1 T;go_simp;with_reducible rfl);refine L ?_)
 refine fG ?_
 (refine aV (v:=?_) T aj (λF m=>?_) ?_;rotate_left;(have k:=ah m.1 au;go_simp;with_reducible rfl);refine L ?_)
 (refine aV (v:=?_) T aj (λF m=>?_) ?_;rotate_left;(have y:=ah (i:=0) m.2.2.1 T;have D:=ah (i:=1) m.2.2.1 T;have K:=ah (i:=2) m.2.2.1 T;have P:=ah (i:=3) m.2.2.1 T;go_simp;with_reducible rfl);refine L ?_)
 (refine aV (v:=?_) T aj (λF m=>?_) ?_;rotate_left;(have y:=ah (i:=0) m.2.2.2 T;have D:=ah (i:=1) m.2.2.2 T;have K:=ah (i:=2) m.2.2.2 T;have P:=ah (i:=3) m.2.2.2 T;go_simp;with_reducible rfl);refine L ?_)
 iterate 4 refine fG ?_
 (refine aV (v:=?_) T aj (λF m=>?_) ?_;rotate_left;(have k:=ah m.1 ax;go_simp;with_reducible rfl);refine L ?_)
 iterate 2 refine fG ?_
 (refine aV (v:=?_) T aj (λF m=>?_) ?_;rotate_left;(have k:=ah m.1 ay;go_simp;with_reducible rfl);refine L ?_)
 refine aE T (λt f=>?_);go_simp;refine(kN c.folder x0).mono ?_;rintro e x1 ⟨rfl,d⟩;refine f _ _ ⟨av p.1 d,av p.2.1 d,av p.2.2.1 d,av p.2.2.2 d⟩ λm=>?_
 have y:=ai z d;clear f d p z;refine L ?_;refine aE T (λt f=>?_);go_simp;refine(kN c.epoch x1).mono ?_;rintro e x2 ⟨rfl,d⟩;refine f _ _ ⟨av m.1 d,av m.2.1 d,av m.2.2.1 d,av m.2.2.2 d⟩ λk=>?_
 have p:=ai y d;clear f d m y;refine L ?_;refine aE T (λt f=>?_);go_simp;refine(vR _ c.parent x2 (dV.parent (q:=q) ⟨by rw[<-bg];exact k.1,X.plen,X.clen⟩)).mono ?_;rintro e F ⟨rfl,d⟩;refine f _ _ ⟨av k.1 d,av k.2.1 d,av k.2.2.1 d,av k.2.2.2 d⟩ λm=>?_
 have y:=ai p d;clear f d k p;refine L ?_;refine aE T (λt f=>?_);go_simp;refine(kN c.author F).mono ?_;rintro e K ⟨rfl,d⟩;refine f _ _ ⟨av m.1 d,av m.2.1 d,av m.2.2.1 d,av m.2.2.2 d⟩ λk=>?_
 have p:=ai y d;clear f d m y;refine L ?_;refine aE T (λt f=>?_);go_simp;refine(tC c.path _ K (aH.ints (Q.keep λg B=>((C.trans (p.mono C.size)).block g B))) Y).mono ?_;rintro e y ⟨up,rfl,m,d⟩;obtain⟨s,cu,rfl⟩:=cK m;have z:jk (y.ownsRow wr 152 4 (jb s c.path.length cu) c.path.length (ib c.path)):=O (sl m p.size);refine f _ _ ⟨av k.1 d,av k.2.1 d,av k.2.2.1 d,av k.2.2.2 d⟩ λE=>?_
 have D:=ai p d;clear m;clear f d k p;refine L ?_;refine aE T (λt f=>?_);go_simp;refine(mP s c.path.length cu y).mono ?_;rintro e P ⟨rfl,d⟩;refine f _ _ ⟨av E.1 d,av E.2.1 d,av E.2.2.1 d,av E.2.2.2 d⟩ λS=>?_
 have k:=ai D d;have m:=bj z d;clear f d E D z;refine L ?_;refine aE T (λt f=>?_);go_simp;refine(vR _ c.confirm P (dV.confirm (q:=q) ⟨by rw[<-bg];exact S.1,X.plen,X.clen⟩)).mono ?_;rintro e x7 ⟨rfl,d⟩;refine f _ _ ⟨av S.1 d,av S.2.1 d,av S.2.2.1 d,av S.2.2.2 d⟩ λU=>?_
 have p:=ai k d;have z:=bj m d;clear f d S k m;refine L ?_;refine aE T (λt f=>?_);go_simp;refine(kN c.r x7).mono ?_;rintro e S ⟨rfl,d⟩;refine f _ _ ⟨av U.1 d,av U.2.1 d,av U.2.2.1 d,av U.2.2.2 d⟩ λad=>?_
 have m:=ai p d;have D:=bj z d;clear f d U p z;refine L ?_;refine aE T (λt f=>?_);go_simp;refine(kN c.s S).mono ?_;rintro e k ⟨rfl,d⟩;refine f _ _ ⟨av ad.1 d,av ad.2.1 d,av ad.2.2.1 d,av ad.2.2.2 d⟩ λH=>?_
 have p:=ai m d;have z:=bj D d;clear f d ad m D;refine L ?_;refine aE T (λt f=>?_);go_simp;have d:=ao k (jc #[I N 1,I N c.folder,jj ⟨#[]⟩,jb A 0 0,I N 1,I N c.epoch,jj ⟨#[]⟩,jb A 0 0,I N 2,I N 0,jj (ofB c.parent),jb A 0 0,I N 1,I N c.author,jj ⟨#[]⟩,jb A 0 0,I N 3,I N 0,jj ⟨#[]⟩,jb bb n1 bc,I N 3,I N 0,jj ⟨#[]⟩,jb s c.path.length cu,I N 3,I N 0,jj ⟨#[]⟩,jb bd n2 bf,I N 3,I N 0,jj ⟨#[]⟩,jb n n3 o,I N 2,I N 0,jj (ofB c.confirm),jb A 0 0,I N 1,I N c.r,jj ⟨#[]⟩,jb A 0 0,I N 1,I N c.s,jj ⟨#[]⟩,jb A 0 0] 152);have V:=zn k [I N 1,I N c.folder,jj ⟨#[]⟩,jb A 0 0,I N 1,I N c.epoch,jj ⟨#[]⟩,jb A 0 0,I N 2,I N 0,jj (ofB c.parent),jb A 0 0,I N 1,I N c.author,jj ⟨#[]⟩,jb A 0 0,I N 3,I N 0,jj ⟨#[]⟩,jb bb n1 bc,I N 3,I N 0,jj ⟨#[]⟩,jb s c.path.length cu,I N 3,I N 0,jj ⟨#[]⟩,jb bd n2 bf,I N 3,I N 0,jj ⟨#[]⟩,jb n n3 o,I N 2,I N 0,jj (ofB c.confirm),jb A 0 0,I N 1,I N c.r,jj ⟨#[]⟩,jb A 0 0,I N 1,I N c.s,jj ⟨#[]⟩,jb A 0 0] 152 4 11 w.heap.size (jz C.size p.size) T G;replace V:(k.alloc (jc #[I N 1,I N c.folder,jj ⟨#[]⟩,jb A 0 0,I N 1,I N c.epoch,jj ⟨#[]⟩,jb A 0 0,I N 2,I N 0,jj (ofB c.parent),jb A 0 0,I N 1,I N c.author,jj ⟨#[]⟩,jb A 0 0,I N 3,I N 0,jj ⟨#[]⟩,jb bb n1 bc,I N 3,I N 0,jj ⟨#[]⟩,jb s c.path.length cu,I N 3,I N 0,jj ⟨#[]⟩,jb bd n2 bf,I N 3,I N 0,jj ⟨#[]⟩,jb n n3 o,I N 2,I N 0,jj (ofB c.confirm),jb A 0 0,I N 1,I N c.r,jj ⟨#[]⟩,jb A 0 0,I N 1,I N c.s,jj ⟨#[]⟩,jb A 0 0] 152)).ownsRow w.heap.size 152 4 (jb (ja ⟨k,0,A⟩) 11 11) 11 [I N 1,I N c.folder,jj ⟨#[]⟩,jb A 0 0,I N 1,I N c.epoch,jj ⟨#[]⟩,jb A 0 0,I N 2,I N 0,jj (ofB c.parent),jb A 0 0,I N 1,I N c.author,jj ⟨#[]⟩,jb A 0 0,I N 3,I N 0,jj ⟨#[]⟩,jb bb n1 bc,I N 3,I N 0,jj ⟨#[]⟩,jb s c.path.length cu,I N 3,I N 0,jj ⟨#[]⟩,jb bd n2 bf,I N 3,I N 0,jj ⟨#[]⟩,jb n n3 o,I N 2,I N 0,jj (ofB c.confirm),jb A 0 0,I N 1,I N c.r,jj ⟨#[]⟩,jb A 0 0,I N 1,I N c.s,jj ⟨#[]⟩,jb A 0 0]:=V;have D:=O V;refine f _ _ ⟨av H.1 d,av H.2.1 d,av H.2.2.1 d,av H.2.2.2 d⟩ λbK=>?_
 have m:=ai p d;have t:=bj z d;clear V;clear f d H p z;obtain⟨z,d⟩:=J (k.alloc (jc #[I N 1,I N c.folder,jj ⟨#[]⟩,jb A 0 0,I N 1,I N c.epoch,jj ⟨#[]⟩,jb A 0 0,I N 2,I N 0,jj (ofB c.parent),jb A 0 0,I N 1,I N c.author,jj ⟨#[]⟩,jb A 0 0,I N 3,I N 0,jj ⟨#[]⟩,jb bb n1 bc,I N 3,I N 0,jj ⟨#[]⟩,jb s c.path.length cu,I N 3,I N 0,jj ⟨#[]⟩,jb bd n2 bf,I N 3,I N 0,jj ⟨#[]⟩,jb n n3 o,I N 2,I N 0,jj (ofB c.confirm),jb A 0 0,I N 1,I N c.r,jj ⟨#[]⟩,jb A 0 0,I N 1,I N c.s,jj ⟨#[]⟩,jb A 0 0] 152));rw[<-d]at D m t⊢;clear d bK;refine L ?_;refine fG ?_;refine jR ?_
 go_wp2_with fail
 go_ret;have d:=λg (B:w.heap.size<=g/\g<wr.heap.size)=>(show w.heap.size<=g/\g<z.heap.size from⟨B.1,jN B.2 m.size⟩)
 have f:=λg (B:w.heap.size<=g/\g<wr.heap.size)=>m.block g B.2
 refine⟨_,T,⟨[dH,dH,dH,dH,jb bb n1 bc,jb s c.path.length cu,jb bd n2 bf,jb n n3 o,dH,dH,dH],D,?_⟩,C.trans (m.mono C.size)⟩;have p:aU (λg=>w.heap.size<=g/\g<z.heap.size) z (vL (c.path.map vI)) (jb s c.path.length cu):=sc t (λg B=>by
  have h:=t.lt g B;exact⟨jz C.size h.1,h.2⟩)
 exact aM.cons (k8 _) (aM.cons (k8 _) (aM.cons (vx _) (aM.cons (k8 _) (aM.cons (aU.mono d _ _ (aU.keep f _ _ b1.out)) (aM.cons p (aM.cons (aU.mono d _ _ (aU.keep f _ _ cf.out)) (aM.cons (aU.mono d _ _ (aU.keep f _ _ x.out)) (aM.cons (vx _) (aM.cons (k8 _) (aM.cons (k8 _) aM.nil))))))))))
theorem ae(h:jk (w.heap[B]?=ja o))(w':jl w w a):jk (a.heap[B]?=ja o):=O (av h w')
def cW(s:ByteArray)(l:jh Val):LBy:=dl (bZ s) (enc (vL l))
theorem eQ(s l):(cW s l).length=32:=iN _ _
theorem pE(l:jh Val):enc (vL l)=3#8::(cY l.length++encs l):=by rw[vL,enc,jI G,jI G]
structure da(l:jh Val):Prop where
 wf:wfV 16 (vL l)
 len:(enc (vL l)).length<=800000
theorem da.take{l:jh Val}(h:da l)(i:l.length<128)(k:je):da (l.take k):=by
 have g:=h.wf;have j:=h.len;refine⟨?_,?_⟩
 ·unfold vL at g⊢
  rw[wfV]at g⊢
  rcases g with⟨e,-⟩|⟨e,-⟩|⟨a,b,c,d,f⟩
  ·exact jG e G
  ·exact jG e G
  exact .inr (.inr ⟨a,b,c,xw (xx _ _) d,λx m=>f x (List.mem_of_mem_take m)⟩)
 rw[pE]at j⊢;have a:(cY (l.take k).length).length=1:=by rw[ts (xw (xx _ _) i)];rfl
 have b:(cY l.length).length=1:=by rw[ts i];rfl
 have:=wA l k;simp only[jW,jL]at j⊢;omega
theorem eR(l:LBy):(l.map v8).toArray.all (·.oneCell')=jf:=by
 rw[Array.all_eq_true_iff_forall_mem];intro a b;exact iT _ a (ak b)
theorem mF(s:ByteArray)(F:s.size<=1000)(l:jh Val)(v:ji)(w:jg)(a:aU (·<w.heap.size) w (vL l) v)(b:da l)(d:eM w)(f:gM w):
 jr jm 28 #[jj s,v] w λe w'=>e=jo (jq ((cW s l).map v8).toArray)/\jl w w w':=by
 obtain⟨p,c,rfl⟩:=a.form;have h:(vL l).l.length=l.length:=T;rw[h]at a⊢;obtain⟨n,i⟩:=J l.length;rw[<-i]at a⊢;have j:=O a;have g:=O b;have x:=O d;have y:=O f;clear a b d f i h;have b:=js w (jc a8 23);have a:=ao w (jc a8 23);have d:(w.alloc (jc a8 23)).heap.size=w.heap.size+1:=by simp
 obtain⟨o,f⟩:=J (w.alloc (jc a8 23));obtain⟨D,h⟩:=J w.heap.size;rw[<-f]at b a d;rw[<-h]at b d;have i:=O b;have k:=O a;have m:=O f;have q:=O h;have u:D<o.heap.size:=Y;clear b a d f h
 go_enter func28,ntmps28
 go_wp2_with fail
 rw[<-m,<-q];refine(mP p n c o).mono ?_;rintro e h ⟨rfl,a⟩;have r:=ae i a;have d:=ai k a;have t:jk (aU (·<h.heap.size) h (vL l) (jb p n c)):=O (aU.mono (λb (f:b<w.heap.size)=>jN f d.size) _ _ (aU.keep (λb f=>d.block b f) _ _ j.out));clear a k i u m
 go_wp2_with fail
 refine(ES (vL l) _ 3 h T g.wf t (cT g.len)).mono ?_;rintro e z ⟨H,rfl,b,a⟩;have u:=ae r a;have f:=ai d a;have B:=O (bD.of_own b);obtain⟨K,M,rfl⟩:=cK b;clear a b d r t j
 go_wp2_with fail
 refine(sg s Y _ (enc (vL l)) (cT g.len) z B (x.below f (jn _)) (y.below f (jn _))).mono ?_;rintro e d ⟨rfl,a⟩;have r:=ae u a;have t:=ai f a;have i:((dl (bZ s) (enc (vL l))).map v8).toArray.size=32:=by rw[jU,jD,iN]
 have j:=eR (dl (bZ s) (enc (vL l)));obtain⟨b,k⟩:=J (((dl (bZ s) (enc (vL l))).map v8).toArray);rw[<-k]at i j⊢;have C:=O k;have m:=O i;have E:=O j;clear k i j a u f
 go_wp2_with (refine oj T λ_ a=>o8 23 _ _ T D b T T 23 _ r.out (by rw[m];rfl) (by rw[m];simp) E (a _ _ ?_))
 have a:(d.setRow D b).heap[D]?=ja (jc b 23 (0,0)):=pz _ _ _ _ _ _ r.out;have f:jl w w (d.setRow D b):=p6 t.out (by rw[q];exact jn _) _;generalize d.setRow D b=k at a f⊢;have i:=O f;have j:=O a;clear a f
 go_wp2_with fail
 refine jX (v:=jq b) ?_ T ?_
 ·exact qd T _ _ _ 23 _ (0,0) _ T j wv T (by rw[m];rfl)
 exact⟨by rw[C];rfl,i⟩
theorem aH.take{p:jS jM}{n c sz:je}(h:aH D w (jb p n c) sz n xs){k:je}(b:k<=n):aH D w (jb p k c) sz k (xs.take (k*sz)):=by
 obtain⟨d,t,u,e,v,f,i⟩:=h;injection e with l x m
 subst l;subst m;refine⟨?_,p,c,T,by omega,f,λy=>?_⟩
 ·rw[qf,d,qC (rv _ b)]
 obtain⟨g,o,e,q,r⟩:=i Y;refine⟨g,o,e,q,λj s a=>r j s ?_⟩;rw[xo]at a
 split at a
 ·exact a
 cases a
theorem G8:∀(l:jh Val) (a:jh ji) (k:je),a.length=l.length->cR (l.take k) (a.take k)=(cR l a).take (k*4)
 |[],a,k,h=>by
  have:a=[]:=qs (ak h);subst this;simp[cR]
 |x::l,[],k,h=>by simp at h
 |x::l,b::a,0,h=>by simp[cR]
 |x::l,b::a,k+1,h=>by
  have c:(gT x b).length=4:=T;simp only[xy,cR,G8 l a k (ak h)];have e:List.take ((k+1)*4) (gT x b)=gT x b:=mz (by rw[c];omega);rw[List.take_append,c,show(k+1)*4-4=k*4 by omega,e]
theorem aM.take:∀{l:jh Val} {a:jh ji} (k:je),aM D w l a->aM D w (l.take k) (a.take k)
 |[],a,k,h=>by rw[aM]at h;subst h;simp[aM]
 |x::l,a,0,h=>by simp[aM]
 |x::l,a,k+1,h=>by
  rw[aM]at h;obtain⟨b,e,rfl,c,d⟩:=h;simp only[xy];rw[aM];exact⟨b,_,T,c,aM.take k d⟩
theorem vf{i:je}(h:w.ownsRow B e m d i b)(n:0<i):∃g c,d=jb (ja ⟨g,0,A⟩) i c/\i<=c/\B<=g/\g<w.heap.size:=by
 rcases h.2 with⟨rfl,j⟩|⟨g,a,k,rfl,xs,v,f,-⟩
 ·omega
 exact⟨g,a,T,f,xs,(jK.1 v).1⟩
theorem zw(c:Cmt):(aR c).length=11:=T
theorem vz.val{c:Cmt}{p:jS jM}(h:vz w a c (jb p B m))(k:je)(f:k<=11):B=11/\aU (·<a.heap.size) a (vL ((aR c).take k)) (jb p k m):=by
 obtain⟨l,w',i⟩:=h;obtain⟨_,_,e⟩:=cK w';injection e with q d r
 subst d;have o:=i.len;refine⟨T,?_⟩;rw[vL,aU];have j:=(aH.of_own (D:=(·<a.heap.size)) w' (λg b=>(w'.lt g b).2)).take f;rw[<-G8 _ _ _ o]at j;refine⟨l.take k,?_,aM.mono (λg b=>b.2) _ _ (i.take k)⟩;rw[qf,zw,qC f];exact j
theorem Ey{u:Val}(h:u∈f):(enc u).length<=(encs f).length:=by
 obtain⟨i,a⟩:=xu h;have b:=wA f (i+1);rw[wh a,jL]at b;omega
theorem Lx(l:jh Val):l.length<=(enc (vL l)).length:=by
 have:=AM l;rw[pE,jW,jL];omega
theorem da.lens{c:Cmt}(h:da (aR c)):c.chg.length<=1000000/\c.path.length<=1000000/\c.box.length<=1000000/\c.wel.length<=1000000:=by
 have g:=h.len;have k:∀l:jh Val,vL l∈aR c->l.length<=1000000:=λl f=>by
  have a:=Ey f;have b:=Lx l;have d:(encs (aR c)).length<=(enc (vL (aR c))).length:=by rw[pE,jW,jL];omega
  omega
 have a:=k (c.chg.map ap.val) (by simp[aR]);have b:=k (c.path.map vI) (by simp[aR]);have d:=k (c.box.map Bx.val) (by simp[aR]);have e:=k (c.wel.map Wl.val) (by simp[aR]);rw[jD]at a b d e;exact⟨a,b,d,e⟩
structure bP(w:jg):Prop where
 num:eM w
 start:gM w
theorem bP.below(h:bP w)(a:jl w w w'):bP w':=⟨h.num.below a (jn _),h.start.below a (jn _)⟩
def sw:ByteArray:=⟨#[99,111,109,109,105,116]⟩
def tq:ByteArray:=⟨#[99,111,109,109,105,116,32,115,105,103,110]⟩
def aG(c:Cmt):LBy:=cW sw (aR c)
def dp(c:Cmt):LBy:=cW tq ((aR c).take 9)
theorem dS(c):(aG c).length=32:=eQ _ _
theorem Mn(c):(dp c).length=32:=eQ _ _
theorem mM:(jm.info? 57).map (·.size)=ja 73:=by kernel_rfl
theorem sZ(c:Cmt)(q:CQ)(w:jg)(h:aZ (·<w.heap.size) w c q)(m:da (aR c))(n:bP w):
 jr jm 13 #[jq (aF c q).toArray] w λe w'=>e=jo (jq ((aG c).map v8).toArray)/\jl w w w':=by
 have y:=O h;have o:=O m;have r:=O n;obtain⟨d,i⟩:=J ((aF c q).toArray);rw[<-i];have s:=O i;have p:d.size=73:=by rw[i,jU,dz c q h.plen h.clen]
 have z:=O p;have f:=js w (jc d 57);have g:=js (w.alloc (jc d 57)) (jc a8 23);have a:jl w w ((w.alloc (jc d 57)).alloc (jc a8 23)):=((jy _ w).alloc (jn _) _).alloc ar _;replace f:=av f (ao (w.alloc (jc d 57)) (jc a8 23));rw[jC]at g;obtain⟨B,j⟩:=J ((w.alloc (jc d 57)).alloc (jc a8 23));obtain⟨b,k⟩:=J w.heap.size;rw[<-j]at g a f;rw[<-k]at g f;have t:=O g;have l:=O a;have u:=O f;have v:=O j;have x:=O k;clear g a j k f i p h m n
 go_enter func13,ntmps13
 go_upto_region 1 with fail
 rw[<-v,<-x];clear v
 go_wp2_with (refine o1 T 57 _ T b T 57 d (0,0) _ u.out underlying57 T (by rw[z];exact mM) ?_)
 obtain⟨h,i,j,k⟩:=o.lens;rw[s];refine(tl c q B (y.below l) h i j k).mono ?_;rintro e C ⟨v,rfl,f,a⟩;obtain⟨p,m,rfl⟩:∃p m,v=jb p 11 m:=by obtain⟨K,D,-⟩:=f;exact cK D
 have E:=O f;have n:=ae t a;have g:=ai l a;rw[<-s];clear f a t l u h i j k
 go_wp2_with fail
 refine(mF sw G (aR c) _ C (E.val 11 (jn _)).2 o (r.below g).num (r.below g).start).mono ?_;rintro e h ⟨rfl,a⟩;have t:=ae n a;have u:=ai g a;have i:((cW sw (aR c)).map v8).toArray.size=32:=by rw[jU,jD,eQ]
 have j:=eR (cW sw (aR c));obtain⟨f,k⟩:=J (((cW sw (aR c)).map v8).toArray);rw[<-k]at i j⊢;have F:=O k;have l:=O i;have H:=O j;clear k i j a n g
 go_wp2_with (refine oj T λ_ a=>o8 23 _ _ T (b+1) f T T 23 _ t.out (by rw[l];rfl) (by rw[l];simp) H (a _ _ ?_))
 have a:(h.setRow (b+1) f).heap[b+1]?=ja (jc f 23 (0,0)):=pz _ _ _ _ _ _ t.out;have g:jl w w (h.setRow (b+1) f):=p6 u.out (by rw[x];omega) _;generalize h.setRow (b+1) f=k at a g⊢;have i:=O g;have j:=O a;clear a g
 go_wp2_with fail
 refine jX (v:=jq f) ?_ T ?_
 ·exact qd T _ _ _ 23 _ (0,0) _ T j wv T (by rw[l];rfl)
 exact⟨by rw[F];rfl,i⟩
theorem wj{P:qN}(t e:jH)(k:je)(a:P.underlying t=ja (.slice e))(b:∀w,(sizeOf e).run P w=.ok k w)(g o n c h:je)(d:h<=c)(W:jg):
 (Instr.sliceAt t (jb (ja ⟨g,o,A⟩) n c) A (ja (I N (h:jd))) A).run P W=.ok (jb (ja ⟨g,o,A⟩) h c) W:=by
 have he:P.elem t=e:=by simp[Program.elem,a]
 rw[run_sliceAt_slice W t _ _ _ _ (by rw[he];exact a),run_slice_h W t _ n c (by rw[he];exact a) .i64 _ Y Y,he];simp[b,Result.andThen,sliced,Addr.add]
 try(split<;>simp_all)
theorem wQ:∀w,(sizeOf 152).run jm w=.ok 4 w:=λw=>by go_simp
theorem nU(h:w.heap[B]?=ja (jc (j.map v8).toArray 23 (0,0)))(a:j.length=32):bD w (jb (ja ⟨B,0,A⟩) 32 32) j:=by
 refine⟨_,32,by rw[a],by rw[a];exact jn _,(λh=>by cases h),λ_=>⟨B,0,T,λl b=>ah h ?_⟩⟩;rw[lw];simp[jO,b]
theorem Hb(c:Cmt)(q:CQ)(w:jg)(f:aZ (·<w.heap.size) w c q)(l:da (aR c))(m:bP w):
 jr jm 52 #[jq (aF c q).toArray] w λe w'=>∃D,e=jo (jb (ja ⟨D,0,A⟩) 32 32)/\bD w' (jb (ja ⟨D,0,A⟩) 32 32) (dp c)/\jl w w w':=by
 have y:=O f;have o:=O l;have p:=O m;obtain⟨i,g⟩:=J ((aF c q).toArray);rw[<-g];have r:=O g;have n:i.size=73:=by rw[g,jU,dz c q f.plen f.clen]
 have z:=O n;have d:=js w (jc i 57);have a:=ao w (jc i 57);obtain⟨B,h⟩:=J (w.alloc (jc i 57));obtain⟨b,j⟩:=J w.heap.size;rw[<-h]at a d;rw[<-j]at d;have k:=O a;have s:=O d;have t:=O h;have C:=O j;clear a h j d g n f l m
 go_enter func52,ntmps52
 go_upto_region 1 with fail
 rw[<-t,<-C];clear t
 go_wp2_with (refine o1 T 57 _ T b T 57 i (0,0) _ s.out underlying57 T (by rw[z];exact mM) ?_)
 obtain⟨m,n,t,u⟩:=o.lens;rw[r];refine(tl c q B (y.below k) m n t u).mono ?_;rintro e E ⟨v,rfl,j,a⟩;obtain⟨l,f,rfl,P⟩:∃g f,v=jb (ja ⟨g,0,A⟩) 11 f/\11<=f:=by
  obtain⟨H,h,-⟩:=j;obtain⟨g,c,x,F,-⟩:=vf h G;exact⟨g,c,x,F⟩
 have F:=O j;have h:=ai k a;have H:∀W,(Instr.sliceAt 93 (jb (ja ⟨l,0,A⟩) 11 f) A (ja (I N 9)) A).run jm W=.ok (jb (ja ⟨l,0,A⟩) 9 f) W:=λW=>wj 93 152 4 wt wQ l 0 11 f 9 Y W
 rw[<-r];clear j a k s m n t u
 go_wp2_with fail
 refine(mF tq G ((aR c).take 9) _ E (F.val 9 G).2 (o.take (by rw[zw];decide) 9) (p.below h).num (p.below h).start).mono ?_;rintro e j ⟨rfl,a⟩;have s:=ai h a;have t:((cW tq ((aR c).take 9)).map v8).toArray.size=32:=by rw[jU,jD,eQ]
 have k:=eR (cW tq ((aR c).take 9));obtain⟨m,n⟩:=J (((cW tq ((aR c).take 9)).map v8).toArray);rw[<-n]at t k⊢;have u:=O n;have Q:=zm j a8 m T t k;have x:=js j (jc m 23);have K:=O x;have M:=O (s.trans ((ao j (jc m 23)).mono s.size));clear n a h k x H
 go_wp2_with fail
 go_ret;have h:=K.out;rw[u]at h;have d:=nU h (eQ _ _);rw[<-u]at d;refine⟨j.heap.size,T,?_,M⟩;exact d
structure yw(b:je)(a:LBy)(w w':jg):Prop where
 buf:Buf b a w'
 bel:jl b w w'
theorem Ij(k:LBy)(g:je){W:jg}{t:jH}(h:W.heap[g]?=ja (jc (k.map v8).toArray t (0,0))):∀j v,(k.map v8)[j]?=ja v->W.cell? ((⟨g,0,A⟩:jM).add j)=ja v:=by
 intro j v a;have e:(⟨g,0,A⟩:jM).add j=⟨g,j,A⟩:=by unfold Addr.add;split<;>simp_all
 rw[e];exact ah h (by rw[List.getElem?_toArray];exact a)
theorem Gh(b:je)(a d:LBy)(g n c:je)(w:jg)(h:Buf b a w)(f:d.length=n)(i:g≠b)(k:∀j v,(d.map v8)[j]?=ja v->w.cell? ((⟨g,0,A⟩:jM).add j)=ja v)(m:a.length+n<=1000000):
 jr jm 104 #[jA (ja ⟨b,0,A⟩),jb (ja ⟨g,0,A⟩) n c] w λe w'=>e=jo (jw #[I N n,.nilIface])/\yw b (a++d) w w':=by
 refine(Tryz.Buffer_Write_at _ _ b b 0 (a.map v8) (d.map v8) ⟨g,0,A⟩ n c w h (sn h.lt) (gS _) (by rw[jD];exact f) i k (gS _) (by rw[jD];omega)).mono ?_;rintro e w' ⟨rfl,j,l,-⟩;exact⟨T,by unfold Buf;rw[j4];exact j,l⟩
theorem uh(b:je)(a k:LBy)(w:jg)(h:Buf b a w)(o:k.length=32)(r:a.length<=900000):
 jr jm 103 #[jA (ja ⟨b,0,A⟩),jq (k.map v8).toArray] w λe w'=>e=jo (jA (ja ⟨b,0,A⟩))/\yw b (a++k) w w':=by
 obtain⟨i,l⟩:=J ((k.map v8).toArray);rw[<-l];have p:=h.lt;have d:=ao w (jc i 27);have m:=js w (jc i 27);obtain⟨c,f⟩:=J (w.alloc (jc i 27));obtain⟨g,n⟩:=J w.heap.size;have s:=O f;have t:=O n;rw[<-f]at d;rw[<-f,<-n]at m;have u:jk (g≠b):=O Y;have q:=O (h.keep d);have x:=O (d.mono (sn p));have y:jk (∀j v,(k.map v8)[j]?=ja v->c.cell? ((⟨g,0,A⟩:jM).add j)=ja v):=O (Ij k g (by rw[<-l];exact m));have v:=O o;have z:jk (a.length+32<=1000000):=O Y;clear l h p d m f n o r
 go_enter func103,ntmps103
 go_upto_region 1 with fail
 rw[<-s,<-t];refine jT ?_;refine dm (λd=>True) (.take 0 (.take 1 (.take 2 (.take 3 (.one 4 .done))))) af af af G (λ_ _ _ _ h=>h) trivial ?_;iterate 4 refine aP ?_
 refine aE T (λd f=>?_);go_simp;refine(Gh b a k g 32 32 c.drew (q.keep (bX c)) v u y z).mono ?_;rintro e l ⟨rfl,d⟩;have j:jk (yw b (a++k) c l):=O ⟨d.buf,((bX c).mono (sn q.lt)).trans d.bel⟩;clear d;refine f _ _ trivial λ_=>?_
 clear f;refine L ?_;refine jR ?_
 go_wp2_with fail
 go_ret;exact⟨T,j.buf,x.trans j.bel⟩
theorem Db(b:je)(a:LBy)(s:ByteArray)(B:s.size<=100000)(w:jg)(h:Buf b a w)(C:a.length<=900000)(t:bP w):
 jr jm 105 #[jA (ja ⟨b,0,A⟩),jj s] w λe w'=>e=jo (jq ((dl (bZ s) a).map v8).toArray)/\jl w w w':=by
 obtain⟨g,i⟩:=J (dl (bZ s) a);have j:=iN (bZ s) a;rw[<-i]at j⊢;have k:(g.map v8).toArray.size=32:=by rw[jU,jD,j]
 have l:(g.map v8).toArray.all (·.oneCell')=jf:=by
  rw[List.all_toArray,List.all_eq_true];exact λc d=>gS _ c d
 obtain⟨m,n⟩:=J ((g.map v8).toArray);rw[<-n]at k l⊢;have D:=O n;have E:=O i;have o:=O k;have F:=O l;have c:=ao w (jc a8 27);have p:=js w (jc a8 27);obtain⟨H,d⟩:=J (w.alloc (jc a8 27));obtain⟨f,q⟩:=J w.heap.size;have K:=O d;rw[<-d]at c;rw[<-d,<-q]at p;have u:=O (h.keep c);have x:=O (t.below c);have y:=O c;have r:=O p;have z:=O q;clear h c p t n i j k l d q
 go_enter func105,ntmps105
 go_wp2_with fail
 rw[<-K,<-z];refine(QZ b a H u).mono ?_;rintro e l ⟨v,rfl,d,c⟩;have h:=sg s B v a C l (bD.of_own (by rw[jD]at d;exact d)) (x.below c).num (x.below c).start;rw[<-E,<-D]at h;have j:=O h;have i:=O ((c.block _ (jK.1 r).1).trans r);have k:=ai y c;clear c r y u h d
 go_wp2_with fail
 refine j.mono ?_;rintro e h ⟨rfl,c⟩;have d:=O ((c.block _ (jK.1 i).1).trans i);have n:=ai k c;clear c i k j
 go_wp2_with (refine oj T λ_ c=>o8 27 _ _ T f m T T 27 _ d.out (by rw[o];rfl) (by rw[o];rfl) F (c _ _ ?_))
 have c:(h.setRow f m).heap[f]?=ja (jc m 27 (0,0)):=pz _ _ _ _ _ _ d.out;refine jX (qd T _ _ f 27 _ (0,0) _ T c ms T (by rw[o];rfl)) T ?_;exact⟨T,p6 n.out (by rw[z];exact jn _) _⟩
def li(s:ByteArray)(nums:jh jd):Val:=vL (.mk 2 0 s []::nums.map vI)
def dZ(k:LBy)(s:ByteArray)(nums:jh jd):LBy:=dl (bZ ⟨#[100,101,114,105,118,101]⟩) (k++enc (li s nums))
theorem pB(k s nums):(dZ k s nums).length=32:=iN _ _
def lF(s:ByteArray)(nums:jh jd):jh ji:=[I N 2,I N 0,jj s,jb A 0 0]++ib nums
theorem Sj{a:ji}{s:ByteArray}{nums:jh jd}(b:w.ownsRow B 152 4 a (nums.length+1) (lF s nums))(c:∀g,a.ownBlock=ja g->D g):aU D w (li s nums) a:=by
 rw[li,vL,aU];refine⟨dH::j9 nums.length dH,?_,?_⟩
 ·rw[jW,jD];exact aH.of_own b c
 rw[aM];refine⟨dH,_,T,?_,wX nums⟩;rw[aU];exact⟨[],⟨T,A,0,T,jn _,λ_=>rfl,λh=>jG h G⟩,by rw[aM]⟩
structure AN(s:ByteArray)(nums:jh jd):Prop where
 wf:wfV 16 (li s nums)
 len:(enc (li s nums)).length<=800000
 cnt:nums.length<=100000
theorem Qw(s:ByteArray)(l:jh jd)(n:jd):lF s (l++[n])=lF s l++[I N 1,I N n,jj ⟨#[]⟩,jb A 0 0]:=by
 unfold lF;rw[Iy,j6]
theorem Nl{i:je}(h:w.ownsRow B e m d i b)(sz:0<i):∃g c,d=jb (ja ⟨g,0,A⟩) i c/\B<=g/\g<w.heap.size/\∀j xs,b[j]?=ja xs->w.cell? ((⟨g,0,A⟩:jM).add j)=ja xs:=by
 rcases h.2 with⟨rfl,o⟩|⟨g,f,p,rfl,n,v,q,r,s,k⟩
 ·omega
 refine⟨g,f,T,n,(jK.1 v).1,λj xs a=>?_⟩;have e:(⟨g,0,A⟩:jM).add j=⟨g,j,A⟩:=by unfold Addr.add;split<;>simp_all
 rw[e];refine ah v ?_;rw[<-k]at a;have l:=(xq.1 a).1;rw[qf]at l;rw[rn Y]at a;rw[<-a];simp
theorem Fo(h:∀j w',b[j]?=ja w'->w.cell? ((⟨B,0,A⟩:jM).add j)=ja w')(xs:a.heap[B]?=w.heap[B]?):∀j w',b[j]?=ja w'->a.cell? ((⟨B,0,A⟩:jM).add j)=ja w':=by
 intro j w' c;have e:(⟨B,0,A⟩:jM).add j=⟨B,j,A⟩:=by unfold Addr.add;split<;>simp_all
 have:=h j w' c;rw[e]at this⊢;exact(dX xs).trans this
theorem sB(k:LBy)(r:k.length=32)(s:ByteArray)(l:jh jd)(v:ji)(w:jg)(hv:de w v l)(f:AN s l)(K:bP w):
 jr jm 47 #[jq (k.map v8).toArray,jj s,v] w λe w'=>e=jo (jq ((dZ k s l).map v8).toArray)/\jl w w w':=by
 obtain⟨p,c,rfl,hc,t⟩:=hv;obtain⟨n,u⟩:=J l.length;have hl:=f.cnt;rw[<-u]at hc hl t⊢;have z:=O u;have B:=O f;have S:=O t;have C:=O r;obtain⟨h,g⟩:=J ((k.map v8).toArray);have M:h.size=32:=by rw[g,jU,jD,r]
 have x:=ao w (jc h 27);have y:=js w (jc h 27);have E:=ao (w.alloc (jc h 27)) (jc a8 27);have b:=js (w.alloc (jc h 27)) (jc a8 27);rw[jC]at b;obtain⟨a,i⟩:=J ((w.alloc (jc h 27)).alloc (jc a8 27));obtain⟨d,o⟩:=J w.heap.size;have q:=(E.block _ (jK.1 y).1).trans y;have m:=O (x.trans (E.mono x.size));have P:a.heap.size=d+1+1:=by rw[i,o];simp
 rw[<-o]at q b;rw[<-i]at q b m;rw[<-g];have U:=O g;have Vq:=O i;have F:=O o;have WY:=O q;have UG:=O b;have H:=O K;have UX:=O M;have j:=O P;clear u f t r g x y E b i o q K M P
 go_enter func47,ntmps47
 go_upto_region 2 with fail
 rw[<-Vq,<-F];have b:=ao a (jc #[I N 2,I N 0,jj s,jb A 0 0] 152);have g:(a.alloc (jc #[I N 2,I N 0,jj s,jb A 0 0] 152)).ownsRow a.heap.size 152 4 (jb (ja ⟨d+1+1,0,A⟩) 1 1) 1 (lF s []):=by
  rw[<-j];refine⟨by simp[lF,ib,cR],.inr ⟨a.heap.size,1,_,T,jn _,js a _,jn _,by unfold j3;omega,rfl,by simp[lF,ib,cR]⟩⟩
 obtain⟨W2,i⟩:=J (a.alloc (jc #[I N 2,I N 0,jj s,jb A 0 0] 152));rw[<-i]at b g⊢;have Ug:=O b;have V:=O g;obtain⟨v2,o⟩:=J (jP (ja ⟨d+1+1,0,A⟩) 1 1);rw[<-o]at V⊢;have bc:=b.size;clear b g i o
 go_wp2_with fail
 go_loopw [7,18] (λg b wr=>∃(i:je) (K:ji),g=K/\b=I N i/\i<=n/\jk (wr.ownsRow a 152 4 K (i+1) (lF s (l.take i)))/\jk (jl a a wr)) (λ_ b _=>n-(jv b).toNat)
 case atStart=>exact⟨0,_,T,T,jJ _,O (by rw[List.take_zero];exact V),Ug⟩
 obtain⟨i,K,rfl,rfl,hi,t,q⟩:=hrel
 by_cases W:i<n
 ·have X:=az ((i:jd)<(n:jd))
  have UC:=az (i<n);obtain⟨g,o,rfl,u⟩:=S Y;have r:i<l.length:=by rw[<-z];exact W
  have E:l.getD i 0=l[i]:=by simp[jO,r]
  obtain⟨y,x⟩:=J (l.getD i 0);have b:=u i W;rw[<-x]at b;have M:wr.cell? ⟨g,o+i,A⟩=ja (I N y):=(dX (q.block g (jN (ge b) m.size))).trans ((dX (m.block g (ge b))).trans b);have H:jk (lF s (l.take (i+1))=lF s (l.take i)++[I N 1,I N y,jj ⟨#[]⟩,jb A 0 0]):=O (by
   rw[ow r,Qw,x,E])
  have P:=q.size;clear E x b u r S
  go_wp2_with (at_builtin;refine Hid.out ?_)
  refine O ?_;refine oj T λ_ x=>pT _ _ T a.heap.size _ _ _ T (cL t (ao wr _)) _ 1 [I N 1,I N y,jj ⟨#[]⟩,jb A 0 0] T (lx wr [I N 1,I N y,jj ⟨#[]⟩,jb A 0 0] _ _ 4 1 1 T (jn _)) (by simp[j1]) (show i+1+1<=4000000 by omega) (by rw[jC];omega) λE w6 b=>x _ _ ?_
  have r:=O (q.trans (((ao wr _).mono (show a.heap.size<=wr.heap.size by omega)).trans (b.below (cL t (ao wr _)) (by rw[jC];omega))));replace b:=O b.own;clear x
  go_wp2_with fail
  refine⟨⟨i+1,_,T,by go_num,by omega,O (by rw[H];exact b),r⟩,?_⟩;simp only[jv];omega
 have X:=aw ((i:jd)<(n:jd));have UC:=aw (i<n);have o:i=n:=Y;have b:=t.out;rw[o,mz (by rw[<-z];exact jn _),z]at b;obtain⟨p7,c7,rfl⟩:=cK b;have y:=Sj (D:=(·<wr.heap.size)) b (λg u=>(b.lt g u).2);have aa:=O (ES (li s l) _ 3 wr T B.wf y (cT B.len));have bd:=O o;clear o b y t
 go_wp2_with fail
 refine aa.mono ?_;rintro e u ⟨vb,rfl,ac,b⟩;have o:=ai q b;clear b
 go_upto_region 9 with fail
 have y:=Buf.new u;have g:=ao u (jc #[jb A 0 0,I N 0,.int .i8 0] 198);obtain⟨M,YX⟩:=J (u.alloc (jc #[jb A 0 0,I N 0,.int .i8 0] 198));obtain⟨b,P⟩:=J u.heap.size;rw[<-YX]at y g⊢;rw[<-P]at y⊢;have ad:=o.size;have Q:M.heap[d]?=ja (jc h 27 (0,0)):=(g.block _ (aI j)).trans ((o.block _ (aI j)).trans WY);have au:M.heap[d+1]?=ja (jc a8 27 (0,0)):=(g.block _ (aI j)).trans ((o.block _ (aI j)).trans UG);have ax:=Q;rw[U]at Q;obtain⟨gb,cb,e3,ba,R,t⟩:=Nl ac (DJ _);subst e3;have ay:gb<b:=by rw[P];exact R
 replace t:=Fo t (g.block _ R);obtain⟨E,f⟩:=J (enc (li s l));have a1:E.length<=800000:=by rw[f];exact B.len
 rw[<-f]at t⊢;have a2:=O y;have a3:=O ax;have Yv:=O au;have YY:=O t;have bb:=O f;have VW:=O ay;have a4:=O a1;have Uq:=O (m.trans ((o.mono m.size).trans (g.mono (jz m.size ad))));have a5:jk (w.heap.size<=b):=O (ee j F);have a6:jk (d+1<b):=O (aI j);clear y g YX P ad Q au ax ac ba R t ay f a1 aa o q j X UC;refine qP ?_;refine o1 T 27 _ T d T 27 h (0,0) _ a3.out ms T (by rw[UX];rfl) ?_
 go_wp2_with fail
 have f:=uh b [] k M a2 C ar;rw[<-U]at f;refine f.mono ?_;clear f;rintro e y ⟨rfl,f⟩;rw[qa]at f;have g:jk (∀j v,(E.map v8)[j]?=ja v->y.cell? ((⟨gb,0,A⟩:jM).add j)=ja v):=O (by
  exact Fo YY (f.bel.block _ VW.out))
 have j:=O ((f.bel.block _ a6.out).trans Yv);have q:=O (Uq.trans (f.bel.mono a5));have t:=O f.buf;clear f Yv Uq YY a3 a2
 go_wp2_with fail
 refine(Gh b k E gb E.length cb y t T (Nat.ne_of_lt VW) g (by have:=a4.out;rw[C];omega)).mono ?_;rintro e w6 ⟨rfl,f⟩;have o:=O ((f.bel.block _ a6.out).trans j);have r:=O (q.trans (f.bel.mono a5));have ac:=O f.buf;clear f j q t g;have f:=Db b (k++E) ⟨#[100,101,114,105,118,101]⟩ G w6 ac (by have:=a4.out;rw[jL,C];omega) (H.below r);have P:dl (bZ ⟨#[100,101,114,105,118,101]⟩) (k++E)=dZ k s l:=by rw[bb];rfl
 rw[P]at f;have Q:=pB k s l;have q:=eR (dZ k s l);obtain⟨g,j⟩:=J (((dZ k s l).map v8).toArray);have R:g.size=32:=by rw[j,jU,jD,Q]
 rw[<-j]at f q;have aa:=O f;have Zk:=O j;have t:=O R;have ad:=O q;clear f P Q q j R
 go_wp2_with fail
 refine aa.mono ?_;rintro e q ⟨rfl,f⟩;have j:=O ((f.block _ (jK.1 o).1).trans o);have P:=ai r f;clear f o r aa
 go_wp2_with (refine oj T λ_ x=>o8 27 _ _ T (d+1) g T T 27 _ j.out (by rw[t];rfl) (by rw[t];rfl) ad (x _ _ ?_))
 have f:(q.setRow (d+1) g).heap[d+1]?=ja (jc g 27 (0,0)):=pz _ _ _ _ _ _ j.out;refine jX (qd T _ _ (d+1) 27 _ (0,0) _ T f ms T (by rw[t];rfl)) T ?_;exact⟨by rw[Zk],p6 P.out (by rw[F];exact Nat.le_succ _) _⟩
def o5(s:ByteArray)(a b:LBy):LBy:=dl (bZ ⟨#[109,105,120]⟩) ([]++dN (bZ s)++a++b)
theorem Ev(s a b):(o5 s a b).length=32:=iN _ _
theorem Mc:(jm.info? 27).map (·.size)=ja 32:=by kernel_rfl
theorem tt{a:Act}{o:nv}{x:Operand}(e:h.size=32)(f:o.op=.load 27 x)(g:a.eval x=jA (ja ⟨B,0,A⟩))(i:w.heap[B]?=ja (jc h 27 (0,0))):
 (qx a.eval o).run jm w=.ok (.value (jq h)) w:=by
 have c:=fx (P:=jm) o a 27 x f B 0 g h.toList _ (vM (t:=27) (l:=h.toList) (ak i)) ms T (by rw[Array.length_toList,e];exact Mc)
 simpa using c
theorem Q4(s:ByteArray)(R:s.size<=100000)(g i:LBy)(q:g.length=32)(r:i.length=32)(w:jg)(S:bP w):
 jr jm 91 #[jj s,jq (g.map v8).toArray,jq (i.map v8).toArray] w λe w'=>e=jo (jq ((o5 s g i).map v8).toArray)/\jl w w w':=by
 obtain⟨A0,U⟩:=J (((dN (bZ s)).map v8).toArray);obtain⟨k,t⟩:=J ((g.map v8).toArray);obtain⟨l,u⟩:=J ((i.map v8).toArray);have V:k.size=32:=by rw[t,jU,jD,q]
 have W:l.size=32:=by rw[u,jU,jD,r]
 have X:=Ev s g i;have z:=eR (o5 s g i);obtain⟨m,x⟩:=J (((o5 s g i).map v8).toArray);have aa:m.size=32:=by rw[x,jU,jD,X]
 rw[<-x]at z⊢;rw[<-t,<-u];obtain⟨f,d⟩:=J w.heap.size;obtain⟨j,c⟩:=J (((w.alloc (jc k 27)).alloc (jc l 27)).alloc (jc a8 27));have hp:j.heap[f]?=ja (jc k 27 (0,0)):=by
  rw[c,d];exact(jF _ _ _ (by simp;omega)).trans ((jF _ _ _ ar).trans (js w _))
 have ac:j.heap[f+1]?=ja (jc l 27 (0,0)):=by
  have h:=js (w.alloc (jc k 27)) (jc l 27);rw[jC]at h;rw[c,d];exact(jF _ _ _ ar).trans h
 have hr:j.heap[f+1+1]?=ja (jc a8 27 (0,0)):=by
  have h:=js ((w.alloc (jc k 27)).alloc (jc l 27)) (jc a8 27);rw[jC,jC]at h;rw[c,d];exact h
 have a:jl w w j:=by
  rw[c];exact(((jy _ w).alloc (jn _) _).alloc ar _).alloc (by simp;omega) _
 have ad:j.heap.size=f+1+1+1:=by rw[c,d];simp
 have o:=Buf.new j;have n:=ao j (jc #[jb A 0 0,I N 0,.int .i8 0] 198);obtain⟨W2,B⟩:=J (j.alloc (jc #[jb A 0 0,I N 0,.int .i8 0] 198));rw[<-B]at o n;rw[ad]at o;obtain⟨b,C⟩:=J (f+1+1+1);rw[<-C]at o;have D:jk (w.heap.size<=b):=O Y;have E:jk (f<b):=O Y;have F:jk (f+1<b):=O Y;have H:jk (f+1+1<b):=O Y;have au:=O o;have K:=ae hp n;have M:=ae ac n;have UF:=ae hr n;have Ug:=O (a.trans (n.mono a.size));have HG:=O d;have Vq:=O c;have ay:=O B;have VT:=O C;have Vg:=O U;have UI:=O t;have U7:=O u;have a1:=O V;have YZ:=O W;have Zk:=O x;have P:=O aa;have a2:=O z;have p:=O q;have ax:=O r;have Q:=O S;have y:jk (s.size<=100000/\(dN (bZ s)).length=32):=O ⟨R,mB _⟩;clear d c B C U t u V W x X aa z q r S R hp ac hr a ad o n
 go_enter func91,ntmps91
 go_upto_region 2 with fail
 rw[<-HG,<-Vq,<-ay,<-VT];refine jT ?_;refine dm (λc=>c.heap[f]?=ja (jc k 27 (0,0))/\c.heap[f+1]?=ja (jc l 27 (0,0))) (.take 0 (.take 4 (.take 6 (.one 1 (.one 2 (.one 3 (.one 5 (.one 7 (.one 8 (.one 9 .done)))))))))) af af af G (λ_ _ _ _ h=>h) ⟨K,M⟩ ?_;obtain⟨o,d⟩:=J W2.drew;have a:=bX W2;rw[<-d]at a⊢;have x:=O (au.keep a);have z:=ae UF a;have B:=ae K a;have C:=ae M a;have R:=ai Ug a;clear au UF K M Ug a d;refine aP ?_
 (refine aV (v:=jq k) T aj (λc d=>tt a1 T T d.1) (L ?_))
 (refine aV (v:=jq l) T aj (λc d=>tt YZ T T d.2) (L ?_))
 refine aE T (λn c=>?_);go_simp;have d:=Hn s o;rw[d];have a:=AP s o o.heap.size (jn _);have h:=BP s o;obtain⟨x1,t⟩:=J (nE s o);rw[<-t]at a h⊢;clear d t;have K:=O (x.keep a);have M:=ae z a;have t:=ae B a;have u:=ae C a;have d:=ai R a;clear x z B C R a;have V:=O h;clear h;go_simp;refine c _ _ ⟨t,u⟩ λ_=>?_
 clear c;refine L ?_;refine aE T (λn c=>?_);go_simp;have h:=tU _ _ (by rw[kQ];have:=y.out;omega) x1 V (Q.below d).num (Q.below d).start;rw[<-Vg]at h;refine h.mono ?_;clear h;rintro e x2 ⟨rfl,a⟩;have B:=O (K.keep a);have C:=ae M a;have x:=ae t a;have z:=ae u a;have R:=ai d a;clear K M t u d a;refine c _ _ ⟨x,z⟩ λ_=>?_
 clear c;refine L ?_;refine aE T (λn c=>?_);go_simp;have h:=uh b [] (dN (bZ s)) x2 B (mB _) (by have:=y.out;have:=p.out;simp only[j8,jL];omega);rw[<-Vg]at h;refine h.mono ?_;clear h;rintro e W ⟨rfl,d⟩;have K:=O d.buf;have M:=O ((d.bel.block _ H.out).trans C);have t:=O ((d.bel.block _ E.out).trans x);have u:=O ((d.bel.block _ F.out).trans z);have S:=O (R.trans (d.bel.mono D));clear d B C x z R;refine c _ _ ⟨t,u⟩ λ_=>?_
 clear c;refine L ?_;refine aE T (λn c=>?_);go_simp;have h:=uh b ([]++dN (bZ s)) g W K p (by have:=y.out;have:=p.out;simp only[j8,jL];omega);rw[<-UI]at h;refine h.mono ?_;clear h;rintro e X ⟨rfl,d⟩;have C:=O d.buf;have R:=O ((d.bel.block _ H.out).trans M);have x:=O ((d.bel.block _ E.out).trans t);have z:=O ((d.bel.block _ F.out).trans u);have U:=O (S.trans (d.bel.mono D));clear d K M t u S;refine c _ _ ⟨x,z⟩ λ_=>?_
 clear c;refine L ?_;refine aE T (λn c=>?_);go_simp;have h:=uh b ([]++dN (bZ s)++g) i X C ax (by have:=y.out;have:=p.out;simp only[j8,jL];omega);rw[<-U7]at h;refine h.mono ?_;clear h;rintro e S ⟨rfl,d⟩;have h:=O d.buf;have K:=O ((d.bel.block _ H.out).trans R);have t:=O ((d.bel.block _ E.out).trans x);have u:=O ((d.bel.block _ F.out).trans z);have B:=O (U.trans (d.bel.mono D));clear d C R x z U;refine c _ _ ⟨t,u⟩ λ_=>?_
 clear c;refine L ?_;refine aE T (λn c=>?_);go_simp;have d:=Db b ([]++dN (bZ s)++g++i) ⟨#[109,105,120]⟩ G S h (by have q:=mB (bZ s);have r:=p.out;have x:=ax.out;simp only[j8,jL];omega) (Q.below B);have x:dl (bZ ⟨#[109,105,120]⟩) ([]++dN (bZ s)++g++i)=o5 s g i:=T;rw[x]at d;rw[<-Zk]at d;refine d.mono ?_;clear d x;rintro e d ⟨rfl,a⟩;have U:=O (h.keep a);have x:=ae K a;have C:=ae t a;have M:=ae u a;have R:=ai B a;clear h K t u B a;refine c _ _ ⟨C,M⟩ λ_=>?_
 clear c;refine L ?_;refine aE T (λn c=>?_);rw[jB aj];refine o8 27 _ _ T (f+1+1) m T T 27 _ x.out (by rw[P];rfl) (by rw[P];rfl) a2 (c _ _ ⟨(qe _ _ _ _ Y).trans C,(qe _ _ _ _ Y).trans M⟩ λ_=>?_);clear c;have a:(d.setRow (f+1+1) m).heap[f+1+1]?=ja (jc m 27 (0,0)):=pz _ _ _ _ _ _ x.out;have c:jl w w (d.setRow (f+1+1) m):=p6 R.out (by rw[HG];omega) _;generalize d.setRow (f+1+1) m=z at a c⊢;have h:=O a;have n:=O c;clear a c;refine L ?_;refine jR ?_
 go_wp2_with fail
 refine jX (qd T _ _ (f+1+1) 27 _ (0,0) _ T h ms T (by rw[P];rfl)) T ?_;exact⟨by rw[Zk],n⟩
theorem zO(w:jg):de w (jb A 0 0) []:=⟨A,0,T,jn _,λh=>jG h ar⟩
theorem GI(a:je)(b:a<2^64):(cY a).length<=10:=mc a b
theorem AF(s:ByteArray)(b:s.size<=1000):AN s [] where
 wf:=by
  rw[li,vL,wfV];refine .inr (.inr ⟨T,T,T,by simp,λx a=>?_⟩);simp only[r8,List.mem_cons,List.mem_nil_iff,or_false]at a;subst a;rw[wfV];exact .inr (.inl ⟨T,T,by omega,rfl⟩)
 len:=by
  rw[li,pE];simp only[r8,encs,enc];rw[jI G,jB trivial];have a:=GI 1 G;have c:=GI s.size Y;simp only[jW,jL,j8,kQ];simp only[j8,lw];omega
 cnt:=by simp
theorem Af(h:w.heap[B]?=ja (jc (j.map v8).toArray e (0,0)))(a:j.length=32):bD w (jb (ja ⟨B,0,A⟩) 32 32) j:=by
 refine⟨_,32,by rw[a],by rw[a];exact jn _,(λh=>by cases h),λ_=>⟨B,0,T,λl b=>ah h ?_⟩⟩;rw[lw];simp[jO,b]
def uT(k:LBy)(s:ByteArray):je:=oU (bZ ⟨#[115,99,97,108,97,114]⟩) (dZ k s [])
theorem GH(k:LBy)(o:k.length=32)(s:ByteArray)(y:s.size<=1000)(w:jg)(h:bP w):
 jr jm 93 #[jq (k.map v8).toArray,jj s] w λe w'=>e=jo (I N (uT k s:je))/\jl w w w':=by
 obtain⟨b,i⟩:=J ((k.map v8).toArray);have p:b.size=32:=by rw[i,jU,jD,o]
 have a:=ao w (jc b 27);have c:=js w (jc b 27);obtain⟨z,j⟩:=J w.heap.size;obtain⟨B,l⟩:=J (w.alloc (jc b 27));rw[<-j]at c;rw[<-l]at c a;have d:=sB k o s [] _ B (zO _) (AF s y) (h.below a);rw[<-i]at d⊢;have m:=pB k s [];have n:=eR (dZ k s []);obtain⟨f,g⟩:=J (((dZ k s []).map v8).toArray);have q:f.size=32:=by rw[g,jU,jD,m]
 rw[<-g]at n d;have C:=O j;have D:=O l;have E:=O a;have r:=O c;have t:=O d;have F:=O g;have u:=O q;have v:=O m;have H:=O n;have K:=O p;have x:=O h;clear i p a c j l d m n g q h
 go_enter func93,ntmps93
 go_upto_region 1 with fail
 rw[<-C,<-D];refine qP ?_;refine o1 T 27 _ T z T 27 b (0,0) _ r.out ms T (by rw[K];rfl) ?_
 go_wp2_with fail
 refine t.mono ?_;rintro e a ⟨rfl,c⟩;have g:=ai E c;clear c t r
 go_wp2_with (refine oj T λ_ j=>o8 27 _ _ T a.heap.size f T T 27 _ (js a _) (by rw[u];rfl) (by rw[u];rfl) H (j _ _ ?_))
 obtain⟨h,c⟩:=J ((a.alloc (jc a8 27)).setRow a.heap.size f);have i:h.heap[a.heap.size]?=ja (jc f 27 (0,0)):=by rw[c];exact pz _ _ _ _ _ _ (js a _)
 have d:jl w w h:=by rw[c];exact p6 (g.trans ((ao a _).mono g.size)) g.size _
 rw[F]at i;have l:=H4 ⟨#[115,99,97,108,97,114]⟩ G _ _ (by rw[v];decide) h (Af i v) (x.below d).num (x.below d).start;rw[<-c];have m:=O d;clear i c j d;refine l.mono ?_;clear l;rintro e i ⟨rfl,c⟩;have d:=ai m c;clear c
 go_wp2_with fail
 go_ret;exact⟨T,d⟩
theorem Kj(n:je)(q:n<=1000000)(w:jg):
 jr jm 159 #[jb A 0 0,I N n] w λe w'=>∃v,e=jo v/\w'.ownsRow w 152 4 v 0 []/\jl w w w':=by
 rcases qH n with b|b
 ·subst b
  go_enter func159,ntmps159
  go_wp2
  go_ret;exact⟨_,T,j0 _ _ _ _,jy _ _⟩
 obtain⟨i,f,g,j,h⟩:=qh C6;have a:=Lib.run_append_nil_zeros (P:=jm) w 93 3 93 152 i (jq #[I N 0,I N 0,jj ⟨#[]⟩,jb A 0 0]:ji) .i64 .i64 wt jQ f g n b Y Y (by rw[h];omega);have l:=grownCap_ge w n 0 152;have c:=grownCap_le_maxLen w n 0 152 (by unfold j3;omega);generalize grownCap w n 0 152=C at a l c;have d:(Builtin.zeroCells (jq #[I N 0,I N 0,jj ⟨#[]⟩,jb A 0 0]:ji).cells n++Builtin.zeroCells (jq #[I N 0,I N 0,jj ⟨#[]⟩,jb A 0 0]:ji).cells (C-n)).size=C*4:=by
  rw[Array.size_append,size_zeroCells,size_zeroCells];show n*4+(C-n)*4=C*4;omega
 generalize Builtin.zeroCells (jq #[I N 0,I N 0,jj ⟨#[]⟩,jb A 0 0]:ji).cells n++Builtin.zeroCells (jq #[I N 0,I N 0,jj ⟨#[]⟩,jb A 0 0]:ji).cells (C-n)=Z at a d;have m:=O a;have o:=O d;have p:=O c;clear a d c f g j h;have c:(0:jd)<(n:jd):=Y
 go_enter func159,ntmps159
 go_wp2_with (at_builtin;refine Lib.wpList_append_run _ T _ _ 93 3 T _ _ T T _ _ m.out ?_)
 go_ret;refine⟨_,T,⟨T,.inr ⟨w.heap.size,C,Z,T,jn _,js w.drew _,jJ _,p,o,T⟩⟩,?_⟩;exact⟨T,T,T,by simp,λk a=>jF w.drew _ _ a⟩
def sS(w:jg)(v:ji)(l:jh (jh ji)):Prop:=cF w v 4 l.length l.flatten
def fW(a:jh (jh (jh ji)))(k:je):jh (jh ji):=(a.take k).flatten
theorem Gd(a:jh (jh (jh ji)))(k:je)(b:k<a.length):fW a (k+1)=fW a k++a.getD k []:=by
 unfold fW;rw[List.take_add_one,xz];simp[b,jO]
theorem yS(a:jh (jh (jh ji)))(k:je):(fW a k).length<=a.flatten.length:=by
 have h:a.flatten=fW a k++(a.drop k).flatten:=by
  unfold fW;rw[<-xz,xr]
 rw[h];simp
theorem Qa(g m:je)(t:jH)(h:jh ji)(a:jh (jh (jh ji)))(z:h.length=m)(B:a.length=m)(U:a.flatten.length<=1000000)(w:jg)
 (b:w.heap[g]?=ja (jc h.toArray t (0,0))) (c:∀i,i<m->sS w (h.getD i ju) (a.getD i [])) (V:m<=1000) (d:∀e∈a.flatten,∀o∈e,o.oneCell'=jf):
 jr jm 106 #[jb (ja ⟨g,0,A⟩) m m] w λe w'=>∃v,e=jo v/\w'.ownsRow w 152 4 v a.flatten.length a.flatten.flatten/\jl w w w':=by
 have C:g<w.heap.size:=(jK.1 b).1;have f:jk (∀i,i<m->w.cell? ⟨g,i,A⟩=ja (h.getD i ju)):=O λi D=>by
  simp[j5,b,z,D,jO]
 have u:=O c;have E:=O d;clear c b d
 go_enter func106,ntmps106
 go_wp2_with fail
 go_loopw [3,11] (λs b wr=>∃k:je,b=I N k/\k<=m/\s=I N ((fW a k).length:je)/\wr=w) (λ_ b _=>(m-jv b).toNat)
 case atStart=>exact⟨0,T,by omega,rfl,rfl⟩
 obtain⟨k,rfl,W,rfl,c⟩:=hrel;have F:=c.symm;subst F;clear c
 by_cases s:k<m
 ·have l:=f k s
  have H:=yS a (k+1);have d:=Gd a k Y;obtain⟨n,p,c,j,x,y,q⟩:=u k s;rw[j]at l;have r:(fW a (k+1)).length=(fW a k).length+(a.getD k []).length:=by rw[d];simp
  clear j q d n;generalize(a.getD k []).length=n at l r x;have j:=O r;clear r;generalize(fW a k).length=q at j⊢;have K:¬((q:jd)+(n:jd)<0):=Y;have M:q+n<=1000000:=aI j
  go_wp2
  refine⟨⟨k+1,by go_num,by omega,?_,trivial⟩,by simp[jv];omega⟩;rw[j];simp
 have X:jk (k=m):=O Y;have H:=yS a k
 go_wp2_with fail
 refine(Kj _ Y _).mono ?_;rintro e w1 ⟨v,rfl,K,c⟩;have M:=O c;clear c
 go_wp2_with fail
 go_loopw [6,27] (λl b c=>∃j:je,b=I N j/\j<=m/\c.ownsRow w 152 4 l (fW a j).length (fW a j).flatten/\jk (jl w w c)) (λ_ b _=>(m-jv b).toNat)
 case atStart=>exact⟨0,T,by omega,by simpa [fW]using K,M⟩
 obtain⟨j,rfl,hj,b,c⟩:=hrel
 by_cases x:j<m
 ·have P:=gg (f j x) (c.block _ C)
  have l:=cF.below (u j x) c;have d:=Gd a j Y;have y:=yS a (j+1);generalize h.getD j ju=vj at P l;have n:∀o∈(a.getD j []).flatten,o.oneCell'=jf:=λo p=>by
   obtain⟨e,he,p⟩:=xA.1 p;refine E e (xA.2 ⟨a.getD j [],?_,he⟩) o p;have q:j<a.length:=Y;simp[jO,q]
  generalize a.getD j []=q at d l n;have aa:=c.size;have r:(fW a j).length+q.length<=1000000:=by rw[d,jL]at y;omega
  have Q:=O d;have R:=O n;have S:=O l;clear d l y n
  go_wp2_with (at_builtin;refine Hid.out ?_)
  refine O ?_;refine oj T λ_ d=>pT _ _ T w.heap.size _ _ _ T b _ q.length q.flatten T S R Y Y λy w4 f=>d _ _ ?_
  have l:=f.own;have n:=f.grown;clear f d
  go_wp2_with fail
  go_roundw
  case rel=>
   refine⟨j+1,by go_num,by omega,?_,c.grown n Y (λk e=>(b.lt k e).1)⟩;rw[Q]
   simpa using l
  case measure=>simp[jv];omega
 have d:j=m:=Y;have l:fW a j=a.flatten:=by rw[d,<-B];simp[fW]
 rw[l]at b;have n:=O b;clear b d l
 go_wp2
 go_ret;exact⟨_,T,n,c⟩
def mE(w:jg):Prop:=w.var? jm "chartroom/schedule.labels" =ja #[jj ⟨#[105,110,105,116]⟩,jj ⟨#[99,111,109,109,105,116]⟩,jj ⟨#[99,104,105,108,100]⟩]
theorem zH:jm.globalNamed "chartroom/schedule.labels" =ja 0:=by kernel_rfl
theorem mE.below(h:mE w)(b:jl w w w'):mE w':=by
 unfold mE World.var? at*;rw[zH]at h⊢;simp only[Option.bind_some]at h⊢;have c:0<w.heap.size:=by
  rcases qE 0 w.heap.size with a|a
  ·exact a
  rw[Array.getElem?_eq_none a]at h
  cases h
 rw[b.block _ c];exact h
theorem mE.c0(h:mE w):w.cell? ⟨0,0,A⟩=ja (jj ⟨#[105,110,105,116]⟩):=by
 have:=xB zH h 0
 simpa using this
theorem mE.c1(h:mE w):w.cell? ⟨0,1,A⟩=ja (jj ⟨#[99,111,109,109,105,116]⟩):=by
 have:=xB zH h 1
 simpa using this
structure iD(w:jg):Prop where
 dig:bP w
 lab:mE w
theorem iD.below(h:iD w)(a:jl w w w'):iD w':=⟨h.dig.below a,h.lab.below a⟩
def sD(a:ByteArray)(k:LBy):LBy:=dZ k a []
def wT(init a:LBy):LBy:=o5 ⟨#[101,112,111,99,104]⟩ init (sD ⟨#[99,111,109,109,105,116]⟩ a)
def aS(s:LBy):je:=uT s ⟨#[110,111,100,101]⟩
theorem yG(l k):(sD l k).length=32:=pB _ _ _
theorem B6(l k):(wT l k).length=32:=Ev _ _ _
structure Arr(l:LBy)(a:jZ ji):Prop where
 eq:a=(l.map v8).toArray
 sz:a.size=32
 one:a.all (·.oneCell')=jf
theorem Arr.mk'(h:j.length=32):∃a,a=(j.map v8).toArray/\Arr j a:=⟨_,T,T,by rw[jU,jD,h],eR _⟩
theorem L9(k:LBy)(l:k.length=32)(w:jg)(h:iD w):
 jr jm 92 #[I N 1,jq (k.map v8).toArray] w λe w'=>e=jo (jq ((sD ⟨#[99,111,109,109,105,116]⟩ k).map v8).toArray)/\jl w w w':=by
 obtain⟨c,r,s⟩:=Arr.mk' l;obtain⟨f,t,u⟩:=Arr.mk' (yG ⟨#[99,111,109,109,105,116]⟩ k);rw[<-r,<-t];have C:=O l;have x:=O s;have g:=O u;have D:=O h;have m:=ao w (jc c 27);have y:=js w (jc c 27);have a:=ao (w.alloc (jc c 27)) (jc a8 27);have n:=js (w.alloc (jc c 27)) (jc a8 27);rw[jC]at n;obtain⟨B,o⟩:=J ((w.alloc (jc c 27)).alloc (jc a8 27));obtain⟨b,p⟩:=J w.heap.size;have i:=ae y a;have d:=O (m.trans (a.mono m.size));have j:=O n;rw[<-p]at i j;rw[<-o]at i j d;have E:=O o;have q:=O p;clear m y a n o p;have m:=O (aB h.lab.c1 d);have y:jk (0<b+1):=O (by have:=ge h.lab.c1;rw[q];exact Nat.lt_succ_of_lt this);clear r s t u l h
 go_enter func92,ntmps92
 go_upto_region 1 with fail
 rw[<-E,<-q];refine jT ?_;refine dm (λl=>l.heap[b]?=ja (jc c 27 (0,0))/\l.cell? ⟨0,1,A⟩=ja (jj ⟨#[99,111,109,109,105,116]⟩)) (.take 0 (.take 1 (.take 2 (.take 3 (.one 4 (.one 5 .done)))))) af af af G (λ_ _ _ _ h=>h) ⟨i,m⟩ ?_;obtain⟨r,h⟩:=J B.drew;have a:=bX B;rw[<-h]at a⊢;replace d:=ai d a;have n:=ae i a;have o:=ae j a;have p:=O (aB m a);clear a h i j m
 (refine aV (v:=jq c) T aj (λl h=>tt x.sz T T h.1) (L ?_))
 iterate 2 refine aP ?_
 (refine aV (v:=?_) T aj (λl h=>?_) ?_;rotate_left;(have i:=h.2;go_simp;with_reducible rfl);refine L ?_)
 refine aE T (λm h=>?_);go_simp;have i:=sB k C ⟨#[99,111,109,109,105,116]⟩ [] _ r (zO _) (AF _ G) (D.dig.below d);rw[<-x.eq]at i;have j:((dZ k ⟨#[99,111,109,109,105,116]⟩ []).map v8).toArray=f:=g.eq.symm;rw[j]at i;refine i.mono ?_;clear i j;rintro e x1 ⟨rfl,a⟩;have i:=ae n a;have j:=ae o a;have l:=O (aB p a);have s:=ai d a;clear a n o p d;refine h _ _ ⟨i,l⟩ λ_=>?_
 clear h;refine L ?_;refine aE T (λm h=>?_);rw[jB aj];refine o8 27 _ _ T (b+1) f T T 27 _ j.out (by rw[g.sz];rfl) (by rw[g.sz];rfl) g.one (h _ _ ⟨(qe _ _ _ _ Y).trans i,(dX (qe _ _ _ _ (Nat.ne_of_lt y))).trans l⟩ λ_=>?_);clear h;have a:(x1.setRow (b+1) f).heap[b+1]?=ja (jc f 27 (0,0)):=pz _ _ _ _ _ _ j.out;have d:jl w w (x1.setRow (b+1) f):=p6 s.out (by rw[q];exact Nat.le_succ _) _;generalize x1.setRow (b+1) f=z at a d⊢;have h:=O a;have m:=O d;clear a d;refine L ?_;refine jR ?_
 go_wp2_with fail
 refine jX (qd T _ _ (b+1) 27 _ (0,0) _ T h ms T (by rw[g.sz];rfl)) T ?_;exact⟨T,m⟩
theorem QA(init d:LBy)(q:init.length=32)(r:d.length=32)(w:jg)(x:iD w):
 jr jm 41 #[jq (init.map v8).toArray,jq (d.map v8).toArray] w λe w'=>e=jo (jq ((wT init d).map v8).toArray)/\jl w w w':=by
 obtain⟨c,y,z⟩:=Arr.mk' q;obtain⟨i,B,C⟩:=Arr.mk' r;obtain⟨A3,U,D⟩:=Arr.mk' (yG ⟨#[99,111,109,109,105,116]⟩ d);obtain⟨j,E,F⟩:=Arr.mk' (B6 init d);rw[<-y,<-B,<-E];have V:=O q;have W:=O r;have H:=O z;have K:=O C;have M:=O D;have k:=O F;have P:=O x;obtain⟨Q,b⟩:=J ((((w.alloc (jc c 27)).alloc (jc i 27)).alloc (jc a8 27)));obtain⟨f,h⟩:=J w.heap.size;have a:=js w (jc c 27);have l:=ao w (jc c 27);have g:=js (w.alloc (jc c 27)) (jc i 27);have n:=ao (w.alloc (jc c 27)) (jc i 27);have o:=js ((w.alloc (jc c 27)).alloc (jc i 27)) (jc a8 27);have p:=ao ((w.alloc (jc c 27)).alloc (jc i 27)) (jc a8 27);replace a:=av a n;replace a:=av a p;rw[jC]at g;replace g:=av g p;rw[jC,jC]at o;have s:=((l).trans (n.mono (l).size)).trans (p.mono ((l).trans (n.mono (l).size)).size);rw[<-b]at s;rw[<-b,<-h]at a;rw[<-b,<-h]at g;rw[<-b,<-h]at o;have t:=O a;have u:=O g;have R:=O o;have m:=O s;have X:=O b;have S:=O h;clear s b h a l g n o p;clear y z B C U D E F q r x
 go_enter func41,ntmps41
 go_upto_region 1 with fail
 rw[<-X,<-S];refine jT ?_;refine dm (λb=>b.heap[f]?=ja (jc c 27 (0,0))/\b.heap[f+1]?=ja (jc i 27 (0,0))) (.take 0 (.take 1 (.one 2 (.one 3 (.one 4 .done))))) af af af G (λ_ _ _ _ h=>h) ⟨t,u⟩ ?_;obtain⟨x,g⟩:=J Q.drew;have a:=bX Q;rw[<-g]at a⊢;replace m:=ai m a;have o:=ae t a;have p:=ae u a;have q:=ae R a;clear a g t u R
 (refine aV (v:=jq c) T aj (λb g=>tt H.sz T T g.1) (L ?_))
 (refine aV (v:=jq i) T aj (λb g=>tt K.sz T T g.2) (L ?_))
 refine aE T (λr g=>?_);go_simp;have b:=L9 d W x (P.below m);rw[<-K.eq]at b;rw[<-M.eq]at b;refine b.mono ?_;clear b;rintro e x1 ⟨rfl,a⟩;have h:=ai m a;have l:=ae o a;have n:=ae p a;have s:=ae q a;clear m o p q;clear a;refine g _ _ ⟨l,n⟩ λ_=>?_
 clear g;refine L ?_;refine aE T (λr g=>?_);go_simp;have b:=Q4 ⟨#[101,112,111,99,104]⟩ G init (sD ⟨#[99,111,109,109,105,116]⟩ d) V (yG _ _) x1 (P.dig.below h);rw[<-H.eq]at b;rw[<-M.eq]at b;rw[show((o5 ⟨#[101,112,111,99,104]⟩ init (sD ⟨#[99,111,109,109,105,116]⟩ d)).map v8).toArray=j from k.eq.symm]at b;refine b.mono ?_;clear b;rintro e x2 ⟨rfl,a⟩;have q:=ai h a;have m:=ae l a;have o:=ae n a;have p:=ae s a;clear h l n s;clear a;refine g _ _ ⟨m,o⟩ λ_=>?_
 clear g;refine L ?_;refine aE T (λr g=>?_);rw[jB aj];refine o8 27 _ _ T (f+1+1) j T T 27 _ p.out (by rw[k.sz];rfl) (by rw[k.sz];rfl) k.one (g _ _ ⟨(qe _ _ _ _ Y).trans m,(qe _ _ _ _ Y).trans o⟩ λ_=>?_);clear g;have a:(x2.setRow (f+1+1) j).heap[f+1+1]?=ja (jc j 27 (0,0)):=pz _ _ _ _ _ _ p.out;have b:jl w w (x2.setRow (f+1+1) j):=p6 q.out (by rw[S];omega) _;generalize x2.setRow (f+1+1) j=z at a b⊢;have g:=O a;have h:=O b;clear a b;refine L ?_;refine jR ?_
 go_wp2_with fail
 refine jX (qd T _ _ (f+1+1) 27 _ (0,0) _ T g ms T (by rw[k.sz];rfl)) T ?_;exact⟨T,h⟩
theorem SN(k:LBy)(c:k.length=32)(w:jg)(i:iD w):
 jr jm 43 #[jq (k.map v8).toArray] w λe w'=>e=jo (I N (aS k:je))/\jl w w w':=by
 obtain⟨a,j,l⟩:=Arr.mk' c;rw[<-j];have o:=O c;have m:=O l;have p:=O i;obtain⟨q,b⟩:=J ((w.alloc (jc a 27)));obtain⟨r,d⟩:=J w.heap.size;have f:=js w (jc a 27);have n:=ao w (jc a 27);have g:=n;rw[<-b]at g;rw[<-b,<-d]at f;have s:=O f;have h:=O g;have t:=O b;have u:=O d;clear g b d f n;clear j l c i
 go_enter func43,ntmps43
 go_upto_region 1 with fail
 rw[<-t,<-u];refine qP ?_;refine o1 T 27 _ T r T 27 a (0,0) _ s.out ms T (by rw[m.sz];rfl) ?_
 go_wp2_with fail
 have b:=GH k o ⟨#[110,111,100,101]⟩ G q (p.dig.below h);rw[<-m.eq]at b;refine b.mono ?_;clear b;rintro e d ⟨rfl,b⟩;have c:=ai h b;clear b h
 go_wp2_with fail
 go_ret;exact⟨T,c⟩
theorem DY(k:LBy):1<=aS k/\aS k<2305843009213688669:=zD _ _
def iY(k body:LBy):LBy:=dl (bZ ⟨#[99,111,110,102,105,114,109]⟩) (k++body)
theorem sR(k b):(iY k b).length=32:=iN _ _
theorem Pi(k body:LBy)(j:k.length=32)(l:body.length=32)(w:jg)(y:iD w):
 jr jm 50 #[jq (k.map v8).toArray,jq (body.map v8).toArray] w λe w'=>e=jo (jq ((iY k body).map v8).toArray)/\jl w w w':=by
 obtain⟨d,z,B⟩:=Arr.mk' j;obtain⟨f,C,D⟩:=Arr.mk' l;obtain⟨g,E,F⟩:=Arr.mk' (sR k body);rw[<-z,<-C,<-E];have s:=O j;have t:=O l;have Q:=O B;have R:=O D;have m:=O F;have H:=O y;obtain⟨K,c⟩:=J ((((w.alloc (jc d 27)).alloc (jc f 23)).alloc (jc a8 23)));obtain⟨b,i⟩:=J w.heap.size;have a:=js w (jc d 27);have n:=ao w (jc d 27);have h:=js (w.alloc (jc d 27)) (jc f 23);have o:=ao (w.alloc (jc d 27)) (jc f 23);have p:=js ((w.alloc (jc d 27)).alloc (jc f 23)) (jc a8 23);have q:=ao ((w.alloc (jc d 27)).alloc (jc f 23)) (jc a8 23);replace a:=av a o;replace a:=av a q;rw[jC]at h;replace h:=av h q;rw[jC,jC]at p;have u:=((n).trans (o.mono (n).size)).trans (q.mono ((n).trans (o.mono (n).size)).size);rw[<-c]at u;rw[<-c,<-i]at a;rw[<-c,<-i]at h;rw[<-c,<-i]at p;have v:=O a;have x:=O h;have M:=O p;have r:=O u;have S:=O c;have P:=O i;clear u c i a n h o p q;clear z B C D E F j l y
 go_enter func50,ntmps50
 go_upto_region 1 with fail
 rw[<-S,<-P];refine jT ?_;refine dm (λa=>a.heap[b]?=ja (jc d 27 (0,0))/\a.heap[b+1]?=ja (jc f 23 (0,0))) (.take 0 (.take 1 (.one 2 (.one 3 (.one 4 (.one 5 .done)))))) af af af G (λ_ _ _ _ h=>h) ⟨v,x⟩ ?_;obtain⟨n,c⟩:=J K.drew;have a:=bX K;rw[<-c]at a⊢;replace r:=ai r a;have u:=ae v a;have y:=ae x a;have z:=ae M a;clear a c v x M;iterate 2 refine aP ?_
 refine aE T (λq c=>?_);go_simp;have a:=ao n (jc #[jb (ja ⟨b,0,A⟩) 32 32,jb (ja ⟨b+1,0,A⟩) 32 32] 30);have i:=js n (jc #[jb (ja ⟨b,0,A⟩) 32 32,jb (ja ⟨b+1,0,A⟩) 32 32] 30);obtain⟨x1,v⟩:=J (n.alloc (jc #[jb (ja ⟨b,0,A⟩) 32 32,jb (ja ⟨b+1,0,A⟩) 32 32] 30));rw[<-v]at a i⊢;obtain⟨C,o⟩:=J n.heap.size;rw[<-o]at i⊢;have F:=O o;clear o;have x:=ai r a;have o:=ae u a;have p:=ae y a;have B:=ae z a;clear r u y z;have y:=O i;clear i v a;refine c _ _ ⟨o,p⟩ λ_=>?_
 clear c;refine L ?_;refine aE T (λq c=>?_);go_simp;have r:=uH C 2 30 [jb (ja ⟨b,0,A⟩) 32 32,jb (ja ⟨b+1,0,A⟩) 32 32] [k,body] T T (by have j:=s.out;have l:=t.out;simp;omega) x1 y (λi u=>by
  match i,u with
  |0,_=>exact Af (by have h:=o.out;rw[Q.eq]at h;exact h) s
  |1,_=>exact Af (by have h:=p.out;rw[R.eq]at h;exact h) t) G
 refine r.mono ?_;clear r;rintro e x2 ⟨D,rfl,h,a⟩;have i:[k,body].flatten=k++body:=by simp
 rw[i]at h;have E:=O (bD.of_own h);clear h i;have h:=ai x a;have i:=ae o a;have r:=ae p a;have u:=ae B a;clear x o p B;clear a;refine c _ _ ⟨i,r⟩ λ_=>?_
 clear c;refine L ?_;refine aE T (λq c=>?_);go_simp;have o:=sg ⟨#[99,111,110,102,105,114,109]⟩ G D (k++body) (by have j:=s.out;have l:=t.out;simp;omega) x2 E (H.dig.below h).num (H.dig.below h).start;rw[show((dl (bZ ⟨#[99,111,110,102,105,114,109]⟩) (k++body)).map v8).toArray=g from m.eq.symm]at o;refine o.mono ?_;clear o;rintro e o ⟨rfl,a⟩;have B:=ai h a;have p:=ae i a;have v:=ae r a;have x:=ae u a;clear h i r u;clear a;refine c _ _ ⟨p,v⟩ λ_=>?_
 clear c;refine L ?_;refine aE T (λq c=>?_);rw[jB aj];refine o8 23 _ _ T (b+1+1) g T T 23 _ x.out (by rw[m.sz];rfl) (by rw[m.sz];rfl) m.one (c _ _ ⟨(qe _ _ _ _ Y).trans p,(qe _ _ _ _ Y).trans v⟩ λ_=>?_);clear c;have a:(o.setRow (b+1+1) g).heap[b+1+1]?=ja (jc g 23 (0,0)):=pz _ _ _ _ _ _ x.out;have c:jl w w (o.setRow (b+1+1) g):=p6 B.out (by rw[P];omega) _;generalize o.setRow (b+1+1) g=z at a c⊢;have h:=O a;have i:=O c;clear a c;refine L ?_;refine jR ?_
 go_wp2_with fail
 refine jX (qd T _ _ (b+1+1) 23 _ (0,0) _ T h wv T (by rw[m.sz];rfl)) T ?_;exact⟨T,i⟩
end Go.Proofs.YthonckffmkefdaaGreatDoor
