/- Contracts of functions that the law reaches, part 3 of 7; no condition. -/
import Derived.Handy
import Derived.Lib.SlBytesConst
import Derived.Test.YtdjkajodkjfjlaaGreatDoorZJ2
namespace Go.Proofs.YtdjkajodkjfjlaaGreatDoor
set_option maxHeartbeats 64000000
set_option maxRecDepth 100000
set_option linter.unusedVariables false
set_option linter.unusedSimpArgs false
set_option linter.unusedSectionVars false
open Go.RowKit
open Go.Proofs.Tryz
open Go.Value renaming int->I
open Go.IntKind renaming i64->N,u32->jW,u64->kl
open _root_ renaming rfl->T,Int->jc,Nat->je,List->jg,if_pos->jB,absurd->jE,if_neg->jH,congrArg->jN,Option->jQ,Array->jZ
open _root_.Option renaming none->A,some->ja,isSome_iff_exists->qW,isSome_none->wq
open Go.Value renaming slice->jb,string->jj,agg->jr,tuple->jw,pointer->jA
open Go.Obj renaming cells->jd
open _root_.Bool renaming true->jf,false->jp,false_eq_true->wt
open Go renaming World->jh,Value->ji,Calls->jq,Boxed->jt,undef->ju,TypeId->jI,Addr->jK,wp_region_noPanic->jV,bodyPost_ret->j0,maxLen->j4,Oper->lo,grownBy_setCell'->lw,wpList_plain->ms,wpList_load_row->nn,info_parts->oi,wp_store_row->oj,setRow_heap->ol,below_setRow->oo,callsIn_wide->qe,execOp->qg,results_cell_row->qj,results_none->qA,Program->qB,bodyPost_end->qI,wp_region_lit->qL,setRow_other->qM,callsIn_of_wp->q9,callsIn_of_wp_marks->ri,run_takeDeferred->rn,ownsRow_putObj->rv,wpList_append_own->sg
open Go.RowKit renaming Hid->jk,Below->jl,ownsRow_setCell_below->qK
open Go.Proofs.Tryz renaming prog->jm
open _root_.Nat renaming le_refl->jn,le_trans->jz,zero_le->jJ,lt_of_lt_of_le->jO,zero_add->kn,le_of_eq->n0,reduceAdd->ow,reduceSub->o4,mod_eq_of_lt->ql,min_eq_left->qn,lt_or_ge->qs,mod_lt->qu,eq_zero_or_pos->qv,zero_mul->qF,lt_or_eq_of_le->qO,pow_le_pow_right->qQ,mul_one->qT,mul_le_mul_right->qV,add_assoc->qZ,add_mul->q5,le_of_lt->q8,le_of_lt_succ->sv,xor_lt_two_pow->sx,lt_of_le_of_lt->xp
open Go.Ending renaming returned->jo
open Go.World renaming alloc_heap_new->js,size_alloc->jF,ownsRow_nil->j1,cell?->j7,frozen?->qX,putObj_heap_other->uy,there_alloc->xd,var?_cell->xx
open Go.Proofs renaming intOf->jv
open Go.RowKit.Below renaming refl->jy,heap_alloc->jG,mono->qc,heap_setCell->qP
open Go.Value renaming int->jC,slice->jS,oneCell'->j3,ownBlock->m0,pointer->qY
open _root_.List renaming length_map->jD,length_append->jM,getD->jR,size_toArray->jT,length_cons->jX,replicate->j5,map_append->j6,append_assoc->j8,length_nil->km,range->kw,take_of_length_le->lm,getElem?_eq_getElem->lr,take_succ_eq_append_getElem->mz,nil_append->mF,cons_append->mT,length_take->nz,push_toArray->p6,append_toArray->qa,eq_nil_of_length_eq_zero->qb,getElem?_map->qd,mem_map->qk,getElem_mem->qo,getElem?_append_left->qx,getElem?_append_right->qy,append_nil->qD,map_cons->qH,mem_append->qN,length_filter_le->qS,getElem?_take_of_lt->qU,map_nil->q4,flatMap_cons->q6,mem_singleton->sq,length_mergeSort->wi,range_succ->xf,getElem?_take->xh,getElem?_eq_some_iff->xi,take_append_drop->xj,mem_of_getElem?->xm,getElem?_of_mem->xo,length_take_le'->xq,take_succ_cons->xr,flatten_append->xt,mem_flatten->xw
open _root_.Array renaming getElem?_eq_some_iff->jL,replicate_succ->pa,replicate_zero->pz,getElem?_toList->wx
open Go.Proofs.Tryz renaming underlying3->jP,underlying4->j9,underlying64->mb,underlying167->qf,func193->qh,ntmps193->qi,underlying58->qz,underlying50->qC,underlying153->qJ,underlying174->sh,underlying107->sn
open Go.NoPanic renaming normal->jU
open _root_.BitVec renaming ofNat->jY,toNat_ofNat->qm,ofInt_natCast->tb,toNat_xor->tx,ofInt->xg
open Go.IntKind renaming wrap_i64->qt,u64->qw,i64->qE,wrap_u64->qG
open _root_.Int renaming eq_ofNat_of_zero_le->w9,toNat_natCast->xa
variable{o:Obj}{p:Prop}{j:af}{e:jI}{g:jZ ji}{d y:jc}{B m:je}{D:je->Prop}{t:jg (jc×jc)}{f:jg Val}{U:jg jc}{b xs:jg ji}{a w w':jh}{c:ji}
section
open Go.Shelf
def Tryzx.lays189_ren:Go.Shelf.Ren:=⟨fun|189=>161|125=>40|257=>210|128=>103|129=>104|294=>243|295=>244|296=>245|297=>246|298=>247|299=>248|216=>249|300=>250|301=>251|328=>263|329=>235|330=>236|331=>264|332=>265|215=>139|343=>268|n=>n,fun|28=>58|3=>3|46=>92|0=>0|51=>161|53=>163|4=>4|183=>263|182=>262|131=>96|5=>5|9=>9|218=>303|222=>306|228=>330|229=>331|n=>n,fun|n=>n⟩
theorem Tryzx.lays189:Go.Proofs.Lays.n189 jm Tryzx.lays189_ren:={
 mixed:=by kernel_rfl
 f125:=func40.trans (jN ja ag)
 f128:=func103.trans (jN ja ag)
 f129:=func104.trans (jN ja ag)
 f189:=func161.trans (jN ja ag)
 f215:=func139.trans (jN ja ag)
 f216:=func249.trans (jN ja ag)
 f257:=func210.trans (jN ja ag)
 f294:=func243.trans (jN ja ag)
 f295:=func244.trans (jN ja ag)
 f296:=func245.trans (jN ja ag)
 f297:=func246.trans (jN ja ag)
 f298:=func247.trans (jN ja ag)
 f299:=func248.trans (jN ja ag)
 f300:=func250.trans (jN ja ag)
 f301:=func251.trans (jN ja ag)
 f328:=func263.trans (jN ja ag)
 f329:=func235.trans (jN ja ag)
 f330:=func236.trans (jN ja ag)
 f331:=func264.trans (jN ja ag)
 f332:=func265.trans (jN ja ag)
 f343:=func268.trans (jN ja ag)
 t0:=underlying0
 a0:=isAgg0
 z0:=sizeOf0
 v0:=zeroValue0
 t3:=jP
 a3:=isAgg3
 z3:=sizeOf3
 v3:=zeroValue3
 t4:=j9
 a4:=isAgg4
 z4:=sizeOf4
 v4:=zeroValue4
 t5:=underlying5
 a5:=isAgg5
 z5:=sizeOf5
 v5:=zeroValue5
 t9:=underlying9
 a9:=isAgg9
 z9:=sizeOf9
 v9:=zeroValue9
 t28:=qz
 a28:=isAgg58
 z28:=sizeOf58
 v28:=zeroValue58
 t46:=underlying92
 a46:=isAgg92
 z46:=sizeOf92
 v46:=zeroValue92
 t51:=underlying161
 a51:=isAgg161
 z51:=sizeOf161
 v51:=zeroValue161
 t53:=underlying163
 a53:=isAgg163
 z53:=sizeOf163
 v53:=zeroValue163
 t131:=underlying96
 a131:=isAgg96
 z131:=sizeOf96
 v131:=zeroValue96
 t182:=underlying262
 a182:=isAgg262
 z182:=sizeOf262
 v182:=zeroValue262
 t183:=underlying263
 a183:=isAgg263
 z183:=sizeOf263
 v183:=zeroValue263
 t218:=underlying303
 a218:=isAgg303
 z218:=sizeOf303
 v218:=zeroValue303
 t222:=underlying306
 a222:=isAgg306
 z222:=sizeOf306
 v222:=zeroValue306
 t228:=underlying330
 a228:=isAgg330
 z228:=sizeOf330
 v228:=zeroValue330
 t229:=underlying331
 a229:=isAgg331
 z229:=sizeOf331
 v229:=zeroValue331}
open Go.Sort Go.RowKit in
theorem Tryzx.slices_Sort_int(a c d:je)(b:jg jc)(w:jh)(f:Holds (jC .i64) w a c b.toArray)(g:a<w.heap.size)(h:b.length<4611686018427387904):
 jq jm 161 #[jb (ja ⟨a,c,A⟩) b.length d] w λe w'=>
  e=jo (jw #[])/\∃n os,w'=grow (putRow (jC .i64) (Sort.ahead w n) a c (b.mergeSort λx y=>decide (x<=y)).toArray) os:=Any.slices_Sort_int Tryzx.lays189 a c d b w f g h
def Tryzx.laysNm220_ren:Go.Shelf.Ren:=⟨fun|20=>162|n=>n,fun|22=>58|3=>3|4=>4|0=>0|n=>n,fun|n=>n⟩
theorem Tryzx.laysNm220:Go.Proofs.Lays2.n20 jm Tryzx.laysNm220_ren:={
 mixed:=by kernel_rfl
 f20:=func162.trans (jN ja ag)
 t0:=underlying0
 a0:=isAgg0
 z0:=sizeOf0
 v0:=zeroValue0
 t3:=jP
 a3:=isAgg3
 z3:=sizeOf3
 v3:=zeroValue3
 t4:=j9
 a4:=isAgg4
 z4:=sizeOf4
 v4:=zeroValue4
 t22:=qz
 a22:=isAgg58
 z22:=sizeOf58
 v22:=zeroValue58
 i3:=by kernel_rfl}
open Go.RowKit Go.Lib Go.Sort in
open Go.RowKit Go.Lib Go.Sort in
theorem Tryzx.slices_Compact_int(b c d:je)(a:jg jc)(w:jh)(f:Holds (jC .i64) w b c a.toArray)(g:a.length<=9223372036854775807)(h:a.length<=d):
 jq jm 162 #[jb (ja ⟨b,c,A⟩) a.length d] w λe w'=>e=jo (jb (ja ⟨b,c,A⟩) (Lib.compact a).length d)/\∃q,w'=putRow (jC .i64) (Sort.ahead w q) b c (Lib.compact a++j5 (a.length-(Lib.compact a).length) 0).toArray:=Any.slices_Compact_int Tryzx.laysNm220 b c d a w f g h
open Go.RowKit Go.Lib Go.Sort in
theorem Tryzx.slices_Compact_int_empty(a:jQ jK)(b:je)(w:jh):
 jq jm 162 #[jb a 0 b] w λe w'=>e=jo (jb a 0 b)/\w'=w:=Any.slices_Compact_int_empty Tryzx.laysNm220 a b w
open Go.RowKit Go.Sort in
theorem Tryzx.slices_Sort_int_none(p:jQ jK)(a:je)(w:jh):
 jq jm 161 #[jb p 0 a] w λe w'=>e=jo (jw #[])/\w'=w:=Any.slices_Sort_int_none Tryzx.lays189 p a w
end
section
open Go
theorem Ei(d:jZ jc)(f:∀i j,i<=j->j<d.size->d[i]!<=d[j]!):∀m,m<=d.size->
 (Lib.compactUpTo d m).Pairwise (·<·)/\(∀x∈Lib.compactUpTo d m,∃j,j<m/\x=d[j]!)/\∀j,j<m->d[j]!∈Lib.compactUpTo d m
 |0,_=>by simp[Lib.compactUpTo]
 |m+1,q=>by
  obtain⟨n,g,i⟩:=Ei d f m Y;rw[Lib.compactUpTo_succ]
  by_cases hk:m=0\/d[m]!≠d[m-1]!
  ·have k:Lib.keeps d m=jf:=by simp only[Lib.keeps,decide_eq_true_eq];exact hk
   rw[k,jB T];refine⟨List.pairwise_append.2 ⟨n,by simp,λa p b o=>?_⟩,λx l=>?_,λj c=>?_⟩
   ·simp only[sq]at o
    subst o;obtain⟨j,c,rfl⟩:=g a p
    rcases hk with e|e
    ·omega
    have h:=f j (m-1) Y Y;have r:=f (m-1) m Y Y;omega
   ·rcases qN.1 l with h|h
    ·obtain⟨j,c,e⟩:=g x h
     exact⟨j,by omega,e⟩
    simp only[sq]at h;exact⟨m,by omega,h⟩
   rcases qO (sv c)with h|rfl
   ·exact qN.2 (.inl (i j h))
   exact qN.2 (.inr ax)
  have k:Lib.keeps d m=jp:=by simp only[Lib.keeps,decide_eq_false_iff_not];exact hk
  rw[k,jH G,qD];refine⟨n,λx l=>?_,λj c=>?_⟩
  ·obtain⟨j,c,e⟩:=g x l
   exact⟨j,by omega,e⟩
  rcases qO (sv c)with h|rfl
  ·exact i j h
  have:j≠0:=λh=>hk (.inl h)
  have e:d[j]! =d[j-1]! :=by
   rcases Classical.em (d[j]! =d[j-1]!)with h|h
   ·exact h
   exact jE (.inr h) hk
  rw[e];exact i (j-1) Y
theorem EW(xs:jg jc)(h:xs.Pairwise (·<=·)):(Lib.compact xs).Pairwise (·<·)/\∀x,x∈Lib.compact xs↔x∈xs:=by
 have c:∀i j,i<=j->j<xs.toArray.size->xs.toArray[i]!<=xs.toArray[j]! :=λi j d a=>by
  have b:j<xs.length:=ah a
  rcases qO d with g|rfl
  ·have:=List.pairwise_iff_getElem.1 h i j Y b g
   simpa [getElem!_pos,show i<xs.length by omega,b]using this
  exact Int.le_refl _
 obtain⟨f,g,k⟩:=Ei xs.toArray c xs.length ax;refine⟨f,λx=>⟨λb=>?_,λb=>?_⟩⟩
 ·obtain⟨j,a,rfl⟩:=g x b
  simp[getElem!_pos,a]
 obtain⟨j,a,rfl⟩:=List.getElem_of_mem b;have:=k j a;have e:xs.toArray[j]! =xs[j]:=by simp[getElem!_pos,a]
 rw[e]at this;exact this
theorem EA{m:jg jc}(c:U.Pairwise (·<·))(d:m.Pairwise (·<·))(h:∀x,x∈U↔x∈m):U=m:=by
 have e:U.Nodup:=c.imp (λh=>by omega);have f:m.Nodup:=d.imp (λh=>by omega);exact List.Perm.eq_of_pairwise (le:=(·<·)) (λa b _ _ g i=>by omega) c d ((List.perm_ext_iff_of_nodup e f).2 h)
theorem uS(l:jg jc):(l.mergeSort leI).Pairwise (·<=·):=by
 have d:∀a b c:jc,leI a b=jf->leI b c=jf->leI a c=jf:=λa b c f g=>by simp only[leI,decide_eq_true_eq]at*;omega
 have e:∀a b:jc,(leI a b||leI b a)=jf:=λa b=>by simp only[leI,Bool.or_eq_true,decide_eq_true_eq];omega
 exact(List.pairwise_mergeSort d e l).imp (λh=>by simpa [leI]using h)
theorem ti(l:jg jc)(x:jc):x∈l.mergeSort leI↔x∈l:=(List.mergeSort_perm l leI).mem_iff
def fP(t:jg (jc×jc)):jg jc:=(t.filter λx=>decide (512<=x.1)&&decide (x.1<=1023)).map λx=>x.1-512
def aY(t:jg (jc×jc)):jg jc:=Lib.compact ((fP t).mergeSort leI)
theorem sX(t:jg (jc×jc)):(aY t).Pairwise (·<·):=(EW _ (uS _)).1
theorem ly(t:jg (jc×jc))(d:jc):d∈aY t↔0<=d/\d<512/\∃x∈t,x.1=512+d:=by
 unfold aY;rw[(EW _ (uS _)).2,ti];unfold fP;simp only[qk,List.mem_filter,Bool.and_eq_true,decide_eq_true_eq]
 constructor
 ·rintro⟨x,⟨a,b,c⟩,rfl⟩
  exact⟨by omega,by omega,x,a,by omega⟩
 rintro⟨b,c,x,a,e⟩;exact⟨x,⟨a,by omega,by omega⟩,by omega⟩
end
section
open Go.RowKit Go.Shelf
attribute [local go_sem] Oper.semAt_some
theorem DF(n:je)(h:n<4611686018427387904)(w:jh):
 jq jm 209 #[I N n] w λe w'=>e=jo (I N (n/2:je))/\w=w':=by
 go_enter func209,ntmps209
 go_wp2
 go_ret;exact⟨T,T⟩
def upL:je->je->jg je
 |0,_=>[]
 |k+1,n=>if n>1 then n::upL k (n/2)else []
theorem wN:∀(k n:je),∀x∈upL k n,x<=n
 |0,_,x,h=>by simp[upL]at h
 |k+1,n,x,h=>by
  unfold upL at h
  split at h
  ·rcases List.mem_cons.1 h with rfl|h
   ·omega
   have:=wN k (n/2) x h;omega
  simp at h
theorem Em:∀(k n:je),(upL k n).length<=k
 |0,_=>by simp[upL]
 |k+1,n=>by
  unfold upL
  split
  ·have:=Em k (n/2);simp;omega
  simp
theorem pY(d:je)(a:d<512):(upL 10 (512+d)).length=8+1:=by
 have h:∀d:Fin 512,(upL 10 (512+d.val)).length=8+1:=by decide+kernel
 exact h ⟨d,a⟩
theorem Ea(k n:je)(c:n<1024){a:jg je}{x:je}(h:a++[x]<+:upL k n):x<1024/\a.length<k:=by
 have d:=wN k n x (h.subset ax);have b:=h.length_le;have e:=Em k n;simp at b;omega
theorem Dv(n:jc)(w:jh):
 jq jm 211 #[I N n] w λe w'=>e=jo (.func (.func 252) #[] #[jA (ja ⟨w,0,A⟩)])/\w'=w.alloc (jd #[I N n] 89):=by
 go_enter func211,ntmps211
 go_wp2
 go_ret;exact⟨T,T⟩
def uD(w:jh)(b:je):je:=(jv ((w.cell? ⟨b,0,A⟩).getD (I N 0))).toNat
theorem CV{b:je}{t:jI}(h:jt w b t (I N m)):uD w b=m:=by
 unfold uD;rw[h.cell];simp[jv]
theorem Cd(h:1<m)(a:m<2^B):∃i,B=i+1/\upL B m=m::upL i (m/2)/\m/2<2^i:=by
 rcases B with _|i
 ·simp at a;omega
 exact⟨i,T,by simp[upL,h],by rw[Nat.pow_succ]at a;omega⟩
theorem Db(h:m<=1):upL B m=[]:=by
 rcases B with _|i
 ·rfl
 simp[upL];omega
set_option maxRecDepth 100000 in
theorem CR(n k:je)(B:n<4611686018427387904)(hk:n<2^k)(b:je)(w:jh)(t:jt w b 89 (I N n)):
 eo jm 252 #[jA (ja ⟨b,0,A⟩)] (λm:je=>#[I N (m:jc)]) (·=b) 0 (λxs=>xs=upL k n) (λ_=>True) (λa=>a<+:upL k n) w:=by
 intro l u V W g h v o p;have C:jt W b 89 (I N n):=(g.block b t.lt).trans t;refine(qe (n:=0)).1 ?_;refine q9 func252 T trivial ?_ T;simp only[ntmps252,jT,jX,km,ow,o4,pa,pz,p6,qa,mF,mT]
 gi_wp2
 gi_loopw [] (λwr=>W.heap.size<=wr.heap.size/\∃(a:jg je) (j m:je),a.length+j=k/\m<2^j/\m<4611686018427387904/\a++upL j m=upL k n/\u a (·=b) wr/\jt wr b 89 (I N m))
  (λwr=>uD wr b)
 case atStart=>
  exact⟨jn _,[],k,n,by simp,hk,B,T,p,C⟩
 obtain⟨D,a,j,m,X,E,aa,c,x,d⟩:=hrel;have hc:=d.cell;have hf:=d.frozen
 by_cases F:1<m
 ·obtain⟨i,rfl,e,H⟩:=Cd F E
  obtain⟨fn,tmps,assign,body,K,y⟩:=o a m (·=b) wr x (by rintro _ rfl;exact d.lt) ⟨upL i (m/2),by rw[<-c,e];simp⟩;have q:jk (a++upL (i+1) m=upL k n):=c;have M:jk (upL (i+1) m=m::upL i (m/2)):=e;clear c e o p v g;have P:jk (b6 W.heap.size u):=h;clear h
  gi_wp2
  refine⟨T,y.mono ?_⟩;rintro e z (⟨rfl,Q,r,s⟩|⟨rfl,R,r,s⟩)
  ·have f:jt z b 89 (I N m):=(s b T).trans d
   have ad:=f.cell;have VZ:=f.frozen;have S:=r.size;clear s r y K
   gi_wp2_with fail
   refine⟨trivial,T,(callsIn_wide.2 (DF _ Y _)).mono ?_⟩;rintro e w' ⟨rfl,rfl⟩
   gi_wp2
   go_roundw
   case rel=>
    refine⟨by simpa using jz D S,a++[m],i,m/2,by simp;omega,H,by omega,by rw[<-q,M];simp,P.keep Q ?_,f.set _⟩;exact⟨T,T,T,by simp,λk _ U=>.inl (qP _ _ _ _ U)⟩
   have U:uD (z.setCell ⟨b,0,A⟩ (I N ((m:jc)/2))) b=m/2:=CV (m:=m/2) (f.set _);rw[U,CV d];omega
  gi_wp2
  refine qI (qA T _ _ _) T ?_;exact⟨⟨_,T⟩,.inr ⟨_,_,trivial,R⟩⟩
 have q:jk (a++upL j m=upL k n):=c;clear c o p h v g
 gi_wp2
 refine⟨λ_ h=>(by cases h),?_⟩
 gi_wp2
 refine qI (qA T _ _ _) T ?_;exact⟨⟨_,T⟩,.inl ⟨_,_,by rw[<-q,Db Y,qD],x⟩⟩
def gq(n:je):je:=n/2
def dK(n:je):je:=n^^^1
theorem Hj(n:je)(h:n<1024)(w:jh):
 jq jm 209 #[I N n] w λe w'=>e=jo (I N (gq n:je))/\w=w':=
 DF n Y w
theorem AY(k:IntKind)(j:je)(f:j<=k.bits)(hk:∀n:jc,0<=n->n<2^j->k.wrap n=n)(a b:je)(c:a<2^j)(d:b<2^j):
 bits .xor k a b=((a^^^b:je):jc):=by
 have e:2^j<=2^k.bits:=qQ G f;have g:a%2^k.bits=a:=ql (jO c e);have h:b%2^k.bits=b:=ql (jO d e);have i:a^^^b<2^j:=sx c d;simp only[bits,tb,tx,qm,g,h];exact hk _ (Int.natCast_nonneg _) (by exact_mod_cast i)
theorem PH(n:je)(h:n<1024):bits .xor .i64 (n:jc) 1=((dK n:je):jc):=
 AY .i64 10 G (λn a b=>IntWalk.i64_in n Y) n 1 Y Y
theorem KU(n:je)(h:n<1024)(w:jh):
 jq jm 166 #[I N n] w λe w'=>e=jo (I N (dK n:je))/\w=w':=by
 go_enter func166,ntmps166
 go_wp2
 go_ret;exact⟨by rw[PH n h];rfl,rfl⟩
def iv(l:jg je):jg ji:=l.map λn:je=>jC .i64 (n:jc)
def iw(d:je):jg je:=(upL 10 (512+d)).map gq
def gd(d:je):jg je:=(upL 10 (512+d)).map dK
theorem Hm(d:je):iv (iw d)=(upL 10 (512+d)).map λn=>jC .i64 (gq n:je):=by simp[iv,iw,Function.comp_def]
theorem QQ(d:je):iv (gd d)=(upL 10 (512+d)).map λn=>jC .i64 (dK n:je):=by simp[iv,gd,Function.comp_def]
def wn(w:jh)(v:ji)(xs:jg ji):Prop:=
 (v=jb A 0 0/\xs=[])\/∃b a d,v=jb (ja ⟨b,a,A⟩) xs.length d/\∀j c,xs[j]?=ja c->w.cell? ⟨b,a+j,A⟩=ja c
theorem wn.below{v:ji}(h:wn w v xs)(d:jl w w w'):wn w' v xs:=by
 rcases h with h|⟨b,a,e,rfl,f⟩
 ·exact .inl h
 refine .inr ⟨b,a,e,T,λj g i=>?_⟩;have c:=f j g i;rw[d.cell (p:=⟨b,a+j,A⟩) (World.block_lt_of_cell? w ⟨b,a+j,A⟩ c)];exact c
end
section
open Go.RowKit Go.Shelf
attribute [local go_sem] Oper.semAt_some
theorem Ak:(jm.info? 3).map (λi=>(i.zero,i.size,i.bytes))=ja (ja (I N 0),1,8):=by kernel_rfl
set_option maxRecDepth 100000 in
theorem Oh(d:je)(V:d<512)(w:jh):
 jq jm 165 #[I N d,.func (.func 209) #[] #[]] w λe w'=>∃v,e=jo (jw #[v,I N 0])/\
  w'.ownsRow w 3 1 v 9 ((upL 10 (512+d)).map λn=>jC .i64 (gq n:je))/\jl w w w':=by
 obtain⟨X,hi,RQ,aa,ad⟩:=oi Ak;refine(qe (n:=0)).1 ?_;refine ri func165 T trivial ?_ T;simp only[ntmps165,jT,jX,km,ow,o4,pa,pz,p6,qa,mF,mT]
 gi_wp2_with fail
 refine⟨trivial,T,(callsIn_wide.2 (ud _ Y Y _)).mono ?_⟩;rintro e w' ⟨rfl,rfl⟩
 gi_wp2_with fail
 refine⟨trivial,T,(callsIn_wide.2 (Dv _ _)).mono ?_⟩;rintro e w' ⟨rfl,rfl⟩
 gi_wp2_with fail
 have E:jt (((w.alloc (jd #[.func (.func 209) #[] #[]] 236)).alloc (jd #[jb A 0 0] 58)).alloc (jd #[I N (512+d)] 89)) w.heap.size 236 (.func (.func 209) #[] #[]):=
  ((Boxed.new w _ _).alloc _).alloc _
 have F:jt (((w.alloc (jd #[.func (.func 209) #[] #[]] 236)).alloc (jd #[jb A 0 0] 58)).alloc (jd #[I N (512+d)] 89)) (w.heap.size+1) 58 (jb A 0 0):=by
  have:=Boxed.new (w.alloc (jd #[.func (.func 209) #[] #[]] 236)) 58 (jb A 0 0);rw[jF]at this;exact this.alloc _
 have t:jt (((w.alloc (jd #[.func (.func 209) #[] #[]] 236)).alloc (jd #[jb A 0 0] 58)).alloc (jd #[I N (512+d)] 89)) (w.heap.size+1+1) 89 (I N ((512+d:je):jc)):=by
  have:=Boxed.new ((w.alloc (jd #[.func (.func 209) #[] #[]] 236)).alloc (jd #[jb A 0 0] 58)) 89 (I N ((512+d:je):jc));rw[jF,jF]at this;exact this
 have H:jl w w (((w.alloc (jd #[.func (.func 209) #[] #[]] 236)).alloc (jd #[jb A 0 0] 58)).alloc (jd #[I N (512+d)] 89)):=
  (((jy _ w).alloc (jn _) _).alloc ax _).alloc (by simp;omega) _
 have a:(((w.alloc (jd #[.func (.func 209) #[] #[]] 236)).alloc (jd #[jb A 0 0] 58)).alloc (jd #[I N (512+d)] 89)).heap.size=w.heap.size+3:=by simp
 generalize(((w.alloc (jd #[.func (.func 209) #[] #[]] 236)).alloc (jd #[jb A 0 0] 58)).alloc (jd #[I N (512+d)] 89))=o at E F t H a⊢;have ba:jk (o.heap.size=w.heap.size+3):=a;have bb:w.heap.size+3<=o.heap.size:=Y;clear a;refine o5 (n:=0) (gf:=252) (lb:=#[jA (ja ⟨w.heap.size+1+1,0,A⟩)]) T (enters_of func252 ag T)
  (CR (512+d) 10 Y Y (w.heap.size+1+1) o t) (jJ _) (λ_=>rfl) (by rintro k rfl;exact t.lt)
  (λf Ψ W=>lI (w.heap.size+1) 58 w.heap.size 3 1 f.length (f.map λn=>jC .i64 (gq n:je)) (λ_=>True) Ψ W/\(jt W w.heap.size 236 (.func (.func 209) #[] #[])/\¬Ψ w.heap.size)/\(jl w w W/\∀k,Ψ k->w.heap.size<=k))
  (λ_ _ _ _=>False)
  ((pN o.heap.size (w.heap.size+1) 58 w.heap.size 3 1 (λf=>f.length) (λf:jg je=>f.map λn=>jC .i64 (gq n:je)) (λ_ _=>True)).and ((iy _ _ _ (λ_=>_)).and (l9 _ _ w (jn _) Y)))
  (λ_=>fA _ _)
  ⟨⟨_,F,by omega,j1 _ _ _ _,by simp[m0],trivial⟩,⟨E,by omega⟩,H,by rintro k rfl;omega⟩
  (λx D _ _=>D={tmps:=#[I N d,.func (.func 209) #[] #[],ju,jA (ja ⟨w,0,A⟩),jA (ja ⟨w.heap.size+1,0,A⟩),I N 0,
   I N (512+d),I N x,jw #[I N (512+d),I N 0],I N d,jw #[I N (512+d),I N 0],I N (512+d),I N 0,I N 0,.bool jp,ju,I N (512+d),
   .func (.func 252) #[] #[jA (ja ⟨w.heap.size+1+1,0,A⟩)],I N x,ju,ju,ju,ju,ju,ju,ju],defers:=[]}) (fA _ _)
  ?assign ?body ?done ?stop
 case assign=>
  intro l f x Ψ r K c _ a
  gi_wp2
  exact a _ _ (jy _ _) c T
 case body=>
  rintro l f x Ψ D r ⟨⟨v,c,K,i,M,-⟩,⟨q,P⟩,m,Q⟩ rfl g Yo bc Zr;obtain⟨hx,bd⟩:=Ea 10 (512+d) Y g;clear g;have u:=c.cell;have R:=q.cell;have y:=O m;have al:=m.size;clear m
  gi_wp2
  refine Gg (λg=>g.cell? ⟨w.heap.size+1,0,A⟩=ja v/\g.cell? ⟨w,0,A⟩=ja (.func (.func 209) #[] #[])) 6
   [(0,jf),(1,jf),(2,jf),(3,jp),(4,jp),(5,jp),(6,jp)] ag ag ag ag rfl (λ_ _ _ _ h=>h) (fun⟨_,_,h⟩=>h) ⟨u,R⟩ ?_
  refine dY (v:=?_) T T (λg j=>?_) ?_
  rotate_left
  ·obtain⟨k,s⟩:=j;go_simp;with_reducible rfl
  refine dY (v:=?_) T T (λg j=>?_) ?_
  rotate_left
  ·obtain⟨k,s⟩:=j;go_simp;with_reducible rfl
  refine dY (v:=?_) T T (λg j=>?_) ?_
  rotate_left
  ·go_simp;with_reducible rfl
  refine bE T (λz a=>?_);go_simp;refine(Hj _ Y _).mono ?_;rintro e w' ⟨rfl,rfl⟩;refine a _ _ ⟨u,R⟩ λ_=>?_
  clear a;refine bE T (λz a=>?_);go_simp;have Ts:(r.alloc (jd #[I N (gq x:je)] 3)).cell? ⟨w.heap.size+1,0,A⟩=ja v:=(c.alloc _).cell;have B:(r.alloc (jd #[I N (gq x:je)] 3)).cell? ⟨w,0,A⟩=ja (.func (.func 209) #[] #[]):=(q.alloc _).cell;refine a _ _ ⟨Ts,B⟩ λ_=>?_
  clear a;refine bE T (λz a=>?_);refine step_append_lies _ T (.tmp 19) (.tmp 23) 58 T w.heap.size 3 X (I N 0) 1 8 qz hi RQ aa ad T G v f.length _ T (i.alloc _)
   ⟨r,0,A⟩ 1 1 [I N (gq x:je)] rfl rfl (cell_one_new _ _ _) (by simp[j3]) Y (by unfold j4;omega) Y (by simp;omega) _ rfl ?_
  intro g k S au a1 a2 bf;have C:=zY a1;obtain⟨s,a3⟩:=pI (B0:=o.heap.size) c G i al Y K M Yo au C (by
   intro j U;simp only[m0,Option.some.injEq]at U;subst U;simpa using a2)
  have j:jt S w.heap.size 236 (.func (.func 209) #[] #[]):=(q.alloc _).kept C (by have:=q.not_row (e:=3) G i;exact this);have U:jt S (w.heap.size+1) 58 v:=(c.alloc _).kept C (by have:=c.not_row (e:=3) G i;exact this);have a4:=U.cell;have bg:=U.frozen;have a5:=j.cell;refine a _ _ ⟨a4,a5⟩ λ_=>?_
  clear a;refine g6 T (λz a=>?_);go_simp;refine a _ _ ⟨⟨s.1,s.2.1.mono (jJ _),s.2.2⟩,?_,⟨j.other Y _,P⟩,y.trans s.2.1,Q⟩;obtain⟨z,b1,b2,b3,b4,-⟩:=a3;exact⟨z,b1,b2,by simpa using b3,b4,trivial⟩
 case done=>
  rintro D xs Ψ W s rfl ⟨⟨v,c,K,i,M,-⟩,⟨q,P⟩,m,Q⟩ a;have u:=c.cell;have x:=c.frozen;have y:=O m;clear m;have j:=pY d V;rw[j]at i;clear j;obtain⟨g,k,rfl⟩:=ownsRow_succ i
  gi_wp2
  refine⟨by simp,.inl ⟨_,_,T,rn (b:=D) (ds:=[]) ?_,?_⟩⟩
  ·exact(KeepsOthers.setCell W _ _).same D _ a T
  have j:jt (W.setCell ⟨w.heap.size+1,0,A⟩ (jb (ja ⟨g,0,A⟩) 9 k)) (w.heap.size+1) 58 (jb (ja ⟨g,0,A⟩) 9 k):=c.set _;have l:(W.setCell ⟨w.heap.size+1,0,A⟩ (jb (ja ⟨g,0,A⟩) 9 k)).heap[D]?=ja (.deferred (ja [])):=(KeepsOthers.setCell W _ _).same D _ a T;have m:(W.setCell ⟨w.heap.size+1,0,A⟩ (jb (ja ⟨g,0,A⟩) 9 k)).ownsRow w.heap.size 3 1 (jb (ja ⟨g,0,A⟩) 9 k) 9 ((upL 10 (512+d)).map λn=>jC .i64 (gq n:je)):=
   i.kept (lw W _ _) (.inr (c.not_row (e:=3) G i).symm)
  have r:jt ((W.setCell ⟨w.heap.size+1,0,A⟩ (jb (ja ⟨g,0,A⟩) 9 k)).putObj D (.deferred A)) (w.heap.size+1) 58 (jb (ja ⟨g,0,A⟩) 9 k):=
   (uy Y).trans j
  have B:=r.cell;refine⟨jw #[jb (ja ⟨g,0,A⟩) 9 k,I N 0],by simp[results,results165,go_sem,B],_,T,rv m _ l T,?_⟩;exact(y.setCell (p:=⟨w.heap.size+1,0,A⟩) ax _).trans (iO Y)
 intro D c f Ψ W _ _ h;exact h.elim
set_option maxRecDepth 100000 in
theorem G7(d:je)(V:d<512)(w:jh):
 jq jm 165 #[I N d,.func (.func 166) #[] #[]] w λe w'=>∃v,e=jo (jw #[v,I N 0])/\
  w'.ownsRow w 3 1 v 9 ((upL 10 (512+d)).map λn=>jC .i64 (dK n:je))/\jl w w w':=by
 obtain⟨X,hi,RQ,aa,ad⟩:=oi Ak;refine(qe (n:=0)).1 ?_;refine ri func165 T trivial ?_ T;simp only[ntmps165,jT,jX,km,ow,o4,pa,pz,p6,qa,mF,mT]
 gi_wp2_with fail
 refine⟨trivial,T,(callsIn_wide.2 (ud _ Y Y _)).mono ?_⟩;rintro e w' ⟨rfl,rfl⟩
 gi_wp2_with fail
 refine⟨trivial,T,(callsIn_wide.2 (Dv _ _)).mono ?_⟩;rintro e w' ⟨rfl,rfl⟩
 gi_wp2_with fail
 have E:jt (((w.alloc (jd #[.func (.func 166) #[] #[]] 236)).alloc (jd #[jb A 0 0] 58)).alloc (jd #[I N (512+d)] 89)) w.heap.size 236 (.func (.func 166) #[] #[]):=
  ((Boxed.new w _ _).alloc _).alloc _
 have F:jt (((w.alloc (jd #[.func (.func 166) #[] #[]] 236)).alloc (jd #[jb A 0 0] 58)).alloc (jd #[I N (512+d)] 89)) (w.heap.size+1) 58 (jb A 0 0):=by
  have:=Boxed.new (w.alloc (jd #[.func (.func 166) #[] #[]] 236)) 58 (jb A 0 0);rw[jF]at this;exact this.alloc _
 have t:jt (((w.alloc (jd #[.func (.func 166) #[] #[]] 236)).alloc (jd #[jb A 0 0] 58)).alloc (jd #[I N (512+d)] 89)) (w.heap.size+1+1) 89 (I N ((512+d:je):jc)):=by
  have:=Boxed.new ((w.alloc (jd #[.func (.func 166) #[] #[]] 236)).alloc (jd #[jb A 0 0] 58)) 89 (I N ((512+d:je):jc));rw[jF,jF]at this;exact this
 have H:jl w w (((w.alloc (jd #[.func (.func 166) #[] #[]] 236)).alloc (jd #[jb A 0 0] 58)).alloc (jd #[I N (512+d)] 89)):=
  (((jy _ w).alloc (jn _) _).alloc ax _).alloc (by simp;omega) _
 have a:(((w.alloc (jd #[.func (.func 166) #[] #[]] 236)).alloc (jd #[jb A 0 0] 58)).alloc (jd #[I N (512+d)] 89)).heap.size=w.heap.size+3:=by simp
 generalize(((w.alloc (jd #[.func (.func 166) #[] #[]] 236)).alloc (jd #[jb A 0 0] 58)).alloc (jd #[I N (512+d)] 89))=o at E F t H a⊢;have ba:jk (o.heap.size=w.heap.size+3):=a;have bb:w.heap.size+3<=o.heap.size:=Y;clear a;refine o5 (n:=0) (gf:=252) (lb:=#[jA (ja ⟨w.heap.size+1+1,0,A⟩)]) T (enters_of func252 ag T)
  (CR (512+d) 10 Y Y (w.heap.size+1+1) o t) (jJ _) (λ_=>rfl) (by rintro k rfl;exact t.lt)
  (λf Ψ W=>lI (w.heap.size+1) 58 w.heap.size 3 1 f.length (f.map λn=>jC .i64 (dK n:je)) (λ_=>True) Ψ W/\(jt W w.heap.size 236 (.func (.func 166) #[] #[])/\¬Ψ w.heap.size)/\(jl w w W/\∀k,Ψ k->w.heap.size<=k))
  (λ_ _ _ _=>False)
  ((pN o.heap.size (w.heap.size+1) 58 w.heap.size 3 1 (λf=>f.length) (λf:jg je=>f.map λn=>jC .i64 (dK n:je)) (λ_ _=>True)).and ((iy _ _ _ (λ_=>_)).and (l9 _ _ w (jn _) Y)))
  (λ_=>fA _ _)
  ⟨⟨_,F,by omega,j1 _ _ _ _,by simp[m0],trivial⟩,⟨E,by omega⟩,H,by rintro k rfl;omega⟩
  (λx D _ _=>D={tmps:=#[I N d,.func (.func 166) #[] #[],ju,jA (ja ⟨w,0,A⟩),jA (ja ⟨w.heap.size+1,0,A⟩),I N 0,
   I N (512+d),I N x,jw #[I N (512+d),I N 0],I N d,jw #[I N (512+d),I N 0],I N (512+d),I N 0,I N 0,.bool jp,ju,I N (512+d),
   .func (.func 252) #[] #[jA (ja ⟨w.heap.size+1+1,0,A⟩)],I N x,ju,ju,ju,ju,ju,ju,ju],defers:=[]}) (fA _ _)
  ?assign ?body ?done ?stop
 case assign=>
  intro l f x Ψ r K c _ a
  gi_wp2
  exact a _ _ (jy _ _) c T
 case body=>
  rintro l f x Ψ D r ⟨⟨v,c,K,i,M,-⟩,⟨q,P⟩,m,Q⟩ rfl g Yo bc Zr;obtain⟨hx,bd⟩:=Ea 10 (512+d) Y g;clear g;have u:=c.cell;have R:=q.cell;have y:=O m;have al:=m.size;clear m
  gi_wp2
  refine Gg (λg=>g.cell? ⟨w.heap.size+1,0,A⟩=ja v/\g.cell? ⟨w,0,A⟩=ja (.func (.func 166) #[] #[])) 6
   [(0,jf),(1,jf),(2,jf),(3,jp),(4,jp),(5,jp),(6,jp)] ag ag ag ag rfl (λ_ _ _ _ h=>h) (fun⟨_,_,h⟩=>h) ⟨u,R⟩ ?_
  refine dY (v:=?_) T T (λg j=>?_) ?_
  rotate_left
  ·obtain⟨k,s⟩:=j;go_simp;with_reducible rfl
  refine dY (v:=?_) T T (λg j=>?_) ?_
  rotate_left
  ·obtain⟨k,s⟩:=j;go_simp;with_reducible rfl
  refine dY (v:=?_) T T (λg j=>?_) ?_
  rotate_left
  ·go_simp;with_reducible rfl
  refine bE T (λz a=>?_);go_simp;refine(KU _ Y _).mono ?_;rintro e w' ⟨rfl,rfl⟩;refine a _ _ ⟨u,R⟩ λ_=>?_
  clear a;refine bE T (λz a=>?_);go_simp;have Ts:(r.alloc (jd #[I N (dK x:je)] 3)).cell? ⟨w.heap.size+1,0,A⟩=ja v:=(c.alloc _).cell;have B:(r.alloc (jd #[I N (dK x:je)] 3)).cell? ⟨w,0,A⟩=ja (.func (.func 166) #[] #[]):=(q.alloc _).cell;refine a _ _ ⟨Ts,B⟩ λ_=>?_
  clear a;refine bE T (λz a=>?_);refine step_append_lies _ T (.tmp 19) (.tmp 23) 58 T w.heap.size 3 X (I N 0) 1 8 qz hi RQ aa ad T G v f.length _ T (i.alloc _)
   ⟨r,0,A⟩ 1 1 [I N (dK x:je)] rfl rfl (cell_one_new _ _ _) (by simp[j3]) Y (by unfold j4;omega) Y (by simp;omega) _ rfl ?_
  intro g k S au a1 a2 bf;have C:=zY a1;obtain⟨s,a3⟩:=pI (B0:=o.heap.size) c G i al Y K M Yo au C (by
   intro j U;simp only[m0,Option.some.injEq]at U;subst U;simpa using a2)
  have j:jt S w.heap.size 236 (.func (.func 166) #[] #[]):=(q.alloc _).kept C (by have:=q.not_row (e:=3) G i;exact this);have U:jt S (w.heap.size+1) 58 v:=(c.alloc _).kept C (by have:=c.not_row (e:=3) G i;exact this);have a4:=U.cell;have bg:=U.frozen;have a5:=j.cell;refine a _ _ ⟨a4,a5⟩ λ_=>?_
  clear a;refine g6 T (λz a=>?_);go_simp;refine a _ _ ⟨⟨s.1,s.2.1.mono (jJ _),s.2.2⟩,?_,⟨j.other Y _,P⟩,y.trans s.2.1,Q⟩;obtain⟨z,b1,b2,b3,b4,-⟩:=a3;exact⟨z,b1,b2,by simpa using b3,b4,trivial⟩
 case done=>
  rintro D xs Ψ W s rfl ⟨⟨v,c,K,i,M,-⟩,⟨q,P⟩,m,Q⟩ a;have u:=c.cell;have x:=c.frozen;have y:=O m;clear m;have j:=pY d V;rw[j]at i;clear j;obtain⟨g,k,rfl⟩:=ownsRow_succ i
  gi_wp2
  refine⟨by simp,.inl ⟨_,_,T,rn (b:=D) (ds:=[]) ?_,?_⟩⟩
  ·exact(KeepsOthers.setCell W _ _).same D _ a T
  have j:jt (W.setCell ⟨w.heap.size+1,0,A⟩ (jb (ja ⟨g,0,A⟩) 9 k)) (w.heap.size+1) 58 (jb (ja ⟨g,0,A⟩) 9 k):=c.set _;have l:(W.setCell ⟨w.heap.size+1,0,A⟩ (jb (ja ⟨g,0,A⟩) 9 k)).heap[D]?=ja (.deferred (ja [])):=(KeepsOthers.setCell W _ _).same D _ a T;have m:(W.setCell ⟨w.heap.size+1,0,A⟩ (jb (ja ⟨g,0,A⟩) 9 k)).ownsRow w.heap.size 3 1 (jb (ja ⟨g,0,A⟩) 9 k) 9 ((upL 10 (512+d)).map λn=>jC .i64 (dK n:je)):=
   i.kept (lw W _ _) (.inr (c.not_row (e:=3) G i).symm)
  have r:jt ((W.setCell ⟨w.heap.size+1,0,A⟩ (jb (ja ⟨g,0,A⟩) 9 k)).putObj D (.deferred A)) (w.heap.size+1) 58 (jb (ja ⟨g,0,A⟩) 9 k):=
   (uy Y).trans j
  have B:=r.cell;refine⟨jw #[jb (ja ⟨g,0,A⟩) 9 k,I N 0],by simp[results,results165,go_sem,B],_,T,rv m _ l T,?_⟩;exact(y.setCell (p:=⟨w.heap.size+1,0,A⟩) ax _).trans (iO Y)
 intro D c f Ψ W _ _ h;exact h.elim
theorem Qy(d:je)(a:d<512)(w:jh):
 jq jm 160 #[I N d] w λe w'=>∃v,e=jo (jw #[v,I N 0])/\
  w'.ownsRow w 3 1 v 9 (iv (iw d))/\jl w w w':=by
 rw[Hm]
 go_enter func160,ntmps160
 go_wp2_with fail
 refine(Oh d a _).mono ?_;rintro e w' ⟨v,rfl,b,c⟩
 go_wp2
 go_ret2;exact⟨v,T,b,c⟩
theorem IW(d:je)(a:d<512)(w:jh):
 jq jm 99 #[I N d] w λe w'=>∃v,e=jo (jw #[v,I N 0])/\
  w'.ownsRow w 3 1 v 9 (iv (gd d))/\jl w w w':=by
 rw[QQ]
 go_enter func99,ntmps99
 go_wp2_with fail
 refine(G7 d a _).mono ?_;rintro e w' ⟨v,rfl,b,c⟩
 go_wp2
 go_ret2;exact⟨v,T,b,c⟩
end
section
open Go.RowKit Go.Sort
theorem AO(v:ji)(xs:jg jc)(base b:je)(w:jh)(h:w.ownsRow base 3 1 v xs.length (xs.map (jC .i64)))(o:b<=base)(p:xs.length<=1000000):
 jq jm 161 #[v] w λe w'=>e=jo (jw #[])/\w'.ownsRow base 3 1 v xs.length ((xs.mergeSort leI).map (jC .i64))/\jl b w w':=by
 rcases h.2 with⟨rfl,c⟩|⟨g,d,q,rfl,f,a,i,j,l,m⟩
 ·refine(Tryzx.slices_Sort_int_none A 0 w).mono ?_
  rintro e w' ⟨rfl,rfl⟩;have:xs=[]:=qb c;subst this;exact⟨T,by simpa using h,jy _ _⟩
 refine(Tryzx.slices_Sort_int g 0 d xs w (holds_of_block_i a (ah m)) (jL.1 a).1 Y).mono ?_;rintro e w' ⟨rfl,n,os,rfl⟩;exact⟨T,ownsRow_sorted_i ax f a i j l,(jy b w).grown (grownBy_sorted_i _) (by have:=(jL.1 a).1;omega) (λk e=>by cases e;omega)⟩
theorem C8{gf:je}{lb:jZ ji}(d:∀args w,(callFunc gf args).run jm w=.ok (.enter gf args) w){c:je->Prop}{n₀:je}{S m V:jg jc->Prop}{w:jh}
 (f:eo jm gf lb (λx:jc=>#[I N x]) c n₀ S m V w) (g:n₀<=w.heap.size) (h:∀k,c k->k<w.heap.size) (i:∀a,V a->a.length<=1000000) (a:∀xs,S xs->xs.length<=1000000) (b:je) (j:b<=w.heap.size) (l:∀k,c k->b<=k):
 jq jm 183 #[.func (.func gf) #[] lb] w λe w'=>∃v xs,e=jo v/\S xs/\w'.ownsRow w 3 1 v xs.length ((xs.mergeSort leI).map (jC .i64))/\jl b w w':=by
 have k:=O (BF d f g h i b j l);have n:=O a;clear d f g h i l a
 go_enter func183,ntmps183
 go_wp2_with fail
 refine k.mono ?_;rintro e g ⟨v,xs,rfl,a,d,f⟩;have h:=O (AO v xs w.heap.size b g d j (n xs a));have i:=O f;clear d f
 go_wp2_with fail
 refine h.mono ?_;rintro e p ⟨rfl,d,f⟩;have l:=O d;have o:=O f;clear d f
 go_wp2
 go_ret;exact⟨v,xs,T,a,l,i.trans o⟩
theorem G6(v:ji)(xs:jg jc)(base a:je)(w:jh)(h:w.ownsRow base 3 1 v xs.length (xs.map (jC .i64)))(y:a<=base)(z:xs.length<=1000000):
 jq jm 162 #[v] w λe w'=>∃c,e=jo c/\w'.ownsRow base 3 1 c (Lib.compact xs).length ((Lib.compact xs).map (jC .i64))/\jl a w w':=by
 rcases h.2 with⟨rfl,o⟩|⟨g,d,p,rfl,r,b,B,s,f,t⟩
 ·refine(Tryzx.slices_Compact_int_empty A 0 w).mono ?_
  rintro e w' ⟨rfl,rfl⟩;have:xs=[]:=qb o;subst this;exact⟨_,T,by simpa [Lib.compact,Lib.compactUpTo]using h,jy _ _⟩
 have C:=(jL.1 b).1;refine(Tryzx.slices_Compact_int g 0 d xs w (holds_of_block_i b (ah t)) Y Y).mono ?_;rintro e w' ⟨rfl,q,rfl⟩;have u:(Lib.compact xs).length<=xs.length:=by
  unfold Lib.compact Lib.compactUpTo;rw[jD];exact jz (qS _ _) ax
 have x:∀W:jh,grow W #[]=W:=λW=>by simp[grow]
 have i:=heap_sorted_i (n:=q) (os:=#[]) (Lib.compact xs++j5 (xs.length-(Lib.compact xs).length) 0).toArray b;have j:=grownBy_sorted_i (w:=w) (g:=g) (n:=q) (os:=#[]) (Lib.compact xs++j5 (xs.length-(Lib.compact xs).length) 0).toArray;rw[x]at i j;refine⟨_,T,⟨by simp,.inr ⟨g,d,_,T,r,i,by omega,s,by simp[putCells,f],?_⟩⟩,(jy a w).grown j Y (λk e=>by cases e;omega)⟩;have k:(Lib.compact xs++j5 (xs.length-(Lib.compact xs).length) 0).length=xs.length:=by simp;omega
 have l:=take_putCells_i p (Lib.compact xs++j5 (xs.length-(Lib.compact xs).length) 0) (by rw[k,f];omega);rw[k]at l;have m:=jN (List.take (Lib.compact xs).length) l;rw[List.take_take,qn u]at m;rw[qT,m,<-List.map_take,List.take_left']
 rfl
end
theorem zF(t:jg (jc×jc))(a p:jc):fP (t++[(a,p)])=fP t++if 512<=a/\a<=1023 then [a-512]else []:=by
 unfold fP;rw[List.filter_append,j6]
 congr 1
 by_cases h:512<=a/\a<=1023
 ·simp[h.1,h.2]
 rw[jH h];simp only[List.filter_cons,List.filter_nil];rw[jH (ah h)]
 rfl
theorem vu(t:jg (jc×jc)):(fP t).length<=t.length:=by
 unfold fP;rw[jD];exact qS _ _
theorem mD{wr:jh}{g o k:je}(i:∀j,j<t.length->w.cell? ⟨g,o+j*2,A⟩=ja (I N (t.getD j (0,0)).1)/\w.cell? ⟨g,o+j*2+1,A⟩=ja (I N (t.getD j (0,0)).2))
 (d:∀x∈t,aH x.1/\aH x.2) (hk:k<t.length) (e:jl w w wr):
 ∃a p,wr.cell? ⟨g,o+k*2,A⟩=ja (I N a)/\wr.cell? ⟨g,o+k*2+1,A⟩=ja (I N p)/\aH a/\aH p/\t.getD k (0,0)=(a,p)/\t.take (k+1)=t.take k++[(a,p)]/\(a,p)∈t:=by
 obtain⟨f,h⟩:=i k hk;have b:t.getD k (0,0)=t[k]:=by simp[jR,hk]
 have c:t[k]∈t:=qo hk;refine⟨t[k].1,t[k].2,?_,?_,(d _ c).1,(d _ c).2,b,by rw[mz hk],c⟩
 ·rw[<-b];exact bQ f (e.block g (eJ f))
 rw[<-b];exact bQ h (e.block g (eJ h))
theorem rY(t:jg (jc×jc))(v:ji)(w:jh)(f:bp w v t)(u:t.length<=1000000):
 jq jm 94 #[jr #[v]] w λe w'=>∃b,e=jo b/\w'.ownsRow w 3 1 b (aY t).length ((aY t).map (jC .i64))/\jl w w w':=by
 obtain⟨p,c,rfl,F,j,d,g⟩:=f;obtain⟨H,K,M,P,Q⟩:=oi vX
 go_enter func94,ntmps94
 go_wp2_with fail
 obtain⟨x,a⟩:=J (w.alloc (jd #[jb p t.length c] 27));have i:jl w w x:=by rw[a];exact(jy _ w).alloc (jn _) _
 have R:=O (j1 x w.heap.size 3 1);rw[<-a];clear a;have S:=O i;have U:=O d;have V:=O g;have y:=O (λk=>jz (vu (t.take k)) (by rw[nz];exact Nat.min_le_left k _));obtain⟨n,a⟩:=J t.length;have h:=O a;rw[<-a]at u F⊢;clear i d g a j
 go_loopw [2,8] (λb i wr=>∃k:je,i=I N k/\k<=n/\jk (wr.ownsRow w 3 1 b (fP (t.take k)).length ((fP (t.take k)).map (jC .i64)))/\jk (jl w w wr)) (λ_ i _=>n-(jv i).toNat)
 case atStart=>exact⟨0,T,jJ _,R,S⟩
 obtain⟨k,rfl,hk,z,d⟩:=hrel
 by_cases W:k<n
 ·have X:=ao ((k:jc)<(n:jc))
  have Sm:=ao (k<n);obtain⟨g,o,rfl,j⟩:=U.out (by rw[<-h];omega);obtain⟨a,m,c1,c2,B,q,-,f,-⟩:=mD j V.out (by rw[<-h];exact W) d;have r:=O f;have al:=y k;have s:=O (d.alloc d.size (jd #[I N a,I N m] 148));have i:=O (z.alloc (jd #[I N a,I N m] 148));have au:w.heap.size<=wr.heap.size:=d.size;clear j f B q
  by_cases h5:512<=a
  ·have aa:=ao (512<=a)
   by_cases h6:a<=1023
   ·have ad:=ao (a<=1023)
    have C:=O (cell_one_new (wr.alloc (jd #[I N a,I N m] 148)) (I N (a-512)) 3);rw[jF]at C
    go_wp2_with (at_builtin;refine sg _ T _ _ 58 T w.heap.size 3 H (I N 0) 1 8 qz K M P Q T G _ _ _ T (i.alloc _) ⟨wr.heap.size+1,0,A⟩ 1 1 [I N (a-512)] T T C (by simp[j3]) (by unfold j4;omega) Y (by simp;omega) ?_;intro v' B D E _)
    have Tg:=O D;have l:=s.out;have RD:=O ((Below.alloc l l.size (jd #[I N (a-512)] 3)).grown E (by have:=l.size;simp;omega) (λj hj=>(i.lt j hj).1));clear D E l;refine⟨⟨k+1,by go_num,by omega,?_,RD⟩,by simp only[jv];omega⟩;rw[r,zF,jB ⟨h5,h6⟩,jM,j6];exact Tg
   have ad:=ap (a<=1023)
   go_wp2
   refine⟨⟨k+1,by go_num,by omega,?_,s⟩,by simp only[jv];omega⟩;rw[r,zF,jH Y,qD];exact i
  have aa:=ap (512<=a)
  go_wp2
  refine⟨⟨k+1,by go_num,by omega,?_,s⟩,by simp only[jv];omega⟩;rw[r,zF,jH Y,qD];exact i
 have X:=ap ((k:jc)<(n:jc));have Sm:=ap (k<n);obtain rfl:k=n:=Y;have a:=z.out;rw[h,List.take_length]at a;have i:=y k;have g:(fP t).length<=1000000:=jz (vu t) (by rw[<-h];exact u);have j:=O (AO _ (fP t) w.heap.size w.heap.size wr a (jn _) g);have l:=O g;clear a i g
 go_wp2_with fail
 refine j.mono ?_;rintro e q ⟨rfl,g,i⟩;have a:((fP t).mergeSort leI).length=(fP t).length:=wi _;have m:=O (G6 _ ((fP t).mergeSort leI) w.heap.size w.heap.size q (by rw[a];exact g) (jn _) (by rw[a];exact l));have o:=O i;clear g i a
 go_wp2_with fail
 refine m.mono ?_;rintro e s ⟨b,rfl,a,g⟩;have i:=O a;have r:=O g;clear a g
 go_wp2
 go_ret;exact⟨b,T,i,d.trans (o.trans r)⟩
theorem Hg(t:jg (jc×jc))(v:ji)(x:jc)(w:jh)(d:bp w v t)(h:t.length<=1000000)(g:aH x):
 jq jm 45 #[jr #[v],I N x] w λe w'=>e=jo (jw #[I N ((aN t x).getD 0),.bool (aN t x).isSome])/\jl w w w':=by
 have a:jl w w (w.alloc (jd #[v] 27)):=(jy _ w).alloc (jn _) _;have i:=O (wG t v (w.alloc (jd #[v] 27)) (d.below a) h);obtain⟨p,c,rfl,-,-,-,-⟩:=d;have j:=O g;have k:=O a;obtain⟨f,b⟩:∃f,aN t x=f:=⟨_,T⟩;rw[b];have l:=O b;clear g a b
 go_enter func45,ntmps45
 go_wp2_with fail
 refine i.mono ?_;rintro e q ⟨b,rfl,m,a,g⟩;have n:=O a;have o:=ac k g;clear a g m
 go_wp2_with (at_lookup;refine tO (he:=jP) T _ _ 167 T jP qf (oL _) b t.length _ T n x T j ?_;rw[l])
 go_ret2;exact⟨T,o⟩
theorem oK{v:ji}{l:jg jc}(h:w.ownsRow B 3 1 v l.length (l.map (jC .i64))):
 ∃p c,v=jb p l.length c/\l.length<=c/\(0<l.length->∃g,p=ja ⟨g,0,A⟩/\B<=g/\g<w.heap.size/\∀j,j<l.length->w.cell? ⟨g,j,A⟩=ja (I N (l.getD j 0))):=by
 rcases h.2 with⟨rfl,d⟩|⟨g,f,n,rfl,i,a,k,o,q,m⟩
 ·exact⟨A,0,by rw[d],by omega,λh=>by omega⟩
 refine⟨_,f,T,k,λ_=>⟨g,T,i,(jL.1 a).1,λj b=>?_⟩⟩;have e:=jN (λz:jg ji=>z[j]?) m;simp only[qT]at e;rw[qU b]at e;unfold j7;rw[a];simp only[wq,wt,if_false];rw[<-wx,e];simp[jR,b]
def dN(a:jg jc)(y:jc):jQ Bool:=if y∈a then ja jf else A
theorem wJ(a:jg jc)(z:jc):(λy=>if y=z then ja jf else dN a y)=dN (a++[z]):=by
 funext y
 unfold dN
 by_cases h:y=z
 ·simp[h]
 simp[h]
def bD(d:jc):jg jc:=(iw d.toNat).map λn:je=>(n:jc)
def fj(a:jg jc):jg jc:=a.flatMap λd=>(512+d)::bD d
theorem Kz(a:jg jc)(d:jc):fj (a++[d])=(fj a++[512+d])++bD d:=by
 simp[fj,List.flatMap_append]
theorem sA(d:jc)(a:0<=d)(b:d<512):(bD d).length=9:=by
 unfold bD iw;rw[jD,jD,pY _ Y]
theorem yD(d:jc)(c:0<=d)(e:d<512):∀x∈bD d,0<=x/\x<1024:=by
 intro x a;unfold bD iw at a;simp only[qk]at a;obtain⟨n,⟨m,b,rfl⟩,rfl⟩:=a;have:=wN 10 (512+d.toNat) m b;unfold gq;omega
theorem AH(d:jc)(a:0<=d)(b:d<512)(w:jh):
 jq jm 160 #[I N d] w λe w'=>∃v,e=jo (jw #[v,I N 0])/\w'.ownsRow w 3 1 v (bD d).length ((bD d).map (jC .i64))/\jl w w w':=by
 obtain⟨n,rfl⟩:=w9 a;refine(Qy n Y w).mono ?_;rintro e w' ⟨v,rfl,c,f⟩;refine⟨v,T,?_,f⟩;rw[sA _ a b];have e:iv (iw n)=(bD (n:jc)).map (jC .i64):=by simp[iv,bD,Function.comp_def]
 rw[<-e];exact c
def lN(t:jg (jc×jc))(U:jg jc)(i:je):Prop:=
 (t.getD i (0,0)).1<1\/1023<(t.getD i (0,0)).1\/(0<i/\(t.getD i (0,0)).1<=(t.getD (i-1) (0,0)).1)\/¬aW (t.getD i (0,0)).2\/(t.getD i (0,0)).1∉U
def JI(t:jg (jc×jc)):Prop:=∃i,i<t.length/\lN t (fj (aY t)) i
noncomputable def bW(t:jg (jc×jc)):jc:=by classical exact if JI t then 210 else 0
theorem wI(h:jl B w a)(n:je):jl B w (a.drewN n):=h.trans ⟨T,T,T,jn _,λ_ _=>rfl⟩
theorem fI(h:d=y):Ending.returned (I N y)=jo (I N d):=by rw[h]
theorem Ad(h:t.getD B (0,0)=(d,y))(e:1<=d)(f:d<=1023)(b:¬(0<B/\d<=(t.getD (B-1) (0,0)).1))(c:aW y)(a:d∈U):¬lN t U B:=by
 unfold lN;rw[h];rintro(x|x|x|x|x)
 ·exact jE x (by show ¬d<1;omega)
 ·exact jE x (by show ¬1023<d;omega)
 ·exact b x
 ·exact x c
 exact x a
theorem B7(h:∀j,j<B->¬lN t U j)(hk:¬lN t U B):∀j,j<B+1->¬lN t U j:=by
 intro j b
 rcases qs j B with a|a
 ·exact h j a
 obtain rfl:j=B:=Y;exact hk
theorem zy(w:jh):(zeroValue 4).run jm w=.ok (.bool jp) w:=by kernel_rfl
theorem mJ{k:je}(a:U=fj (aY t))(hk:k<t.length)(h:lN t U k):bW t=210:=by
 unfold bW;rw[jB];subst a;exact⟨k,hk,h⟩
theorem Ae(a:U=fj (aY t))(h:∀j,j<t.length->¬lN t U j):bW t=0:=by
 unfold bW;rw[jH];subst a;rintro⟨i,b,c⟩;exact h i b c
theorem uP(t:jg (jc×jc))(v:ji)(w:jh)(ht:bp w v t)(hl:t.length<=1000000):
 jq jm 90 #[jr #[v]] w λe w'=>e=jo (I N (bW t))/\jl w w w':=by
 have a:jl w w ((w.alloc (jd #[v] 27)).alloc (.map #[] 0)):=((jy _ w).alloc (jn _) _).alloc ax _;have j:=O (rY t v ((w.alloc (jd #[v] 27)).alloc (.map #[] 0)) (ht.below a) hl);have b:aS (gA j9) 3 ((w.alloc (jd #[v] 27)).alloc (.map #[] 0)) (w.heap.size+1) 0 (λ_=>A):=by
  have h:=aS.made (gA j9) 3 (w.alloc (jd #[v] 27));rw[jF]at h;exact h
 have X:=O ht;obtain⟨p,c,rfl,hc,-,-,-⟩:=ht;obtain⟨W0,i⟩:=J ((w.alloc (jd #[jb p t.length c] 27)).alloc (.map #[] 0));have k:W0.heap[w.heap.size]?=ja (jd #[jb p t.length c] 27 (0,0)):=by
  rw[i];exact(jG _ _ _ ax).trans (js w _)
 have d:=@run_makeMap jm
 go_enter func90,ntmps90
 go_wp2_with fail
 rw[<-i]at j a b⊢;clear d;refine j.mono ?_;rintro e w1 ⟨bo,rfl,ad,g⟩;obtain⟨pu,cu,rfl,ba,q⟩:=oK ad;have D:=O q;have F:=O (b.below g b.lt);have SF:=O ((g.block _ (jL.1 k).1).trans k);have RD:=O (a.trans (g.mono a.size));have bd:w.heap.size+1<w1.heap.size:=jO b.lt g.size;obtain⟨B,m⟩:=J (w.heap.size+1);rw[<-m]at F bd⊢;have bq:w.heap.size<B:=Y;have br:B<W0.heap.size:=by rw[i,m];simp
 have Wi:=O (jz (show(aY t).length<=(fP t).length by
  unfold aY Lib.compact Lib.compactUpTo;rw[jD];exact jz (qS _ _) ax) (vu t))
 have H:=O (λd=>(ly t d).1);obtain⟨M,o⟩:=J (aY t);rw[<-o]at D Wi H ba⊢;have bf:=O o;obtain⟨n,f⟩:=J M.length;have bs:n<=1000000:=by rw[f];exact jz Wi hl
 have r:=O f;rw[<-f]at ba⊢;clear i k a b ad g q j m f o
 go_wp2_with fail
 go_loopw [16] (λi wr=>∃k:je,i=I N k/\k<=n/\jk (aS (gA j9) 3 wr B (k*10) (dN (fj (M.take k))))/\jk (jl w w wr)/\jk (∀b,b<w1.heap.size->b≠B->wr.heap[b]?=w1.heap[b]?)/\w1.heap.size<=wr.heap.size) (λi _=>n-(jv i).toNat)
 case atStart=>exact⟨0,T,jJ _,O (F.congr (λx _=>by simp[fj,dN])),RD,O (λ_ _ _=>rfl),jn _⟩
 obtain⟨k,rfl,hk,HM,HB,q,a5⟩:=hrel
 by_cases V:k<n
 ·have hd:=ao ((k:jc)<(n:jc))
  have Sm:=ao (k<n);obtain⟨g,rfl,bm,UF,s⟩:=D.out (by rw[<-r];omega);have a:k<M.length:=by rw[<-r];exact V
  have j:=s k a;have m:M.getD k 0=M[k]:=by simp[jR,a]
  have U:=O (mz a);obtain⟨u,y,-⟩:=H M[k] (qo a);rw[m]at j;obtain⟨d,o⟩:=J (M[k]);rw[<-o]at j u y U;have P:wr.cell? ⟨g,k,A⟩=ja (I N d):=bQ j (q g UF Y);clear j m a s o;have TB:g<wr.heap.size:=Y;have bb:=O (AH d u y);have K:=O (sA d u y);have bc:=O (yD d u y);have a:aH (512+d):=aH.of Y;have HI:=O a;clear a
  go_wp2_with fail
  refine(bb _).mono ?_;rintro e w2 ⟨pv,rfl,ad,a⟩;obtain⟨pp,cp,rfl,bg,j⟩:=oK ad;rw[K]at bg j⊢;obtain⟨o,rfl,bn,bh,z⟩:=j Y;have C:=O (HM.below a Y);have S:=ac HB a;have W:jk (∀b,b<w1.heap.size->b≠B->w2.heap[b]?=w1.heap[b]?):=O λb m f=>(a.block b Y).trans (q b m f)
  have bu:=a.size;have R3:=O z;clear ad a j z P
  go_wp2_with (at_mapUpdate;refine nA (E:=gA j9) T _ _ _ 153 T jP qJ B _ _ T C (by unfold j4;omega) (512+d) T HI jf T trivial ?_;intro a WW Q;have R:=O WW;have z:=O Q;have j:=Q.grown.size;clear WW Q)
  have R:jk (aS (gA j9) 3 a B (k*10+1+0) (dN (fj (M.take k)++[512+d]++(bD d).take 0))):=O (by
   have h:=R.out;rw[wJ]at h
   simpa using h)
  have T5:jk (∀b,b<w1.heap.size->b≠B->a.heap[b]?=w1.heap[b]?):=O λb m f=>(z.grown.block b Y (ah f)).trans (W b m f)
  have RI:jk (jl w w a):=O (S.grown z.grown Y (λj e=>by cases e;omega));have Sl:jk (∀j,j<9->a.cell? ⟨o,j,A⟩=ja (I N ((bD d).getD j 0))):=O λj hj=>bQ (R3 j hj) (z.grown.block o bh (by simp;omega))
  have bv:o<a.heap.size:=Y;clear z W S R3 C
  go_wp2_with fail
  go_loopw [30] (λi wr=>∃j:je,i=I N j/\j<=9/\jk (aS (gA j9) 3 wr B (k*10+1+j) (dN (fj (M.take k)++[512+d]++(bD d).take j)))/\jk (jl w w wr)/\jk (∀b,b<a.heap.size->b≠B->wr.heap[b]?=a.heap[b]?)/\a.heap.size<=wr.heap.size) (λi _=>9-(jv i).toNat)
  case atStart=>exact⟨0,T,jJ _,R,RI,O (λ_ _ _=>rfl),jn _⟩
  obtain⟨j,rfl,hj,aa,al,S,bw⟩:=hrel
  by_cases au:j<9
  ·have bk:=ao ((j:jc)<9)
   have cy:wr.cell? ⟨o,j,A⟩=ja (I N ((bD d).getD j 0)):=bQ (Sl j au) (S o Y Y);have C:j<(bD d).length:=by rw[K];exact au
   have W:(bD d).getD j 0=(bD d)[j]:=by simp[jR,C]
   have a1:=O (mz C);have a2:=O (bc _ (qo C));rw[W]at cy;obtain⟨z,hz⟩:=J ((bD d)[j]);rw[<-hz]at cy a1 a2;have bl:jk (aH z):=O (aH.of (x:=z) (aA a2));have bA:o<wr.heap.size:=Y;clear C W hz
   go_wp2_with (at_mapUpdate;refine nA (E:=gA j9) T _ _ _ 153 T jP qJ B _ _ T aa (by unfold j4;omega) z T bl jf T trivial ?_;intro w5 a3 C;have W:=O a3;have a4:=O C;have bB:=C.grown.size;clear a3 C)
   refine⟨⟨j+1,by go_num,by omega,O ?_,O (al.grown a4.grown Y (λj e=>by cases e;omega)),O λb m f=>(a4.grown.block b Y (ah f)).trans (S b m f),by omega⟩,by simp only[jv];omega⟩;have h:=W.out;rw[wJ]at h;rw[a1,<-j8];exact h
  have bk:=ap ((j:jc)<9);obtain rfl:j=9:=Y
  go_wp2_with fail
  refine⟨⟨k+1,by go_num,by omega,O ?_,al,O λb m f=>(S b Y f).trans (T5 b m f),by omega⟩,by simp only[jv];omega⟩;have h:=aa.out;rw[lm (l:=bD d) (by rw[K];exact jn _)]at h;rw[U,Kz];exact h.mono (n':=(k+1)*10) Y
 have hd:=ap ((k:jc)<(n:jc));have Sm:=ap (k<n);obtain rfl:k=n:=Y;have TU:jk (wr.heap[w.heap.size]?=ja (jd #[jb p t.length c] 27 (0,0))):=O ((q w.heap.size Y Y).trans SF);have au:jk (aS (gA j9) 3 wr B (k*10) (dN (fj M))):=O (by
  have h:=HM.out;rw[lm (by rw[<-r];exact jn _)]at h;exact h)
 have b:=O (X.below HB);have bb:B<wr.heap.size:=Y;obtain⟨U,a⟩:=J (fj M);rw[<-a]at au;have HU:jk (U=fj (aY t)):=O (by rw[a,bf]);obtain⟨k',d⟩:=J k;rw[<-d]at au;clear a HM q D H X SF RD F r d;have cb:wr.cell? ⟨w,0,A⟩=ja (jb p t.length c):=by unfold j7;rw[TU];rfl
 obtain⟨p',c',he,-,-,a,d⟩:=b.out
 cases he
 have HC:=O a;have WU:=O d;clear a d;obtain⟨n,f⟩:=J t.length;have r:=O f;obtain⟨W3,a⟩:=J wr;have a1:w.heap.size<wr.heap.size:=Y;rw[<-a]at TU au HC bb cb HB a1⊢;rw[<-f]at hc hl cb TU⊢;clear f a a5 b
 go_wp2_with fail
 go_loopw [41] (λi wr=>∃k:je,i=I N k/\k<=n/\jk (∀j,j<k->¬lN t U j)/\jk (jl W3 W3 wr)) (λi _=>n-(jv i).toNat)
 case atStart=>exact⟨0,T,jJ _,O (λ_ h=>jE h Y),O (jy _ _)⟩
 obtain⟨k,rfl,hk,HG,SR⟩:=hrel
 by_cases V:k<n
 ·have hd:=ao ((k:jc)<(n:jc))
  have Sm:=ao (k<n);obtain⟨g,o,rfl,s⟩:=HC.out (by rw[<-r];omega);obtain⟨a,q,P,j,i,m,hgt,-,-⟩:=mD s WU.out (by rw[<-r];exact V) SR;have u:wr.cell? ⟨w,0,A⟩=ja (jb (ja ⟨g,o,A⟩) n c):=bQ cb (SR.block _ a1);have X:=O hgt;have U1:=O s;have UN:=O i;have b:=SR.alloc SR.size (jd #[I N a,I N q] 148);have C:w.heap.size<wr.heap.size:=jO a1 SR.size;have x:wr.heap.size<(wr.alloc (jd #[I N a,I N q] 148)).heap.size:=by simp
  have y:(wr.alloc (jd #[I N a,I N q] 148)).cell? ⟨wr,0,A⟩=ja (I N a):=by
   unfold j7;rw[js];rfl
  have z:(wr.alloc (jd #[I N a,I N q] 148)).cell? ⟨wr,1,A⟩=ja (I N q):=by
   unfold j7;rw[js];rfl
  have d:(wr.alloc (jd #[I N a,I N q] 148)).cell? ⟨w,0,A⟩=ja (jb (ja ⟨g,o,A⟩) n c):=bQ cb (b.block _ a1);have W:jk (aS (gA j9) 3 (wr.alloc (jd #[I N a,I N q] 148)) B (k'*10) (dN U)):=O (au.below b bb);have H:=ac HB b;have aa:=O b;clear s hgt i m b
  go_upto_region 16 with fail
  obtain⟨K,b⟩:=J (wr.alloc (jd #[I N a,I N q] 148));rw[<-b]at x y z d W H aa⊢;clear b P j u C
  by_cases h1:a<1
  ·have bg:=ao (a<1)
   have s:jk (bW t=210):=O<|mJ HU.out (by rw[<-r];exact V) (.inl (by rw[X];exact h1))
   go_quiet (fail)
   go_wp2_with fail
   go_ret;exact⟨fI s,wI H _⟩
  have bg:=ap (a<1)
  by_cases h2:1023<a
  ·have bh:=ao (1023<a)
   have s:jk (bW t=210):=O<|mJ HU.out (by rw[<-r];exact V) (.inr (.inl (by rw[X];exact h2)))
   go_quiet (fail)
   go_wp2_with fail
   go_ret;exact⟨fI s,wI H _⟩
  have bh:=ap (1023<a)
  by_cases h3:0<k
  ·have bk:=ao (0<(k:jc))
   have bl:=ao (0<k);obtain⟨m,b⟩:=J (k-1);have Z8:(k:jc)-1=(m:jc):=Y;have bm:m<n:=Y;obtain⟨a2,q2,c3,-,-,-,i,-,-⟩:=mD U1 WU (k:=m) (by rw[<-r];exact bm) aa;have bc:=O i;have HM:=O b;clear i b
   by_cases h4:a<=a2
   ·have bn:=ao (a<=a2)
    have s:jk (bW t=210):=O<|mJ HU.out (by rw[<-r];exact V) (.inr (.inr (.inl (by rw[<-HM,X,bc];exact⟨h3,h4⟩))))
    go_quiet (fail)
    go_wp2_with fail
    go_ret;exact⟨fI s,wI H _⟩
   have bn:=ap (a<=a2);have al:B<K.heap.size:=by have:=SR.size;omega
   have P:=O (fO q);have bu:qE.wrap (m:jc)=(m:jc):=by rw[qt];omega
   have bv:(0:jc)<=(m:jc):=Y;have bw:(m:jc)<(n:jc):=Y;have bA:(m:jc)<=(n:jc):=Y;have a3:jk (¬(0<k/\a<=(t.getD (k-1) (0,0)).1)):=O (by rw[<-HM,bc];exact λh=>h4 h.2)
   by_cases C:aW q
   ·have Q:b7 q=0:=eG C
    rw[Q]at P;have a4:=O C;clear Q C;have u:∀w',aS (gA j9) 3 w' B (k'*10) (dN U)->(Instr.lookup 153 (.map (ja B)) (I N a) jp).run jm w'=.ok (.bool ((dN U a).getD jp)) w':=λw' h=>h.look jP qJ (zy w') UN jp
    have D:=u K.drew (aS.of_block (w':=K.drew) W T)
    by_cases F:a∈U
    ·have R:(dN U a).getD jp=jf:=by unfold dN;rw[jB F];rfl
     rw[R]at D u;have a5:=O F;clear R F;refine jV ?_;refine iQ (λw'=>w'.cell? ⟨w,0,A⟩=ja (jb (ja ⟨g,o,A⟩) n c)/\w'.cell? ⟨g,o+m*2,A⟩=ja (I N a2)/\w'.cell? ⟨wr,0,A⟩=ja (I N a)/\w'.cell? ⟨wr,1,A⟩=ja (I N q)/\(Instr.lookup 153 (.map (ja B)) (I N a) jp).run jm w'=.ok (.bool jf) w') 100 [(0,jf),(1,jf),(2,jf),(3,jf),(4,jf),(5,jf),(6,jf),(7,jf),(8,jf),(9,jf),(10,jf),(11,jf),(12,jf),(13,jf),(14,jf),(15,jf),(16,jf),(17,jf),(18,jf),(19,jf),(20,jf),(21,jf),(22,jf),(23,jf),(24,jf),(25,jf),(26,jf),(27,jp),(28,jf),(29,jf),(30,jf),(31,jf),(32,jf),(33,jf),(34,jf),(35,jf),(36,jf)]
      ag ag ag rfl (λ_ _ _ _ h=>h) ⟨d,c3,y,z,D⟩ ?_
     iterate 27 refine uu ?_
     refine bE T (λK' j=>?_);go_simp;refine(P _).mono ?_;rintro e i ⟨rfl,b⟩;refine j _ _ ⟨bQ d (b.block _ (eJ d)),bQ c3 (b.block _ (eJ c3)),bQ y (b.block _ x),bQ z (b.block _ x),u i (aS.of_block (w':=i) W (b.block B al))⟩ λ_=>?_
     clear j;refine L ?_;iterate 9 refine uu ?_
     refine jU ?_;have S:jk (jl W3 W3 i):=O (aa.trans (qc (w:=K) ⟨b.os,b.tape,b.output,b.size,b.block⟩ aa.size));clear b u D
     go_wp2_with fail
     refine⟨⟨k+1,by go_num,by omega,O (B7 HG (Ad X Y Y a3 a4 a5)),S⟩,by simp only[jv];omega⟩
    have R:(dN U a).getD jp=jp:=by unfold dN;rw[jH F];rfl
    rw[R]at D u;have s:jk (bW t=210):=O<|mJ HU.out (by rw[<-r];exact V) (.inr (.inr (.inr (.inr (by rw[X];exact F)))));clear R F;refine jV ?_;refine iQ (λw'=>w'.cell? ⟨w,0,A⟩=ja (jb (ja ⟨g,o,A⟩) n c)/\w'.cell? ⟨g,o+m*2,A⟩=ja (I N a2)/\w'.cell? ⟨wr,0,A⟩=ja (I N a)/\w'.cell? ⟨wr,1,A⟩=ja (I N q)/\(Instr.lookup 153 (.map (ja B)) (I N a) jp).run jm w'=.ok (.bool jp) w') 100 [(0,jf),(1,jf),(2,jf),(3,jf),(4,jf),(5,jf),(6,jf),(7,jf),(8,jf),(9,jf),(10,jf),(11,jf),(12,jf),(13,jf),(14,jf),(15,jf),(16,jf),(17,jf),(18,jf),(19,jf),(20,jf),(21,jf),(22,jf),(23,jf),(24,jf),(25,jf),(26,jf),(27,jp),(28,jf),(29,jf),(30,jf),(31,jf),(32,jf),(33,jf),(34,jf),(35,jf),(36,jf)]
     ag ag ag rfl (λ_ _ _ _ h=>h) ⟨d,c3,y,z,D⟩ ?_
    iterate 27 refine uu ?_
    refine bE T (λK' j=>?_);go_simp;refine(P _).mono ?_;rintro e i ⟨rfl,b⟩;refine j _ _ ⟨bQ d (b.block _ (eJ d)),bQ c3 (b.block _ (eJ c3)),bQ y (b.block _ x),bQ z (b.block _ x),u i (aS.of_block (w':=i) W (b.block B al))⟩ λ_=>?_
    clear j;refine L ?_;iterate 9 refine uu ?_
    refine jU ?_;have S:jk (jl w w i):=O (H.trans (qc (w:=K) ⟨b.os,b.tape,b.output,b.size,b.block⟩ H.size));clear b u D
    go_wp2_with fail
    go_ret;exact⟨fI s,S⟩
   have Q:b7 q=40:=fJ C;rw[Q]at P;have s:jk (bW t=210):=O<|mJ HU.out (by rw[<-r];exact V) (.inr (.inr (.inr (.inl (by rw[X];exact C)))));clear Q C;refine jV ?_;refine iQ (λw'=>w'.cell? ⟨w,0,A⟩=ja (jb (ja ⟨g,o,A⟩) n c)/\w'.cell? ⟨g,o+m*2,A⟩=ja (I N a2)/\w'.cell? ⟨wr,0,A⟩=ja (I N a)/\w'.cell? ⟨wr,1,A⟩=ja (I N q)) 100 [(0,jf),(1,jf),(2,jf),(3,jf),(4,jf),(5,jf),(6,jf),(7,jf),(8,jf),(9,jf),(10,jf),(11,jf),(12,jf),(13,jf),(14,jf),(15,jf),(16,jf),(17,jf),(18,jf),(19,jf),(20,jf),(21,jf),(22,jf),(23,jf),(24,jf),(25,jf),(26,jf),(27,jp),(28,jf),(29,jf),(30,jf),(31,jf),(32,jf),(33,jf),(34,jf),(35,jf),(36,jf)]
    ag ag ag rfl (λ_ _ _ _ h=>h) ⟨d,c3,y,z⟩ ?_
   iterate 27 refine kW ?_
   refine bE T (λK' j=>?_);go_simp;refine(P _).mono ?_;rintro e i ⟨rfl,b⟩;refine j _ _ ⟨bQ d (b.block _ (eJ d)),bQ c3 (b.block _ (eJ c3)),bQ y (b.block _ x),bQ z (b.block _ x)⟩ λ_=>?_
   clear j;refine L ?_;iterate 3 refine kW ?_
   iterate 5 refine pU ?_
   refine kW ?_;refine jU ?_;have S:jk (jl w w i):=O (H.trans (qc (w:=K) ⟨b.os,b.tape,b.output,b.size,b.block⟩ H.size));clear b
   go_wp2_with fail
   go_ret;exact⟨fI s,S⟩
  have bk:=ap (0<(k:jc));have bl:=ap (0<k);have al:B<K.heap.size:=by have:=SR.size;omega
  have P:=O (fO q);have a3:jk (¬(0<k/\a<=(t.getD (k-1) (0,0)).1)):=O (λh=>h3 h.1);clear h3
  by_cases C:aW q
  ·have Q:b7 q=0:=eG C
   rw[Q]at P;have a4:=O C;clear Q C;have u:∀w',aS (gA j9) 3 w' B (k'*10) (dN U)->(Instr.lookup 153 (.map (ja B)) (I N a) jp).run jm w'=.ok (.bool ((dN U a).getD jp)) w':=λw' h=>h.look jP qJ (zy w') UN jp
   have D:=u K.drew (aS.of_block (w':=K.drew) W T)
   by_cases F:a∈U
   ·have R:(dN U a).getD jp=jf:=by unfold dN;rw[jB F];rfl
    rw[R]at D u;have a5:=O F;clear R F;refine jV ?_;refine iQ (λw'=>w'.cell? ⟨w,0,A⟩=ja (jb (ja ⟨g,o,A⟩) n c)/\w'.cell? ⟨wr,0,A⟩=ja (I N a)/\w'.cell? ⟨wr,1,A⟩=ja (I N q)/\(Instr.lookup 153 (.map (ja B)) (I N a) jp).run jm w'=.ok (.bool jf) w') 100 [(0,jf),(1,jf),(2,jf),(3,jf),(4,jf),(5,jf),(6,jf),(7,jf),(8,jf),(9,jf),(10,jf),(11,jf),(12,jf),(13,jf),(14,jf),(15,jf),(16,jf),(17,jf),(18,jf),(19,jf),(20,jf),(21,jf),(22,jf),(23,jf),(24,jf),(25,jf),(26,jf),(27,jp),(28,jf),(29,jf),(30,jf),(31,jf),(32,jf),(33,jf),(34,jf),(35,jf),(36,jf)]
     ag ag ag rfl (λ_ _ _ _ h=>h) ⟨d,y,z,D⟩ ?_
    iterate 12 refine kW ?_
    iterate 10 refine pU ?_
    iterate 5 refine kW ?_
    refine bE T (λK' j=>?_);go_simp;refine(P _).mono ?_;rintro e i ⟨rfl,b⟩;refine j _ _ ⟨bQ d (b.block _ (eJ d)),bQ y (b.block _ x),bQ z (b.block _ x),u i (aS.of_block (w':=i) W (b.block B al))⟩ λ_=>?_
    clear j;refine L ?_;iterate 9 refine kW ?_
    refine jU ?_;have S:jk (jl W3 W3 i):=O (aa.trans (qc (w:=K) ⟨b.os,b.tape,b.output,b.size,b.block⟩ aa.size));clear b u D
    go_wp2_with fail
    refine⟨⟨k+1,by go_num,by omega,O (B7 HG (Ad X Y Y a3 a4 a5)),S⟩,by simp only[jv];omega⟩
   have R:(dN U a).getD jp=jp:=by unfold dN;rw[jH F];rfl
   rw[R]at D u;have s:jk (bW t=210):=O<|mJ HU.out (by rw[<-r];exact V) (.inr (.inr (.inr (.inr (by rw[X];exact F)))));clear R F;refine jV ?_;refine iQ (λw'=>w'.cell? ⟨w,0,A⟩=ja (jb (ja ⟨g,o,A⟩) n c)/\w'.cell? ⟨wr,0,A⟩=ja (I N a)/\w'.cell? ⟨wr,1,A⟩=ja (I N q)/\(Instr.lookup 153 (.map (ja B)) (I N a) jp).run jm w'=.ok (.bool jp) w') 100 [(0,jf),(1,jf),(2,jf),(3,jf),(4,jf),(5,jf),(6,jf),(7,jf),(8,jf),(9,jf),(10,jf),(11,jf),(12,jf),(13,jf),(14,jf),(15,jf),(16,jf),(17,jf),(18,jf),(19,jf),(20,jf),(21,jf),(22,jf),(23,jf),(24,jf),(25,jf),(26,jf),(27,jp),(28,jf),(29,jf),(30,jf),(31,jf),(32,jf),(33,jf),(34,jf),(35,jf),(36,jf)]
    ag ag ag rfl (λ_ _ _ _ h=>h) ⟨d,y,z,D⟩ ?_
   iterate 12 refine kW ?_
   iterate 10 refine pU ?_
   iterate 5 refine kW ?_
   refine bE T (λK' j=>?_);go_simp;refine(P _).mono ?_;rintro e i ⟨rfl,b⟩;refine j _ _ ⟨bQ d (b.block _ (eJ d)),bQ y (b.block _ x),bQ z (b.block _ x),u i (aS.of_block (w':=i) W (b.block B al))⟩ λ_=>?_
   clear j;refine L ?_;iterate 9 refine kW ?_
   refine jU ?_;have S:jk (jl w w i):=O (H.trans (qc (w:=K) ⟨b.os,b.tape,b.output,b.size,b.block⟩ H.size));clear b u D
   go_wp2_with fail
   go_ret;exact⟨fI s,S⟩
  have Q:b7 q=40:=fJ C;rw[Q]at P;have s:jk (bW t=210):=O<|mJ HU.out (by rw[<-r];exact V) (.inr (.inr (.inr (.inl (by rw[X];exact C)))));clear Q C;refine jV ?_;refine iQ (λw'=>w'.cell? ⟨w,0,A⟩=ja (jb (ja ⟨g,o,A⟩) n c)/\w'.cell? ⟨wr,0,A⟩=ja (I N a)/\w'.cell? ⟨wr,1,A⟩=ja (I N q)) 100 [(0,jf),(1,jf),(2,jf),(3,jf),(4,jf),(5,jf),(6,jf),(7,jf),(8,jf),(9,jf),(10,jf),(11,jf),(12,jf),(13,jf),(14,jf),(15,jf),(16,jf),(17,jf),(18,jf),(19,jf),(20,jf),(21,jf),(22,jf),(23,jf),(24,jf),(25,jf),(26,jf),(27,jp),(28,jf),(29,jf),(30,jf),(31,jf),(32,jf),(33,jf),(34,jf),(35,jf),(36,jf)]
   ag ag ag rfl (λ_ _ _ _ h=>h) ⟨d,y,z⟩ ?_
  iterate 12 refine tR ?_
  iterate 10 refine pU ?_
  iterate 5 refine tR ?_
  refine bE T (λK' j=>?_);go_simp;refine(P _).mono ?_;rintro e i ⟨rfl,b⟩;refine j _ _ ⟨bQ d (b.block _ (eJ d)),bQ y (b.block _ x),bQ z (b.block _ x)⟩ λ_=>?_
  clear j;refine L ?_;iterate 3 refine tR ?_
  iterate 5 refine pU ?_
  refine tR ?_;refine jU ?_;have S:jk (jl w w i):=O (H.trans (qc (w:=K) ⟨b.os,b.tape,b.output,b.size,b.block⟩ H.size));clear b
  go_wp2_with fail
  go_ret;exact⟨fI s,S⟩
 have hd:=ap ((k:jc)<(n:jc));have Sm:=ap (k<n);obtain rfl:k=n:=Y;have s:jk (bW t=0):=O<|Ae HU.out (by rw[<-r];exact HG)
 go_wp2_with fail
 go_ret;exact⟨fI s,HB.trans (SR.mono HB.size)⟩
def hgt(n:je):je:=9-n.log2
theorem nI{n:je}(g:1<=n)(i:n<1024):512<=n*2^hgt n/\n*2^hgt n<1024:=by
 have a:2^n.log2<=n:=Nat.log2_self_le Y;have b:n<2^(n.log2+1):=Nat.lt_log2_self;have c:n.log2<=9:=by
  rcases qs 9 n.log2 with h|h
  ·have:=qQ (n:=2) Y (show 10<=n.log2 from h)
   omega
  exact h
 unfold hgt;obtain⟨l,d⟩:=J n.log2;rw[<-d]at a b c⊢;have e:2^l*2^(9-l)=512:=by rw[<-Nat.pow_add,Nat.add_sub_cancel' c]
 have f:2^(l+1)*2^(9-l)=1024:=by rw[<-Nat.pow_add,show l+1+(9-l)=10 by omega]
 refine⟨?_,?_⟩
 ·rw[<-e];exact qV _ a
 rw[<-f];exact Nat.mul_lt_mul_of_pos_right b (Nat.two_pow_pos _)
theorem QM(a:1<=B)(b:B*2^m<1024):2^m<=1000000:=by
 have:1*2^m<=B*2^m:=qV _ a;omega
noncomputable def gN(t:jg (jc×jc))(x:jc):jc:=if bW t=0 then(if x<1\/1023<x then 200 else 0)else bW t
noncomputable def dM(t:jg (jc×jc))(x:jc):jg jc:=if gN t x=0 then cg (aN t) (hgt x.toNat) x.toNat else []
theorem pZ{a:je}{size:je}{v:ji}{n:je}(h:w.ownsRow B e size v n xs)(b:a<=B):w.ownsRow a e size v n xs:=by
 refine⟨h.1,?_⟩
 rcases h.2 with c|⟨g,d,f,i,j,k⟩
 ·exact .inl c
 exact .inr ⟨g,d,f,i,jz b j,k⟩
theorem sL(h:d=y):Ending.returned (jw #[c,I N y])=jo (jw #[c,I N d]):=by rw[h]
theorem Ls(t:jg (jc×jc))(v:ji)(x:jc)(w:jh)(c:bp w v t)(f:t.length<=1000000):
 jq jm 100 #[jr #[v],I N x] w λe w'=>∃j,e=jo (jw #[j,I N (gN t x)])/\w'.ownsRow w 3 1 j (dM t x).length ((dM t x).map (jC .i64))/\jl w w w':=by
 have a:jl w w (w.alloc (jd #[v] 27)):=(jy _ w).alloc (jn _) _;have g:=O (uP t v (w.alloc (jd #[v] 27)) (c.below a) f);have h:=O (c.below a);have C:=O f;obtain⟨s,b⟩:=J (w.alloc (jd #[v] 27));have o:s.cell? ⟨w,0,A⟩=ja v:=by rw[b];unfold j7;rw[js];rfl
 have q:s.heap.size=w.heap.size+1:=by rw[b];simp
 obtain⟨E,k⟩:=J (gN t x);obtain⟨V,m⟩:=J (dM t x);have d:=O k;have l:=O m;rw[<-k,<-m];obtain⟨p,n⟩:=J (bW t);have i:=O n;rw[<-b,<-n]at g;rw[<-b]at h a;clear c f k m n
 go_enter func100,ntmps100
 go_wp2_with fail
 rw[<-b];clear b;refine g.mono ?_;rintro e D ⟨rfl,b⟩;have X:=bQ o (b.block _ (by show w.heap.size<_;omega));have m:=O (a.trans (b.mono a.size));have F:=O (h.below b);clear b a g h o q
 by_cases q:p=0
 ·subst q
  by_cases H:x<1
  ·have K:=ao (x<1)
   have c:jk (E=200):=O (by rw[d];unfold gN;rw[jB i.symm,jB (.inl H)]);have f:jk (V=[]):=O (by rw[l];unfold dM;rw[jH (by rw[<-d,c];decide)])
   go_wp2_with fail
   go_ret2;exact⟨jb A 0 0,sL c,by rw[f];exact j1 _ _ _ _,m⟩
  have K:=ap (x<1)
  by_cases M:1023<x
  ·have P:=ao (1023<x)
   have c:jk (E=200):=O (by rw[d];unfold gN;rw[jB i.symm,jB (.inr M)]);have f:jk (V=[]):=O (by rw[l];unfold dM;rw[jH (by rw[<-d,c];decide)])
   go_wp2_with fail
   go_ret2;exact⟨jb A 0 0,sL c,by rw[f];exact j1 _ _ _ _,m⟩
  have P:=ap (1023<x);have c:jk (E=0):=O (by rw[d];unfold gN;rw[jB i.symm,jH Y]);have f:jk (V=cg (aN t) (hgt x.toNat) x.toNat):=O (by rw[l];unfold dM;rw[jB (by rw[<-d,c])]);obtain⟨n,a⟩:=J x.toNat;have Q:jk (x=(n:jc)):=O Y;have g:jk (1<=n/\n<1024):=O Y;rw[<-a]at f;clear a
  go_wp2_with fail
  refine(wG t v D F C).mono ?_;rintro e a ⟨b,rfl,r,h,k⟩;have R:=O h;have o:=ac m k;have S:b<a.heap.size:=h.lt;clear r h k
  go_wp2_with fail
  refine(ya (ja b) x a).mono ?_;rintro e U ⟨rfl,rfl⟩;have u:a.heap.size+2=((a.alloc (jd #[.map (ja b)] 167)).alloc (jd #[I N x] 3)).heap.size:=by simp
  have y:=O ((o.alloc o.size (jd #[.map (ja b)] 167)).alloc (by have:=o.size;simp;omega) (jd #[I N x] 3));have k:jt ((a.alloc (jd #[.map (ja b)] 167)).alloc (jd #[I N x] 3)) a.heap.size 167 (.map (ja b)):=(jG _ _ _ ax).trans (js a _);have z:jt ((a.alloc (jd #[.map (ja b)] 167)).alloc (jd #[I N x] 3)) (a.heap.size+1) 3 (I N (n:jc)):=by
   have h:=js (a.alloc (jd #[.map (ja b)] 167)) (jd #[I N x] 3);rw[jF]at h;rw[<-Q];exact h
  have r:=O (zi (aN t) b t.length (hgt n) n (nI g.1 g.2).1 (nI g.1 g.2).2 a.heap.size (a.heap.size+1) a.heap.size _ ((R.alloc _).alloc _) S k z (by rw[<-u];omega));obtain⟨U,B⟩:=J ((a.alloc (jd #[.map (ja b)] 167)).alloc (jd #[I N x] 3));rw[<-B]at r y u⊢;clear k z B;have z:=O (QM g.1 (nI g.1 g.2).2);have aa:w.heap.size<=a.heap.size:=o.size;have B:=O (BF (λ_ _=>rfl) r Y (by rintro k (rfl|rfl)<;>omega) (λW h=>jz (jz h.length_le (rt _ _ _)) z) w.heap.size Y (by rintro k (rfl|rfl)<;>omega));clear r
  go_wp2_with fail
  refine B.mono ?_;rintro e w4 ⟨j,xs,rfl,rfl,h,k⟩;have r:=O h;have W:=O (y.trans k);clear h k
  go_wp2_with fail
  go_ret2;refine⟨j,sL c,?_,W⟩;rw[f];exact pZ r Y
 have a:=ap (p=0);have c:jk (E=p):=O (by rw[d];unfold gN;rw[jH (by rw[<-i];exact q)];exact i.symm);have f:jk (V=[]):=O (by rw[l];unfold dM;rw[jH (by rw[<-d,c];exact q)])
 go_wp2_with fail
 go_ret2;exact⟨jb A 0 0,sL c,by rw[f];exact j1 _ _ _ _,m⟩
theorem Ej(b n:je)(f:jc->jQ jc)(z:jc)(a:aH z)(w:jh)(h:aS (dw jP) 3 w b n f):
 jq jm 181 #[.map (ja b),I N z] w λe w'=>e=jo (jw #[])/\aS (dw jP) 3 w' b n (λy=>if y=z then A else f y)/\w.mapTurned w' b:=by
 have c:=O h;have d:=O a;clear h a
 go_enter func181,ntmps181
 go_wp2_with (refine GV (E:=dw jP) T _ _ 167 T jP qf b n f T c z T d ?_;intro h a g)
 go_end0
 exact⟨T,a,g⟩
def fT(f:jc->jQ jc)(a:jg jc)(y:jc):jQ jc:=if y∈a then A else f y
theorem Lu(f:jc->jQ jc)(a:jg jc)(z:jc):(λy=>if y=z then A else fT f a y)=fT f (a++[z]):=by
 funext y
 unfold fT
 by_cases h:y=z
 ·simp[h]
 simp[h]
noncomputable def dc(t:jg (jc×jc))(d:jc)(a:Bool):jc:=
 if bW t=0 then(if d<0\/512<=d\/(a=jf/\aN t (512+d)=A)then 200 else 0)else bW t
theorem tE{v:ji}(h:d=y):Ending.returned (jw #[c,v,I N y])=jo (jw #[c,v,I N d]):=by rw[h]
def oe(t:jg (jc×jc))(d:jc)(w:jh)(E:jc)(e:Ending)(w':jh):Prop:=
 jl w w w'/\(E≠0->e=jo (jw #[.map A,jb A 0 0,I N E]))/\
 (E=0->∃b p c,e=jo (jw #[.map (ja b),jb p 9 c,I N 0])/\w.heap.size<=b/\aS (dw jP) 3 w' b t.length (fT (aN t) ((512+d)::bD d))/\w'.ownsRow w 3 1 (jb p 9 c) 9 ((bD d).map (jC .i64)))
theorem oe.bad{e:Ending}(w':jl w w a)(b:y≠0)(h:e=jo (jw #[.map A,jb A 0 0,I N y])):oe t d w y e a:=
 ⟨w',λ_=>h,λc=>jE c b⟩
theorem yN(t:jg (jc×jc))(v:ji)(d:jc)(g:Bool)(w:jh)(f:bp w v t)(h:t.length<=1000000)(r:aH d):
 jq jm 132 #[jr #[v],I N d,.bool g] w λe w'=>oe t d w (dc t d g) e w':=by
 have a:jl w w (w.alloc (jd #[v] 27)):=(jy _ w).alloc (jn _) _;have i:=O (uP t v (w.alloc (jd #[v] 27)) (f.below a) h);have j:=O (f.below a);have HL:=O h;obtain⟨K,b⟩:=J (w.alloc (jd #[v] 27));have p:K.cell? ⟨w,0,A⟩=ja v:=by rw[b];unfold j7;rw[js];rfl
 have y:K.heap.size=w.heap.size+1:=by rw[b];simp
 obtain⟨E,k⟩:=J (dc t d g);have n:=O k;rw[<-k];obtain⟨s,o⟩:=J (bW t);have m:=O o;rw[<-b,<-o]at i;rw[<-b]at j a;obtain⟨z,c⟩:=J (qE.wrap (512+d));have M:jk (aH z):=O (aH.of (x:=z) (by rw[c,qt];omega));have au:jk (0<=d->d<512->z=512+d):=O (λq P=>by rw[c,qt];omega);have Q:=c.symm;clear f h k o r c
 go_enter func132,ntmps132
 go_wp2_with fail
 rw[<-b];clear b;refine i.mono ?_;rintro e w1 ⟨rfl,b⟩;have bl:=bQ p (b.block _ (by show w.heap.size<_;omega));have u:=O (a.trans (b.mono a.size));have Uj:=O (j.below b);clear b a i j p y
 by_cases q:s=0
 ·subst q
  go_wp2_with fail
  refine(wG t v w1 Uj HL).mono ?_;rintro e o ⟨b,rfl,c,a,f⟩;have y:=O a;have i:=ac u f;have a1:b<o.heap.size:=a.lt;have r:jk (w.heap.size<=b):=O (jz u.size c);clear c a f
  go_upto_region 6 with(at_lookup;refine tO (he:=jP) T _ _ 167 T jP qf (oL _) b t.length _ T y z (by first|rfl|(simp only[Q])) M ?_)
  obtain⟨B,a⟩:=J ((aN t z).isSome);obtain⟨gv,c⟩:=J ((aN t z).getD 0);rw[<-a,<-c];have R:=O a;clear a c Q
  by_cases P:d<0
  ·have a2:=ao (d<0)
   have a:jk (E=200):=O (by rw[n];unfold dc;rw[jB m.symm,jB (.inl P)])
   go_wp2_with fail
   go_ret3
   exact oe.bad i.out (by rw[a];decide) (tE a)
  have a2:=ap (d<0)
  by_cases h2:512<=d
  ·have a3:=ao (512<=d)
   have a:jk (E=200):=O (by rw[n];unfold dc;rw[jB m.symm,jB (.inr (.inl h2))])
   go_wp2_with fail
   go_ret3
   exact oe.bad i.out (by rw[a];decide) (tE a)
  have a3:=ap (512<=d);have a4:=au Y Y;subst a4
  by_cases c:g=jf/\B=jp
  ·obtain⟨rfl,rfl⟩:=c
   have p:aN t (512+d)=A:=by
    have:=R.out
    cases h:aN t (512+d)with
    |none=>rfl
    |some x=>rw[h]at this;cases this
   have a:jk (E=200):=O (by
    rw[n];unfold dc;rw[jB m.symm,jB (.inr (.inr ⟨T,p⟩))])
   clear p
   go_wp2_with fail
   go_ret3
   exact oe.bad i.out (by rw[a];decide) (tE a)
  have a:jk (E=0):=O (by
   rw[n];unfold dc;rw[jB m.symm,jH];rintro(h|h|⟨h,f⟩)
   ·omega
   ·omega
   exact c ⟨h,by rw[R,f];rfl⟩)
  have a5:g=jp\/(g=jf/\B=jf):=by cases g<;>cases B<;>simp_all
  have HI:=M;have ba:=O (AH d Y Y o);have C:=O (sA d Y Y);have bb:=O (yD d Y Y);have Vp:qE.wrap (512+d)=512+d:=by rw[qt];omega
  clear c
  rcases a5 with rfl|⟨rfl,rfl⟩
  all_goals
   go_upto_region 8 with fail
   go_wp2_with fail
   refine ba.mono ?_;rintro e w3 ⟨pv,rfl,j,f⟩;have D:=O j;obtain⟨pp,F,rfl,bc,k⟩:=oK j;rw[C]at bc k D⊢;obtain⟨c,rfl,bm,bd,S⟩:=k Y;have U:=O (y.below f a1);have H:=ac i f;have V:=O S;have bn:=f.size;clear j f k S
   go_wp2_with fail
   refine(Ej b t.length _ (512+d) HI w3 U).mono ?_;rintro e f ⟨rfl,S,k⟩;have bf:jk (aS (dw jP) 3 f b t.length (fT (aN t) ([512+d]++(bD d).take 0))):=O (S.congr (λx _=>by simp[fT]));have bo:=k.grown.size;have RO:jk (jl w w f):=O (H.grown k.grown (bL H.size) (λj e=>by cases e;exact r));have Ty:jk (∀j,j<9->f.cell? ⟨c,j,A⟩=ja (I N ((bD d).getD j 0))):=O λj W=>bQ (V j W) (k.grown.block c bd (by simp;omega))
   have Tj:jk (f.ownsRow o 3 1 (jb (ja ⟨c,0,A⟩) 9 F) 9 ((bD d).map (jC .i64))):=O (D.kept k.grown (.inr (by simp[m0];omega)));have bq:c<f.heap.size:=Y;clear S k y U i H V D
   go_wp2_with fail
   go_loopw [55] (λi wr=>∃j:je,i=I N j/\j<=9/\jk (aS (dw jP) 3 wr b t.length (fT (aN t) ([512+d]++(bD d).take j)))/\jk (jl w w wr)/\jk (wr.ownsRow o 3 1 (jb (ja ⟨c,0,A⟩) 9 F) 9 ((bD d).map (jC .i64)))/\jk (∀k,k<f.heap.size->k≠b->wr.heap[k]?=f.heap[k]?)/\f.heap.size<=wr.heap.size) (λi _=>9-(jv i).toNat)
   case atStart=>exact⟨0,T,jJ _,bf,RO,Tj,O (λ_ _ _=>rfl),jn _⟩
   obtain⟨j,rfl,W,S,D,U,V,br⟩:=hrel
   by_cases X:j<9
   ·have bg:=ao ((j:jc)<9)
    have cy:wr.cell? ⟨c,j,A⟩=ja (I N ((bD d).getD j 0)):=bQ (Ty j X) (V c Y Y);have i:j<(bD d).length:=by rw[C];exact X
    have H:(bD d).getD j 0=(bD d)[j]:=by simp[jR,i]
    have aa:=O (mz i);have ad:=O (bb _ (qo i));rw[H]at cy;obtain⟨y,hy⟩:=J ((bD d)[j]);rw[<-hy]at cy aa ad;have bh:jk (aH y):=O (aH.of (x:=y) (aA ad));have bs:c<wr.heap.size:=Y;clear i H hy
    go_wp2_with fail
    refine(Ej b t.length _ y bh wr S).mono ?_;rintro e w5 ⟨rfl,al,i⟩;have bk:=O al;have H:=O i;have bu:=i.grown.size;clear al i
    go_wp2_with fail
    refine⟨⟨j+1,by go_num,by omega,O ?_,O (D.grown H.grown (bL D.size) (λj e=>by cases e;exact r)),O (U.kept H.grown (.inr (by simp[m0];omega))),O λk hk p=>(H.grown.block k Y (ah p)).trans (V k hk p),by omega⟩,by simp only[jv];omega⟩;have h:=bk.out;rw[Lu]at h;rw[aa,<-j8];exact h
   have bg:=ap ((j:jc)<9);obtain rfl:j=9:=Y;have i:jk (aS (dw jP) 3 wr b t.length (fT (aN t) ((512+d)::bD d))):=O (by
    have h:=S.out;rw[lm (l:=bD d) (by rw[C];exact jn _)]at h;exact h)
   have k:w.heap.size<=o.heap.size:=jz r Y
   go_wp2_with fail
   go_ret3
   exact⟨D,λh=>jE a h,λ_=>⟨b,_,F,T,r,i,pZ U k⟩⟩
 have b:=ap (s=0);have a:jk (E=s):=O (by rw[n];unfold dc;rw[jH (by rw[<-m];exact q)];exact m.symm)
 go_wp2_with fail
 go_ret3
 exact oe.bad u.out (by rw[a];exact q) (tE a)
theorem MY:(jm.info? 148).map (λi=>(i.zero,i.size,i.bytes))=ja (ja (jr #[I N 0,I N 0]),2,16):=by kernel_rfl
theorem Dr(w:jh)(l:jg ji)(t:jI):∀j a,l[j]?=ja a->(w.alloc (jd l.toArray t)).cell? ((⟨w,0,A⟩:jK).add j)=ja a:=by
 intro j a b;have c:(⟨w,0,A⟩:jK).add j=⟨w,j,A⟩:=by unfold Addr.add;split<;>simp_all
 rw[c];have d:=js w (jd l.toArray t);simp only[j7,d]
 simpa using b
def di(f:jc->jQ jc)(a:jg jc):jg (jc×jc):=a.map λx=>(x,(f x).getD 0)
def ig(t:jg (jc×jc)):jg ji:=t.flatMap λx=>[I N x.1,I N x.2]
theorem P9(t:jg (jc×jc)):∀j,j<t.length->(ig t)[j*2]?=ja (I N (t.getD j (0,0)).1)/\(ig t)[j*2+1]?=ja (I N (t.getD j (0,0)).2):=by
 induction t with
 |nil=>intro j b;simp at b
 |cons a t c=>
  intro j b;have e:ig (a::t)=I N a.1::I N a.2::ig t:=T
  rcases j with _|j
  ·rw[e];exact⟨T,T⟩
  obtain⟨p,q⟩:=c j (ah b);rw[e,show(j+1)*2=j*2+1+1 by omega];exact⟨p,q⟩
def Fr(n:je)(v:ji):Prop:=∀p k c,v=jb p k c->∀a,p=ja a->n<=a.block
theorem Fr.of_own{sz:je}{v:ji}{n:je}(h:w.ownsRow B e sz v n xs):Fr B v:=by
 rintro p k c rfl a rfl
 rcases h.2 with⟨e,-⟩|⟨g,f,i,e,d,-⟩
 ·cases e
 injection e with b
 injection b with b
 subst b;exact d
theorem Fr.mono{n:je}{v:ji}(h:Fr n v)(b:m<=n):Fr m v:=λp k c e a d=>jz b (h p k c e a d)
theorem Fr.nil(n:je):Fr n (jb A 0 0):=by
 rintro p k c e a rfl
 cases e
theorem ye{v:ji}(h:w.ownsRow B 148 2 v t.length (ig t))(b:∀x∈t,aH x.1/\aH x.2):bp w v t:=by
 rcases h.2 with⟨rfl,c⟩|⟨g,f,r,rfl,s,k,l,u,x,m⟩
 ·exact⟨A,0,by rw[c],by omega,λ_=>c,λh=>by omega,b⟩
 refine⟨_,f,T,l,(λh=>by cases h),λy=>⟨g,0,T,λj n=>?_⟩,b⟩;obtain⟨p,q⟩:=P9 t j n;have e:∀i a,i<t.length*2->(ig t)[i]?=ja a->w.cell? ⟨g,i,A⟩=ja a:=λi a o d=>by
  rw[<-m,qU o]at d;unfold j7;rw[k];simp only[wq,wt,if_false];rw[<-wx,d]
 rw[kn];exact⟨e _ _ Y p,e _ _ Y q⟩
theorem tu(h:w.ownsRow B 148 2 c m b):∃p v,c=jb p m v:=by
 rcases h.2 with⟨rfl,a⟩|⟨g,xs,d,rfl,e,f,i,j,k,l⟩
 ·exact⟨A,0,by rw[a]⟩
 exact⟨_,xs,T⟩
theorem zK(b n:je)(f:jc->jQ jc)(w:jh)(c:aS (dw jP) 3 w b n f)(d:n<=1000000)(g:∀xs,iZ f xs->xs.length<=1000000)(h:∀x v,aH x->f x=ja v->aH v):
 jq jm 135 #[.map (ja b)] w λe w'=>∃v xs,e=jo (jr #[v])/\iZ f xs/\(w'.ownsRow w 148 2 v (di f (xs.mergeSort leI)).length (ig (di f (xs.mergeSort leI)))/\∀x∈di f (xs.mergeSort leI),aH x.1/\aH x.2)/\jl w w w':=by
 obtain⟨W,X,RQ,aa,ad⟩:=oi MY;have HM:=O c;have HN:=O d;have M:=O g;have HV:=O h;have bb:b<w.heap.size:=c.lt;clear c d g h
 go_enter func135,ntmps135
 go_wp2_with fail
 have h:jt (w.alloc (jd #[jb A 0 0] 27)) w.heap.size 27 (jb A 0 0):=js w _;have d:jl w w (w.alloc (jd #[jb A 0 0] 27)):=(jy _ w).alloc (jn _) _;have i:=HM.alloc (jd #[jb A 0 0] 27);have al:w.heap.size<(w.alloc (jd #[jb A 0 0] 27)).heap.size:=by simp
 obtain⟨l,c⟩:=J (w.alloc (jd #[jb A 0 0] 27));rw[<-c]at h d i al⊢;clear c;refine(CE (ja b) l).mono ?_;rintro e w1 ⟨rfl,rfl⟩;have au:l.heap.size<(l.alloc (jd #[.map (ja b)] 167)).heap.size:=by simp
 have g:jt (l.alloc (jd #[.map (ja b)] 167)) l.heap.size 167 (.map (ja b)):=js l _;have j:jt (l.alloc (jd #[.map (ja b)] 167)) w.heap.size 27 (jb A 0 0):=(jG _ _ _ Y).trans h;have c:=i.alloc (jd #[.map (ja b)] 167);have k:=d.alloc d.size (jd #[.map (ja b)] 167);obtain⟨D,m⟩:=J (l.alloc (jd #[.map (ja b)] 167));rw[<-m]at au g j c k⊢;clear m h i d;have m:=O (C8 (λ_ _=>rfl) (LK b n l.heap.size D.heap.size f D c g c.lt g.lt) (jn _) (λ_ h=>h.elim) (λd h=>jz h HN) M D.heap.size (jn _) (λ_ h=>h.elim));have q:=O c;have r:=O k;have u:=O j;clear c k j g
 go_wp2_with fail
 refine m.mono ?_;rintro e o ⟨bc,xs,rfl,g,i,d⟩;have j:(xs.mergeSort leI).length=xs.length:=wi _;have t:jk (∀x∈xs.mergeSort leI,aH x):=O (λx p=>(g.2.1 x ((ti xs x).1 p)).1);have s:=O (M xs g);have Yp:=O g;obtain⟨c,k⟩:=J (xs.mergeSort leI);rw[<-k]at i t j;rw[<-j]at i s;have Ti:=O k;clear g k j m;obtain⟨pu,cu,rfl,a1,j⟩:=oK i;have Yu:=O j;have Ta:=O (q.below d (bL q.lt));have RE:=O (r.trans (d.mono Y));have a2:jk (jt o w.heap.size 27 (jb A 0 0)):=O ((d.block _ Y).trans u);have bd:=d.size;obtain⟨m,g⟩:=J c.length;rw[<-g]at a1 s⊢;have E:=O g;clear i j d g q r u
 go_wp2_with fail
 go_loopw [9] (λi wr=>∃(k:je) (q:jQ jK) (d:je),i=I N k/\k<=m/\jk (jt wr w.heap.size 27 (jb q k d))/\jk (wr.ownsRow o 148 2 (jb q k d) k (ig (di f (c.take k))))/\jk (∀k,k<o.heap.size->k≠w.heap.size->wr.heap[k]?=o.heap[k]?)/\jk (jl w w wr)/\o.heap.size<=wr.heap.size) (λi _=>m-(jv i).toNat)
 case atStart=>exact⟨0,A,0,T,jJ _,a2,O (j1 _ _ _ _),O (λ_ _ _=>rfl),RE,jn _⟩
 obtain⟨k,q,d,rfl,hk,i,P,F,r,bf⟩:=hrel
 by_cases a3:k<m
 ·have hd:=ao ((k:jc)<(m:jc))
  have Sm:=ao (k<m);have bg:m<=1000000:=s.out;have j:k<c.length:=by rw[<-E];exact a3
  obtain⟨g,rfl,bh,UF,B⟩:=Yu Y;have u:=B k j;have C:c.getD k 0=c[k]:=by simp[jR,j]
  have Q:=O (mz j);have R:=O (t c[k] (qo j));rw[C]at u;obtain⟨x,p⟩:=J (c[k]);rw[<-p]at u Q R;have c1:wr.cell? ⟨g,k,A⟩=ja (I N x):=bQ u (F g UF Y);have a4:=O (Ta.of_block (F b Y Y));have TB:g<wr.heap.size:=Y;have cb:=i.cell;have cf:=i.frozen;obtain⟨y,H⟩:=J ((f x).getD 0);have S:=O H;have z:=O (P.alloc (jd #[I N x,I N y] 148));have YK:=O (Dr wr [I N x,I N y] 148);clear u C j B p H
  go_upto_region 4 with fail
  go_wp2_with (first
   |(at_lookup;refine Lt (he:=jP) T _ _ 167 T jP qf (oL _) b n _ T a4 x T R ?_;rw[<-S])
   |(at_builtin;refine sg _ T _ _ 25 T o.heap.size 148 W (jr #[I N 0,I N 0]) 2 16 underlying25 X RQ aa ad T G _ _ _ T z ⟨wr,0,A⟩ 1 1 [I N x,I N y] T T YK (by simp[j3]) (by have:=s.out;unfold j4;omega) (aA s) (by simp;omega) ?_;intro v' H K j _;have U6:=O K;have U:jk ((wr.alloc (jd #[I N x,I N y] 148)).grownBy H (jS q k d).ownBlock):=O j;obtain⟨u,B,rfl⟩:=tu K;have a5:=j.size;have C:jt H w.heap.size 27 (jb q k d):=(j.block w.heap.size (by simp;omega) (λe=>by have:=(z.lt _ e.symm).1;omega)).trans ((jG _ _ _ Y).trans i);have V:=C.cell;have ba:=C.frozen;have U7:=O (Boxed.set (jb u (k+1) B) C);clear K j C))
  have ba:=O (qK U6 (a:=⟨w,0,A⟩) (by show w.heap.size<o.heap.size;omega) (jb u (k+1) B));have C:=O (lw H w.heap.size (jb u (k+1) B));have bk:=C.size;rw[jF]at a5;have e1:ig (di f (c.take (k+1)))=ig (di f (c.take k))++[I N x,I N y]:=by rw[Q,S];simp[di,ig]
  refine⟨⟨k+1,u,B,by go_num,by omega,U7,O (by rw[e1];exact ba),O (λj hj K=>?_),O ?_,by omega⟩,by simp only[jv];omega⟩
  ·refine(C.block j Y (ah K)).trans ((U.block j (by rw[jF];omega) (λe=>by have:=(z.lt _ e.symm).1;omega)).trans ((jG _ _ _ Y).trans (F j hj K)))
  exact((r.alloc r.size (jd #[I N x,I N y] 148)).grown U (by have:=r.size;rw[jF];omega) (λj e=>by have:=(z.lt _ e).1;omega)).grown C (bL r.size) (λj e=>by cases e;exact jn _)
 have hd:=ap ((k:jc)<(m:jc));have Sm:=ap (k<m);obtain rfl:k=m:=Y;have cb:=i.cell;have cf:=i.frozen;have u:jk (wr.ownsRow o 148 2 (jb q k d) (di f c).length (ig (di f c))):=O (by
  have h:=P.out;rw[lm (by rw[<-E];exact jn _)]at h;have e:(di f c).length=k:=by unfold di;rw[jD,<-E]
  rw[e];exact h)
 have B:=O (lw wr w.heap.size (jb q k d));have C:w.heap.size<=wr.heap.size:=r.size
 go_wp2_with fail
 have V:=(Boxed.set (jb q k d) i).cell;refine j0 (v:=jr #[jb q k d]) (by simp[results,results135,go_sem,V]) T ?_;refine⟨jb q k d,xs,T,Yp,?_,r.grown B C (λj e=>by cases e;exact jn _)⟩;rw[<-Ti];refine⟨pZ (qK u (a:=⟨w,0,A⟩) (by show w.heap.size<o.heap.size;omega) _) Y,?_⟩;intro x p;obtain⟨z,g,rfl⟩:=qk.1 p;refine⟨t z g,?_⟩;show aH ((f z).getD 0)
 cases h:f z with
 |none=>exact aH.of ax
 |some y=>exact HV z y (t z g) h
theorem nJ(h:aN t d=ja y):(d,y)∈t:=by
 unfold aN at h
 cases hf:t.find? (λv=>v.1==d)with
 |none=>rw[hf]at h;cases h
 |some v=>
  rw[hf]at h;have c:=List.find?_some hf;have x:=List.mem_of_find?_eq_some hf;obtain⟨a,b⟩:=v;simp at h c;subst h;subst c;exact x
def g7(t:jg (jc×jc))(d x:jc)(y:jc):jQ jc:=if y=512+d then ja x else fT (aN t) ((512+d)::bD d) y
theorem pA{f:jc->jQ jc}(h:fT f U d=ja y):f d=ja y/\d∉U:=by
 unfold fT at h
 split at h
 ·cases h
 exact⟨h,by assumption⟩
theorem PZ(h:iZ (g7 t d y) U):U.length<=t.length+1:=by
 have b:U⊆(512+d)::t.map (·.1):=by
  intro x c;obtain⟨-,a⟩:=h.2.1 x c
  by_cases e:x=512+d
  ·rw[e];exact List.mem_cons_self ..
  unfold g7 at a;rw[jH e]at a;obtain⟨v,f⟩:=qW.1 a;exact List.mem_cons_of_mem _ (qk.2 ⟨_,nJ (pA f).1,T⟩)
 have:=h.1.length_le_of_subset b
 simpa using this
theorem Nl(a:∀e∈t,aH e.1/\aH e.2)(b:aH y):∀x v,aH x->g7 t d y x=ja v->aH v:=by
 intro x v _ h;unfold g7 at h
 split at h
 ·cases h;exact b
 exact(a _ (nJ (pA h).1)).2
theorem wE{m:Bool}(h:dc t d m=0):0<=d/\d<512:=by
 unfold dc at h
 split at h
 ·split at h
  ·exact jE h G
  omega
 rename_i a;exact jE h a
noncomputable def eX(t:jg (jc×jc))(d x:jc):jc:=if dc t d jp=0 then(if b7 x=0 then 0 else 50)else dc t d jp
def Iw(t:jg (jc×jc))(d x:jc)(w:jh)(E:jc)(e:Ending)(w':jh):Prop:=
 jl w w w'/\(E≠0->e=jo (jw #[jr #[jb A 0 0],I N E]))/\
 (E=0->∃v xs,e=jo (jw #[jr #[v],I N 0])/\iZ (g7 t d x) xs/\bp w' v (di (g7 t d x) (xs.mergeSort leI)))
theorem Rc(t:jg (jc×jc))(v:ji)(d x:jc)(w:jh)(b:bp w v t)(g:t.length<=900000)(j:aH d)(l:aH x):
 jq jm 102 #[jr #[v],I N d,I N x] w λe w'=>Iw t d x w (eX t d x) e w':=by
 have o:∀e∈t,aH e.1/\aH e.2:=by obtain⟨p,c,-,-,-,-,h⟩:=b;exact h
 have i:jl w w ((w.alloc (jd #[v] 27)).alloc (jd #[jb A 0 0] 27)):=((jy _ w).alloc (jn _) _).alloc ax _;have m:=O (yN t v d jp ((w.alloc (jd #[v] 27)).alloc (jd #[jb A 0 0] 27)) (b.below i) Y j);have k:jt ((w.alloc (jd #[v] 27)).alloc (jd #[jb A 0 0] 27)) (w.heap.size+1) 27 (jb A 0 0):=by
  have h:=js (w.alloc (jd #[v] 27)) (jd #[jb A 0 0] 27);rw[jF]at h;exact h
 have WU:=O o;have R:=O l;have D:=O g;obtain⟨E,f⟩:=J (dc t d jp);have n:=O f;rw[<-f]at m;clear b g f o l j
 go_enter func102,ntmps102
 go_wp2_with fail
 obtain⟨W0,b⟩:=J ((w.alloc (jd #[v] 27)).alloc (jd #[jb A 0 0] 27));rw[<-b]at m k i⊢;clear b;refine m.mono ?_;rintro e r ⟨s,F,H⟩;have f:jt r (w.heap.size+1) 27 (jb A 0 0):=(s.block _ k.lt).trans k;have u:=O (i.trans (s.mono i.size));have S:=O f;have a2:w.heap.size+1<r.heap.size:=f.lt
 by_cases l:E=0
 ·obtain⟨b,p,c,rfl,g,o,-⟩:=H l
  have j:=O o;have a3:w.heap.size+1<b:=jO k.lt g;clear F H s i k f m o g;have au:=wE (n.symm.trans l);have HZ:jk (aH (512+d)):=O (aH.of (x:=512+d) Y);have Vp:qE.wrap (512+d)=512+d:=by rw[qt];omega
  subst l;obtain⟨d0,d1⟩:=au
  go_wp2_with fail
  refine(fO x r).mono ?_;rintro e U ⟨rfl,g⟩;have Ta:=O (j.below g j.lt);have y:jk (jt U (w.heap.size+1) 27 (jb A 0 0)):=O ((g.block _ S.lt).trans S);have a4:=g.size;have z:=ac u g;obtain⟨V,o⟩:=J (b7 x);rw[<-o];have W:=O o;clear g o j u
  by_cases X:V=0
  ·subst X
   go_wp2_with (at_mapUpdate;refine nA (E:=dw jP) T _ _ _ 167 T jP qf b _ _ T Ta (by have:=D.out;unfold j4;omega) (512+d) T HZ x T R ?_;intro C WW K;have Tq:=O WW;have Wz:=O K;have g:=K.grown.size;clear WW K)
   have Uc:jk (jt C (w.heap.size+1) 27 (jb A 0 0)):=O ((Wz.grown.block _ Y (by simp;omega)).trans y);have RI:=O (z.grown Wz.grown (bL z.size) (λj e=>by cases e;omega));refine(zK b (t.length+1) (g7 t d x) C Tq (aA D) (λxs h=>jz (PZ h) (aA D)) (Nl WU R)).mono ?_;rintro e w4 ⟨v',xs,rfl,aa,⟨M,ad⟩,o⟩;obtain⟨q,P,rfl⟩:=tu M;have Q:jk (jt w4 (w.heap.size+1) 27 (jb A 0 0)):=O ((o.block _ Y).trans Uc);have RO:=ac RI o;have Yp:=O aa;have U5:=O M;have a1:=O ad;have a5:=o.size;have cb:=Q.cell;have cf:=Q.frozen;have al:eX t d x=0:=by unfold eX;rw[jB n.symm,jB W.symm]
   have g:=O al;clear aa M ad o al
   go_wp2_with fail
   have M:=O (lw w4 (w.heap.size+1) (jb q (di (g7 t d x) (xs.mergeSort leI)).length P));have o:=(Boxed.set (jb q (di (g7 t d x) (xs.mergeSort leI)).length P) Q).cell;refine j0 (v:=jw #[jr #[jb q (di (g7 t d x) (xs.mergeSort leI)).length P],I N 0]) (by simp[results,results102,go_sem,o]) T ?_;refine⟨RO.grown M (bL RO.size) (λj e=>by cases e;omega),λh=>jE g h,λ_=>⟨_,xs,T,Yp,?_⟩⟩;exact ye (B:=C.heap.size) (qK U5 (a:=⟨w.heap.size+1,0,A⟩) (by show w.heap.size+1<C.heap.size;omega) _) a1
  have q:=ap (V=0);have cb:=y.cell;have cf:=y.frozen;have o:=(Boxed.set (jb A 0 0) y).cell;have g:jk (eX t d x=50):=O (by unfold eX;rw[jB n.symm,jH (by rw[<-W];exact X)])
  go_wp2_with fail
  refine j0 (v:=jw #[jr #[jb A 0 0],I N 50]) (by simp[results,results102,go_sem,o]) T ?_;exact⟨z.grown (lw U (w.heap.size+1) _) (bL z.size) (λj e=>by cases e;omega),λ_=>by rw[g],λh=>jE (g.symm.trans h) G⟩
 obtain rfl:=F l;have b:=ap (E=0);have cb:=f.cell;have cf:=f.frozen;have o:=(Boxed.set (jb A 0 0) f).cell;clear F H s i k f m
 go_wp2_with fail
 have g:jk (eX t d x=E):=O (by unfold eX;rw[jH (by rw[<-n];exact l)];exact n.symm);refine j0 (v:=jw #[jr #[jb A 0 0],I N E]) (by simp[results,results102,go_sem,o]) T ?_;exact⟨u.grown (lw r (w.heap.size+1) _) (bL u.size) (λj e=>by cases e;omega),λ_=>by rw[g],λh=>jE (g.symm.trans h) l⟩
theorem ML(a n₀:je)(w:jh)(c:jt w a 167 (.map A))(p:a<n₀):
 eo jm 233 #[jA (ja ⟨a,0,A⟩)] (λx:jc=>#[I N x]) (λ_=>False) n₀ (λxs=>xs=[]) (λ_=>True) (λb=>b.length<=0) w:=by
 intro l f q W g d i b j;have m:jt W a 167 (.map A):=(g.block a c.lt).trans c;have r:=m.cell;refine(qe (n:=0)).1 ?_;refine q9 func233 T trivial ?_ T;simp only[ntmps233,jT,jX,km,ow,o4,pa,pz,p6,qa,mF,mT];clear b;have s:=run_range_nilMap (P:=jm) W 167 3 3 qf;have t:∀b,(Instr.next (jA (ja ⟨W,0,A⟩)) jp b).run jm (W.alloc (.mapIter A 0 #[] 0))=_:=λb=>run_next_nilMap W b 0 0 #[]
 have o:jk (f [] (λk=>k=W.heap.size) (W.alloc (.mapIter A 0 #[] 0))):=O (d [] _ _ W _ j (bZ.ofGrown (World.grownBy_alloc W _ A) (λk e=>by cases e)) (λ_ h=>h.elim) (λk e=>.inr (by have:=jF W (.mapIter A 0 #[] 0);omega)));clear d i
 gi_wp2
 gi_loopw [3] (λ_ wr=>wr=W.alloc (.mapIter A 0 #[] 0)) (λ_ wr=>0)
 case atStart=>rfl
 subst hrel
 gi_wp2
 refine qI (qA T _ _ _) T ?_;exact⟨⟨_,T⟩,.inl ⟨[],_,T,o⟩⟩
theorem KP(w:jh):jq jm 135 #[.map A] w λe w'=>e=jo (jr #[jb A 0 0])/\jl w w w':=by
 go_enter func135,ntmps135
 go_wp2_with fail
 have d:jt (w.alloc (jd #[jb A 0 0] 27)) w.heap.size 27 (jb A 0 0):=js w _;have b:jl w w (w.alloc (jd #[jb A 0 0] 27)):=(jy _ w).alloc (jn _) _;have m:w.heap.size<(w.alloc (jd #[jb A 0 0] 27)).heap.size:=by simp
 obtain⟨a,c⟩:=J (w.alloc (jd #[jb A 0 0] 27));rw[<-c]at d b m⊢;clear c;refine(CE A a).mono ?_;rintro e p ⟨rfl,rfl⟩;have n:a.heap.size<(a.alloc (jd #[.map A] 167)).heap.size:=by simp
 have c:jt (a.alloc (jd #[.map A] 167)) a.heap.size 167 (.map A):=js a _;have f:jt (a.alloc (jd #[.map A] 167)) w.heap.size 27 (jb A 0 0):=(jG _ _ _ Y).trans d;have g:=b.alloc b.size (jd #[.map A] 167);obtain⟨k,h⟩:=J (a.alloc (jd #[.map A] 167));rw[<-h]at n c f g⊢;clear h d b;have i:=O (C8 (V:=λb=>b.length<=0) (λ_ _=>rfl) (ML a.heap.size k.heap.size k c c.lt) (jn _) (λ_ h=>h.elim) (λb h=>by omega) (λxs h=>by rw[h];simp) k.heap.size (jn _) (λ_ h=>h.elim));have h:=O g;have o:=O f;clear g f c
 go_wp2_with fail
 refine i.mono ?_;rintro e f ⟨q,xs,rfl,rfl,b,c⟩;rw[show([]:jg jc).mergeSort leI=[]from by simp]at b;obtain⟨r,s,rfl,-,-⟩:=oK (l:=[]) b;have d:jk (jt f w.heap.size 27 (jb A 0 0)):=O ((c.block _ Y).trans o);have g:=O (h.trans (c.mono Y));have t:=d.cell;have u:=d.frozen;clear b c i
 go_wp2_with fail
 go_loopw [9] (λi wr=>i=I N 0/\wr=f) (λi _=>0)
 case atStart=>exact⟨T,T⟩
 obtain⟨rfl,rfl⟩:=hrel
 go_wp2_with fail
 have b:=(Boxed.set (jb A 0 0) d).cell;refine j0 (v:=jr #[jb A 0 0]) (by simp[results,results135,go_sem,b]) T ?_;exact⟨T,g.grown (lw _ w.heap.size _) (bL g.size) (λj e=>by cases e;exact jn _)⟩
def lq(t:jg (jc×jc))(d:jc):jc->jQ jc:=fT (aN t) ((512+d)::bD d)
theorem I8(h:iZ (lq t d) U):U.length<=t.length:=by
 have a:U⊆t.map (·.1):=by
  intro y b;obtain⟨-,c⟩:=h.2.1 y b;obtain⟨v,e⟩:=qW.1 c;exact qk.2 ⟨_,nJ (pA e).1,T⟩
 have:=h.1.length_le_of_subset a
 simpa using this
theorem LX(a:∀e∈t,aH e.1/\aH e.2):∀y v,aH y->lq t d y=ja v->aH v:=
 λy v _ h=>(a _ (nJ (pA h).1)).2
def Jh(t:jg (jc×jc))(d:jc)(w:jh)(E:jc)(e:Ending)(w':jh):Prop:=
 jl w w w'/\(E≠0->e=jo (jw #[jr #[jb A 0 0],I N E]))/\
 (E=0->∃v xs,e=jo (jw #[jr #[v],I N 0])/\iZ (lq t d) xs/\bp w' v (di (lq t d) (xs.mergeSort leI)))
theorem Hy(t:jg (jc×jc))(v:ji)(d:jc)(w:jh)(b:bp w v t)(g:t.length<=900000)(i:aH d):
 jq jm 101 #[jr #[v],I N d] w λe w'=>Jh t d w (dc t d jf) e w':=by
 have j:∀e∈t,aH e.1/\aH e.2:=by obtain⟨p,c,-,-,-,-,h⟩:=b;exact h
 have k:jl w w ((w.alloc (jd #[v] 27)).alloc (jd #[jb A 0 0] 27)):=((jy _ w).alloc (jn _) _).alloc ax _;have l:=O (yN t v d jf ((w.alloc (jd #[v] 27)).alloc (jd #[jb A 0 0] 27)) (b.below k) Y i);have m:jt ((w.alloc (jd #[v] 27)).alloc (jd #[jb A 0 0] 27)) (w.heap.size+1) 27 (jb A 0 0):=by
  have h:=js (w.alloc (jd #[v] 27)) (jd #[jb A 0 0] 27);rw[jF]at h;exact h
 have M:=O j;have D:=O g;obtain⟨E,f⟩:=J (dc t d jf);rw[<-f]at l;rw[<-f];clear b g f j i
 go_enter func101,ntmps101
 go_wp2_with fail
 obtain⟨W,b⟩:=J ((w.alloc (jd #[v] 27)).alloc (jd #[jb A 0 0] 27));rw[<-b]at l m k⊢;clear b;refine l.mono ?_;rintro e g ⟨s,x,y⟩;have u:jt g (w.heap.size+1) 27 (jb A 0 0):=(s.block _ m.lt).trans m;have F:=O (k.trans (s.mono k.size));have H:=O u;have X:w.heap.size+1<g.heap.size:=u.lt
 by_cases n:E=0
 ·obtain⟨b,p,c,rfl,i,f,-⟩:=y n
  have P:jk (aS (dw jP) 3 g b t.length (lq t d)):=O f;subst n;clear x y s k m u l f i
  go_wp2_with fail
  refine(zK b t.length (lq t d) g P (aA D) (λxs h=>jz (I8 h) (aA D)) (LX M)).mono ?_;rintro e o ⟨v',xs,rfl,C,⟨j,K⟩,f⟩;obtain⟨q,z,rfl⟩:=tu j;have i:jk (jt o (w.heap.size+1) 27 (jb A 0 0)):=O ((f.block _ Y).trans H);have r:=ac F f;have Q:=O C;have R:=O j;have S:=O K;have aa:=f.size;have U:=i.cell;have V:=i.frozen;clear C j K f
  go_wp2_with fail
  have K:=O (lw o (w.heap.size+1) (jb q (di (lq t d) (xs.mergeSort leI)).length z));have C:=(Boxed.set (jb q (di (lq t d) (xs.mergeSort leI)).length z) i).cell;refine j0 (v:=jw #[jr #[jb q (di (lq t d) (xs.mergeSort leI)).length z],I N 0]) (by simp[results,results101,go_sem,C]) T ?_;refine⟨r.grown K (bL r.size) (λj e=>by cases e;omega),λh=>jE T h,λ_=>⟨_,xs,T,Q,?_⟩⟩;exact ye (B:=g.heap.size) (qK R (a:=⟨w.heap.size+1,0,A⟩) (by show w.heap.size+1<g.heap.size;omega) _) S
 obtain rfl:=x n;have b:=O n;clear x y s k m u l n
 go_wp2_with fail
 refine(KP g).mono ?_;rintro e o ⟨rfl,f⟩;have i:jk (jt o (w.heap.size+1) 27 (jb A 0 0)):=O ((f.block _ Y).trans H);have r:=ac F f;have U:=i.cell;have V:=i.frozen;clear f
 go_wp2_with fail
 have C:=(Boxed.set (jb A 0 0) i).cell;refine j0 (v:=jw #[jr #[jb A 0 0],I N E]) (by simp[results,results101,go_sem,C]) T ?_;exact⟨r.grown (lw o (w.heap.size+1) _) (bL r.size) (λj e=>by cases e;omega),λ_=>rfl,λh=>jE h b⟩
def cV(w:jh)(v:ji)(l:jg jc):Prop:=
 ∃p c,v=jb p l.length c/\l.length<=c/\(0<l.length->∃g o,p=ja ⟨g,o,A⟩/\∀j,j<l.length->w.cell? ⟨g,o+j,A⟩=ja (I N (l.getD j 0)))
theorem OX(x:jc)(w:jh):jq jm 134 #[I N x] w λe w'=>e=jo (.bool (decide (b7 x≠0)))/\jl w w w':=by
 go_enter func134,ntmps134
 go_wp2_with fail
 refine(fO x w).mono ?_;rintro e f ⟨rfl,a⟩;have b:=O a;clear a;obtain⟨c,a⟩:=J (b7 x);rw[<-a];have d:=O a;clear a
 by_cases h:c=0
 ·subst h
  go_wp2_with fail
  go_ret;exact⟨by rw[<-d];rfl,b⟩
 have g:=ap (c=0);have a:=O h;clear h
 go_wp2_with fail
 go_ret;exact⟨by rw[<-d];simp[a.out,bne],b⟩
def gY(l:jg jc):Prop:=∀j,j<l.length->b7 (l.getD j 0)=0
theorem Jq(l:jg jc)(v:ji)(w:jh)(h:cV w v l)(B:l.length<=1000000):
 jq jm 182 #[v,.func (.func 134) #[] #[]] w λe w'=>∃r,e=jo (I N r)/\jk ((gY l->r= -1)/\(¬gY l->0<=r))/\jl w w w':=by
 obtain⟨p,c,rfl,C,b⟩:=h;have D:=O b;obtain⟨n,a⟩:=J l.length;have f:=O a;rw[<-a]at B C⊢;clear b a
 go_enter func182,ntmps182
 go_wp2_with fail
 go_loopw [8] (λi wr=>∃k:je,i=I N k/\k<=n/\jk (∀j,j<k->b7 (l.getD j 0)=0)/\jk (jl w w wr)) (λi _=>n-(jv i).toNat)
 case atStart=>exact⟨0,T,jJ _,O (λ_ h=>jE h Y),O (jy _ _)⟩
 obtain⟨k,rfl,hk,q,i⟩:=hrel
 by_cases s:k<n
 ·have E:=ao ((k:jc)<(n:jc))
  have F:=ao (k<n);obtain⟨g,o,rfl,b⟩:=D.out (by rw[<-f];omega);have a:=b k (by rw[<-f];exact s);have H:wr.cell? ⟨g,o+k,A⟩=ja (I N (l.getD k 0)):=bQ a (i.block g (eJ a));obtain⟨x,d⟩:=J (l.getD k 0);rw[<-d]at H;have t:=O d;clear b a d
  go_wp2_with fail
  refine(OX x wr).mono ?_;rintro e K ⟨rfl,a⟩;have u:=ac i a;clear a
  by_cases a:b7 x=0
  ·have d:decide (b7 x≠0)=jp:=by simp[a]
   rw[d];have m:=O a;clear d a
   go_wp2_with fail
   refine⟨⟨k+1,by go_num,by omega,O (λj y=>?_),u⟩,by simp only[jv];omega⟩
   rcases qs j k with z|z
   ·exact q j z
   obtain rfl:j=k:=Y;rw[<-t];exact m
  have d:decide (b7 x≠0)=jf:=by simp[a]
  rw[d];have m:=O a;clear d a
  go_wp2_with fail
  go_ret;exact⟨_,T,O ⟨λh=>jE (by rw[t];exact h k (by rw[<-f];exact s)) m,λ_=>by omega⟩,u⟩
 have E:=ap ((k:jc)<(n:jc));have F:=ap (k<n);obtain rfl:k=n:=Y
 go_wp2_with fail
 go_ret;exact⟨_,T,O ⟨λ_=>rfl,λh=>jE (λj y=>q j (by rw[f];exact y)) h⟩,i⟩
theorem Q8(l:jg jc)(v:ji)(w:jh)(h:cV w v l)(i:l.length<=1000000):
 jq jm 133 #[v,.func (.func 134) #[] #[]] w λe w'=>∃b,e=jo (.bool b)/\jk ((gY l->b=jp)/\(¬gY l->b=jf))/\jl w w w':=by
 have d:=O (Jq l v w h i);obtain⟨p,c,rfl,-,-⟩:=h
 go_enter func133,ntmps133
 go_wp2_with fail
 refine d.mono ?_;rintro e k ⟨r,rfl,a,f⟩;have g:=O f;clear f d
 by_cases f:0<=r
 ·have j:=ao (0<=r)
  have d:jk (¬gY l):=O (λh=>by have:=a.1 h;omega);clear a
  go_wp2_with fail
  go_ret;exact⟨jf,T,O ⟨λh=>jE h d,λ_=>rfl⟩,g⟩
 have j:=ap (0<=r);have d:jk (¬¬gY l):=O (λh=>jE (a.2 h) f);clear a
 go_wp2_with fail
 go_ret;exact⟨jp,T,O ⟨λ_=>rfl,λh=>jE h d⟩,g⟩
def InQ(x:jc):Prop:=0<=x/\x<2305843009213688669
instance(x:jc):Decidable (InQ x):=by unfold InQ;infer_instance
theorem Hk(x:jc)(w:jh):jq jm 230 #[I N x] w λe w'=>e=jo (.bool (decide (¬InQ x)))/\jl w w w':=by
 obtain⟨r,a⟩:=J (decide (¬InQ x));rw[<-a]
 by_cases c:x<0
 ·have b:=ao (x<0)
  obtain rfl:r=jf:=by rw[a];simp[InQ];omega
  clear a
  go_enter func230,ntmps230
  go_wp2
  go_ret;exact⟨T,jy _ _⟩
 have b:=ap (x<0);obtain rfl:r=decide (2305843009213688669<=x):=by rw[a];simp[InQ];omega
 clear a
 go_enter func230,ntmps230
 go_wp2
 go_ret;exact⟨T,jy _ _⟩
def gT(l:jg jc):Prop:=∀j,j<l.length->InQ (l.getD j 0)
theorem PG(l:jg jc)(v:ji)(w:jh)(h:cV w v l)(B:l.length<=1000000):
 jq jm 182 #[v,.func (.func 230) #[] #[]] w λe w'=>∃r,e=jo (I N r)/\jk ((gT l->r= -1)/\(¬gT l->0<=r))/\jl w w w':=by
 obtain⟨p,c,rfl,C,b⟩:=h;have D:=O b;obtain⟨n,a⟩:=J l.length;have f:=O a;rw[<-a]at B C⊢;clear b a
 go_enter func182,ntmps182
 go_wp2_with fail
 go_loopw [8] (λi wr=>∃k:je,i=I N k/\k<=n/\jk (∀j,j<k->InQ (l.getD j 0))/\jk (jl w w wr)) (λi _=>n-(jv i).toNat)
 case atStart=>exact⟨0,T,jJ _,O (λ_ h=>jE h Y),O (jy _ _)⟩
 obtain⟨k,rfl,hk,q,i⟩:=hrel
 by_cases s:k<n
 ·have E:=ao ((k:jc)<(n:jc))
  have F:=ao (k<n);obtain⟨g,o,rfl,b⟩:=D.out (by rw[<-f];omega);have a:=b k (by rw[<-f];exact s);have H:wr.cell? ⟨g,o+k,A⟩=ja (I N (l.getD k 0)):=bQ a (i.block g (eJ a));obtain⟨x,d⟩:=J (l.getD k 0);rw[<-d]at H;have t:=O d;clear b a d
  go_wp2_with fail
  refine(Hk x wr).mono ?_;rintro e K ⟨rfl,a⟩;have u:=ac i a;clear a
  by_cases a:InQ x
  ·have d:decide (¬InQ x)=jp:=by simp[a]
   rw[d];have m:=O a;clear d a
   go_wp2_with fail
   refine⟨⟨k+1,by go_num,by omega,O (λj y=>?_),u⟩,by simp only[jv];omega⟩
   rcases qs j k with z|z
   ·exact q j z
   obtain rfl:j=k:=Y;rw[<-t];exact m
  have d:decide (¬InQ x)=jf:=by simp[a]
  rw[d];have m:=O a;clear d a
  go_wp2_with fail
  go_ret;exact⟨_,T,O ⟨λh=>jE (by rw[t];exact h k (by rw[<-f];exact s)) m,λ_=>by omega⟩,u⟩
 have E:=ap ((k:jc)<(n:jc));have F:=ap (k<n);obtain rfl:k=n:=Y
 go_wp2_with fail
 go_ret;exact⟨_,T,O ⟨λ_=>rfl,λh=>jE (λj y=>q j (by rw[f];exact y)) h⟩,i⟩
theorem MW(l:jg jc)(v:ji)(w:jh)(h:cV w v l)(i:l.length<=1000000):
 jq jm 133 #[v,.func (.func 230) #[] #[]] w λe w'=>∃b,e=jo (.bool b)/\jk ((gT l->b=jp)/\(¬gT l->b=jf))/\jl w w w':=by
 have d:=O (PG l v w h i);obtain⟨p,c,rfl,-,-⟩:=h
 go_enter func133,ntmps133
 go_wp2_with fail
 refine d.mono ?_;rintro e k ⟨r,rfl,a,f⟩;have g:=O f;clear f d
 by_cases f:0<=r
 ·have j:=ao (0<=r)
  have d:jk (¬gT l):=O (λh=>by have:=a.1 h;omega);clear a
  go_wp2_with fail
  go_ret;exact⟨jf,T,O ⟨λh=>jE h d,λ_=>rfl⟩,g⟩
 have j:=ap (0<=r);have d:jk (¬¬gT l):=O (λh=>jE (a.2 h) f);clear a
 go_wp2_with fail
 go_ret;exact⟨jp,T,O ⟨λ_=>rfl,λh=>jE h d⟩,g⟩
theorem zB(l:jg jc)(v:ji)(w:jh)(h:cV w v l)(f:l.length<=1000000):
 jq jm 178 #[v] w λe w'=>∃a,e=jo (.bool a)/\jk ((gT l->a=jp)/\(¬gT l->a=jf))/\jl w w w':=by
 have b:=O (MW l v w h f);obtain⟨p,c,rfl,-,-⟩:=h
 go_enter func178,ntmps178
 go_wp2_with fail
 refine b.mono ?_;rintro e j ⟨r,rfl,g,d⟩;have i:=O d;clear d b
 go_wp2_with fail
 go_ret;exact⟨_,T,g,i⟩
theorem m9(w:jh)(x:jc):cV (w.alloc (jd #[I N x] 3)) (jb (ja ⟨w,0,A⟩) 1 1) [x]:=
 ⟨_,_,rfl,jn _,λ_=>⟨_,_,rfl,λj a=>by
  obtain rfl:j=0:=by simp at a;omega
  exact ae (js w _) T⟩⟩
theorem lc(w:jh)(x y:jc):cV (w.alloc (jd #[I N x,I N y] 3)) (jb (ja ⟨w,0,A⟩) 2 2) [x,y]:=
 ⟨_,_,rfl,jn _,λ_=>⟨_,_,rfl,λj a=>by
  simp at a
  rcases(show j=0\/j=1 by omega)with rfl|rfl
  ·exact ae (js w _) T
  exact ae (js w _) T⟩⟩
theorem Hv(x:jc):gT [x]↔InQ x:=⟨λh=>h 0 ax,λh j a=>by
 obtain rfl:j=0:=by simp at a;omega
 exact h⟩
theorem CN(x y:jc):gT [x,y]↔InQ x/\InQ y:=⟨λh=>⟨h 0 ax,h 1 ax⟩,λh j a=>by
 simp at a
 rcases(show j=0\/j=1 by omega)with rfl|rfl
 ·exact h.1
 exact h.2⟩
theorem zr[Decidable p]{l:jg jc}{b:Bool}(h:(gT l->b=jp)/\(¬gT l->b=jf))(e:gT l↔p):b=decide (¬p):=by
 by_cases a:p
 ·rw[h.1 (e.2 a)];simp[a]
 rw[h.2 (λg=>a (e.1 g))];simp[a]
def kE(x:jc):jc:=if InQ x then 0 else 1
theorem L4(x:jc)(w:jh):
 jq jm 130 #[I N x] w λe w'=>e=jo (I N (kE x))/\jl w w w':=by
 have a:=O (zB [x] _ _ (m9 w x) ax);have b:=O (ai w (jd #[I N x] 3))
 go_enter func130,ntmps130
 go_wp2_with fail
 refine a.mono ?_;rintro e h ⟨r,rfl,c,d⟩;have f:=ac b d;have g:=O (zr c (Hv x));clear d a b c
 cases r
 ·go_wp2_with fail
  go_ret;exact⟨by have:=g.out;simp at this;rw[kE,jB this];rfl,f⟩
 go_wp2_with fail
 go_ret;exact⟨by have:=g.out;simp at this;rw[kE,jH this];rfl,f⟩
theorem IH(x y:jc)(w:jh)(a:InQ x)(b:InQ y):
 jq jm 129 #[I N x,I N y] w λe w'=>e=jo (jw #[I N ((x+y)%2305843009213688669),I N 0])/\jl w w w':=by
 have c:=O (zB [x,y] _ _ (lc w x y) ax);have d:=O (ai w (jd #[I N x,I N y] 3));have f:=O a;have g:=O b;have j:0<=x+y:=by have:=a.1;have:=b.1;omega
 have k:x+y<4611686018427377338:=by have:=a.2;have:=b.2;omega
 have l:(x+y).tmod 2305843009213688669=(x+y)%2305843009213688669:=Int.tmod_eq_emod_of_nonneg Y;have m:=a.1;have n:=a.2;have o:=b.1;have p:=b.2;clear a b
 go_enter func129,ntmps129
 go_wp2_with fail
 refine c.mono ?_;rintro e q ⟨r,rfl,a,b⟩;have h:=ac d b;have i:=O (zr a (CN x y));obtain rfl:r=jp:=by rw[i];simp[f.out,g.out]
 clear b c d a
 go_wp2_with fail
 go_ret2;exact⟨T,h⟩
theorem Oi(a b:je)(f:a<2305843009213688669)(g:b<2305843009213688669)(w:jh):
 jq jm 231 #[I kl a,I kl b] w λe w'=>∃c d:je,e=jo (jw #[I kl c,I kl d])/\c<2305843009213688669/\d<18446744073709551616/\jk (c*18446744073709551616+d=a*b)/\w=w':=by
 refine(Al a b Y Y w).mono ?_;rintro e w' ⟨rfl,rfl⟩;have h:a*b<=2305843009213688668*2305843009213688668:=Nat.mul_le_mul Y Y;refine⟨_,_,T,?_,qu _ G,O (by rw[Nat.mul_comm];exact Nat.div_add_mod _ _),T⟩;generalize a*b=m at h;omega
theorem Od(a b:je)(f:a<2305843009213688669)(d:b<18446744073709551616)(w:jh):
 jq jm 232 #[I kl a,I kl b,I kl 2305843009213688669] w λe w'=>
  ∃(q:jc) (r:je),e=jo (jw #[I kl q,I kl r])/\(r:jc)<2305843009213688669/\jk (r=(a*18446744073709551616+b)%QN)/\jl w w w':=by
 rcases qv a with rfl|h
 ·refine(DivQ.div64_0 b d w).mono ?_
  rintro e w' ⟨q,rfl,c⟩;exact⟨q,_,T,by omega,O (by rw[qF,kn];rfl),c⟩
 refine(DivQ.div64_1 a b h f d w).mono ?_;rintro e w' ⟨q,rfl,c⟩;exact⟨q,_,T,by omega,O rfl,c⟩
theorem NW(a b:je)(c:a<2305843009213688669)(d:b<2305843009213688669)(w:jh):
 jq jm 179 #[I N a,I N b] w λe w'=>e=jo (I N ((a*b%QN:je):jc))/\jl w w w':=by
 have h:=O (Oi a b c d)
 go_enter func179,ntmps179
 go_wp2_with fail
 refine(h _).mono ?_;rintro e m ⟨i,j,rfl,f,g,k,rfl⟩;have l:=O (Od i j f g);clear f g c d
 go_wp2_with fail
 refine(l _).mono ?_;rintro e g ⟨q,r,rfl,n,d,c⟩;have f:=O c;clear c
 go_wp2_with fail
 go_ret;exact⟨by rw[<-k,<-d];rfl,f⟩
theorem GG(x y:je)(w:jh)(a:x<2305843009213688669)(b:y<2305843009213688669):
 jq jm 128 #[I N x,I N y] w λe w'=>e=jo (jw #[I N ((x*y%QN:je):jc),I N 0])/\jl w w w':=by
 have c:=O (zB [(x:jc),(y:jc)] _ _ (lc w x y) ax);have d:=O (ai w (jd #[I N x,I N y] 3));have f:jk (InQ (x:jc)):=O ⟨by omega,by omega⟩;have g:jk (InQ (y:jc)):=O ⟨by omega,by omega⟩;have h:=O (NW x y a b);clear a b
 go_enter func128,ntmps128
 go_wp2_with fail
 refine c.mono ?_;rintro e k ⟨r,rfl,a,b⟩;have i:=ac d b;have j:=O (zr a (CN x y));obtain rfl:r=jp:=by rw[j];simp[f.out,g.out]
 clear b c d a
 go_wp2_with fail
 refine(h _).mono ?_;rintro e c ⟨rfl,a⟩;have b:=ac i a;clear a
 go_wp2_with fail
 go_ret2;exact⟨T,b⟩
def aR(a k:je):je:=a^k%PN
theorem Kg(a k b P:je)(c:1<P)(h:a^b%P=1):(a^k%P)^b%P=1:=by
 rw[<-Nat.pow_mod,<-Nat.pow_mul,Nat.mul_comm,Nat.pow_mul,Nat.pow_mod,h,Nat.one_pow,ql c]
theorem nX{a:je}(h:aW a)(k:je):aW (aR a k:je):=by
 have c:a^QN%PN=1:=by have:=h.2.2;rwa [xa]at this
 have b:(aR a k)^QN%PN=1:=Kg a k QN PN (by rw[dX];decide) c;have d:aR a k<PN:=qu _ (by rw[dX];decide);have e:1<=aR a k:=by
  rcases qv (aR a k)with h|h
  ·rw[h,Nat.zero_pow (by unfold QN;decide)]at b
   exact jE b (by rw[Nat.zero_mod];decide)
  exact h
 rw[dX]at d;exact⟨by omega,by omega,by rw[xa];exact b⟩
theorem zp(a k:je)(b:aW a)(hk:k<2305843009213688669)(w:jh):
 jq jm 111 #[I N a,I N k] w λe w'=>e=jo (jw #[I N (aR a k:je),I N 0])/\jl w w w':=by
 have c:=O (fO a w);rw[eG b]at c;have l:=b.2.1;have f:=O (BQ a k (by rw[dX];omega) Y);have m:decide ((k:jc)<0)=jp:=by simp
 have n:=ap ((2305843009213688669:jc)<=(k:jc));clear b
 go_enter func111,ntmps111
 go_wp2_with fail
 refine c.mono ?_;rintro e o ⟨rfl,b⟩;have g:=O b;clear b c
 go_wp2_with fail
 refine(f _).mono ?_;rintro e p ⟨c,rfl,b,d⟩;have i:=ac g d;have q:(c:jc)<4611686018427377339:=by
  have h:=b.out;have j:c<PN:=by rw[h];exact qu _ (by rw[dX];decide)
  rw[dX]at j;omega
 clear d
 go_wp2_with fail
 go_ret2;exact⟨by rw[aR,<-b];rfl,i⟩
theorem lT:aW 4:=by
 refine⟨by decide,by decide,?_⟩;rw[<-uk _ QN 62 G]
 decide+kernel
theorem QY:aW 4:=lT
theorem uq(k:je)(hk:k<2305843009213688669)(w:jh):
 jq jm 109 #[I N k] w λe w'=>e=jo (jw #[I N (aR 4 k:je),I N 0])/\jl w w w':=by
 have b:=O (zp 4 k QY hk)
 go_enter func109,ntmps109
 go_wp2_with fail
 refine(b _).mono ?_;rintro e d ⟨rfl,a⟩;have c:=O a;clear a
 go_wp2_with fail
 go_ret2;exact⟨T,c⟩
theorem MS(a b:je)(c:aW a)(d:aW b)(w:jh):
 jq jm 131 #[I N a,I N b] w λe w'=>e=jo (jw #[I N (a*b%PN:je),I N 0])/\jl w w w':=by
 have o:∀W:jh,(Instr.index 257 (jr #[I N a,I N b]) (I N 0)).run jm W=.ok (I N a) W:=λW=>by
  have f:=underlying257;unfold Instr.index;simp[asIntOf,run_underlying f,part]
 have p:∀W:jh,(Instr.index 257 (jr #[I N a,I N b]) (I N 1)).run jm W=.ok (I N b) W:=λW=>by
  have f:=underlying257;unfold Instr.index;simp[asIntOf,run_underlying f,part]
 have g:=O (fO a);have j:=O (fO b);rw[eG c]at g;rw[eG d]at j;have q:=c.2.1;have r:=d.2.1;have l:=O (zf a b (by rw[dX];omega) (by rw[dX];omega));clear c d
 go_enter func131,ntmps131
 go_wp2_with fail
 go_loopw [12] (λi wr=>∃k:je,i=I N k/\k<=2/\jk (jl w w wr)) (λi _=>(2-jv i).toNat)
 case atStart=>exact⟨0,T,by omega,O (jy _ _)⟩
 obtain⟨k,rfl,hk,d⟩:=hrel
 rcases(show k=0\/k=1\/k=2 by omega)with rfl|rfl|rfl
 ·go_wp2_with fail
  refine(g _).mono ?_;rintro e h ⟨rfl,c⟩;have f:=ac d c;clear c
  go_wp2_with fail
  go_roundw
  case rel=>exact⟨1,T,by omega,f⟩
  case measure=>simp only[jv];omega
 ·go_wp2_with fail
  refine(j _).mono ?_;rintro e h ⟨rfl,c⟩;have f:=ac d c;clear c
  go_wp2_with fail
  go_roundw
  case rel=>exact⟨2,T,by omega,f⟩
  case measure=>simp only[jv];omega
 go_wp2_with fail
 refine(l _).mono ?_;rintro e s ⟨c,rfl,f,i⟩;have m:=ac d i;have t:(c:jc)<4611686018427377339:=by
  have h:=f.out;have n:c<PN:=by rw[h];exact qu _ (by rw[dX];decide)
  rw[dX]at n;omega
 clear i
 go_wp2_with fail
 go_ret2;exact⟨by rw[<-f];rfl,m⟩
theorem F3(s:ByteArray)(g:s.size<=100000)(v:ji)(l:af)(h:l.length<=900000)(w:jh)(b:aP w v l)(a:en w)(c:fU w):
 jq jm 169 #[jj s,v] w λe w'=>e=jo (I N (nS (aX s) l:je))/\jl w w w':=by
 have d:=O (pJ s g v l h w b a c);have i:jk ((cS (aX s) l).length=32):=O (gX _ _);obtain⟨m,n,rfl,-,-,-⟩:=b;clear a c
 go_enter func169,ntmps169
 go_wp2_with fail
 refine d.mono ?_;rintro e j ⟨rfl,c⟩;have a:=O (Qd (cS (aX s) l) i j);obtain⟨o,f⟩:=J (((cS (aX s) l).map v8).toArray);rw[<-f]at a⊢;have k:=O c;clear c d f
 go_wp2_with fail
 refine a.mono ?_;rintro e p ⟨rfl,c⟩;have f:=ac k c;have d:=uT (cS (aX s) l);rw[rF]at d;clear c a;obtain⟨r,a⟩:=J (iq (cS (aX s) l));rw[<-a]at d⊢;have c:=O a;clear a
 go_wp2_with fail
 go_ret;exact⟨by rw[nS,<-c];simp,f⟩
def ko(kb b a c:af):af:=kb++b++gE a.length 8++a++c
def nC(kb a b c:af):af:=(cS gg (ko kb a b c)).take 16
theorem pg(kb nb hb cb):(nC kb nb hb cb).length=16:=by simp[nC,gX]
theorem Ie(n:je)(c:n<9223372036854775808)(w:jh):
 jq jm 218 #[I N n] w λe w'=>∃g a,e=jo (jb (ja ⟨g,0,A⟩) 8 a)/\jk (aP w' (jb (ja ⟨g,0,A⟩) 8 a) (gE n 8))/\jl w w w':=by
 refine(IC n c w).mono ?_;rintro e w' ⟨v,rfl,b,d⟩;have f:aP w' v (gE n 8):=aP.of_own (B:=w.heap.size) (by rw[Bj];exact b)
 rcases b.2 with⟨rfl,h⟩|⟨g,a,i,rfl,j⟩
 ·exact jE h G
 exact⟨g,a,T,f,d⟩
theorem Below.al(h:jl w w w')(o:Obj):jl w w (w'.alloc o):=h.alloc h.size o
theorem Below.tr{b:jh}(h:jl w w a)(k:jl a a b):jl w w b:=h.trans (k.mono h.size)
theorem Below.dr(h:jl w w a):jl w w a.drew:=⟨h.os,h.tape,h.output,h.size,h.block⟩
theorem Lv(b h X:jh)(kb c a d:af)(j k l m n:ji)(p:aP b j kb)(q:aP b k c)(r:aP h l (gE a.length 8))(s:aP b m a)(u:aP b n d)
 (f:jl b b X) (w:jl h h X) (g:je) (t:jI) (x:X.heap[g]?=ja (jd #[j,k,l,m,n] t (0,0))) (z:(ko kb c a d).length<=900000):
 jq jm 124 #[jb (ja ⟨g,0,A⟩) 5 5] X λe w'=>∃v,e=jo v/\jk (aP w' v (ko kb c a d))/\jl X X w':=by
 have o:[kb,c,gE a.length 8,a,d].flatten=ko kb c a d:=by simp[ko]
 refine(te g 5 t [j,k,l,m,n] [kb,c,gE a.length 8,a,d] T T (by rw[o];omega) X x ?_ G).mono ?_
 ·intro i y
  match i,y with
  |0,_=>exact p.below f
  |1,_=>exact q.below f
  |2,_=>exact r.below w
  |3,_=>exact s.below f
  |4,_=>exact u.below f
 rintro e w' ⟨v,rfl,i,y⟩;rw[o]at i;exact⟨v,T,aP.of_own i,y⟩
theorem JU(kb a b c:af)(hk:kb.length=32)(d:a.length=12):(ko kb a b c).length=52+b.length+c.length:=by
 simp[ko,hk,d,Bj];omega
theorem uA(w:jh)(o a:Obj):((w.alloc o).alloc a).heap[w.heap.size+1]?=ja a:=by
 have:=js (w.alloc o) a
 rwa [jF]at this
theorem rH(w:jh)(a:jZ ji)(t:jI)(n:je)(h:a.size=n):(w.alloc (jd a t)).there w.heap.size 0 n:=λj d=>by
 have b:=js w (jd a t);have c:j<a.size:=Y;simp only[j7,qX,b];simp[c]
theorem oT{b n:je}(h:w.there b 0 n)(a:jl w w w'):w'.there b 0 n:=λj e=>by
 obtain⟨f,g⟩:=h j e;obtain⟨v,c⟩:=qW.1 f;have d:=kM c;exact⟨by rw[fG c (a.block _ d)];rfl,by rw[<-g];simp only[qX,a.block _ d]⟩
theorem thA(b:jl (w.alloc (jd g e)).drew.heap.size (w.alloc (jd g e)).drew a)(c:g.size=32):a.there w.heap.size 0 32:=
 oT (w:=(w.alloc (jd g e)).drew) ((World.there_drew _ _ _ _).2 (rH w g e 32 c)) b
theorem thN(b:jl (w.alloc (jd g e)).heap.size (w.alloc (jd g e)) a)(c:g.size=32):a.there w.heap.size 0 32:=oT (rH w g e 32 c) b
theorem Nw(b:jl ((w.alloc (jd g e)).alloc o).heap.size ((w.alloc (jd g e)).alloc o) a)(c:g.size=32):a.there w.heap.size 0 32:=
 oT (xd (rH w g e 32 c) o) b
theorem OE(b:jl ((w.alloc o).alloc (jd g e)).heap.size ((w.alloc o).alloc (jd g e)) a)(c:g.size=32):a.there (w.heap.size+1) 0 32:=by
 have h:=rH (w.alloc o) g e 32 c;rw[jF]at h;exact oT h b
theorem thK(h:w.there B 0 32)(w':jl (w.alloc o).heap.size (w.alloc o) a):a.there B 0 32:=oT (xd h o) w'
theorem Below.cellsFrom(h:jl w w a)(b:je)(c:w.heap.size<=b):∀(w':jg ji) (o:je),jl w w (a.setCells b o w'):=by
 intro w'
 induction w' generalizing a with
 |nil=>intro o;exact h
 |cons v w' d=>intro o;exact d (h.setCell c _) (o+1)
theorem IA(kb a b d:af)(t u:ji)(w:jh)(hk:kb.length=32)(o:a.length=12)(ad:b.length<=70000)(al:d.length<=70000)
 (x:aP w t b) (y:aP w u d) (i:en w) (j:fU w):
 jq jm 171 #[jr (kb.map v8).toArray,jr (a.map v8).toArray,t,u] w λe w'=>
  ∃v,e=jo v/\aP w' v (nC kb a b d)/\jl w w w':=by
 have c:(kb.map v8).toArray.size=32:=by simp[hk]
 have h:(a.map v8).toArray.size=12:=by simp[o]
 generalize k:(kb.map v8).toArray=f at c⊢;generalize l:(a.map v8).toArray=g at h⊢;have z:=O x;have B:=O y;obtain⟨ph,ch,rfl,-,-,-⟩:=x;obtain⟨pc,cc,rfl,-,-,-⟩:=y;have C:=O k;have D:=O l;have E:=O i;have F:=O j;have K:=O c;have M:=O h;clear k l c h i j
 go_enter func171,ntmps171
 go_upto_region 1 with fail
 have c:jl w w ((w.alloc (jd f 64)).alloc (jd g 174)):=
  ⟨rfl,rfl,rfl,by simp;omega,λk hk=>by rw[jG _ _ _ (by simp;omega),jG _ _ _ hk]⟩
 have i:aP ((w.alloc (jd f 64)).alloc (jd g 174)) (jb (ja ⟨w,0,A⟩) 32 32) kb:=by
  refine⟨_,32,by rw[hk],by rw[hk];exact jn _,λh=>(by cases h),λ_=>⟨w.heap.size,0,T,λj k=>?_⟩⟩;have h:b8 ((w.alloc (jd f 64)).alloc (jd g 174)) w.heap.size 64 kb:=by
   show _ =ja (Obj.cells (kb.map v8).toArray 64 (0,0));rw[C,jG _ _ _ ax];exact js w _
  rw[kn];exact h.cell k
 have l:aP ((w.alloc (jd f 64)).alloc (jd g 174)) (jb (ja ⟨w.heap.size+1,0,A⟩) 12 12) a:=by
  refine⟨_,12,by rw[o],by rw[o];exact jn _,λh=>(by cases h),λ_=>⟨w.heap.size+1,0,T,λj k=>?_⟩⟩;have h:b8 ((w.alloc (jd f 64)).alloc (jd g 174)) (w.heap.size+1) 174 a:=by
   show _ =ja (Obj.cells (a.map v8).toArray 174 (0,0));rw[D];have:=js (w.alloc (jd f 64)) (jd g 174)
   simpa using this
  rw[kn];exact h.cell k
 have m:=z.below c;have p:=B.below c;have q:en ((w.alloc (jd f 64)).alloc (jd g 174)):=E.below c (jn _);have r:fU ((w.alloc (jd f 64)).alloc (jd g 174)):=F.below c (jn _);obtain⟨n,s⟩:=J ((w.alloc (jd f 64)).alloc (jd g 174));rw[<-s]at c i l m p q r⊢;have H:=O c;have P:=O i;have Q:=O l;have R:=O m;have S:=O p;have U:=O q;have V:=O r;have W:jk (w.heap.size+2<=n.heap.size):=O (by rw[s];simp);clear c i l m p q r s z B E F C D K M;have c:(ko kb a b d).length<=900000:=by rw[JU _ _ _ _ hk o];omega
 have r:=O c;clear c;obtain⟨p,c⟩:=J ((cS gg (ko kb a b d)).map v8);have i:∀v w,aP w v (ko kb a b d)->en w->fU w->
  jq jm 123 #[jj ⟨#[116,97,103]⟩,v] w λe w'=>e=jo (jr p.toArray)/\jl w w w':=λv w l m q=>by
  rw[c];exact GR v _ r.out w l m q
 have s:p.length=32:=by rw[c,jD,gX]
 have z:∀v∈p,v.oneCell'=jf:=by rw[c];exact g8 _
 have B:(jm.info? 23).map (·.size)=ja 32:=Dq;have C:=O i;have D:=O c;have E:=O s;clear i c;have au:w.heap.size+2<=n.heap.size:=W.out
 go_cut [9] (λv c=>∃m,v=jA (ja ⟨m,0,A⟩)/\c.rangeAt m 0 p/\jl n n c)
 case first=>
  go_region_held3 (λw'=>True) (trivial) (first
   |(go_at_call 218;refine(Ie b.length Y _).mono ?_;rintro e F ⟨g1,a1,rfl,K,l⟩;try(have M:=thA l aj))
   |(go_at_call 124;refine(Lv n F _ kb a b d _ _ _ _ _ P.out Q K R S (by repeat (first|exact jy _ _ |refine Below.al ?_ _ |refine Below.dr ?_|refine Below.tr ?_ i|refine Below.tr ?_ c|refine Below.tr ?_ l)) (by repeat (first|exact jy _ _ |refine Below.al ?_ _ |refine Below.dr ?_|refine Below.tr ?_ i|refine Below.tr ?_ c|refine Below.tr ?_ l)) _ 50 (by first|exact js _ _ |exact uA _ _ _ |exact(jG _ _ _ ax).trans (js _ _)) r).mono ?_;rintro e w2 ⟨v2,rfl,X,c⟩;first|(have q:=thK M c)|(have q:=Nw c aj)|(have q:=OE c aj)|skip)
   |(go_at_call 123;refine(C _ _ (X.below (by repeat (first|exact jy _ _ |refine Below.al ?_ _ |refine Below.dr ?_|refine Below.tr ?_ i|refine Below.tr ?_ c|refine Below.tr ?_ l))) (U.below (by repeat (first|exact jy _ _ |refine Below.al ?_ _ |refine Below.dr ?_|refine Below.tr ?_ i|refine Below.tr ?_ c|refine Below.tr ?_ l)) (jn _)) (V.below (by repeat (first|exact jy _ _ |refine Below.al ?_ _ |refine Below.dr ?_|refine Below.tr ?_ i|refine Below.tr ?_ c|refine Below.tr ?_ l)) (jn _))).mono ?_;rintro e M ⟨rfl,i⟩;have a2:=rH M (aT) 23 32 aj;first|(have aa:=oT q i)|(have aa:=thN i aj)|skip))
  all_goals
   go_wp2_with fail
   go_meet
   refine⟨_,T,World.rangeAt_setCells_same _ _ _ _ (by rw[E];assumption),Below.cellsFrom ?_ _ ?_ _ _⟩
   ·repeat (first|exact jy _ _ |refine Below.al ?_ _ |refine Below.dr ?_|refine Below.tr ?_ i|refine Below.tr ?_ c|refine Below.tr ?_ l)
   have q:=l.size;have F:=c.size;have K:=i.size;simp only[jF,World.drew]at q F K;omega
 obtain⟨m,rfl,c,i⟩:=hcut;have l:∀j,j<16->wc.cell? ⟨m,0+j,A⟩=ja (I .u8 ((nC kb a b d).getD j 0).toNat):=λj k=>by
  have q:j<(cS gg (ko kb a b d)).length:=by rw[gX];omega
  refine c j _ ?_;rw[D];simp[q,nC,jR,k]
 have q:=O l;have F:=O i;clear l i c s z B
 go_wp2
 go_ret;refine⟨_,T,⟨ja ⟨m,0,A⟩,32,by rw[pg];rfl,by rw[pg];decide,λh=>(by cases h),λ_=>⟨m,0,rfl,λj k=>q j (by rw[pg]at k;exact k)⟩⟩,?_⟩;exact H.trans (F.mono H.size)
def nck(a:je):je:=(a+63)/64
def ckl(a j:je):je:=min 64 (a-64*j)
theorem IV(p:jQ jK)(n c:je)(w:jh):
 jq jm 216 #[jb p n c,I N 64] w λe w'=>
  e=jo (.func (.func 254) #[] #[jA (ja ⟨w,0,A⟩),jA (ja ⟨w.heap.size+1,0,A⟩)])/\
  w'=(w.alloc (jd #[jb p n c] 50)).alloc (jd #[I N 64] 3):=by
 go_enter func216,ntmps216
 go_wp2
 go_ret;exact⟨T,T⟩
theorem Nu{P:qB}(t e:jI)(a:P.underlying t=ja (.slice e))(b:∀w,(sizeOf e).run P w=.ok 1 w)(g n c l h:je)(d:l<=h)(f:h<=c)(i:l<h)(W:jh):
 (Instr.sliceAt t (jb (ja ⟨g,0,A⟩) n c) (ja (I N (l:jc))) (ja (I N (h:jc))) (ja (I N (h:jc)))).run P W=.ok (jb (ja ⟨g,l,A⟩) (h-l) (h-l)) W:=by
 have he:P.elem t=e:=by simp[Program.elem,a]
 rw[run_sliceAt_slice W t _ _ _ _ (by rw[he];exact a),run_slice_lhm W t _ n c (by rw[he];exact a) .i64 .i64 .i64 _ _ _ Y Y Y Y,he];simp[b,Result.andThen,sliced,Addr.add];rw[jH Y]
 split<;>simp[*]
theorem QK(p:jQ jK)(a d f:je)(hp:0<a->p=ja ⟨f,0,A⟩)(hL:a<=d)(a3:a<=100000)(b c:je)(w:jh)
 (e:jt w b 50 (jb p a d)) (h:jt w c 3 (I N 64)):
 eo jm 254 #[jA (ja ⟨b,0,A⟩),jA (ja ⟨c,0,A⟩)] (λj:je=>#[jb (ja ⟨f,64*j,A⟩) (ckl a j) (ckl a j)])
  (λk=>k=b\/k=c) 0 (λxs=>xs=kw (nck a)) (λ_=>True) (λg=>g<+:kw (nck a)) w:=by
 intro l g Jx W m r z s t;have B:jt W b 50 (jb p a d):=(m.block b e.lt).trans e;have C:jt W c 3 (I N 64):=(m.block c h.lt).trans h;clear e h;refine(qe (n:=0)).1 ?_;refine q9 func254 T trivial ?_ T;simp only[ntmps254,jT,jX,km,ow,o4,pa,pz,p6,qa,mF,mT]
 gi_wp2
 gi_loopw [4] (λi wr=>W.heap.size<=wr.heap.size/\∃j:je,i=I N ((64*j:je):jc)/\j<=nck a/\jk (g (kw j) (λk=>k=b\/k=c) wr)/\jt wr b 50 (jb p a d)/\jt wr c 3 (I N 64))
  (λi _=>100064-(jv i).toNat)
 case atStart=>
  exact⟨jn _,0,T,jJ _,t,B,C⟩
 obtain⟨D,j,rfl,hj,i,u,v⟩:=hrel;have F:=u.cell;have H:=v.cell
 by_cases a4:64*j<a
 ·have x:j<nck a:=by unfold nck;omega
  obtain rfl:p=ja ⟨f,0,A⟩:=hp Y;have e:kw j++[j]<+:kw (nck a):=by
   rw[<-xf];have:kw (j+1)=(kw (nck a)).take (j+1):=by
    rw[List.take_range,qn Y]
   rw[this];exact List.take_prefix _ _
  have HJ:jk (b6 W.heap.size g):=r;have HY:=O s;have aa:=O e;have hd:=ao (((64*j:je):jc)<(a:jc));have ad:=ao (64*(j:jc)<(a:jc));have E:∀W,(Instr.sliceAt 50 (jb (ja ⟨f,0,A⟩) a d) (ja (I N (64*(j:jc)))) A A).run jm W=.ok (jb (ja ⟨f,64*j,A⟩) (a-64*j) (d-64*j)) W:=λW=>by
   have h:=uV (P:=jm) 50 5 qC gU f 0 a d (64*j) Y Y W
   simpa using h
  clear s t z m r e B C
  gi_wp2
  gi_region
  have e:(Min.min 64 ((a-64*j:je):jc))=((ckl a j:je):jc):=by unfold ckl;omega
  rw[e];have al:1<=ckl a j:=by unfold ckl;omega
  have au:ckl a j<=64:=by unfold ckl;omega
  have a1:64*j+ckl a j<=a:=by unfold ckl;omega
  have K:jk (g (kw j) (λk=>k=b\/k=c) wr.drew):=HJ.keep i ⟨T,T,T,jn _,λ_ _ _=>.inl T⟩;have o:jt wr.drew b 50 (jb (ja ⟨f,0,A⟩) a d):=u;have q:jt wr.drew c 3 (I N 64):=v;have M:W.heap.size<=wr.drew.heap.size:=D;obtain⟨wo,y⟩:=J wr.drew;rw[<-y]at K o q M⊢;clear y i u v D F H E e;obtain⟨fn,tmps,assign,body,Q,R⟩:=HY (kw j) j (λk=>k=b\/k=c) wo K (by rintro _ (rfl|rfl);exact o.lt;exact q.lt) aa;have F:=o.cell;have H:=q.cell;generalize ckl a j=E at Q al au a1⊢;have a5:∀W,(Instr.sliceAt 50 (jb (ja ⟨f,0,A⟩) a d) (ja (I N (64*(j:jc)))) (ja (I N (64*(j:jc)+(E:jc)))) (ja (I N (64*(j:jc)+(E:jc))))).run jm W=.ok (jb (ja ⟨f,64*j,A⟩) E E) W:=λW=>by
   have h:=Nu (P:=jm) 50 5 qC gU f a d (64*j) (64*j+E) Y Y Y W;rw[show 64*j+E-64*j=E by omega]at h
   simpa using h
  gi_wp2
  refine⟨T,R.mono ?_⟩;rintro e S (⟨rfl,U,y,h⟩|⟨rfl,YJ,y,h⟩)
  ·have V:jt S b 50 (jb (ja ⟨f,0,A⟩) a d):=(h b (.inl T)).trans o
   have X:jt S c 3 (I N 64):=(h c (.inr T)).trans q;have ba:=V.cell;have bb:=X.cell;have a2:=y.size;clear h y R Q
   gi_wp2
   go_roundw
   case rel=>
    rw[<-xf]at U;exact⟨jz M a2,j+1,by go_num,by omega,U,V,X⟩
   case measure=>simp[jv];omega
  gi_wp2
  refine j0 (qA T _ _ _) T ?_;exact⟨⟨_,T⟩,.inr ⟨_,_,trivial,YJ⟩⟩
 have x:j=nck a:=by unfold nck at*;omega
 have ad:=ap (64*(j:jc)<(a:jc));have e:jk (g (kw (nck a)) (λk=>k=b\/k=c) wr):=x▸i;clear i x s t r z m hj
 gi_wp2
 refine qI (qA T _ _ _) T ?_;exact⟨⟨_,T⟩,.inl ⟨_,_,T,e⟩⟩
section
variable{a:jg ji}{w:jh}
attribute [local go_sem] Oper.semAt_some
def ksB(kb a:af)(i:je):BitVec 8:=(nQ kb a (jY 32 (1+i/64))).getD (i%64) 0
def fc(kb a l:af):je->af
 |0=>l
 |n+1=>(fc kb a l n).set n ((fc kb a l n).getD n 0^^^ksB kb a n)
theorem Ng(kb nb l n):(fc kb nb l n).length=l.length:=by induction n with
 |zero=>rfl
 |succ n a=>simp[fc,a]
def iX(kb a l:af):af:=fc kb a l l.length
theorem yG(kb nb l):(iX kb nb l).length=l.length:=Ng _ _ _ _
theorem QX(x y:BitVec 8):bits .xor .u8 (x.toNat:jc) (y.toNat:jc)=((x^^^y).toNat:jc):=by
 have a:=x.isLt;have b:=y.isLt;have c:x.toNat%2^8=x.toNat:=ql a;have d:y.toNat%2^8=y.toNat:=ql b;have e:x.toNat^^^y.toNat<2^8:=sx a b;show IntKind.u8.wrap ((xg 8 (x.toNat:jc)^^^xg 8 (y.toNat:jc)).toNat:jc)=_;simp only[tb,tx,qm,c,d];exact IntWalk.u8_in _ Y
section
variable {P:qB} {F:Fence} {nF:je}
theorem nD{f:jZ lo}{i:jg lo}{o:lo}{a:Act}{w:jh}{j:Exit->Act->jh->Prop}(k:o.guard=A)(b:jI)(x:Operand)(e:o.op=.load b x)
 (g:je) (l:a.eval x=jA (ja ⟨g,0,A⟩)) (t:jI) (cs:jZ ji) (fr:je×je) (d:TypeDesc) (m:w.heap[g]?=ja (jd cs t fr))
 (n:P.underlying b=ja d) (p:(match d with| .struct _ | .array _ _=>jf|_=>jp)=jf) (q:(P.info? b).map (·.size)=ja cs.size)
 (h:wpListIn F nF P f j i (a.put o.dst (jr cs)) w):wpListIn F nF P f j (o::i) a w:=by
 refine wpListIn_plain k λu r=>?_
 unfold Oper.wpIn;refine⟨by simp[Oper.about,e],?_⟩;rw[Oper.semAt_plain F _ _ (by rw[e];intro c s;cases s)];simp only[qg,e,l,Instr.loadAt,Instr.sureAddr,Sem.run_bind,Sem.run_pure,Result.andThen_ok,run_loadVar_row w g t b cs fr d m n p q];exact r _ _ h
end
theorem GI{B:je}{e:jI}{g xs n:je}(h:w.ownsRow B e 1 (jb (ja ⟨g,0,A⟩) n xs) n a)(i:je)(t:i<n)(x:ji):
 (w.setCell ⟨g,i,A⟩ x).ownsRow B e 1 (jb (ja ⟨g,0,A⟩) n xs) n (a.set i x):=by
 refine⟨by simpa using h.1,?_⟩
 rcases h.2 with⟨c,_⟩|⟨d,f,j,k,l,b,m,o,p,q⟩
 ·cases c
 obtain⟨rfl,rfl⟩:g=d/\xs=f:=ah k;have r:=(jL.1 b).1;have s:w.heap[g]=_:=(jL.1 b).2;refine .inr ⟨g,xs,j.setIfInBounds i x,T,l,?_,m,o,by simpa using p,?_⟩
 ·show(w.heap.modify g _)[g]?=_
  rw[Array.getElem?_modify];simp[r,s]
 rw[Array.toList_setIfInBounds,List.take_set,q]
theorem Gj{B:je}{g b n:je}{l:af}(h:w.ownsRow B 5 1 (jb (ja ⟨g,0,A⟩) n b) n (l.map v8))(i:je)(p:i<n):
 w.cell? ⟨g,i,A⟩=ja (I .u8 (l.getD i 0).toNat)/\w.frozen? ⟨g,i,A⟩=jp:=by
 rcases h.2 with⟨d,_⟩|⟨e,f,j,k,q,m,r,s,t,o⟩
 ·cases d
 obtain⟨rfl,rfl⟩:g=e/\b=f:=ah k;have u:l.length=n:=ah h.1;have a:(j.toList.take (n*1))[i]?=(l.map v8)[i]?:=by rw[o]
 have c:i<l.length:=Y;simp only[j7,qX,m];rw[xh,jB Y]at a;simp[c]at a;simp[a,v8,jR,c]
theorem J1{B n:je}{e:jI}{b:ji}(h:w.ownsRow B e 1 b n a)(k:je)(hk:ja k≠b.ownBlock)(x:ji):(w.setCell ⟨k,0,A⟩ x).ownsRow B e 1 b n a:=by
 refine⟨h.1,?_⟩
 rcases h.2 with xs|⟨g,v,c,rfl,d,f,i⟩
 ·exact .inl xs
 exact .inr ⟨g,v,c,T,d,(qP _ _ _ _ (show g≠k from λe=>hk (by rw[<-e];rfl))).trans f,i⟩
theorem FJ{w':jh}{B n m:je}{e:jI}{b:ji}(h:w.ownsRow B e 1 b n a)(xs:jl m w w')(v:∀j,b.ownBlock=ja j->j<m):w'.ownsRow B e 1 b n a:=by
 refine⟨h.1,?_⟩
 rcases h.2 with c|⟨g,d,f,rfl,i,j,k⟩
 ·exact .inl c
 exact .inr ⟨g,d,f,T,i,(xs.block _ (v g T)).trans j,k⟩
theorem GF{a:jg je}{x n:je}(h:a++[x]<+:kw n):x=a.length/\a.length<n:=by
 have b:a.length<n:=by have:=h.length_le;simp at this;omega
 refine⟨?_,b⟩;obtain⟨t,d⟩:=h;have c:=jN (λm=>m[a.length]?) d;simp[b]at c;exact c
theorem Js{β:Type}(B0 base:je)(e:jI)(size:je)(v:ji)(n:β->je)(f:β->jg ji):
 b6 B0 (λs Ψ W=>W.ownsRow base e size v (n s) (f s)/\∀j,v.ownBlock=ja j->¬Ψ j):=by
 rintro s Ψ d l B ⟨a,g⟩ i m k;have b:∀j,v.ownBlock=ja j->¬d j:=λj c h=>by
  rcases k _ h with h|h
  ·exact g j c h
  have:=(a.lt j c).2;omega
 exact⟨i.row a b,b⟩
theorem DI{β:Type}(B0 b:je)(C:jZ ji)(t:jI)(fr:je×je):b6 B0 (fun(_:β) Ψ W=>W.heap[b]?=ja (jd C t fr)/\¬Ψ b):=by
 rintro s Ψ d i B ⟨a,e⟩ f j g;have c:¬d b:=λh=>by rcases g _ h with h|h;exact e h;have:=(jL.1 a).1;omega
 exact⟨f.cells a c,c⟩
theorem Mx(d:jK)(c:je)(w:jh):
 jq jm 215 #[jb (ja d) 0 c] w λe w'=>∃v,e=jo v/\w'.ownsRow w 5 1 v 0 []/\jl w w w':=by
 have q:∀(w:jh) (a:jQ jK) (n c n' b:je),(binOp .eql 50 (jb a n c) (jb A n' b)).run jm w=.ok (.bool a.isNone) w:=λw a n c n' b=>Lib.run_eql_slice_nil w _ _ a n c n' b qC
 obtain⟨i,l,m,o,p⟩:=oi sk;have f:(w.alloc (jd #[] 5)).ownsRow w.heap.size 5 1 (jb (ja ⟨w,0,A⟩) 0 0) 0 []:=
  ⟨rfl,.inr ⟨w.heap.size,0,#[],rfl,jn _,js w _,jn _,by unfold j4;omega,rfl,rfl⟩⟩
 have g:=O f;clear f
 go_enter func215,ntmps215
 go_wp2_with (at_builtin;refine sg _ T _ _ 50 T w.heap.size 5 i (I .u8 0) 1 1 qC l m o p T G _ _ _ T g d 0 c [] T T (λj f h=>(by cases h)) (λf h=>(by cases h)) (by unfold j4;omega) Y ax ?_;intro f r h j _)
 go_ret;refine⟨f,T,by simpa using h,?_⟩;exact Below.grown (w:=w.alloc (jd #[] 5)) ⟨T,T,T,by simp,λk hk=>jG _ _ _ hk⟩ j ax (λk e=>(g.lt k e).1)
theorem yg{B n:je}{b:ji}(h:w.ownsRow B 5 1 b n a):
 ∃p c,b=jb p n c/\n<=c/\(0<n->∃g,p=ja ⟨g,0,A⟩/\B<=g/\g<w.heap.size):=by
 rcases h.2 with⟨rfl,xs⟩|⟨g,v,i,rfl,d,e,f,j,k,l⟩
 ·exact⟨A,0,by rw[xs],by omega,λh=>by omega⟩
 exact⟨_,v,T,f,λ_=>⟨g,T,d,(jL.1 e).1⟩⟩
theorem H7(v:ji)(l:af)(i:l.length<=1000000)(w:jh)(h:aP w v l):
 jq jm 215 #[v] w λe w'=>∃p c,e=jo (jb p l.length c)/\jk (w'.ownsRow w 5 1 (jb p l.length c) l.length (l.map v8))/\jl w w w'/\l.length<=c/\
  jk (0<l.length->∃g,p=ja ⟨g,0,A⟩/\w.heap.size<=g/\g<w'.heap.size):=by
 have a:∀(e:Ending) (w':jh),(∃v,e=jo v/\w'.ownsRow w 5 1 v l.length (l.map v8)/\jl w w w')->∃p c,e=jo (jb p l.length c)/\jk (w'.ownsRow w 5 1 (jb p l.length c) l.length (l.map v8))/\jl w w w'/\l.length<=c/\
  jk (0<l.length->∃g,p=ja ⟨g,0,A⟩/\w.heap.size<=g/\g<w'.heap.size):=by
  rintro e w' ⟨v,rfl,f,j⟩;obtain⟨p,c,rfl,b,d⟩:=yg f;exact⟨p,c,T,f,j,b,d⟩
 obtain⟨p,c,rfl,n,j,k⟩:=h
 rcases qv l.length with f|f
 ·obtain rfl:l=[]:=qb f
  rcases p with _|m
  ·obtain rfl:=j T
   exact(Ik w).mono λe w' ⟨b,d⟩=>a e w' ⟨_,b,j1 _ _ _ _,d▸jy _ _⟩
  exact(Mx m c w).mono a
 obtain⟨g,o,rfl,b⟩:=k f;exact(Q3 g o c l i w b).mono a
theorem Oj(kb f l:af)(v:ji)(w:jh)(hk:kb.length=32)(hn:f.length=12)(hl:l.length<=65536)(hv:aP w v l)(i:pV w):
 jq jm 170 #[jr (kb.map v8).toArray,jr (f.map v8).toArray,v] w λe w'=>
  ∃a,e=jo (jw #[a,I N 0])/\w'.ownsRow w 5 1 a l.length ((iX kb f l).map v8)/\jl w w w':=by
 have d:(kb.map v8).toArray.size=32:=by simp[hk]
 have g:(f.map v8).toArray.size=12:=by simp[hn]
 have a:=λc w h=>G1 kb f c w hk hn h
 generalize m:(kb.map v8).toArray=z at d a⊢;generalize o:(f.map v8).toArray=B at g a⊢;have j:jl w w ((w.alloc (jd z 64)).alloc (jd B 174)):=
  ⟨rfl,rfl,rfl,by simp;omega,λk hk=>by rw[jG _ _ _ (by simp;omega),jG _ _ _ hk]⟩
 have HB:=O j;have HF:=O a;have HV:=O hv;have HT:=O i;have Yp:=O d;have bl:=O g;obtain⟨pv,cv,rfl,-,-,-⟩:=hv;have h1:=ap ((65536:jc)<(l.length:jc));clear a i m o d g j;refine(qe (n:=0)).1 ?_;refine ri func170 T trivial ?_ T;simp only[ntmps170,jT,jX,km,ow,o4,pa,pz,p6,qa,mF,mT]
 gi_wp2_with fail
 refine⟨trivial,T,(callsIn_wide.2 (H7 _ l Y _ (HV.below HB))).mono ?_⟩;rintro e q ⟨p,c,rfl,r,d,bm,t⟩;have a:=O d;clear d
 gi_wp2_with fail
 refine⟨trivial,T,(callsIn_wide.2 (IV p l.length c _)).mono ?_⟩;rintro e w' ⟨rfl,rfl⟩
 gi_wp2_with fail
 have a4:jl w w (((q.alloc (jd #[I jW 1] 161)).alloc (jd #[jb p l.length c] 50)).alloc (jd #[I N 64] 3)):=by
  have h:=HB.trans (a.mono HB.size);exact((h.alloc h.size _).alloc (by have:=h.size;simp;omega) _).alloc (by have:=h.size;simp;omega) _
 have a5:(((q.alloc (jd #[I jW 1] 161)).alloc (jd #[jb p l.length c] 50)).alloc (jd #[I N 64] 3)).heap[w.heap.size]?=ja (jd z 64 (0,0)):=by
  have M:=a.size;simp at M;rw[jG _ _ _ (by simp;omega),jG _ _ _ (by simp;omega),jG _ _ _ Y,a.block _ (by simp;omega)];exact(jG _ _ _ ax).trans (js w _)
 have ba:(((q.alloc (jd #[I jW 1] 161)).alloc (jd #[jb p l.length c] 50)).alloc (jd #[I N 64] 3)).heap[w.heap.size+1]?=ja (jd B 174 (0,0)):=by
  have M:=a.size;simp at M;rw[jG _ _ _ (by simp;omega),jG _ _ _ (by simp;omega),jG _ _ _ Y,a.block _ ax];exact uA w _ _
 have ad:jt (((q.alloc (jd #[I jW 1] 161)).alloc (jd #[jb p l.length c] 50)).alloc (jd #[I N 64] 3)) q.heap.size 161 (I jW ((jY 32 (1+0)).toNat:jc)):=
  ((Boxed.new q _ _).alloc _).alloc _
 have S:jt (((q.alloc (jd #[I jW 1] 161)).alloc (jd #[jb p l.length c] 50)).alloc (jd #[I N 64] 3)) (q.heap.size+1) 50 (jb p l.length c):=by
  have:=Boxed.new (q.alloc (jd #[I jW 1] 161)) 50 (jb p l.length c);rw[jF]at this;exact this.alloc _
 have U:jt (((q.alloc (jd #[I jW 1] 161)).alloc (jd #[jb p l.length c] 50)).alloc (jd #[I N 64] 3)) (q.heap.size+1+1) 3 (I N 64):=by
  have:=Boxed.new ((q.alloc (jd #[I jW 1] 161)).alloc (jd #[jb p l.length c] 50)) 3 (I N 64);rw[jF,jF]at this;exact this
 have al:=(((r.alloc (jd #[I jW 1] 161)).alloc (jd #[jb p l.length c] 50)).alloc (jd #[I N 64] 3));have au:(((q.alloc (jd #[I jW 1] 161)).alloc (jd #[jb p l.length c] 50)).alloc (jd #[I N 64] 3)).heap.size=q.heap.size+3:=by simp
 have bn:w.heap.size+2<=q.heap.size:=by have M:=a.size;simp at M;omega
 have s:((w.alloc (jd z 64)).alloc (jd B 174)).heap.size=w.heap.size+2:=by simp
 rw[s]at al;obtain⟨W0,u⟩:=J ((((q.alloc (jd #[I jW 1] 161)).alloc (jd #[jb p l.length c] 50)).alloc (jd #[I N 64] 3)));rw[<-u]at a4 a5 ba ad S U al au⊢;obtain⟨i,m⟩:=J q.heap.size;have x:0<l.length->∃g,p=ja ⟨g,0,A⟩/\w.heap.size+2<=g/\g<i:=by rw[m,<-s];exact t
 rw[<-m]at ad S U au bn⊢;obtain⟨d,y,C⟩:∃d,(0<l.length->p=ja ⟨d,0,A⟩)/\(0<l.length->d<i):=by
  rcases qv l.length with j|j
  ·exact⟨0,λh=>by omega,λh=>by omega⟩
  obtain⟨g,o,_,D⟩:=x j;exact⟨g,λ_=>o,λ_=>D⟩
 have bo:∀j,(jS p l.length c).ownBlock=ja j->j<i:=by
  rw[m];intro j o;exact(r.lt j o).2
 have a1:=O au;have S9:=O y;have a2:=O bo;clear u m r a t x s C y;refine o5 (n:=0) (gf:=254) (lb:=#[jA (ja ⟨i+1,0,A⟩),jA (ja ⟨i+1+1,0,A⟩)]) T (enters_of func254 ag T)
  (QK p l.length c d S9 bm Y (i+1) (i+1+1) W0 S U) (jJ _) (λ_=>rfl) (by rintro k (rfl|rfl);exact S.lt;exact U.lt)
  (λr Ψ W=>(W.ownsRow (w.heap.size+2) 5 1 (jb p l.length c) l.length ((fc kb f l (min (64*r.length) l.length)).map v8)/\∀j,(jS p l.length c).ownBlock=ja j->¬Ψ j)/\
   (jt W i 161 (I jW ((jY 32 (1+r.length)).toNat:jc))/\¬Ψ i)/\
   (W.heap[w.heap.size]?=ja (jd z 64 (0,0))/\¬Ψ w.heap.size)/\(W.heap[w.heap.size+1]?=ja (jd B 174 (0,0))/\¬Ψ (w.heap.size+1))/\
   (jl w w W/\∀k,Ψ k->w.heap.size<=k))
  (λ_ _ _ _=>False)
  ((Js W0.heap.size (w.heap.size+2) 5 1 (jb p l.length c) (λ_=>l.length) (λr:jg je=>(fc kb f l (min (64*r.length) l.length)).map v8)).and ((iy _ _ _ (λr:jg je=>I jW ((jY 32 (1+r.length)).toNat:jc))).and
   ((DI _ _ _ _ _).and ((DI _ _ _ _ _).and (l9 _ _ w (jn _) (aA a1))))))
  (λ_=>fA _ _)
  ⟨⟨by simpa [fc]using al,λj o=>by have:=a2 j o;omega⟩,⟨ad,by omega⟩,⟨a5,by omega⟩,⟨ba,by omega⟩,a4,by rintro k (rfl|rfl)<;>omega⟩
  (λx bb _ _=>bb={tmps:=((Value.agg z)::(Value.agg B)::(jS pv l.length cv)::(qY (ja ⟨w,0,A⟩))::(qY (ja ⟨w.heap.size+1,0,A⟩))::ju::(jS p l.length c)::(jC .i64 0)::(qY (ja ⟨i,0,A⟩))::(jS (ja ⟨d,64*x,A⟩) (ckl l.length x) (ckl l.length x))::ju::ju::(jS pv l.length cv)::(jC .i64 l.length)::(Value.bool jp)::(jS pv l.length cv)::(jS p l.length c)::(jS p l.length c)::(Value.func (.func 254) #[] #[jA (ja ⟨i+1,0,A⟩),jA (ja ⟨i+1+1,0,A⟩)])::(jS (ja ⟨d,64*x,A⟩) (ckl l.length x) (ckl l.length x))::ju::ju::ju::ju::ju::ju::ju::ju::ju::ju::ju::ju::ju::ju::ju::ju::ju::ju::ju::ju::ju::ju::ju::ju::[]).toArray,defers:=[]}) (fA _ _)
  ?assign ?body ?done ?stop
 case assign=>
  intro ll r x Ψ s K a _ Q
  gi_wp2
  exact Q _ _ (jy _ _) a T
 case body=>
  rintro ll r x Ψ bb s ⟨⟨y,Wu⟩,⟨C,a3⟩,⟨Q,bc⟩,⟨hN,bd⟩,F,hΨ⟩ rfl t Yo bM Zr;obtain⟨rfl,WQ⟩:=GF t;obtain⟨a,m⟩:=J r.length;have u:(r++[a]).length=a+1:=by rw[m];simp
  have SC:=O u;rw[<-m]at y C WQ⊢;have hL:64*a<l.length:=by unfold nck at WQ;omega
  obtain rfl:p=ja ⟨d,0,A⟩:=S9 Y;clear t m u;obtain⟨t,m⟩:=J (jY 32 (1+a));rw[<-m]at C;have bf:=O m;clear m;have m:pV s:=(Lib.tabBelow_of_tabIs HT) _ F;have bq:=O m;have V:=O F;have u:=O y;have bg:=O Wu;have HK:=O Q;have HN:=O hN;have Vd:=C.cell;have HC:=O C;clear m F y Wu Q hN C
  gi_upto_region 7 with fail
  refine wpIn_region_lit ?_;refine nD T 64 _ T w.heap.size T 64 z (0,0) _ HK.out mb T (by rw[Yp];rfl) ?_;refine nD T 174 _ T (w.heap.size+1) T 174 B (0,0) _ HN.out sh T (by rw[bl];rfl) ?_
  gi_wp2_with fail
  refine⟨trivial,T,CallsIn.inRound ll (callsIn_wide.2 ((HF t s bq).mono ?_))⟩;rintro e K ⟨vb,rfl,H,E⟩;obtain⟨p2,c2,rfl,bN,br⟩:=yg H;obtain⟨D,rfl,UF,bO⟩:=br G;have R:∀m,m<64->K.cell? ⟨D,m,A⟩=ja (I .u8 ((nQ kb f t).getD m 0).toNat):=λm hm=>(Gj H m hm).1
  have bT:d<s.heap.size:=(u.lt d T).2;have bs:i<s.heap.size:=HC.lt;have X:K.ownsRow (w.heap.size+2) 5 1 (jb (ja ⟨d,0,A⟩) l.length c) l.length ((fc kb f l (64*a+0)).map v8):=by
   have h:=u.out;rw[qn Y]at h;exact FJ h E (by intro j o;exact(u.lt j o).2)
  have o:jt K i 161 (I jW (t.toNat:jc)):=(E.block _ bs).trans HC;have bu:=O R;have bv:=O X;have R3:=O o;have RE:=O E;have bw:1<=ckl l.length a:=by unfold ckl;omega
  have bA:ckl l.length a<=64:=by unfold ckl;omega
  have aa:64*a+ckl l.length a=min (64*(a+1)) l.length:=by unfold ckl;omega
  have bB:64*a+ckl l.length a<=l.length:=by unfold ckl;omega
  have U8:=O aa;have b0:d<K.heap.size:=Y;clear aa R X o E H Vd;generalize ckl l.length a=E at bw bA U8 bB⊢;have X:∀W,(Instr.sliceAt 50 (jb (ja ⟨D,0,A⟩) 64 c2) A (ja (I N (E:jc))) A).run jm W=.ok (jb (ja ⟨D,0,A⟩) E c2) W:=
   sS (P:=jm) 50 5 qC gU D 0 64 c2 E Y Y
  gi_wp2_with fail
  clear X
  gi_loopw [28] (λo H=>∃m:je,o=I N m/\m<=E/\jk (H.ownsRow (w.heap.size+2) 5 1 (jb (ja ⟨d,0,A⟩) l.length c) l.length ((fc kb f l (64*a+m)).map v8))/\jk (aZ d K H)) (λo _=>(64-jv o).toNat)
  case atStart=>exact⟨0,T,by omega,bv,aZ.refl _ _⟩
  obtain⟨m,rfl,hm,o,H⟩:=hrel
  by_cases b1:m<E
  ·have hd:=ao ((m:jc)<(E:jc))
   have UE:wr.cell? ⟨D,m,A⟩=ja (I .u8 ((nQ kb f t).getD m 0).toNat):=fG (bu m Y) (H.block _ (by show D≠d;omega));obtain⟨SQ,bh⟩:=Gj o (64*a+m) Y;have R:fc kb f l (64*a+(m+1))=(fc kb f l (64*a+m)).set (64*a+m) ((fc kb f l (64*a+m)).getD (64*a+m) 0^^^(nQ kb f t).getD m 0):=by
    show(fc kb f l (64*a+m)).set _ (_ ^^^ksB kb f (64*a+m))=_;rw[ksB,show(64*a+m)/64=a by omega,show(64*a+m)%64=m by omega,bf]
    rfl
   generalize(nQ kb f t).getD m 0=kx at UE R;generalize(fc kb f l (64*a+m)).getD (64*a+m) 0=px at SQ R;have aa:=O R;clear R
   gi_wp2
   go_roundw
   case rel=>
    refine⟨m+1,by go_num,by omega,?_,H.trans (aZ.setCell _ _ _ _)⟩;have h:=GI o (64*a+m) Y (I .u8 (px^^^kx).toNat);rw[QX,aa,List.map_set];exact h
   case measure=>simp[jv];omega
  have hd:=ap ((m:jc)<(E:jc));have aa:m=E:=Y;have Sk:jk (wr.ownsRow (w.heap.size+2) 5 1 (jb (ja ⟨d,0,A⟩) l.length c) l.length ((fc kb f l (min (64*(a+1)) l.length)).map v8)):=by
   have h:=o;rw[aa,U8]at h;exact h
  have R:jt wr i 161 (I jW (t.toNat:jc)):=(H.block _ (by have:=a2 d T;show i≠d;omega)).trans R3;have b2:=R.cell;have b3:=R.frozen;have bC:=O R;clear aa o R
  gi_wp2
  have bI:((t.toNat:jc)+1)%4294967296=((jY 32 (1+(a+1))).toNat:jc):=by rw[bf,qm,qm];omega
  rw[bI];have bK:¬Ψ d:=bg d T;have R:∀k,k<s.heap.size->k≠d->k≠i->(wr.setCell ⟨i,0,A⟩ (I jW ((jY 32 (1+(a+1))).toNat:jc))).heap[k]?=s.heap[k]?:=λk h1 h2 h3=>by
   rw[qP _ _ _ _ (show k≠i from h3),H.block k h2,RE.block k h1]
  have bh:s.heap.size<=(wr.setCell ⟨i,0,A⟩ (I jW ((jY 32 (1+(a+1))).toNat:jc))).heap.size:=by
   have h1:=RE.size;have h2:=H.size;simp only[World.setCell,Array.size_modify];omega
  have b4:=a1.out;have b5:=a2 d T;have bk:=SC.out;have aa:jl 0 s (wr.setCell ⟨i,0,A⟩ (I jW ((jY 32 (1+(a+1))).toNat:jc))):=
   ((RE.mono (jJ _)).trans (H.below (jJ _))).setCell (jJ _) _
  refine⟨⟨⟨bh,λk o hk hA ho=>?_⟩,aa,λk hk=>?_⟩,⟨?_,bg⟩,⟨?_,a3⟩,⟨?_,bc⟩,⟨?_,bd⟩,?_,hΨ⟩
  ·exact(R k (jL.1 hA).1 Y Y).trans hA
  ·exact R k (Yo k hk) (λe=>bK (e▸hk)) (λe=>a3 (e▸hk))
  ·show World.ownsRow _ _ _ _ _ _ (List.map v8 (fc kb f l (min (64*(r++[a]).length) l.length)))
   rw[bk];exact J1 Sk i (λe=>by
    have h:d=i:=by simpa [m0]using e.symm
    omega) _
  ·show jt _ _ _ (I jW ((jY 32 (1+(r++[a]).length)).toNat:jc))
   rw[bk];exact bC.set _
  ·exact(R _ (jL.1 HK).1 (by have:=(u.lt d T).1;omega) Y).trans HK
  ·exact(R _ (jL.1 HN).1 (by have:=(u.lt d T).1;omega) Y).trans HN
  refine V.trans ⟨aa.os,aa.tape,aa.output,bh,λk hk=>?_⟩;exact R k (bL V.size) (by have:=(u.lt d T).1;omega) Y
 case done=>
  rintro D xs Ψ W k rfl ⟨⟨y,Wu⟩,⟨C,a3⟩,⟨Q,bc⟩,⟨hN,bd⟩,F,hΨ⟩ a;have X:fc kb f l (min (64*(kw (nck l.length)).length) l.length)=iX kb f l:=by
   rw[List.length_range,Nat.min_eq_right (by unfold nck;omega)];rfl
  rw[X]at y;have u:=O y;have V:=O F;clear y F X
  gi_wp2
  refine⟨by simp,.inl ⟨_,_,T,rn (b:=D) (ds:=[]) a,?_⟩⟩;refine⟨jw #[jb p l.length c,I N 0],by simp[results,results170,go_sem],_,T,?_,?_⟩
  ·exact lV (rv u _ a T) Y
  exact V.trans (iO (aA a1))
 intro D a r Ψ W _ _ h;exact h.elim
end
def ua(kb a b l:af):af:=iX kb a l++nC kb a b (iX kb a l)
theorem Qp(kb nb hb l):(ua kb nb hb l).length=l.length+16:=by simp[ua,yG,pg]
structure kr(w:jh):Prop where
 num:en w
 start:fU w
 const:pV w
theorem kr.below(h:kr w)(a:jl w w w'):kr w':=
 ⟨h.num.below a (jn _),h.start.below a (jn _),(Lib.tabBelow_of_tabIs h.const) _ a⟩
theorem Ll(kb a c l:af)(p v:ji)(w:jh)(hk:kb.length=32)(q:a.length=12)(Q:c.length<=70000)(R:l.length<=65536)(o:aP w p c)(t:aP w v l)(u:kr w):
 jq jm 112 #[jr (kb.map v8).toArray,jr (a.map v8).toArray,p,v] w λe w'=>
  ∃r,e=jo (jw #[r,I N 0])/\w'.ownsRow w 5 1 r (l.length+16) ((ua kb a c l).map v8)/\jl w w w':=by
 have i:(kb.map v8).toArray.size=32:=by simp[hk]
 have j:(a.map v8).toArray.size=12:=by simp[q]
 have b:=λv w h n=>Oj kb a l v w hk q R h n
 have g:=λS w z n B U=>IA kb a c (iX kb a l) p S w hk q Q (by rw[yG];omega) z n B U
 generalize x:(kb.map v8).toArray=d at i b g⊢;generalize y:(a.map v8).toArray=f at j b g⊢;have m:jl w w ((w.alloc (jd d 64)).alloc (jd f 174)):=
  ⟨rfl,rfl,rfl,by simp;omega,λk hk=>by rw[jG _ _ _ (by simp;omega),jG _ _ _ hk]⟩
 have C:=O m;have V:=O b;have W:=O g;have X:=O (t.below m);have aa:=O o;have s:=O u;have D:=O i;have E:=O j;clear b g u x y i j m t o
 go_enter func112,ntmps112
 go_upto_region 1 with fail
 refine qL ?_;refine nn T 64 _ T w.heap.size T 64 d (0,0) _ ((jG _ _ _ ax).trans (js w _)) mb T (by rw[D];rfl) ?_;refine nn T 174 _ T (w.heap.size+1) T 174 f (0,0) _ (uA w _ _) sh T (by rw[E];rfl) ?_
 go_wp2_with fail
 refine(V v _ X.out (s.below C).const).mono ?_;rintro e g ⟨r,rfl,i,o⟩;obtain⟨t,u,rfl,a1,-⟩:=yg i;have x:l.length=(iX kb a l).length:=(yG _ _ _).symm;have b:g.ownsRow (w.heap.size+2) 5 1 (jb t l.length u) (iX kb a l).length ((iX kb a l).map v8):=by
  rw[<-x];have j:((w.alloc (jd d 64)).alloc (jd f 174)).heap.size=w.heap.size+2:=by simp
  rw[j]at i;exact i
 have F:aP g (jb t l.length u) (iX kb a l):=aP.of_own b;have H:∀j,(jS t l.length u).ownBlock=ja j->j<g.heap.size:=λj y=>(i.lt j y).2
 have K:g.heap[w.heap.size]?=ja (jd d 64 (0,0)):=(o.block _ (by simp;omega)).trans ((jG _ _ _ ax).trans (js w _));have M:g.heap[w.heap.size+1]?=ja (jd f 174 (0,0)):=(o.block _ ax).trans (uA w _ _);have ad:=O b;have al:=O F;have au:=O H;have Ul:=O K;have P:=O M;have m:=ac C o;have Ti:=O x;clear i b F H K M o x
 go_upto_region 4 with fail
 refine qL ?_;refine wpList_step (λK i=>?_);go_simp;refine i _ _ ?_;clear i K;refine nn T 64 _ T w.heap.size T 64 d (0,0) _ Ul.out mb T (by rw[D];rfl) ?_;refine nn T 174 _ T (w.heap.size+1) T 174 f (0,0) _ P.out sh T (by rw[E];rfl) ?_
 go_wp2_with fail
 refine(W _ _ (aa.below m) al (s.below m).num (s.below m).start).mono ?_;rintro e H ⟨vt,rfl,x,i⟩;have o:=FJ ad i (λj y=>au j y);rw[<-Ti]at o;have K:w.heap.size+2<=H.heap.size:=by
  have z:=m.size;have n:=i.size;have B:=(jL.1 P).1;omega
 have M:=O x;have F:=O o;have RE:=ac m i;clear x o i
 go_wp2_with (at_builtin;refine BB T _ _ T (w.heap.size+2) _ _ _ T F _ (nC kb a c (iX kb a l)) T M.out (by rw[pg];omega) K ?_;intro i x b o)
 go_ret2;refine⟨i,T,?_,RE.grown o Y (λk e=>jz Y (F.lt k e).1)⟩;rw[pg,<-j6]at b;exact lV b Y
theorem tW{b:je}{l:jg ji}{t:jI}(h:w.heap[b]?=ja (jd l.toArray t (0,0))):w.rangeAt b 0 l:=λj v a=>by
 simp[j7,h,a]
theorem rx{P:qB}(o:lo)(a:Act)(c:jI)(x:Operand)(e:o.op=.load c x)(b f:je)(g:a.eval x=jA (ja ⟨b,f,A⟩)){w:jh}(cs:jg ji)(d:TypeDesc)(h:w.rangeAt b f cs)
 (i:P.underlying c=ja d) (j:d.isRow=jf) (k:(P.info? c).map (·.size)=ja cs.length):(qg a.eval o).run P w=.ok (.value (jr cs.toArray)) w:=by
 unfold qg;simp only[e,g,Sem.run_bind,run_loadAt_mid w b f c cs d h i j k,Result.andThen_ok,Sem.run_pure]

theorem If(n:jc)(a:0<=n)(b:n<9223372036854775808):fw n=2*n.toNat:=by unfold fw;rw[jB a]
theorem KV(n:jc)(a:n<0):fw n=2*(-(n+1)).toNat+1:=by unfold fw;rw[jH Y]
theorem NQ(a:je)(b:a<18446744073709551616):bits .xor .u64 (a:jc) 0=(a:jc):=by
 have h:=bits_xor_u64_nat a 0 b Y
 simpa using h
theorem Ey(a:je)(b:a<18446744073709551616):bits .xor .u64 (a:jc) 18446744073709551615=((18446744073709551615-a:je):jc):=by
 have h:=bits_xor_u64_nat a 18446744073709551615 b Y;have e:a^^^18446744073709551615=18446744073709551615-a:=by
  apply Nat.eq_of_testBit_eq
  intro i;rw[Nat.testBit_xor,show(18446744073709551615:je)=2^64-1 by decide,Nat.testBit_two_pow_sub_one,show 2^64-1-a=2^64-(a+1) by omega,Nat.testBit_two_pow_sub_succ b]
  by_cases c:i<64
  ·simp[c]
  have:a.testBit i=jp:=Nat.testBit_lt_two_pow (jO b (qQ Y (Nat.le_of_not_lt c):2^64<=2^i));simp[c,this]
 rw[e]at h;exact h
theorem nZ{k:IntKind}(h:d=y):Ending.returned (.int k d)=jo (.int k y):=by rw[h]
theorem I0(n:jc)(f: -9223372036854775808<=n)(a:n<9223372036854775808)(w:jh):
 jq jm 196 #[I N n] w λe w'=>e=jo (I kl (fw n))/\w=w':=by
 by_cases h:0<=n
 ·rw[If n h a]
  go_enter func196,ntmps196
  go_wp2
  go_ret;refine⟨nZ ?_,T⟩;have e:n/9223372036854775808=0:=Y;obtain⟨m,rfl⟩:=w9 h;rw[e,show(m:jc)*2=((2*m:je):jc) by omega,NQ _ Y]
  rfl
 have b:n<0:=Y;rw[KV n b];have g:n<= -1:=Y
 go_enter func196,ntmps196
 go_wp2
 go_ret;refine⟨nZ ?_,T⟩;obtain⟨m,i⟩:∃m:je,m=(2*n+18446744073709551616).toNat:=⟨_,T⟩;have c:qw.wrap (qw.wrap n*2)=(m:jc):=by simp only[qG];omega
 have d:qw.wrap (n/9223372036854775808)=18446744073709551615:=by simp only[qG];omega
 rw[c,d,Ey _ Y];omega
theorem KW(k:je):bits .or .u8 ((k:jc)%256) 128=(((jY 8 (k%128+128)).toNat:je):jc):=by
 have h:∀j:Fin 256,bits .or .u8 ((j.val:je):jc) 128=(((jY 8 (j.val%128+128)).toNat:je):jc):=by decide+kernel
 have e:=h ⟨k%256,qu _ Y⟩;have a:(k%256)%128=k%128:=Y;simp only[a]at e;rw[<-e]
 rfl
theorem pB(W:jh)(x:ji):cO (W.alloc (jd #[x] 5)) (jb (ja ⟨W,0,A⟩) 1 1) 1 1 [x]:=
 eU W [x] 5 (0,0) 1 1 1 rfl (jn _)
theorem Nb(f:je):∀a,a<128^(f+1)->(bV a).length<=f+1:=by
 induction f with
 |zero=>intro a b;rw[kF Y];simp
 |succ f c=>
  intro a b
  by_cases h:a<128
  ·rw[kF h];simp
  rw[oh h];have:=c (a/128) (by rw[Nat.div_lt_iff_lt_mul Y];rw[Nat.pow_succ]at b;omega);simp;omega
theorem kT(a:je)(b:a<18446744073709551616):(bV a).length<=10:=Nb 9 a (Nat.lt_trans b G)
theorem yE(B n b:je)(v:ji)(xs:jg ji)(w:jh)(c:w.ownsRow B 5 1 v n xs)(d:B<=w.heap.size)(s:b<18446744073709551616)(D:n<=3000000):
 jq jm 195 #[v,I kl b] w λe w'=>∃g,e=jo g/\bS B 5 1 w w' v g (n+(bV b).length) (xs++(bV b).map v8):=by
 obtain⟨i,a⟩:=J (bV b);have p:=O (kT b s);rw[<-a]at p⊢;have t:=O a;have u:=O c;have x:=O d;clear a c d
 go_enter func195,ntmps195
 go_wp2_with fail
 go_loopw [0,1] (λd c wr=>∃(a:af) (k:je) (j:ji),d=j/\c=I kl k/\k<=18446744073709551615/\jk (i=a++bV k)/\jk (bS B 5 1 w wr v j (n+a.length) (xs++a.map v8))) (λ_ c _=>(jv c).toNat)
 case atStart=>exact⟨[],b,v,T,T,by omega,O t,O (by simpa using bS.refl u)⟩
 obtain⟨a,k,j,rfl,rfl,hk,l,d⟩:=hrel;have E:a.length<=10:=by have y:=p.out;rw[l,jM]at y;omega
 have q:=O (jz x d.grown.size)
 by_cases r:k<128
 ·have z:=ap ((128:jc)<=(k:jc))
  have m:=O (show i=a++[jY 8 k] by rw[l,kF r]);have c:(k:jc)=(((jY 8 k).toNat:je):jc):=by rw[qm];omega
  have o:=O c;clear c
  go_wp2_with (at_builtin;refine Hid.out ?_)
  refine O ?_;refine ms T λ_ f=>nO _ _ T B _ _ _ T (dx d.own (ai wr _)) _ 1 [_] T (pB wr _) (by simp[j3]) (show n+a.length+1<=4000000 by omega) (jz q (ai wr _).size) λg C c=>f _ _ ?_
  replace c:=O c;clear f
  go_wp2_with fail
  go_ret;refine⟨_,T,?_⟩;have h:=d.trans (bS.after (ai wr _) c);rw[show [jC IntKind.u8 (k:jc)]=[jY 8 k].map v8 by rw[o];rfl,j8]at h;rw[m,jM,j6,<-qZ];exact h
 have z:=ao ((128:jc)<=(k:jc));have m:=O (show i=(a++[jY 8 (k%128+128)])++bV (k/128) by rw[l,oh r];simp);have o:=O (KW k)
 go_wp2_with (at_builtin;refine Hid.out ?_)
 refine O ?_;refine ms T λ_ f=>nO _ _ T B _ _ _ T (dx d.own (ai wr _)) _ 1 [_] T (pB wr _) (by simp[j3]) (show n+a.length+1<=4000000 by omega) (jz q (ai wr _).size) λg C c=>f _ _ ?_
 replace c:=O c;clear f
 go_wp2_with fail
 refine⟨⟨a++[jY 8 (k%128+128)],k/128,_,T,?_,by omega,m,O ?_⟩,?_⟩
 ·exact jN (jC .u64) Y
 ·have h:=d.trans (bS.after (ai wr _) c)
  rw[o,j8]at h;rw[jM,j6,<-qZ];exact h
 simp only[jv];omega
section
variable{i:je}
section
variable {P:qB} {ops:jZ lo} {Q:Exit->Act->jh->Prop} {md:Region.Mode} {S:jh->Prop}
abbrev ey:=eh
theorem bY{i:je}{a:Act}{w:jh}(S:jh->Prop)(t:bJ)(d:P.follows .mixedOrders=jf)(e:Region.noSelect ops=jf)
 (hk:gk .any ops t (Array.replicate ops.size jp)=jf) (f:t.len<=ops.size) (g:∀c a h w,Q (.panic c) a w->Q (.panic c) h w)
 (c:S w.drew) (h:ey P ops Q S t a w.drew):(Code.region i ops jf).wp P Q a w:=
 GC S t d e hk f g c h
theorem aE{o:lo}{v:ji}{r:bJ}{a:Act}{w:jh}(b:ops[i]?=ja o)(c:Region.wanted o (yielded ops a.tmps)=jf)
 (d:∀w,S w->(qg a.eval o).run P w=.ok (.value v) w) (h:ey P ops Q S r (a.put o.dst v) w):ey P ops Q S (.t i r) a w:=
 Qc b c d h
theorem Re{o:lo}{r:bJ}{a:Act}{w:jh}(b:ops[i]?=ja o)(c:Region.wanted o (yielded ops a.tmps)=jp)
 (h:ey P ops Q S r (a.put o.dst ju) w):ey P ops Q S (.t i r) a w:=
 Kq b c h
theorem ar{o:lo}{r:bJ}{a:Act}{w:jh}(c:ops[i]?=ja o)
 (h:∀b:Act->jh->Prop,Shut (∀a w,S w->(S w->ey P ops Q S r a w)->b a w)->if Region.wanted o (yielded ops a.tmps)=jf then Oper.wp P o a w b Q else b (a.put o.dst ju) w):
 ey P ops Q S (.o i r) a w:=
 KN c h
theorem LM{o:lo}{v:ji}{r:bJ}{a:Act}{w:jh}{f:FuncId}{args:jZ ji}(b:ops[i]?=ja o)(c:Region.wanted o (yielded ops a.tmps)=jf)
 (he:∀w,(qg a.eval o).run P w=.ok (.enter f args) w) (d:∀w,S w->jq P f args w λe w'=>e=jo v/\w'=w) (h:ey P ops Q S r (a.put o.dst v) w):ey P ops Q S (.t i r) a w:=
 Qv b c he d h
theorem gM{j:je}{r y:bJ}{a:Act}{w:jh}(b:ey P ops Q S (.o i r) a w)(c:ey P ops Q S (.o j y) a w):ey P ops Q S (.w i j r y) a w:=
 QP b c
end
theorem bi{p q:Prop}(k:q)(h:q->p:=by intro k;refine aE (v:=?_) rfl (by rfl) (λW' hS=>?_) ?_;rotate_left;(go_simp;with_reducible rfl);refine L ?_;exact k):p:=h k
theorem aL{p q:Prop}(k:q)(h:q->p:=by intro k;refine aE (v:=?_) rfl (by rfl) (λW' hS=>?_) ?_;rotate_left;(clear hS;go_simp;with_reducible rfl);refine L ?_;exact k):p:=h k
theorem C4{p q:Prop}(k:q)(h:q->p:=by intro k;refine aE (v:=?_) rfl (by rfl) (λW' hS=>?_) ?_;rotate_left;(obtain⟨k0,k1,k2,k3⟩:=hS;go_simp;with_reducible rfl);refine L ?_;exact k):p:=h k
theorem C3{p q:Prop}(k:q)(h:q->p:=by intro k;refine aE (v:=?_) rfl (by rfl) (λW' hS=>?_) ?_;rotate_left;(obtain⟨k0,k1,k2,k3,k4,k5⟩:=hS;go_simp;with_reducible rfl);refine L ?_;exact k):p:=h k
theorem uI{p q:Prop}(k:q)(h:q->p:=by intro k;refine aE (v:=?_) rfl (by rfl) (λW' hS=>?_) ?_;rotate_left;(have b0:=hS.1.1;have b1:=hS.1.2;clear hS;go_simp;with_reducible rfl);refine L ?_;exact k):p:=h k
theorem ik{p q:Prop}(k:q)(h:q->p:=by intro k;refine Re rfl (by rfl) ?_;refine L ?_;exact k):p:=h k
end
def ay(D:je->Prop)(w:jh)(v:ji)(sz n:je)(xs:jg ji):Prop:=
 xs.length=n*sz/\∃(p:jQ jK) (c:je),v=jb p n c/\n<=c/\(p=A->c=0)/\
  (0<n->∃g o,p=ja ⟨g,o,A⟩/\D g/\∀(j:je) a,xs[j]?=ja a->w.cell? ⟨g,o+j,A⟩=ja a)
theorem ay.row{D:je->Prop}{w:jh}{v:ji}{sz n:je}{xs:jg ji}(h:ay D w v sz n xs):cO w v sz n xs:=by
 obtain⟨a,p,c,b,d,f,i⟩:=h;refine⟨a,p,c,b,d,f,λj=>?_⟩;obtain⟨g,o,e,-,k⟩:=i j;exact⟨g,o,e,k⟩
theorem bX{w w':jh}{a:jK}(h:w'.heap[a.block]?=w.heap[a.block]?):w'.cell? a=w.cell? a:=by unfold j7;rw[h]
theorem ay.keep{D:je->Prop}{w w':jh}{v:ji}{sz n:je}{xs:jg ji}(h:ay D w v sz n xs)(hk:∀g,D g->w'.heap[g]?=w.heap[g]?):ay D w' v sz n xs:=by
 obtain⟨d,p,c,f,i,k,l⟩:=h;refine⟨d,p,c,f,i,k,λm=>?_⟩;obtain⟨g,o,e,b,q⟩:=l m;exact⟨g,o,e,b,λj r s=>(bX (a:=⟨g,o+j,A⟩) (hk g b)).trans (q j r s)⟩
theorem ay.mono{D D':je->Prop}{w:jh}{v:ji}{sz n:je}{xs:jg ji}(h:ay D w v sz n xs)(a:∀g,D g->D' g):ay D' w v sz n xs:=by
 obtain⟨b,p,c,d,f,i,j⟩:=h;refine⟨b,p,c,d,f,i,λk=>?_⟩;obtain⟨g,o,e,l,h⟩:=j k;exact⟨g,o,e,a g l,h⟩
def eS(x:Val)(a:ji):jg ji:=[I N x.k,I N x.n,jj x.s,a]
def bU:jg Val->jg ji->jg ji
 |x::xs,a::b=>eS x a++bU xs b
 |_,_=>[]
mutual
def aw(D:je->Prop)(w:jh):Val->ji->Prop
 | .mk _ _ _ l,b=>∃a,ay D w b 4 l.length (bU l a)/\aC D w l a
def aC(D:je->Prop)(w:jh):jg Val->jg ji->Prop
 |[],a=>a=[]
 |x::xs,a=>∃b c,a=b::c/\aw D w x b/\aC D w xs c
end
mutual
theorem aw.keep{D:je->Prop}{w w':jh}(hk:∀g,D g->w'.heap[g]?=w.heap[g]?):∀(x:Val) (a:ji),aw D w x a->aw D w' x a
 | .mk k n s l,a,h=>by
  rw[aw]at h⊢;obtain⟨b,c,d⟩:=h;exact⟨b,c.keep hk,aC.keep hk l b d⟩
theorem aC.keep{D:je->Prop}{w w':jh}(hk:∀g,D g->w'.heap[g]?=w.heap[g]?):∀(l:jg Val) (a:jg ji),aC D w l a->aC D w' l a
 |[],a,h=>by rw[aC]at h⊢;exact h
 |x::l,a,h=>by
  rw[aC]at h⊢;obtain⟨b,c,d,e,f⟩:=h;exact⟨b,c,d,aw.keep hk x b e,aC.keep hk l c f⟩
end
mutual
theorem aw.mono{D D':je->Prop}{w:jh}(b:∀g,D g->D' g):∀(x:Val) (a:ji),aw D w x a->aw D' w x a
 | .mk k n s l,a,h=>by
  rw[aw]at h⊢;obtain⟨c,d,e⟩:=h;exact⟨c,d.mono b,aC.mono b l c e⟩
theorem aC.mono{D D':je->Prop}{w:jh}(b:∀g,D g->D' g):∀(l:jg Val) (a:jg ji),aC D w l a->aC D' w l a
 |[],a,h=>by rw[aC]at h⊢;exact h
 |x::l,a,h=>by
  rw[aC]at h⊢;obtain⟨c,d,e,f,g⟩:=h;exact⟨c,d,e,aw.mono b x c f,aC.mono b l d g⟩
end
theorem aC.len{D:je->Prop}{w:jh}:∀{l:jg Val} {a:jg ji},aC D w l a->a.length=l.length
 |[],a,h=>by rw[aC]at h;rw[h];rfl
 |x::l,a,h=>by
  rw[aC]at h;obtain⟨c,d,rfl,e,b⟩:=h;simp[aC.len b]
theorem aC.at{D:je->Prop}{w:jh}:∀{l:jg Val} {a:jg ji} {i:je} {x:Val},aC D w l a->l[i]?=ja x->∃b,a[i]?=ja b/\aw D w x b
 |[],a,i,x,h,c=>by simp at c
 |y::l,a,i,x,h,c=>by
  rw[aC]at h;obtain⟨b,k,rfl,d,f⟩:=h
  cases i with
  |zero=>
   have e:y=x:=ah c;subst e;exact⟨b,T,d⟩
  |succ i=>
   obtain⟨e,g,j⟩:=aC.at (i:=i) f (ah c);exact⟨e,by simpa using g,j⟩
theorem aC.append{D:je->Prop}{w:jh}:∀{l m:jg Val} {b a:jg ji},aC D w l b->aC D w m a->aC D w (l++m) (b++a)
 |[],m,b,a,h,k=>by rw[aC]at h;rw[h];exact k
 |x::l,m,b,a,h,k=>by
  rw[aC]at h;obtain⟨c,d,rfl,e,f⟩:=h;show aC D w (x::(l++m)) (c::(d++a));rw[aC];exact⟨c,_,T,e,aC.append f k⟩
theorem aC.one{D:je->Prop}{w:jh}{x:Val}{a:ji}(h:aw D w x a):aC D w [x] [a]:=by
 rw[aC];exact⟨a,[],T,h,by rw[aC]⟩
theorem oH:∀(l m:jg Val) (a b:jg ji),a.length=l.length->bU (l++m) (a++b)=bU l a++bU m b
 |[],m,a,b,h=>by
  have:a=[]:=qb (ah h);subst this
  cases m<;>cases b<;>simp[bU]
 |x::l,m,[],b,h=>by simp at h
 |x::l,m,c::a,b,h=>by
  simp only[mT,bU,oH l m a b (ah h),j8]
theorem pC:∀(l:jg Val) (a:jg ji) (j i:je) (x:Val) (b:ji),l[j]?=ja x->a[j]?=ja b->i<4->(bU l a)[j*4+i]?=(eS x b)[i]?
 |[],a,j,i,x,b,h,_,_=>by simp at h
 |y::l,[],j,i,x,b,_,h,_=>by simp at h
 |y::l,v::a,0,i,x,b,h,c,d=>by
  have e:y=x:=ah h;have f:v=b:=ah c;subst e;subst f;show(eS y v++bU l a)[0*4+i]?=_;rw[qF,kn,qx (by simp[eS];omega)]
 |y::l,v::a,j+1,i,x,b,h,c,d=>by
  show(eS y v++bU l a)[(j+1)*4+i]?=_;have e:(eS y v).length=4:=T;rw[qy (by rw[e];omega),e,show(j+1)*4+i-4=j*4+i by omega];exact pC l a j i x b (ah h) (ah c) d
theorem aw.slice{D:je->Prop}{w:jh}{x:Val}{a:ji}(h:aw D w x a):∃b,ay D w a 4 x.l.length (bU x.l b)/\aC D w x.l b:=by
 obtain⟨k,n,s,l⟩:=x;rw[aw]at h;exact h
theorem aw.form{D:je->Prop}{w:jh}{x:Val}{a:ji}(h:aw D w x a):∃p c,a=jb p x.l.length c:=by
 obtain⟨b,⟨-,p,c,e,-⟩,-⟩:=h.slice;exact⟨p,c,e⟩
structure lP(a b:je)(w:jh):Prop where
 tab:∃z,w.heap[a]?=ja (jd #[z,.func (.func 194) #[] #[],.func (.func 197) #[] #[],.func (.func 198) #[] #[jA (ja ⟨b,0,A⟩)]] 270 (0,0))
 ptr:w.heap[b]?=ja (jd #[jA (ja ⟨a,0,A⟩)] 210 (0,0))
theorem LV(w:jh):
 jq jm 141 #[] w λe w'=>∃l s,e=jo (jA (ja ⟨l,0,A⟩))/\lP l s w'/\jl w w w':=by
 have C:∀(fn:Fn) (first m:jZ ji) (w:jh),(Instr.makeFunc fn first m).run jm w=.ok (.func fn first m) w:=λ_ _ _ _=>rfl
 obtain⟨b,a⟩:=J ((w.alloc (jd #[.nilFunc,.nilFunc,.nilFunc,.nilFunc] 270)).alloc (jd #[jA (ja ⟨w,0,A⟩)] 210));have t:b.heap.size=w.heap.size+2:=by rw[a];simp
 have n:b.heap[w.heap.size]?=ja (jd #[.nilFunc,.nilFunc,.nilFunc,.nilFunc] 270 (0,0)):=by
  rw[a,jG _ _ _ ax];exact js w _
 have c:b.heap[w.heap.size+1]?=ja (jd #[jA (ja ⟨w,0,A⟩)] 210 (0,0)):=by
  rw[a];have:=js (w.alloc (jd #[.nilFunc,.nilFunc,.nilFunc,.nilFunc] 270)) (jd #[jA (ja ⟨w,0,A⟩)] 210);rw[jF]at this;exact this
 have o:jl w w b:=by rw[a];exact((jy _ w).alloc (jn _) _).alloc ax _
 obtain⟨D,u,p,d⟩:=vQ (P:=jm) (i:=1) (v:=.func (.func 194) #[] #[]) n G T;obtain⟨E,F,q,f⟩:=vQ (P:=jm) (i:=2) (v:=.func (.func 197) #[] #[]) p G T;obtain⟨x,H,r,g⟩:=vQ (P:=jm) (i:=3) (v:=.func (.func 198) #[] #[jA (ja ⟨w.heap.size+1,0,A⟩)]) q G T;have h:=(d.block (w.heap.size+1) Y).trans c;have j:=(f.block (w.heap.size+1) Y).trans h;have k:=(g.block (w.heap.size+1) Y).trans j;have K:=ae (i:=0) h T;have M:=ae (i:=0) j T;have Q:=ae (i:=0) k T;have y:=O (((o.trans (d.below (jn _))).trans (f.below (jn _))).trans (g.below (jn _)));have z:jk (lP w.heap.size (w.heap.size+1) x):=O ⟨⟨_,r⟩,k⟩;have B:=ae (i:=0) c T;rw[a]at u B;clear t n c o p q r d f g h j k a
 go_enter func141,ntmps141
 go_wp2
 go_ret;exact⟨_,_,T,z,y⟩
theorem aB{w':jK}(h:w.cell? w'=ja c)(b:jl w w a):a.cell? w'=ja c:=
 (bX (b.block _ (fb h))).trans h
theorem fz{w':jK}{b:jQ je}(h:w.cell? w'=ja c)(v:w.grownBy a b)(d:b≠ja w'.block):a.cell? w'=ja c:=
 (bX (v.block _ (fb h) (λe=>d e.symm))).trans h
theorem bz(W:jh):jl W W W.drew:=⟨T,T,T,jn _,λ_ _=>rfl⟩
theorem Kf(B n:je)(v:ji)(xs:jg ji)(m:jc)(s:ByteArray)(l:ji)(w:jh)(a:w.ownsRow B 5 1 v n xs)(h:B<=w.heap.size)(z: -9223372036854775808<=m)(C:m<9223372036854775808)(S:n<=2900000):
 jq jm 194 #[v,jr #[I N 1,I N m,jj s,l]] w λe w'=>∃r,e=jo r/\bS B 5 1 w w' v r (n+(enc (.mk 1 m s [])).length) (xs++(enc (.mk 1 m s [])).map v8):=by
 have b:enc (.mk 1 m s [])=1#8::bV (fw m):=by rw[enc,jB T]
 have K:=O b;clear b;have j:=js w (jd #[I N 1,I N m,jj s,l] 128);have b:=ae (i:=1) j T;have k:=O (dx a (ai w (jd #[I N 1,I N m,jj s,l] 128)));have g:=O (ai w (jd #[I N 1,I N m,jj s,l] 128));have t:jk (v.ownBlock≠ja w.heap.size):=O (cJ a (.inl (jn _)));have M:=O h;obtain⟨p,c,rfl⟩:=a8 a;obtain⟨v,d⟩:=J (jS p n c);rw[<-d]at k t a;have D:=O d;clear j h a d
 go_enter func194,ntmps194
 go_upto_region 1 with fail
 obtain⟨u,d⟩:=J w.heap.size;obtain⟨a,h⟩:=J (w.alloc (jd #[I N 1,I N m,jj s,l] 128));have j:u<a.heap.size:=by rw[h,d];simp
 rw[<-h]at b k g⊢;rw[<-d]at b t⊢;have y:jk (B<=a.drew.heap.size):=O (jz M g.size);have E:jk (u<a.drew.heap.size):=O j;replace k:jk (a.drew.ownsRow B 5 1 v n xs):=O (dx k (bz a));replace g:jk (jl w w a.drew):=O (g.trans (bz a|>.mono g.size));replace b:a.drew.cell? ⟨u,1,A⟩=ja (I N m):=b;clear d h j;refine jV ?_;refine bY (λx=>x.cell? ⟨u,1,A⟩=ja (I N m)) (.t 0 (.t 3 (.t 4 (.o 1 (.o 2 (.t 5 (.o 6 (.t 7 .done)))))))) ag ag ag G (λ_ _ _ _ h=>h) b ?_;generalize a.drew=o at b k g y E⊢;have P:=O k;rw[<-D];iterate 3 refine bi ?_
 refine ar T (λF d=>?_);go_simp;refine d _ _ (aB b (ai _ _)) λ_=>?_
 clear d;refine L ?_;refine ar T (λF d=>?_);rw[jB aj];refine nO _ _ T B v _ _ T (dx P (ai o _)) _ 1 [_] T (pB o _) (by simp[j3]) Y (jz y (ai o _).size) λr Q j=>?_
 have q:=t.out;have H:=fz (aB b (ai o (jd #[I .u8 1] 5))) j.grown q;replace j:=O (bS.after (ai o _) j);refine d _ _ H λ_=>?_
 clear d q;refine L ?_
 (refine LM (v:=I kl (fw m)) (f:=196) (args:=#[I N m]) T aj (λx=>?_) (λx _=>(I0 m z C x).mono λe w' h=>⟨h.1,h.2.symm⟩) ?_;·(go_simp;try with_reducible rfl))
 refine L ?_;refine ar T (λF d=>?_);go_simp;have F:=j.grown.size;have q:=j.ne E t;refine(yE B _ (fw m) r _ Q j.own (jz y F) (rj m z C) Y).mono ?_;rintro e U ⟨V,rfl,x⟩;have R:=fz H x.grown q;replace x:=O (j.trans x);refine d _ _ R λ_=>?_
 clear d F q;refine L ?_;refine bi ?_;refine jU ?_
 go_wp2_with fail
 go_ret;refine⟨_,T,?_⟩;have h:=bS.after g x;rw[K,jX,qH,<-D];rw[j8,show n+1+(bV (fw m)).length=n+((bV (fw m)).length+1) by omega]at h;exact h
theorem GQ(B n:je)(v:ji)(xs:jg ji)(m:jc)(s:ByteArray)(l:ji)(w:jh)(a:w.ownsRow B 5 1 v n xs)(g:B<=w.heap.size)(S:n+s.size<=2900000):
 jq jm 197 #[v,jr #[I N 2,I N m,jj s,l]] w λe w'=>∃o,e=jo o/\bS B 5 1 w w' v o (n+(enc (.mk 2 m s [])).length) (xs++(enc (.mk 2 m s [])).map v8):=by
 have b:enc (.mk 2 m s [])=2#8::(bV s.size++aX s):=by rw[enc,jH G,jB T]
 have K:=O b;clear b;have u:=js w (jd #[I N 2,I N m,jj s,l] 128);have d:=ae (i:=2) u T;have k:=O (dx a (ai w (jd #[I N 2,I N m,jj s,l] 128)));have f:=O (ai w (jd #[I N 2,I N m,jj s,l] 128));have q:jk (v.ownBlock≠ja w.heap.size):=O (cJ a (.inl (jn _)));have M:=O g;obtain⟨p,c,rfl⟩:=a8 a;obtain⟨v,b⟩:=J (jS p n c);rw[<-b]at k q a;have D:=O b;clear u g a b
 go_enter func197,ntmps197
 go_upto_region 1 with fail
 obtain⟨x,a⟩:=J w.heap.size;obtain⟨b,g⟩:=J (w.alloc (jd #[I N 2,I N m,jj s,l] 128));have h:x<b.heap.size:=by rw[g,a];simp
 rw[<-g]at d k f⊢;rw[<-a]at d q⊢;have y:jk (B<=b.drew.heap.size):=O (jz M f.size);have z:jk (x<b.drew.heap.size):=O h;replace k:jk (b.drew.ownsRow B 5 1 v n xs):=O (dx k (bz b));replace f:jk (jl w w b.drew):=O (f.trans (bz b|>.mono f.size));replace d:b.drew.cell? ⟨x,2,A⟩=ja (jj s):=d;clear a g h;refine jV ?_;refine bY (λa=>a.cell? ⟨x,2,A⟩=ja (jj s)) (.t 0 (.t 3 (.t 4 (.t 5 (.t 6 (.t 8 (.t 9 (.o 1 (.o 2 (.o 7 (.o 10 (.t 11 .done)))))))))))) ag ag ag G (λ_ _ _ _ h=>h) d ?_;generalize b.drew=r at d k f y z⊢;have P:=O k;rw[<-D];iterate 7 refine bi ?_
 refine ar T (λC a=>?_);go_simp;refine a _ _ (aB d (ai _ _)) λ_=>?_
 clear a;refine L ?_;refine ar T (λC a=>?_);rw[jB aj];refine nO _ _ T B v _ _ T (dx P (ai r _)) _ 1 [_] T (pB r _) (by simp[j3]) Y (jz y (ai r _).size) λo Q g=>?_
 have t:=q.out;have E:=fz (aB d (ai r (jd #[I .u8 2] 5))) g.grown t;replace g:=O (bS.after (ai r _) g);refine a _ _ E λ_=>?_
 clear a t;refine L ?_;refine ar T (λC a=>?_);go_simp;rw[show qw.wrap (s.size:jc)=(s.size:jc)from by rw[qG];omega];have F:=g.grown.size;have t:=g.ne z q;refine(yE B _ s.size o _ Q g.own (jz y F) Y Y).mono ?_;rintro e U ⟨R,rfl,j⟩;have V:=kT s.size Y;have H:=fz E j.grown t;replace j:=O (g.trans j);refine a _ _ H λ_=>?_
 clear a F t;refine L ?_;refine ar T (λC a=>?_);rw[jB aj];refine Lg _ _ T B R _ _ T j.own s T Y (jz y j.grown.size) λo F t=>?_
 have C:=fz H t.grown (j.ne z q);replace t:=O (j.trans t);refine a _ _ C λ_=>?_
 clear a;refine L ?_;refine bi ?_;refine jU ?_
 go_wp2_with fail
 go_ret;refine⟨_,T,?_⟩;have h:=bS.after f t;have u:(s.data.toList.map UInt8.toBitVec)=aX s:=T;rw[K,jX,qH,jM,j6,eW,<-D];rw[u,j8,j8,show n+1+(bV s.size).length+s.size=n+((bV s.size).length+s.size+1) by omega]at h;exact h
def Buf(b:je)(a:af)(w:jh):Prop:=LibA.IsBuffer 180 (λ_=>A) 5 b b 0 (a.map v8) w
theorem Buf.lt(h:Buf B j w):B<w.heap.size:=LibA.IsBuffer.lt h
theorem Buf.keep{b:je}{a:af}(h:Buf b a w)(c:jl w w w'):Buf b a w':=by
 obtain⟨e,v,f,d,g,i⟩:=h;exact⟨e,v,f,d.of_heap (c.block _ d.lt),dx g c,i⟩
theorem Buf.new(w:jh):Buf w.heap.size [] (w.alloc (jd #[jb A 0 0,I N 0,.int .i8 0] 180)):=
 LibA.zero_isBuffer (jn _) (LibA.three_whole (js w _))
theorem tf{i:Prop}(k:i)(h:i->p:=by intro k;refine aE (v:=?_) rfl aj (λW' hS=>?_) ?_;rotate_left;(obtain⟨c0,c1⟩:=hS;go_simp;with_reducible rfl);refine L ?_;exact k):p:=h k
theorem Pb(b:je)(d:af)(w:jh)(h:Buf b d w):
 jq jm 174 #[jA (ja ⟨b,0,A⟩)] w λe w'=>∃v,e=jo v/\w'.ownsRow b 5 1 v (d.map v8).length (d.map v8)/\jl w w w':=by
 obtain⟨l,K,x⟩:=LibA.IsBuffer.cases h
 rcases x with⟨m,a⟩|⟨g,o,y,a,p,q,r,i,s,t,z⟩
 ·have f:=a.c0
  have j:=a.c1;rw[m];clear a l m h
  go_enter func174,ntmps174
  go_wp2
  refine jV ?_;refine bY (λc=>c.cell? ⟨b,0,A⟩=ja (jb A 0 0)/\c.cell? ⟨b,0+1,A⟩=ja (I N 0)) (.t 0 (.t 1 (.t 2 (.t 3 (.t 4 (.t 5 (.t 6 (.t 7 (.t 8 (.t 9 .done)))))))))) ag ag ag G (λ_ _ _ _ h=>h) ⟨f,j⟩ ?_;iterate 3 refine aL ?_
  refine tf ?_;iterate 3 refine aL ?_
  refine tf ?_;iterate 2 refine aL ?_
  refine jU ?_
  go_wp2_with fail
  go_ret;exact⟨_,T,j1 _ _ _ _,bz _⟩
 have f:=a.c0;have j:=a.c1;have B:=i;unfold j4 at B;have C:=O q;have D:=O p;have E:=O i;have F:=O s;have H:=O t;obtain⟨n,k⟩:=J ((d.map v8).length);rw[<-k]at r f⊢;have u:=O k;clear a l h q p i s t z k
 go_enter func174,ntmps174
 go_wp2
 refine jV ?_;refine bY (λc=>c.cell? ⟨b,0,A⟩=ja (jb (ja ⟨g,0,A⟩) n o)/\c.cell? ⟨b,0+1,A⟩=ja (I N 0)) (.t 0 (.t 1 (.t 2 (.t 3 (.t 4 (.t 5 (.t 6 (.t 7 (.t 8 (.t 9 .done)))))))))) ag ag ag G (λ_ _ _ _ h=>h) ⟨f,j⟩ ?_;iterate 3 refine aL ?_
 refine tf ?_;iterate 3 refine aL ?_
 refine tf ?_;iterate 2 refine aL ?_
 refine jU ?_
 go_wp2_with fail
 go_ret;exact⟨_,T,⟨by simp[u.out],.inr ⟨g,o,y,T,D,C,r,E,by rw[F];simp,by rw[qT,u];exact H⟩⟩,bz _⟩
def wrF(k:jc):je:=if k=1 then 194 else if k=2 then 197 else 198
def wrL(a:je)(k:jc):jZ ji:=if k=1 then #[]else if k=2 then #[]else #[jA (ja ⟨a,0,A⟩)]
def pE(b a:je)(x:Val):Prop:=
 ∀(B n:je) (v:ji) (xs:jg ji) (c:ji) (d:jc) (w:jh),x.k=d->w.ownsRow B 5 1 v n xs->B<=w.heap.size->aw (·<B) w x c->lP b a w->b<B->a<B->n+(enc x).length<=2900000->
  jq jm (wrF x.k) (#[v,jr #[I N d,I N x.n,jj x.s,c]]++wrL a x.k) w λe w'=>∃f,e=jo f/\bS B 5 1 w w' v f (n+(enc x).length) (xs++(enc x).map v8)
theorem Bi(k:jc)(args:jZ ji)(w:jh):(callFunc (wrF k) args).run jm w=.ok (.enter (wrF k) args) w:=by
 unfold wrF
 split
 ·rfl
 split<;>rfl
theorem lP.at{a b:je}(h:lP a b w){k:jc}{m:je}(c:k=(m:jc))(e:1<=m)(f:m<=3):w.cell? ⟨a,m,A⟩=ja (.func (.func (wrF k)) #[] (wrL b k)):=by
 obtain⟨z,d⟩:=h.tab;subst c;have:m=1\/m=2\/m=3:=Y
 rcases this with rfl|rfl|rfl<;>exact ae d T
theorem lP.keep{a b:je}(h:lP a b w)(c:jl B w w')(d:a<B)(e:b<B):lP a b w':=by
 obtain⟨⟨z,f⟩,g⟩:=h;exact⟨⟨z,(c.block _ d).trans f⟩,(c.block _ e).trans g⟩
theorem r8{x:Val}(h:f[B]?=ja x):encs (f.take (B+1))=encs (f.take B)++enc x:=by
 obtain⟨a,e⟩:=xi.1 h;rw[mz a,rf,e];simp[encs]
theorem sj(l:jg Val)(i:je):(encs (l.take i)).length<=(encs l).length:=by
 have h:=rf (l.take i) (l.drop i);rw[xj]at h;rw[h,jM];omega
theorem Nh(z t:je)(m:jc)(s:ByteArray)(l:jg Val)(j:∀x∈l,(1<=x.k/\x.k<=3)/\pE z t x):pE z t (.mk 3 m s l):=by
 intro B n v xs u kk w bk e k Q o q r b;obtain rfl:(3:jc)=kk:=bk;have a:enc (.mk 3 m s l)=3#8::(bV l.length++encs l):=by rw[enc,jH G,jH G]
 have HE:=O a;show jq jm 198 #[v,jr #[I N 3,I N m,jj s,u],jA (ja ⟨t,0,A⟩)] w _;have a4:n+((bV l.length).length+(encs l).length+1)<=2900000:=by rw[a,jX,jM]at b;omega
 have bl:=po l;clear a b;have M:=js w (jd #[I N 3,I N m,jj s,u] 128);have a:=ae (i:=3) M T;have f:=O (dx e (ai w (jd #[I N 3,I N m,jj s,u] 128)));have b:=O (ai w (jd #[I N 3,I N m,jj s,u] 128));have HN:jk (v.ownBlock≠ja w.heap.size):=O (cJ e (.inl (jn _)));have R:=O k;have UW:=O e;have Ti:=O j;obtain⟨us,a3,g⟩:=Q.slice;replace a3:ay (·<B) w u 4 l.length (bU l us):=a3;replace g:aC (·<B) w l us:=g;obtain⟨E,pu,S,y,C,F,D⟩:=a3;have a5:=O g;have UG:=O D;have hu:u=jb pu l.length S:=y;have bm:l.length<=S:=C;obtain⟨d,h⟩:=J l.length;rw[<-h]at hu bm a4 bl;have U:=O h;subst hu;have bn:jk (n+((bV d).length+(encs l).length+1)<=2900000):=O a4;have HT:=O o;have V:=O q;have W:=O r;obtain⟨p,c,rfl⟩:=a8 e;obtain⟨v,Q⟩:=J (jS p n c);rw[<-Q]at f HN UW;have HV:=O Q;have bA:=kT d Y;have bB:d<=2900000:=Y;have H:n+30<=3000000\/2999970<n:=Y;clear M k e Q j E y C F D g h o q r H
 go_enter func198,ntmps198
 go_upto_region 1 with fail
 obtain⟨X,e⟩:=J w.heap.size;obtain⟨C,g⟩:=J (w.alloc (jd #[I N 3,I N m,jj s,jb pu d S] 128));have h:X<C.heap.size:=by rw[g,e];simp
 rw[<-g]at a f b⊢;rw[<-e]at a HN⊢;have bC:jk (X=w.heap.size):=O e;have j:jk (B<=C.drew.heap.size):=O (jz R b.size);have o:jk (X<C.drew.heap.size):=O h;replace f:jk (C.drew.ownsRow B 5 1 v n xs):=O (dx f (bz C));replace b:jk (jl w w C.drew):=O (b.trans (bz C|>.mono b.size));replace a:C.drew.cell? ⟨X,3,A⟩=ja (jb pu d S):=a;clear e g h;refine jV ?_;refine bY (λE=>E.cell? ⟨X,3,A⟩=ja (jb pu d S)) (.t 0 (.t 3 (.t 4 (.t 5 (.t 6 (.o 1 (.o 2 (.o 7 (.t 8 .done))))))))) ag ag ag G (λ_ _ _ _ h=>h) a ?_;generalize C.drew=W1 at a f b j o⊢;have y:=O f;rw[<-HV];iterate 5 refine bi ?_
 refine ar T (λK' k=>?_);go_simp;refine k _ _ (aB a (ai _ _)) λ_=>?_
 clear k;refine L ?_;refine ar T (λK' k=>?_);rw[jB aj];refine nO _ _ T B v _ _ T (dx y (ai W1 _)) _ 1 [_] T (pB W1 _) (by simp[j3]) Y (jz j (ai W1 _).size) λv' w5 H=>?_
 have g:=HN.out;have q:=fz (aB a (ai W1 (jd #[I .u8 3] 5))) H.grown g;replace H:=O (bS.after (ai W1 _) H);refine k _ _ q λ_=>?_
 clear k g;refine L ?_;refine ar T (λK' k=>?_);go_simp;rw[show qw.wrap (d:jc)=(d:jc)from by rw[qG];omega];have r:=H.grown.size;have g:=H.ne o HN;refine(yE B _ d v' _ w5 H.own (jz j r) Y Y).mono ?_;rintro e w6 ⟨v6,rfl,K⟩;have c6:=fz q K.grown g;have bI:=K.ne (jO o r) g;replace K:=O (H.trans K);refine k _ _ c6 λ_=>?_
 clear k r g;refine L ?_;refine bi ?_;refine jU ?_;replace K:jk (bS B 5 1 w w6 v v6 (n+1+(bV d).length) (xs++[I .u8 3]++(bV d).map v8)):=O (bS.after b K);clear a q f y b j o
 go_wp2_with fail
 go_loopw [0,19] (λb a wr=>∃(i:je) (vr:ji),b=vr/\a=I N i/\i<=d/\jk (bS B 5 1 w wr v vr (n+1+(bV d).length+(encs (l.take i)).length) (xs++[I .u8 3]++(bV d).map v8++(encs (l.take i)).map v8))) (λ_ a _=>d-(jv a).toNat)
 case atStart=>exact⟨0,v6,T,T,jJ _,by simpa [encs]using K⟩
 obtain⟨i,vr,rfl,rfl,hi,r⟩:=hrel
 by_cases ba:i<d
 ·have hd:=ao ((i:jc)<(d:jc))
  have Sm:=ao (i<d);obtain⟨g,o,rfl,ZA,j⟩:=UG (aA U);obtain⟨x,y⟩:∃x,l[i]?=ja x:=⟨l[i]'(by rw[<-U];exact ba),lr (by rw[<-U];exact ba)⟩;obtain⟨D,P,al⟩:=a5.at y;have F:=λq hq=>pC l us i q x D y P hq
  have TB:=r.below UW R;have S3:∀a u,a.block<B->w.cell? a=ja u->wr.cell? a=ja u:=λa u ha hu=>(bX (TB.block _ ha)).trans hu
  have d0:wr.cell? ⟨g,o+i*4,A⟩=ja (I N x.k):=S3 _ _ ZA (j (i*4+0) _ (F 0 G));have d1:wr.cell? ⟨g,o+i*4+1,A⟩=ja (I N x.n):=S3 _ _ ZA (j (i*4+1) _ (F 1 G));have d2:wr.cell? ⟨g,o+i*4+2,A⟩=ja (jj x.s):=S3 _ _ ZA (j (i*4+2) _ (F 2 G));have d3:wr.cell? ⟨g,o+i*4+3,A⟩=ja D:=S3 _ _ ZA (j (i*4+3) _ (F 3 G));have HI:=O y;have a1:x∈l:=xm y;obtain⟨⟨a2,bf⟩,hw⟩:=Ti x a1;have HW:=O hw;have HX:=O (aw.keep (λb M=>TB.block b M) x D al);have bb:=O (HT.keep TB V W);obtain⟨aa,ad,bo⟩:=al.form;obtain⟨f,au⟩:∃f:je,x.k=(f:jc):=⟨x.k.toNat,by omega⟩;have VG:=O au;have bq:1<=f:=Y;have br:f<=3:=Y;have bs:z<wr.heap.size:=jO V (jz R r.grown.size);have bu:t<wr.heap.size:=jO W (jz R r.grown.size);have bc:u0.ownBlock≠ja z:=cJ r.own (.inr V);have bd:u0.ownBlock≠ja t:=cJ r.own (.inr W);rw[au]at d0;subst bo;clear y P al F TB S3 j a1 hw a2 bf au a5 UG
  go_upto_region 5 with fail
  obtain⟨y,au⟩:=J wr.heap.size;have F:=js wr (jd #[I N f,I N x.n,jj x.s,jb aa x.l.length ad] 128);have Sa:=ai wr (jd #[I N f,I N x.n,jj x.s,jb aa x.l.length ad] 128);have bf:(wr.alloc (jd #[I N f,I N x.n,jj x.s,jb aa x.l.length ad] 128)).heap.size=y+1:=by rw[au];simp
  have bv:jk (u0.ownBlock≠ja y):=O (cJ r.own (.inl (n0 au.symm)));rw[<-au]at F⊢;obtain⟨j,Un⟩:=J (wr.alloc (jd #[I N f,I N x.n,jj x.s,jb aa x.l.length ad] 128));rw[<-Un]at F Sa bf⊢;obtain⟨D,P⟩:=J (jS aa x.l.length ad);rw[<-P]at HX F;have bK:=O P;have al:jl wr wr j.drew:=Sa.trans ((bz j).mono Sa.size);have TD:jk (bS B 5 1 w j.drew v u0 (n+1+(bV d).length+(encs (l.take i)).length) (xs++[I .u8 3]++(bV d).map v8++(encs (l.take i)).map v8)):=O (r.trans (bS.after al (bS.refl (dx r.own al))));have a1:B<=wr.heap.size:=jz R r.grown.size;have bg:jk (aw (·<B) j.drew x D):=O (aw.keep (λb M=>al.block b (jO M a1)) x D HX);have a2:jk (lP z t j.drew):=O (bb.keep (al.mono a1) V W);have T6:j.drew.cell? ⟨t,0,A⟩=ja (jA (ja ⟨z,0,A⟩))/\j.drew.cell? ⟨y,0,A⟩=ja (I N f)/\j.drew.cell? ⟨y,1,A⟩=ja (I N x.n)/\j.drew.cell? ⟨y,2,A⟩=ja (jj x.s)/\j.drew.cell? ⟨y,3,A⟩=ja D/\j.drew.cell? ⟨z,f,A⟩=ja (.func (.func (wrF x.k)) #[] (wrL t x.k)):=
   ⟨ae a2.ptr rfl,ae F rfl,ae F rfl,ae F rfl,ae F rfl,a2.at VG bq br⟩
  have bh:jk (B<=j.drew.heap.size):=O (jz a1 Sa.size);have bw:=O bd;have YK:=O bc;have bM:(f:jc)<4:=Y;clear F Sa bf al a1 bd bc HX bb r bs bu d0 d1 d2 d3 Un c6 P au;refine jV ?_;refine bY (λE=>E.cell? ⟨t,0,A⟩=ja (jA (ja ⟨z,0,A⟩))/\E.cell? ⟨y,0,A⟩=ja (I N f)/\E.cell? ⟨y,1,A⟩=ja (I N x.n)/\E.cell? ⟨y,2,A⟩=ja (jj x.s)/\E.cell? ⟨y,3,A⟩=ja D/\E.cell? ⟨z,f,A⟩=ja (.func (.func (wrF x.k)) #[] (wrL t x.k))) (.t 0 (.t 1 (.t 2 (.t 3 (.t 4 (.t 5 (.t 6 (.t 7 (.t 8 (.o 9 (.t 10 .done))))))))))) ag ag ag G (λ_ _ _ _ h=>h) T6 ?_;generalize j.drew=wb at T6 TD bg a2 bh⊢;iterate 9 refine C3 ?_
  refine ar T (λK' k=>?_);have EG:=Bi x.k;go_simp;refine(HW B _ u0 _ D _ wb VG TD.own bh bg a2 V W (by have E:=bn.out;have b:=sj l (i+1);rw[r8 HI,jM]at b;omega)).mono ?_;rintro e w7 ⟨v7,rfl,b⟩;obtain⟨k0,k1,k2,k3,k4,k5⟩:=T6;have F:=bw.out;have E:=bv.out;have P:=YK.out;refine k _ _ ⟨fz k0 b.grown F,fz k1 b.grown E,fz k2 b.grown E,fz k3 b.grown E,fz k4 b.grown E,fz k5 b.grown P⟩ λ_=>?_
  replace b:=O (TD.trans b);clear k EG F E P;refine L ?_;refine C3 ?_;refine jU ?_
  go_wp2_with fail
  refine⟨⟨i+1,v7,T,by go_num,by omega,O ?_⟩,?_⟩
  ·have h:=b.out
   rw[r8 HI,jM,j6,<-qZ,<-j8];exact h
  simp only[jv];omega
 have hd:=ap ((i:jc)<(d:jc));have Sm:=ap (i<d);have a:l.take i=l:=lm (by rw[<-U];omega);have b:=O a;clear a
 go_wp2_with fail
 go_ret;refine⟨_,T,?_⟩;have h:=r.out;rw[b]at h;rw[HE,jX,qH,jM,j6,<-U,<-HV];rw[j8,j8,show n+1+(bV d).length+(encs l).length=n+((bV d).length+(encs l).length+1) by omega]at h;exact h
theorem M5(e g:je):∀(f:je) (x:Val),aU f x->(1<=x.k/\x.k<=3)/\pE e g x:=by
 have p:∀(m:jc) (s:ByteArray) (l:jg Val),-9223372036854775808<=m->m<9223372036854775808->s=emS->l=[]->pE e g (.mk 1 m s l):=by
  intro m s l a b d c B n v xs h i w j k o r t u y z;obtain rfl:(1:jc)=i:=j;subst c;have C:(enc (.mk 1 m s [])).length<=11:=by
   rw[enc,jB T,jX];have:=kT _ (rj m a b);omega
  exact Kf B n v xs m s h w k o a b Y
 have q:∀(m:jc) (s:ByteArray) (l:jg Val),l=[]->pE e g (.mk 2 m s l):=by
  intro m s l c B n v xs h i w j k o r t u y z;obtain rfl:(2:jc)=i:=j;subst c;have C:(enc (.mk 2 m s [])).length=(bV s.size).length+s.size+1:=by
   rw[enc,jH G,jB T,jX,jM,eW]
  exact GQ B n v xs m s h w k o Y
 intro f
 induction f with
 |zero=>
  rintro⟨k,m,s,l⟩ h;rw[aU]at h
  rcases h with⟨rfl,a,b,d,c⟩|⟨rfl,rfl,a,c⟩|⟨-,-,-,-,h⟩
  ·exact⟨by simp[Val.k],p m s l a b d c⟩
  ·exact⟨by simp[Val.k],q 0 s l c⟩
  exact h.elim
 |succ f i=>
  rintro⟨k,m,s,l⟩ h;rw[aU]at h
  rcases h with⟨rfl,a,b,d,c⟩|⟨rfl,rfl,a,c⟩|⟨rfl,rfl,d,-,h⟩
  ·exact⟨by simp[Val.k],p m s l a b d c⟩
  ·exact⟨by simp[Val.k],q 0 s l c⟩
  exact⟨by simp[Val.k],Nh e g 0 s l λx j=>i x (h x j)⟩
theorem L0(n:jc)(b:ji)(w:jh)(d:∃p c,b=jb p 0 c):
 jq jm 193 #[jr #[I N 1,I N n,jj ⟨#[]⟩,b]] w λe w'=>e=jo (jw #[I N 0,.bool jf])/\jl w w w':=by
 obtain⟨p,c,rfl⟩:=d
 by_cases a:n=0
 ·subst a
  go_enter qh,qi
  go_wp2_with fail
  go_ret2;exact⟨T,((jy _ w).alloc (jn _) _).alloc ax _⟩
 have f:((n==0):Bool)=jp:=ah a;have g:decide (n=0)=jp:=ah a;clear a
 go_enter qh,qi
 go_wp2_with fail
 go_ret2;exact⟨T,((jy _ w).alloc (jn _) _).alloc ax _⟩
theorem LI(s:ByteArray)(b:ji)(w:jh)(d:∃p c,b=jb p 0 c):
 jq jm 193 #[jr #[I N 2,I N 0,jj s,b]] w λe w'=>e=jo (jw #[I N 0,.bool jf])/\jl w w w':=by
 obtain⟨p,c,rfl⟩:=d
 by_cases a:s.toList=[]
 ·have f:(s.toList==([]:jg UInt8))=jf:=ah a
  clear a
  go_enter qh,qi
  go_wp2_with fail
  go_ret2;exact⟨T,((jy _ w).alloc (jn _) _).alloc ax _⟩
 have f:(s.toList==([]:jg UInt8))=jp:=ah a;have g:decide (s.toList=[])=jp:=ah a
 go_enter qh,qi
 go_wp2_with fail
 go_ret2;exact⟨T,((jy _ w).alloc (jn _) _).alloc ax _⟩
def pW(f:je)(x:Val):Prop:=∀(a:ji) (b:jc) (w:jh),x.k=b->aw (·<w.heap.size) w x a->
 jq jm 193 #[jr #[I N b,I N x.n,jj x.s,a]] w λe w'=>∃d:je,e=jo (jw #[I N d,.bool jf])/\d<=f/\jl w w w'
theorem QF(f:je)(hf:f<=1000)(l:jg Val)(i:∀x∈l,pW f x)(al:l.length<=3000000):pW (f+1) (.mk 3 0 emS l):=by
 intro h kk w au m;obtain rfl:(3:jc)=kk:=au;show jq jm 193 #[jr #[I N 3,I N 0,jj ⟨#[]⟩,h]] w _;obtain⟨z,B,d⟩:=m.slice;replace B:ay (·<w.heap.size) w h 4 l.length (bU l z):=B;replace d:aC (·<w.heap.size) w l z:=d;obtain⟨r,S,C,n,o,s,p⟩:=B;have D:=O d;have E:=O p;have a1:l.length<=C:=o;obtain⟨c,e⟩:=J l.length;have F:h=jb S c C:=by rw[e];exact n
 rw[<-e]at a1 al;have H:=O e;subst F;have Ti:=O i;have a:jl w w ((w.alloc (jd #[I N 3,I N 0,jj ⟨#[]⟩,jb S c C] 128)).alloc (jd #[.bool jp,.bool (decide (c=0)),.bool (decide (c=0)),.bool jf] 308)):=((jy _ w).alloc (jn _) _).alloc ax _
 by_cases j:c=0
 ·have g:decide (c=0)=jf:=decide_eq_true j
  subst j;rw[g]at a;have K:=O a;clear r n o s p d e i m a g E D
  go_enter qh,qi
  go_wp2_with fail
  go_loopw [2,57] (λq b wr=>q=I N 0/\b=I N 0/\jk (jl w w wr)) (λ_ b _=>0)
  case atStart=>exact⟨T,T,K⟩
  obtain⟨rfl,rfl,k⟩:=hrel
  go_wp2_with fail
  go_ret2;exact⟨1,T,by omega,k⟩
 have g:decide (c=0)=jp:=decide_eq_false j;have bc:decide ((c:jc)=0)=jp:=ah j;have bd:(((c:jc)==0):Bool)=jp:=ah j;rw[g]at a;have K:=O a;clear r n o s p d e i m a g
 go_enter qh,qi
 go_wp2_with fail
 go_loopw [2,57] (λq b wr=>∃i d:je,q=I N d/\b=I N i/\i<=c/\d<=f/\jk (jl w w wr)) (λ_ b _=>c-(jv b).toNat)
 case atStart=>exact⟨0,0,T,T,jJ _,jJ _,K⟩
 obtain⟨i,d,rfl,rfl,hi,hd,k⟩:=hrel
 by_cases U:i<c
 ·have a2:=ao ((i:jc)<(c:jc))
  have a3:=ao (i<c);obtain⟨g,o,rfl,r,m⟩:=E (aA H);obtain⟨x,s⟩:∃x,l[i]?=ja x:=⟨l[i]'(by rw[<-H];exact U),lr (by rw[<-H];exact U)⟩;obtain⟨t,V,M⟩:=D.at s;have n:=λq hq=>pC l z i q x t s V hq
  have u:=k.out;have p:∀a h,a.block<w.heap.size->w.cell? a=ja h->wr.cell? a=ja h:=λa h ha F=>(bX (u.block _ ha)).trans F
  have d0:wr.cell? ⟨g,o+i*4,A⟩=ja (I N x.k):=p _ _ r (m (i*4+0) _ (n 0 G));have d1:wr.cell? ⟨g,o+i*4+1,A⟩=ja (I N x.n):=p _ _ r (m (i*4+1) _ (n 1 G));have d2:wr.cell? ⟨g,o+i*4+2,A⟩=ja (jj x.s):=p _ _ r (m (i*4+2) _ (n 2 G));have d3:wr.cell? ⟨g,o+i*4+3,A⟩=ja t:=p _ _ r (m (i*4+3) _ (n 3 G));have HF:=O (Ti x (xm s));have W:=u.size;have X:=O (aw.mono (D':=(·<wr.heap.size)) (λb (e:b<w.heap.size)=>jO e W) x t (aw.keep (λb e=>u.block b e) x t M));obtain⟨aa,ad,a4⟩:=M.form;obtain⟨v,P⟩:∃v,x.k=v:=⟨_,T⟩;obtain⟨nx,Q⟩:∃nx,x.n=nx:=⟨_,T⟩;obtain⟨y,R⟩:∃y,x.s=y:=⟨_,T⟩;rw[P]at d0;rw[Q]at d1;rw[R]at d2;have a5:=O P;have ba:=O Q;have bb:=O R;subst a4;clear s V M n u p m P Q R D E W
  go_upto_region 9 with fail
  have m:=ai wr (jd #[I N v,I N nx,jj y,jb aa x.l.length ad] 128);have s:=O (aw.mono (D':=(·<(wr.alloc (jd #[I N v,I N nx,jj y,jb aa x.l.length ad] 128)).heap.size)) (λb (e:b<wr.heap.size)=>jO e m.size) x _ (aw.keep (λb e=>m.block b e) x _ X.out));have u:=ac k m;clear m X
  go_wp2_with fail
  have b:=HF _ _ _ a5.out s;rw[ba,bb]at b;refine b.mono ?_;rintro e R ⟨n,rfl,V,p⟩;have M:=ac u p;obtain⟨m,P⟩:∃m:je,max (d:jc) (n:jc)=(m:jc):=⟨max d n,by omega⟩;have Q:m<=f:=Y;clear p b
  go_wp2_with fail
  refine⟨⟨i+1,m,?_,by go_num,by omega,Q,M⟩,?_⟩
  ·first|exact T|exact jN (jC .i64) P
  simp only[jv];omega
 have a2:=ap ((i:jc)<(c:jc));have a3:=ap (i<c)
 go_wp2_with fail
 go_ret2;exact⟨d+1,T,by omega,k⟩
theorem Q1:∀(f:je),f<=1000->∀x,aU f x->(enc x).length<=3000000->pW f x:=by
 have g:∀(f:je) (m:jc),pW f (.mk 1 m emS []):=by
  intro f m a b w c d;obtain rfl:(1:jc)=b:=c;exact(L0 m a w d.form).mono λe w' h=>⟨0,h.1,jJ _,h.2⟩
 have j:∀(f:je) (s:ByteArray),pW f (.mk 2 0 s []):=by
  intro f s a b w c d;obtain rfl:(2:jc)=b:=c;exact(LI s a w d.form).mono λe w' h=>⟨0,h.1,jJ _,h.2⟩
 intro f
 induction f with
 |zero=>
  rintro -⟨k,m,s,l⟩ h d;rw[aU]at h
  rcases h with⟨rfl,a,b,rfl,rfl⟩|⟨rfl,rfl,a,rfl⟩|⟨-,-,-,-,h⟩
  ·exact g 0 m
  ·exact j 0 s
  exact h.elim
 |succ f n=>
  rintro q ⟨k,m,s,l⟩ h d;rw[aU]at h
  rcases h with⟨rfl,a,b,rfl,rfl⟩|⟨rfl,rfl,a,rfl⟩|⟨rfl,rfl,rfl,-,h⟩
  ·exact g _ m
  ·exact j _ s
  have e:(enc (.mk 3 0 emS l)).length=(bV l.length).length+(encs l).length+1:=by
   rw[enc,jH G,jH G,jX,jM]
  have r:=po l;refine QF f Y l (λx c=>n Y x (h x c) ?_) Y;have:(enc x).length<=(encs l).length:=by
   obtain⟨i,o⟩:=xo c;have p:=sj l (i+1);rw[r8 o,jM]at p;omega
  omega
theorem Ht(x:Val)(h:ji)(a:jc)(w:jh)(hk:x.k=a)(i:aU 16 x)(f:aw (·<w.heap.size) w x h)(k:(enc x).length<=2900000):
 jq jm 140 #[jr #[I N a,I N x.n,jj x.s,h]] w λe w'=>e=jo (I N 0)/\jl w w w':=by
 obtain⟨p,c,rfl⟩:=f.form;have d:=ai w (jd #[I N a,I N x.n,jj x.s,jb p x.l.length c] 128);have j:=O (aw.mono (D':=(·<(w.alloc (jd #[I N a,I N x.n,jj x.s,jb p x.l.length c] 128)).heap.size)) (λb (g:b<w.heap.size)=>jO g d.size) x _ (aw.keep (λb g=>d.block b g) x _ f));have g:=O (Q1 16 G x i Y _ _ _ hk j);have l:=O d;clear f d j;generalize x.n=j at*;generalize x.s=xs at*;generalize x.l.length=m at*;clear hk i k
 go_enter func140,ntmps140
 go_wp2_with fail
 refine g.mono ?_;rintro e i ⟨d,rfl,k,b⟩;have f:=ac l b;have n:=ap ((16:jc)<(d:jc));clear b
 go_wp2_with fail
 go_ret;exact⟨T,f⟩
theorem yi(x:Val)(u:ji)(q:jc)(w:jh)(hk:x.k=q)(h:aU 16 x)(a:aw (·<w.heap.size) w x u)(H:(enc x).length<=2900000):
 jq jm 69 #[jr #[I N q,I N x.n,jj x.s,u]] w λe w'=>∃v,e=jo (jw #[v,I N 0])/\w'.ownsRow w 5 1 v (enc x).length ((enc x).map v8)/\jl w w w':=by
 obtain⟨p,c,rfl⟩:=a.form;have y:=O (λr s=>M5 r s 16 x h);obtain⟨n,o⟩:=(y 0 0).1;obtain⟨d,K⟩:∃d:je,q=(d:jc):=⟨q.toNat,by omega⟩;have M:1<=d:=Y;have P:d<=3:=Y;have aa:(d:jc)<4:=Y;subst K;have B:=O hk;have g:=ai w (jd #[I N d,I N x.n,jj x.s,jb p x.l.length c] 128);have k:=js w (jd #[I N d,I N x.n,jj x.s,jb p x.l.length c] 128);have C:=O a;have j:=O (Ht x _ _ _ hk h (aw.mono (D':=(·<(w.alloc (jd #[I N d,I N x.n,jj x.s,jb p x.l.length c] 128)).heap.size)) (λb (f:b<w.heap.size)=>jO f g.size) x _ (aw.keep (λb f=>g.block b f) x _ a)) H);have l:=O g;have m:=O k;clear a g k n o hk h;obtain⟨D,a⟩:=J x.n;obtain⟨xs,g⟩:=J x.s;obtain⟨E,h⟩:=J x.l.length;rw[<-a,<-g,<-h]at j m l⊢;rw[<-h]at C;have Q:=O a;have R:=O g;clear a g h
 go_enter func69,ntmps69
 go_wp2_with fail
 refine j.mono ?_;rintro e k ⟨rfl,g⟩;obtain⟨b,f⟩:=J w.heap.size;have a:=(g.block w.heap.size ax).trans m;rw[<-f]at a⊢;have n:=ae (i:=0) a T;have o:=ae (i:=1) a T;have t:=ae (i:=2) a T;have z:=ae (i:=3) a T;have h:=ac l g;clear g a f m j l
 go_upto_region 4 with fail
 have F:jk (jl w w k.drew):=O (h.trans ((bz k).mono h.size));have l:k.drew.cell? ⟨b,0,A⟩=ja (I N d)/\k.drew.cell? ⟨b,1,A⟩=ja (I N D)/\k.drew.cell? ⟨b,2,A⟩=ja (jj xs)/\k.drew.cell? ⟨b,3,A⟩=ja (jb p E c):=⟨n,o,t,z⟩;clear n o t z h;refine jV ?_;refine bY (λa=>a.cell? ⟨b,0,A⟩=ja (I N d)/\a.cell? ⟨b,1,A⟩=ja (I N D)/\a.cell? ⟨b,2,A⟩=ja (jj xs)/\a.cell? ⟨b,3,A⟩=ja (jb p E c)) (.t 1 (.t 2 (.t 7 (.o 0 (.o 3 (.o 4 (.o 5 (.o 6 (.o 8 (.t 9 (.t 10 .done))))))))))) ag ag ag G (λ_ _ _ _ h=>h) l ?_;generalize k.drew=S at l F⊢;iterate 3 refine C4 ?_
 refine ar T (λm a=>?_);go_simp;refine(LV S).mono ?_;rintro e t ⟨r,s,rfl,n,j⟩;have g:=And.intro (aB l.1 j) (And.intro (aB l.2.1 j) (And.intro (aB l.2.2.1 j) (aB l.2.2.2 j)));have U:=O n;have o:=ac F j;have V:=O (aw.keep (λb f=>o.block b f) x _ C.out);have hgt:=(jL.1 n.ptr).1;have W:r<t.heap.size:=by obtain⟨z,X⟩:=n.tab;exact(jL.1 X).1
 have ad:=n.at B M P;refine a _ _ g λ_=>?_
 clear a j n;refine L ?_;refine ar T (λm a=>?_);go_simp;refine a _ _ g λ_=>?_
 clear a;refine L ?_;refine ar T (λm a=>?_);go_simp;refine a _ _ g λ_=>?_
 clear a;refine L ?_;refine ar T (λm a=>?_);go_simp;refine a _ _ g λ_=>?_
 clear a;refine L ?_;refine ar T (λm a=>?_);go_simp;refine a _ _ g λ_=>?_
 clear a;refine L ?_;refine ar T (λm a=>?_);have EG:=Bi x.k;go_simp;have n:=y r s|>.2 t.heap.size 0 (jb A 0 0) [] _ _ t B (j1 _ _ _ _) (jn _) (aw.mono (λb (f:b<w.heap.size)=>jO f o.size) x _ V.out) U W hgt Y;rw[<-Q,<-R]at n;refine n.mono ?_;rintro e W3 ⟨v3,rfl,j⟩;have RI:=O (o.trans ((j.below (j1 _ _ _ _) (jn _)).mono o.size));have m:(jS A 0 0).ownBlock≠ja b:=by simp[m0]
 have c3:=And.intro (fz g.1 j.grown m) (And.intro (fz g.2.1 j.grown m) (And.intro (fz g.2.2.1 j.grown m) (fz g.2.2.2 j.grown m)));replace j:=O j;refine a _ _ c3 λ_=>?_
 clear a EG n;refine L ?_;iterate 2 refine C4 ?_
 refine jU ?_
 go_wp2_with fail
 go_ret2;refine⟨_,T,?_,RI⟩;have h:=j.own;rw[kn,mF]at h;exact lV h o.size
theorem rV(l:af):kg l=ofB l:=by
 unfold kg ofB strOfNums lM;rw[List.map_map]
 congr 1
 congr 1
 refine List.map_congr_left λb _=>?_
 apply UInt8.eq_of_toBitVec_eq
 simp
theorem iM(n:jc)(w:jh):
 jq jm 125 #[I N n] w λe w'=>e=jo (jr #[I N 1,I N n,jj ⟨#[]⟩,jb A 0 0])/\jl w w w':=by
 go_enter func125,ntmps125
 go_wp2_with fail
 exact j0 (v:=jr #[I N 1,I N n,jj ⟨#[]⟩,jb A 0 0]) (by simp[results,results125,go_sem]) T ⟨T,(jy _ _).alloc (jn _) _⟩
theorem kP(p:jQ jK)(n c:je)(w:jh):
 jq jm 70 #[jb p n c] w λe w'=>e=jo (jr #[I N 3,I N 0,jj ⟨#[]⟩,jb p n c])/\jl w w w':=by
 go_enter func70,ntmps70
 go_wp2_with fail
 exact j0 (v:=jr #[I N 3,I N 0,jj ⟨#[]⟩,jb p n c]) (by simp[results,results70,go_sem]) T ⟨T,(jy _ _).alloc (jn _) _⟩
theorem tZ(v:ji)(l:af)(w:jh)(a:aP w v l):
 jq jm 126 #[v] w λe w'=>e=jo (jr #[I N 2,I N 0,jj (ofB l),jb A 0 0])/\jl w w w':=by
 have b:=mR (a.below (ai w (jd #[I N 0,I N 0,jj ⟨#[]⟩,jb A 0 0] 128)));rw[rV]at b;obtain⟨p,c,rfl,-,-,-⟩:=a;obtain⟨s,d⟩:=J (ofB l);rw[<-d]at b⊢;clear d
 go_enter func126,ntmps126
 go_wp2_with fail
 exact j0 (v:=jr #[I N 2,I N 0,jj s,jb A 0 0]) (by simp[results,results126,go_sem]) T ⟨T,(jy _ _).alloc (jn _) _⟩
theorem A9:(jm.info? 128).map (λi=>(i.zero,i.size,i.bytes))=ja (ja (jr #[I N 0,I N 0,jj ⟨#[]⟩,jb A 0 0]),4,56):=by kernel_rfl
theorem iT{w:jh}{o:lo}{a:Act}{K:Act->jh->Prop}{e:Exit->Act->jh->Prop}(s x:Operand)
 (f:o.op=.call {callee:=.builtin .append,args:=#[s,x],argTypes:=#[107,107]})
 (B:je) (v:ji) (n:je) (xs:jg ji) (g:a.eval s=v) (i:w.ownsRow B 128 4 v n xs) (b:ji) (m:je) (c:jg ji) (j:a.eval x=b) (k:cO w b 4 m c) (l:∀b∈c,b.oneCell'=jf)
 (E:n+m<=4000000) (p:B<=w.heap.size) (h:∀d w',bS B 128 4 w w' v d (n+m) (xs++c)->K (a.put o.dst d) w'):o.wp jm a w K e:=by
 obtain⟨q,r,t,u,y⟩:=oi A9;exact mN s x 107 f B 128 q _ 4 56 sn r t u y T G v n xs g i b m c j k l (by unfold j4;omega) Y p
  λd w' z C D=>h d w' (mj z C D)
abbrev ci:ji:=jb A 0 0
theorem eD(n:jc):aw D w (vI n) ci:=by
 rw[vI,aw];exact⟨[],⟨T,A,0,T,jn _,λ_=>rfl,λh=>jE h G⟩,by rw[aC]⟩
theorem mu(b:af):aw D w (vT b) ci:=by
 rw[vT,aw];exact⟨[],⟨T,A,0,T,jn _,λ_=>rfl,λh=>jE h G⟩,by rw[aC]⟩
theorem uQ:∀(l:jg jc),aC D w (l.map vI) (j5 l.length ci)
 |[]=>by rw[q4,aC];rfl
 |x::l=>by
  rw[qH,aC];exact⟨ci,_,T,eD x,uQ l⟩
def ef(l:jg jc):jg ji:=bU (l.map vI) (j5 l.length ci)
theorem zN(l:jg jc)(n:jc):ef (l++[n])=ef l++[I N 1,I N n,jj ⟨#[]⟩,jb A 0 0]:=by
 unfold ef;rw[j6,jM,show j5 (l.length+[n].length) ci=j5 l.length ci++[ci] by simp[List.replicate_succ']];rw[oH _ _ _ _ ax]
 rfl
theorem rX(l:jg jc)(v:ji)(w:jh)(u:cV w v l)(x:l.length<=1000000):
 jq jm 118 #[v] w λe w'=>∃j,e=jo j/\w'.ownsRow w 128 4 j l.length (ef l)/\jl w w w':=by
 obtain⟨p,c,rfl,z,a⟩:=u;obtain⟨n,b⟩:=J l.length;rw[<-b]at z x a⊢;have k:=O b;have m:=O a;clear b a
 go_enter func118,ntmps118
 go_wp2_with fail
 go_loopw [3,8] (λa v8 wr=>∃(i:je) (f:ji),a=f/\v8=I N i/\i<=n/\jk (wr.ownsRow w 128 4 f i (ef (l.take i)))/\jk (jl w w wr)) (λ_ v8 _=>n-(jv v8).toNat)
 case atStart=>exact⟨0,_,T,T,jJ _,O (by simpa [ef,bU]using j1 w w.heap.size 128 4),O (jy _ _)⟩
 obtain⟨i,f,rfl,rfl,H,q,b⟩:=hrel
 by_cases r:i<n
 ·have B:=ao ((i:jc)<(n:jc))
  have C:=ao (i<n);obtain⟨g,o,rfl,s⟩:=m Y;have d:i<l.length:=by rw[<-k];exact r
  have t:l.getD i 0=l[i]:=by simp[jR,d]
  obtain⟨y,h⟩:=J (l.getD i 0);have a:=s i r;rw[<-h]at a;have K:wr.cell? ⟨g,o+i,A⟩=ja (I N y):=(bX (b.block g (fb a))).trans a;have D:jk (ef (l.take (i+1))=ef (l.take i)++[I N 1,I N y,jj ⟨#[]⟩,jb A 0 0]):=O (by
   rw[mz d,zN,h,t])
  have E:=b.size;clear t h a s d m
  go_wp2_with fail
  refine(iM y wr).mono ?_;rintro e a ⟨rfl,d⟩;have h:=aO q d;have t:=O (b.trans (d.mono E));have M:=d.size;clear d
  go_wp2_with (at_builtin;refine Hid.out ?_)
  refine O ?_;refine ms T λ_ s=>iT _ _ T w.heap.size _ _ _ T (dx h (ai a _)) _ 1 [I N 1,I N y,jj ⟨#[]⟩,jb A 0 0] T (eU a [I N 1,I N y,jj ⟨#[]⟩,jb A 0 0] _ _ 4 1 1 T (jn _)) (by simp[j3]) (show i+1<=4000000 by omega) (by rw[jF];omega) λP Q d=>s _ _ ?_
  have F:=O (t.trans (((ai a _).mono (show w.heap.size<=a.heap.size by omega)).trans (d.below (dx h (ai a _)) (by rw[jF];omega))));replace d:=O d.own;clear s
  go_wp2_with fail
  refine⟨⟨i+1,_,T,by go_num,by omega,O (by rw[D];exact d),F⟩,?_⟩;simp only[jv];omega
 have B:=ap ((i:jc)<(n:jc));have C:=ap (i<n);have a:i=n:=Y;have d:=O a;clear a
 go_wp2_with fail
 go_ret;refine⟨_,T,?_,b⟩;have h:=q.out;rw[d,lm (by rw[<-k];exact jn _)]at h;exact h
section
variable{c:aD}{b:je}{D:je->Prop}{w w':jh}
section
variable {α:Type}
def dm(f:α->ji->jg ji):jg α->jg ji->jg ji
 |x::xs,a::b=>f x a++dm f xs b
 |_,_=>[]
theorem Bp(f:α->ji->jg ji):∀(l m:jg α) (a b:jg ji),a.length=l.length->dm f (l++m) (a++b)=dm f l a++dm f m b
 |[],m,a,b,h=>by
  have:a=[]:=qb (ah h);subst this
  cases m<;>cases b<;>simp[dm]
 |x::l,m,[],b,h=>by simp at h
 |x::l,m,c::a,b,h=>by
  simp only[mT,dm,Bp f l m a b (ah h),j8]
theorem pD(f:α->ji->jg ji)(k:je)(hk:∀x a,(f x a).length=k):∀(l:jg α) (b:jg ji) (j i:je) (x:α) (a:ji),l[j]?=ja x->b[j]?=ja a->i<k->(dm f l b)[j*k+i]?=(f x a)[i]?
 |[],b,j,i,x,a,h,_,_=>by simp at h
 |y::l,[],j,i,x,a,_,h,_=>by simp at h
 |y::l,v::b,0,i,x,a,h,c,d=>by
  have e:y=x:=ah h;have g:v=a:=ah c;subst e;subst g;show(f y v++dm f l b)[0*k+i]?=_;rw[qF,kn,qx (by rw[hk];exact d)]
 |y::l,v::b,j+1,i,x,a,h,c,d=>by
  show(f y v++dm f l b)[(j+1)*k+i]?=_;have g:(f y v).length=k:=hk _ _;have e:(j+1)*k=k+j*k:=by rw[q5];omega
  rw[qy (by rw[g,e];omega),g,show(j+1)*k+i-k=j*k+i by omega];exact pD f k hk l b j i x a (ah h) (ah c) d
theorem flat_length(f:α->jg ji)(k:je)(hk:∀x,(f x).length=k)(l:jg α):(l.flatMap f).length=l.length*k:=by
 induction l with
 |nil=>simp
 |cons x l a=>rw[q6,jM,a,hk,jX,q5];omega
theorem flat_get(f:α->jg ji)(k:je)(hk:∀x,(f x).length=k):∀(l:jg α) (j i:je) (x:α),l[j]?=ja x->i<k->(l.flatMap f)[j*k+i]?=(f x)[i]?
 |[],j,i,x,h,_=>by simp at h
 |y::l,0,i,x,h,a=>by
  have e:y=x:=ah h;subst e;rw[q6,qF,kn,qx (by rw[hk];exact a)]
 |y::l,j+1,i,x,h,a=>by
  have e:(j+1)*k=k+j*k:=by rw[q5];omega
  rw[q6,qy (by rw[hk,e];omega),hk,show(j+1)*k+i-k=j*k+i by omega];exact flat_get f k hk l j i x (ah h) a
end
def cD(D:je->Prop)(w:jh):jg (af)->jg ji->Prop
 |[],a=>a=[]
 |b::e,a=>∃c d,a=c::d/\ay D w c 1 b.length (b.map v8)/\cD D w e d
theorem cD.keep(hk:∀g,D g->w'.heap[g]?=w.heap[g]?):∀{c:jg (af)} {a:jg ji},cD D w c a->cD D w' c a
 |[],a,h=>h
 |b::c,a,⟨d,e,f,g,i⟩=>⟨d,e,f,g.keep hk,i.keep hk⟩
theorem cD.mono{D':je->Prop}(d:∀g,D g->D' g):∀{c:jg (af)} {a:jg ji},cD D w c a->cD D' w c a
 |[],a,h=>h
 |b::c,a,⟨e,f,g,i,j⟩=>⟨e,f,g,i.mono d,j.mono d⟩
theorem cD.len:∀{c:jg (af)} {a:jg ji},cD D w c a->a.length=c.length
 |[],a,h=>by rw[show a=[]from h];rfl
 |b::c,a,⟨f,g,d,i,e⟩=>by rw[d];simp[e.len]
theorem cD.at:∀{f:jg (af)} {a:jg ji} {i:je} {b:af},cD D w f a->f[i]?=ja b->∃c,a[i]?=ja c/\ay D w c 1 b.length (b.map v8)
 |[],a,i,x,h,d=>by simp at d
 |y::l,a,i,x,⟨c,o,g,j,k⟩,d=>by
  subst g
  rcases i with _|i
  ·have e:y=x:=ah d
   subst e;exact⟨c,T,j⟩
  obtain⟨e,m,n⟩:=k.at (i:=i) (ah d);exact⟨e,by simpa using m,n⟩
theorem cD.snoc{b:af}{f:ji}(e:ay D w f 1 b.length (b.map v8)):∀{d:jg (af)} {a:jg ji},cD D w d a->cD D w (d++[b]) (a++[f])
 |[],a,h=>by rw[show a=[]from h];exact⟨f,[],T,e,T⟩
 |x::d,a,⟨v,c,g,i,j⟩=>⟨v,c++[f],by rw[g];rfl,i,j.snoc e⟩
theorem ay.bytes{v:ji}{l:af}(h:ay D w v 1 l.length (l.map v8)):aP w v l:=by
 obtain⟨-,p,c,b,d,f,i⟩:=h;refine⟨p,c,b,d,f,λk=>?_⟩;obtain⟨g,o,e,-,m⟩:=i k;refine⟨g,o,e,λj a=>m j _ ?_⟩;rw[qd,lr a];simp[jR,a]
theorem ay.form{f:ji}{j:je}{d:jg ji}(h:ay D w f b j d):∃p c,f=jb p j c:=by
 obtain⟨-,p,c,a,-⟩:=h;exact⟨p,c,a⟩
theorem ay.of_own{B sz n:je}{e:jI}{v:ji}{xs:jg ji}(h:w.ownsRow B e sz v n xs)(a:∀g,v.ownBlock=ja g->D g):ay D w v sz n xs:=by
 obtain⟨b,p,c,rfl,d,f,i⟩:=cO.of_own h;refine⟨b,p,c,T,d,f,λj=>?_⟩;obtain⟨g,o,rfl,k⟩:=i j;exact⟨g,o,T,a g T,k⟩
def ak.cells(x:ak):jg ji:=[I N x.k,I N x.d,I N x.p,I N x.v,I N x.c]
def Bx.cells(x:Bx)(a:ji):jg ji:=[I N x.node,I N x.lev,I N x.u,a]
def Wl.cells(x:Wl)(a:ji):jg ji:=[I N x.dev,I N x.u,a]
structure CQ where
 vc:ji
 vp:ji
 vb:ji
 vw:ji
def av(c:aD)(q:CQ):jg ji:=
 I N c.folder::I N c.epoch::(c.parent.map v8++(I N c.author::q.vc::q.vp::q.vb::q.vw::(c.confirm.map v8++[I N c.r,I N c.s])))
structure aF(D:je->Prop)(w:jh)(c:aD)(q:CQ):Prop where
 chg:ay D w q.vc 5 c.chg.length (c.chg.flatMap ak.cells)
 path:ay D w q.vp 1 c.path.length (c.path.map (jC .i64))
 box:∃a,ay D w q.vb 4 c.box.length (dm Bx.cells c.box a)/\cD D w (c.box.map Bx.body) a
 wel:∃a,ay D w q.vw 3 c.wel.length (dm Wl.cells c.wel a)/\cD D w (c.wel.map Wl.body) a
 plen:c.parent.length=32
 clen:c.confirm.length=32
theorem aF.keep{q:CQ}(h:aF D w c q)(hk:∀g,D g->w'.heap[g]?=w.heap[g]?):aF D w' c q:=by
 obtain⟨a,b,⟨d,e,f⟩,⟨g,i,j⟩,k,l⟩:=h;exact⟨a.keep hk,b.keep hk,⟨d,e.keep hk,f.keep hk⟩,⟨g,i.keep hk,j.keep hk⟩,k,l⟩
theorem aF.mono{D':je->Prop}{q:CQ}(h:aF D w c q)(hk:∀g,D g->D' g):aF D' w c q:=by
 obtain⟨a,b,⟨d,e,f⟩,⟨g,i,j⟩,k,l⟩:=h;exact⟨a.mono hk,b.mono hk,⟨d,e.mono hk,f.mono hk⟩,⟨g,i.mono hk,j.mono hk⟩,k,l⟩
theorem aF.below{q:CQ}(h:aF (·<w.heap.size) w c q)(b:jl w w w'):aF (·<w'.heap.size) w' c q:=
 (h.keep λg a=>b.block g a).mono λg (a:g<w.heap.size)=>jO a b.size
structure cZ(w:jh)(b:je)(c:aD)(q:CQ):Prop where
 blk:w.heap[b]?=ja (jd (av c q).toArray 63 (0,0))
 plen:c.parent.length=32
 clen:c.confirm.length=32
theorem fa(c:aD)(q:CQ)(a:c.parent.length=32)(b:c.confirm.length=32):(av c q).length=73:=by
 unfold av;simp[a,b]
theorem cZ.keep{q:CQ}(h:cZ w b c q)(hk:w'.heap[b]?=w.heap[b]?):cZ w' b c q:=⟨hk.trans h.blk,h.plen,h.clen⟩
theorem cZ.get{q:CQ}(h:cZ w b c q){i:je}{v:ji}(a:(av c q)[i]?=ja v):w.cell? ⟨b,i,A⟩=ja v:=
 ae h.blk (ah a)
theorem fk(c:aD)(q:CQ)(d:c.parent.length=32)(e:c.confirm.length=32):
 (av c q)[0]?=ja (I N c.folder)/\(av c q)[1]?=ja (I N c.epoch)/\(av c q)[34]?=ja (I N c.author)/\(av c q)[35]?=ja q.vc/\(av c q)[36]?=ja q.vp/\
 (av c q)[37]?=ja q.vb/\(av c q)[38]?=ja q.vw/\(av c q)[71]?=ja (I N c.r)/\(av c q)[72]?=ja (I N c.s):=by
 have k:∀(l r:jg ji) (i:je),l.length=32->(l++r)[32+i]?=r[i]?:=λl r i f=>by
  rw[qy Y,f];congr 1;omega
 have a:(c.parent.map v8).length=32:=by rw[jD];exact d
 have b:(c.confirm.map v8).length=32:=by rw[jD];exact e
 unfold av;refine⟨T,T,?_,?_,?_,?_,?_,?_,?_⟩
 ·exact k _ _ 0 a
 ·exact k _ _ 1 a
 ·exact k _ _ 2 a
 ·exact k _ _ 3 a
 ·exact k _ _ 4 a
 ·exact(k _ _ (5+32) a).trans (k _ _ 0 b)
 exact(k _ _ (5+33) a).trans (k _ _ 1 b)
theorem vJ(c:aD)(q:CQ)(d:c.parent.length=32){j:je}(f:j<32):(av c q)[2+j]?=ja (I .u8 (c.parent.getD j 0).toNat):=by
 unfold av;have e:∀(a b:ji) (l:jg ji),(a::b::l)[2+j]?=l[j]?:=λa b l=>by rw[show 2+j=j+1+1 by omega];rfl
 rw[e,qx (by rw[jD];omega),qd,lr Y];simp[jR,d,f]
theorem CS(c:aD)(q:CQ)(g:c.parent.length=32)(h:c.confirm.length=32){j:je}(i:j<32):(av c q)[39+j]?=ja (I .u8 (c.confirm.getD j 0).toNat):=by
 unfold av;have e:∀(a b:ji) (l:jg ji),(a::b::l)[39+j]?=l[37+j]?:=λa b l=>by rw[show 39+j=37+j+1+1 by omega];rfl
 have k:(c.parent.map v8).length=32:=by rw[jD];exact g
 have m:∀(a b c d f:ji) (l:jg ji),(a::b::c::d::f::l)[5+j]?=l[j]?:=λa b c d f l=>by rw[show 5+j=j+1+1+1+1+1 by omega];rfl
 rw[e,qy Y,k,show 37+j-32=5+j by omega,m,qx (by rw[jD];omega),qd,lr Y];simp[jR,h,i]
theorem cZ.parent{q:CQ}(h:cZ w b c q):aP w (jb (ja ⟨b,2,A⟩) 32 32) c.parent:=
 ⟨_,32,by rw[h.plen],by rw[h.plen];exact jn _,(λe=>by cases e),λ_=>⟨b,2,T,λj a=>h.get (vJ c q h.plen (by rw[h.plen]at a;exact a))⟩⟩
theorem cZ.confirm{q:CQ}(h:cZ w b c q):aP w (jb (ja ⟨b,39,A⟩) 32 32) c.confirm:=
 ⟨_,32,by rw[h.clen],by rw[h.clen];exact jn _,(λe=>by cases e),λ_=>⟨b,39,T,λj a=>h.get (CS c q h.plen h.clen (by rw[h.clen]at a;exact a))⟩⟩
structure Bld(M b:je)(w0 wr:jh)(l:jg Val)(a:ji)(c:jg ji):Prop where
 box:wr.heap[b]?=ja (jd #[I N 3,I N 0,jj ⟨#[]⟩,a] 128 (0,0))
 own:wr.ownsRow M 128 4 a l.length (bU l c)
 kids:aC (λg=>M<=g/\g<wr.heap.size/\a.ownBlock≠ja g) wr l c
 but:aM b M w0 wr
 sz:M<=wr.heap.size
theorem Bld.start{M a:je}(b:w.heap[a]?=ja (jd #[I N 3,I N 0,jj ⟨#[]⟩,ci] 128 (0,0)))(c:M<=w.heap.size):Bld M a w w [] ci []:=
 ⟨b,by simpa [bU]using j1 w M 128 4,by rw[aC],aM.refl _ _ _,c⟩
theorem Bld.later{j:je}{a e:jh}{l:jg Val}{f:ji}{d:jg ji}(h:Bld b j w a l f d)(i:j<b)(wr:jl a a e):Bld b j w e l f d:=
 ⟨(wr.block j (jO i h.sz)).trans h.box,dx h.own wr,aC.mono (λg M=>⟨M.1,jO M.2.1 wr.size,M.2.2⟩) l d (aC.keep (λg M=>wr.block g M.2.1) l d h.kids),
  h.but.trans (aM.of_below (wr.mono h.sz)) (jn _),jz h.sz wr.size⟩
theorem Bld.push{M j:je}{w0 c p m:jh}{l:jg Val}{n o:ji}{f:jg ji}(h:Bld M j w0 c l n f)(D:j<M){x:Val}{i:ji}
 (t:aw (λg=>M<=g/\g<c.heap.size/\n.ownBlock≠ja g) c x i) (a:bS M 128 4 c p n o (l.length+1) (bU l f++eS x i))
 (u:m.heap[j]?=ja (jd #[I N 3,I N 0,jj ⟨#[]⟩,o] 128 (0,0))) (b:ln j p m):Bld M j w0 m (l++[x]) o (f++[i]):=by
 have v:=h.kids.len;have q:∀g,(M<=g/\g<c.heap.size/\n.ownBlock≠ja g)->m.heap[g]?=c.heap[g]?:=λg d=>
  (b.block g Y).trans (a.grown.block g d.2.1 (λe=>d.2.2 e.symm))
 have r:∀g,(M<=g/\g<c.heap.size/\n.ownBlock≠ja g)->(M<=g/\g<m.heap.size/\o.ownBlock≠ja g):=λg d=>
  ⟨d.1,by rw[b.size];exact jO d.2.1 a.grown.size,a.ne d.2.1 d.2.2⟩
 refine⟨u,?_,aC.append (aC.mono r _ _ (aC.keep q _ _ h.kids)) (aC.one (aw.mono r _ _ (aw.keep q _ _ t))),?_,?_⟩
 ·have e:bU (l++[x]) (f++[i])=bU l f++eS x i:=by
   rw[oH l [x] f [i] v];simp[bU]
  rw[e,jM];have s:=a.own;refine⟨s.1,?_⟩
  rcases s.2 with k|⟨g,w,y,z,k,B,C⟩
  ·exact .inl k
  exact .inr ⟨g,w,y,z,k,(b.block g Y).trans B,C⟩
 ·refine h.but.trans ⟨b.os.trans a.grown.os,b.tape.trans a.grown.tape,b.output.trans a.grown.output,by rw[b.size];exact a.grown.size,λk hk s=>?_⟩ (jn _)
  refine(b.block k s).trans (a.grown.block k (jO hk h.sz) (λe=>?_));have:=(h.own.lt k e.symm).1;omega
 rw[b.size];exact jz h.sz a.grown.size
end
theorem eP{w':jQ je}(h:w.heap[B]?=ja o)(b:w.grownBy a w')(c:w'≠ja B):a.heap[B]?=ja o:=
 (b.block B (jL.1 h).1 (λe=>c e.symm)).trans h
theorem az(h:w.heap[B]?=ja o)(w':jl w w a):a.heap[B]?=ja o:=
 (w'.block B (jL.1 h).1).trans h
theorem Bld.fresh{i:jh}(h:Bld B m w a f c b)(p:jl a a i){e:jI}{sz n:je}{d:ji}{xs:jg ji}(j:i.ownsRow a e sz d n xs):
 ∀g,d.ownBlock=ja g->B<=g/\g<i.heap.size/\c.ownBlock≠ja g:=λg k=>by
 obtain⟨l,o⟩:=j.lt g k;exact⟨jz h.sz l,o,λe=>by have:=(h.own.lt g e).2;omega⟩
theorem Bld.fin(h:Bld B m w a f c b):aw (λg=>B<=g/\g<a.heap.size) a (vL f) c:=by
 rw[vL,aw];exact⟨b,ay.of_own h.own (λg wr=>h.own.lt g wr),aC.mono (λg wr=>⟨wr.1,wr.2.1⟩) f b h.kids⟩
theorem mU{a:ji}{l:jg jc}(b:w.ownsRow B 128 4 a l.length (ef l))(c:∀g,a.ownBlock=ja g->D g):aw D w (vL (l.map vI)) a:=by
 rw[vL,aw];exact⟨j5 l.length ci,by rw[jD];exact ay.of_own b c,uQ l⟩
theorem D8(W:jh)(l:jg jc)(t:jI):cV (W.alloc (jd (l.map (jC .i64)).toArray t)) (jb (ja ⟨W,0,A⟩) l.length l.length) l:=by
 refine⟨_,l.length,T,jn _,λ_=>⟨W.heap.size,0,T,λj a=>?_⟩⟩;refine ae (js W _) ?_;rw[kn];simp[jR,a]
theorem kz(W:jh)(xs:jg ji)(t:jI)(sz n B:je)(b:B<=W.heap.size)(a:xs.length=n*sz)(c:n<=j4):(W.alloc (jd xs.toArray t)).ownsRow B t sz (jb (ja ⟨W,0,A⟩) n n) n xs:=by
 refine⟨a,.inr ⟨W.heap.size,n,xs.toArray,T,b,js W _,jn _,c,by simpa using a,?_⟩⟩;simp[<-a]
theorem ox{α:Type}{l:jg α}{j:je}(h:j<l.length):∃x,l[j]?=ja x/\l.take (j+1)=l.take j++[x]:=
 ⟨l[j],lr h,mz h⟩
theorem aC.nil:aC D w [] []:=by rw[aC]
theorem aC.cons{x:Val}(h:aw D w x c)(t:aC D w f b):aC D w (x::f) (c::b):=by
 rw[aC];exact⟨c,b,T,h,t⟩
theorem ay.ints{v:ji}{l:jg jc}(h:ay D w v 1 l.length (l.map (jC .i64))):cV w v l:=by
 obtain⟨-,p,c,b,d,m,f⟩:=h;refine⟨p,c,b,d,λi=>?_⟩;obtain⟨g,o,e,-,k⟩:=f i;refine⟨g,o,e,λj a=>k j _ ?_⟩;rw[qd,lr a];simp[jR,a]
def iV(w w':jh)(c:aD)(v:ji):Prop:=∃a,w'.ownsRow w 128 4 v 11 (bU (aJ c) a)/\aC (λg=>w.heap.size<=g/\g<w'.heap.size) w' (aJ c) a
theorem oZ{q:Prop}(k:q)(h:q->p:=by intro k;refine dY (v:=?_) rfl aj (λW' hS=>?_) ?_;rotate_left;(have k3:=ae (i:=3) hS.1 rfl;have e0:=ae (i:=0) hS.2 rfl;have e1:=ae (i:=1) hS.2 rfl;have e2:=ae (i:=2) hS.2 rfl;have e3:=ae (i:=3) hS.2 rfl;have e4:=ae (i:=4) hS.2 rfl;go_simp;with_reducible rfl);refine L ?_;exact k):p:=h k
theorem sD{q:Prop}(k:q)(h:q->p:=by intro k;refine dY (v:=?_) rfl aj (λW' hS=>?_) ?_;rotate_left;(have k3:=ae (i:=3) hS.1 rfl;have e0:=ae (i:=0) hS.2 rfl;have e1:=ae (i:=1) hS.2 rfl;have e2:=ae (i:=2) hS.2 rfl;have e3:=ae (i:=3) hS.2 rfl;go_simp;with_reducible rfl);refine L ?_;exact k):p:=h k
theorem ut{q:Prop}(k:q)(h:q->p:=by intro k;refine dY (v:=?_) rfl aj (λW' hS=>?_) ?_;rotate_left;(have k3:=ae (i:=3) hS.1 rfl;have e0:=ae (i:=0) hS.2 rfl;have e1:=ae (i:=1) hS.2 rfl;have e2:=ae (i:=2) hS.2 rfl;go_simp;with_reducible rfl);refine L ?_;exact k):p:=h k
theorem oX(c:aD)(q:CQ)(w:jh)(d:aF (·<w.heap.size) w c q)(l1:c.chg.length<=1000000)(l2:c.path.length<=1000000)(l3:c.box.length<=1000000)(l4:c.wel.length<=1000000):
 jq jm 52 #[jr (av c q).toArray] w λe w'=>∃v,e=jo v/\iV w w' c v/\jl w w w':=by
 have h:cZ (w.alloc (jd (av c q).toArray 63)) w.heap.size c q:=⟨js w _,d.plen,d.clen⟩;have i:=ai w (jd (av c q).toArray 63);have X:=O d;have y:=O h;have C:=O i;obtain⟨RZ,f⟩:=J ((av c q).toArray);rw[<-f]at y C⊢;have UO:=O f;obtain⟨b,g⟩:=J w.heap.size;rw[<-g]at y;have TJ:=O g;clear h i d f g
 go_enter func52,ntmps52
 go_wp2_with fail
 refine(kP A 0 0 _).mono ?_;rintro e w1 ⟨rfl,d⟩;replace y:=O (y.keep (d.block b (by rw[TJ];simp)));replace C:=ac C d;clear d
 go_wp2_with fail
 refine(kP A 0 0 _).mono ?_;rintro e w2 ⟨rfl,d⟩;have f:=(jL.1 y.blk).1;replace y:=O (y.keep (d.block b f));replace C:=ac C d;clear d f
 go_wp2_with fail
 refine(kP A 0 0 _).mono ?_;rintro e w3 ⟨rfl,d⟩;have f:=(jL.1 y.blk).1;replace y:=O (y.keep (d.block b f));replace C:=ac C d;clear d f
 go_upto_region 2 with fail
 obtain⟨r,h⟩:=J w3.heap.size;have m:=js w3 (jd #[I N 3,I N 0,jj ⟨#[]⟩,jb A 0 0] 128);have a2:=js (w3.alloc (jd #[I N 3,I N 0,jj ⟨#[]⟩,jb A 0 0] 128)) (jd #[I N 3,I N 0,jj ⟨#[]⟩,jb A 0 0] 128);have UF:=js ((w3.alloc (jd #[I N 3,I N 0,jj ⟨#[]⟩,jb A 0 0] 128)).alloc (jd #[I N 3,I N 0,jj ⟨#[]⟩,jb A 0 0] 128)) (jd #[I N 3,I N 0,jj ⟨#[]⟩,jb A 0 0] 128);have k:jl w3 w3 (((w3.alloc (jd #[I N 3,I N 0,jj ⟨#[]⟩,jb A 0 0] 128)).alloc (jd #[I N 3,I N 0,jj ⟨#[]⟩,jb A 0 0] 128)).alloc (jd #[I N 3,I N 0,jj ⟨#[]⟩,jb A 0 0] 128)):=(((jy _ w3).alloc (jn _) _).alloc ax _).alloc (by simp;omega) _;obtain⟨W,i⟩:=J ((((w3.alloc (jd #[I N 3,I N 0,jj ⟨#[]⟩,jb A 0 0] 128)).alloc (jd #[I N 3,I N 0,jj ⟨#[]⟩,jb A 0 0] 128)).alloc (jd #[I N 3,I N 0,jj ⟨#[]⟩,jb A 0 0] 128)));have n:W.heap[r]?=ja (jd #[I N 3,I N 0,jj ⟨#[]⟩,ci] 128 (0,0)):=by
  rw[i,h,jG _ _ _ (by simp;omega),jG _ _ _ ax];exact m
 have o:W.heap[r+1]?=ja (jd #[I N 3,I N 0,jj ⟨#[]⟩,ci] 128 (0,0)):=by
  rw[i,h,jG _ _ _ ax];simpa using a2
 have p:W.heap[r+2]?=ja (jd #[I N 3,I N 0,jj ⟨#[]⟩,ci] 128 (0,0)):=by
  rw[i,h];simpa using UF
 have s:W.heap.size=r+3:=by rw[i,h];simp
 rw[<-i]at k⊢;have f:=(jL.1 y.blk).1;replace y:=O (y.keep (k.block b f));have t:w.heap.size<=r:=by rw[h];exact C.size
 replace C:=ac C k;have x:b<r:=by rw[h];exact f
 have u:=O t;have We:=O x;have Ya:=O n;have S4:=O o;have Td:=O p;have Sb:=O s;rw[<-h,<-TJ];have bK:jk (∀g,g<w.heap.size->W.heap[g]?=w.heap[g]?):=O (λg B=>C.block g B);clear m a2 UF n o p k f t x s i h;obtain⟨c0,c1,UP,Ug,WY,VH,VI,ZB,ZE⟩:=fk c q X.plen X.clen;replace Ug:=y.get Ug;obtain⟨ZD,p1,q1,al,Zc,bd,Ts⟩:=X.chg;obtain⟨n1,Wk⟩:=J c.chg.length;rw[al]at Ug;rw[<-Wk]at Ug l1 Zc;have Uw:=O Wk;have V:=O Ts;clear c0 c1 UP WY VH VI ZB ZE ZD al bd Wk Ts
 go_wp2_with fail
 have SP:=O (Bld.start (M:=(r+3)) Ya (n0 Sb.symm))
 go_loopw [18] (λv wr=>∃(i:je) (vr:ji) (us:jg ji),v=I N i/\i<=n1/\jk (Bld (r+3) r W wr ((c.chg.take i).map ak.val) vr us)) (λv _=>n1-(jv v).toNat)
 case atStart=>exact⟨0,ci,[],T,jJ _,SP⟩
 clear SP Ug;obtain⟨i,vr,us,rfl,hi,m⟩:=hrel
 by_cases a3:i<n1
 ·have hd:=ao ((i:jc)<(n1:jc))
  have Sm:=ao (i<n1);obtain⟨g,o,rfl,bm,a4⟩:=V (aA Uw);obtain⟨x,hx,Vu⟩:=ox (l:=c.chg) (j:=i) (by rw[<-Uw];exact a3);have a5:g<(r+3):=aA u;have ba:g≠r:=aA u;have TB:=(m.but.block g a5 ba).trans (bK g bm);have aa:=λk hk=>(bX (a:=⟨g,o+(i*5+k),A⟩) TB).trans (a4 (i*5+k) _ ((flat_get ak.cells 5 (λ_=>rfl) c.chg i k x hx hk).trans (show x.cells[k]?=ja (x.cells.getD k (I N 0)) by have:x.cells.length=5:=T;simp[jR,lr (show k<x.cells.length by omega)])))
  have d0:wr.cell? ⟨g,o+i*5,A⟩=ja (I N x.k):=aa 0 G;have d1:wr.cell? ⟨g,o+i*5+1,A⟩=ja (I N x.d):=aa 1 G;have d2:wr.cell? ⟨g,o+i*5+2,A⟩=ja (I N x.p):=aa 2 G;have p:wr.cell? ⟨g,o+i*5+3,A⟩=ja (I N x.v):=aa 3 G;have f:wr.cell? ⟨g,o+i*5+4,A⟩=ja (I N x.c):=aa 4 G;have T7:=O Vu;clear a5 ba TB aa a4 hx Vu;obtain⟨P,Q,Ue⟩:=a8 m.own;have au:((c.chg.take i).map ak.val).length=i:=by rw[jD,nz,<-Uw];omega
  rw[au]at Ue;have Wm:=O au;subst Ue;clear au
  go_upto_region 5 with fail
  obtain⟨bx,a1⟩:=J wr.heap.size;have ad:=js wr (jd #[I N x.k,I N x.d,I N x.p,I N x.v,I N x.c] 47);have n:=ai wr (jd #[I N x.k,I N x.d,I N x.p,I N x.v,I N x.c] 47);have Uv:jk ((jS P i Q).ownBlock≠ja bx):=O (cJ m.own (.inl (n0 a1.symm)));rw[<-a1]at ad⊢;obtain⟨R,Un⟩:=J (wr.alloc (jd #[I N x.k,I N x.d,I N x.p,I N x.v,I N x.c] 47));rw[<-Un]at ad n⊢;have Yv:=n.trans ((bz R).mono n.size);have Te:jk (Bld (r+3) r W R.drew ((c.chg.take i).map ak.val) (jb P i Q) us):=O (m.later Y Yv);have E:R.drew.heap[r]?=ja (jd #[I N 3,I N 0,jj ⟨#[]⟩,jb P i Q] 128 (0,0))/\R.drew.heap[bx]?=ja (jd #[I N x.k,I N x.d,I N x.p,I N x.v,I N x.c] 47 (0,0)):=⟨Te.box,ad⟩;clear ad n Un a1 m Yv d0 d1 d2 p f;refine jV ?_;refine iQ (λF=>F.heap[r]?=ja (jd #[I N 3,I N 0,jj ⟨#[]⟩,jb P i Q] 128 (0,0))/\F.heap[bx]?=ja (jd #[I N x.k,I N x.d,I N x.p,I N x.v,I N x.c] 47 (0,0))) 18 [(0,jf),(1,jf),(2,jf),(3,jf),(4,jf),(5,jf),(6,jf),(7,jf),(8,jf),(9,jf),(10,jf),(11,jf),(12,jp),(13,jp),(14,jp),(15,jp),(16,jp),(17,jf),(18,jp)] ag ag ag G (λ_ _ _ _ h=>h) E ?_;generalize R.drew=wa at E Te⊢;refine cQ ?_;refine oZ ?_;refine cQ ?_;refine oZ ?_;refine cQ ?_;refine oZ ?_;refine cQ ?_;refine oZ ?_;refine cQ ?_;refine oZ ?_;refine cQ ?_;refine oZ ?_;refine bE T (λt f=>?_);go_simp;have n:=ai wa (jd #[I N x.k,I N x.d,I N x.p,I N x.v,I N x.c] 3);have s:cV (wa.alloc (jd #[I N x.k,I N x.d,I N x.p,I N x.v,I N x.c] 3)) (jb (ja ⟨wa,0,A⟩) 5 5) [x.k,x.d,x.p,x.v,x.c]:=D8 wa [x.k,x.d,x.p,x.v,x.c] 3;refine f _ _ ⟨az E.1 n,az E.2 n⟩ λS=>?_
  clear f;generalize wa.alloc (jd #[I N x.k,I N x.d,I N x.p,I N x.v,I N x.c] 3)=wb at n s S⊢;have z:=O n;have H:=O s;clear n s;refine L ?_;refine bE T (λt f=>?_);go_simp;refine(rX _ _ wb H ax).mono ?_;rintro e wc ⟨u1,rfl,D,d⟩;obtain⟨s,cu,rfl⟩:=a8 D;refine f _ _ ⟨az S.1 d,az S.2 d⟩ λU=>?_
  have Tg:jk (wc.ownsRow wa 128 4 (jb s 5 cu) 5 (ef [x.k,x.d,x.p,x.v,x.c])):=O (lV D z.size);have ZF:=ac z d;clear f D d H z S;refine L ?_;refine bE T (λt f=>?_);go_simp;refine(kP s 5 cu wc).mono ?_;rintro e wd ⟨rfl,d⟩;refine f _ _ ⟨az U.1 d,az U.2 d⟩ λYR=>?_
  have SE:=aO Tg d;have WR:=ac ZF d;clear f d Tg ZF U;refine L ?_;refine bE T (λt f=>?_);go_simp;have n:=ai wd (jd #[I N 3,I N 0,jj ⟨#[]⟩,jb s 5 cu] 128);have TV:=eU wd [I N 3,I N 0,jj ⟨#[]⟩,jb s 5 cu] 128 (0,0) 4 1 1 T (jn _);refine f _ _ ⟨az YR.1 n,az YR.2 n⟩ λH=>?_
  clear f;replace TV:cO (wd.alloc (jd #[I N 3,I N 0,jj ⟨#[]⟩,jb s 5 cu] 128)) (jb (ja ⟨wd,0,A⟩) 1 1) 4 1 [I N 3,I N 0,jj ⟨#[]⟩,jb s 5 cu]:=TV;generalize wd.alloc (jd #[I N 3,I N 0,jj ⟨#[]⟩,jb s 5 cu] 128)=we at n TV H⊢;have SK:=aO SE n;have Vt:=ac WR n;have Sz:=O TV;have Sk:=O (Te.later Y Vt);have bn:=O (mU (l:=[x.k,x.d,x.p,x.v,x.c]) SK (Te.fresh Vt SK));clear n TV SE WR YR;refine L ?_;refine bE T (λt f=>?_);rw[jB aj];refine iT _ _ T (r+3) (jb P i Q) _ _ T Sk.own _ 1 _ T Sz (by simp[j3]) (by rw[Wm];omega) Sk.sz λv' wf K=>?_
  have RV:=K.own;rw[Wm]at RV;obtain⟨pn,cn,rfl⟩:=a8 RV;have a2:=eP H.1 K.grown (cJ Sk.own (.inr Y));have UF:=eP H.2 K.grown Uv;refine f _ _ ⟨a2,UF⟩ λbf=>?_
  replace K:=O K;clear f H RV;refine L ?_;refine cQ ?_;refine g6 T (λt f=>?_);obtain⟨⟨vo,c3⟩,f3,bb,YS⟩:=cE (i:=3) (jb pn (i+1) cn) bf.1 ax;go_simp;refine f _ _ ?_;have YN:=O (Sk.push Y (x:=ak.val x) bn K bb YS);clear f c3 f3 bb YS;refine jU ?_
  go_wp2_with fail
  refine⟨⟨i+1,_,_,by go_num,by omega,by rw[T7,j6];exact YN⟩,?_⟩;simp only[jv];omega
 have hd:=ap ((i:jc)<(n1:jc));have Sm:=ap (i<n1);have bc:c.chg.take i=c.chg:=lm (by rw[<-Uw];omega);replace m:jk (Bld (r+3) r W wr (c.chg.map ak.val) vr us):=O (by rw[<-bc];exact m);clear bc V;obtain⟨WF,WE,Ue⟩:=a8 m.own;rw[jD,<-Uw]at Ue;subst Ue;have Vr:=O m.fin;obtain⟨M2,hM⟩:=J wr.heap.size;have Ta:=O hM;have Zv:(r+3)<=M2:=by rw[hM];exact m.sz
 rw[<-hM]at Vr;have bA:jk (∀g,g<w.heap.size->wr.heap[g]?=w.heap[g]?):=O (λg B=>(m.but.block g (aA u) (aA u)).trans (bK g B));replace y:=O (y.keep (m.but.block b (aA We) (aA We)));replace C:jk (jl w w wr):=O (C.trans (m.but.below (aA u) (aA u)));have TW:=O m.box;replace S4:=O ((m.but.block (r+1) Y Y).trans S4);replace Td:=O ((m.but.block (r+2) Y Y).trans Td);clear m;clear hM;rename jh=>W2;obtain⟨c0,c1,UP,Ug,WY,VH,VI,ZB,ZE⟩:=fk c q X.plen X.clen;replace VH:=y.get VH;obtain⟨ub,⟨ZD,p1,q1,al,Zc,bd,Ts⟩,bo⟩:=X.box;have bB:=O bo;clear bo;obtain⟨n2,Wk⟩:=J c.box.length;rw[al]at VH;rw[<-Wk]at VH l3 Zc;have VD:=O Wk;have R3:=O Ts;clear c0 c1 UP Ug WY VI ZB ZE ZD al bd Wk Ts
 go_wp2_with fail
 clear a3 hd Sm hi;have SP:=O (Bld.start (M:=M2) S4 (n0 Ta))
 go_loopw [44] (λv wr=>∃(i:je) (vr:ji) (us:jg ji),v=I N i/\i<=n2/\jk (Bld M2 (r+1) W2 wr ((c.box.take i).map Bx.val) vr us)) (λv _=>n2-(jv v).toNat)
 case atStart=>exact⟨0,ci,[],T,jJ _,SP⟩
 clear SP VH;obtain⟨i,vr,us,rfl,hi,m⟩:=hrel
 by_cases a3:i<n2
 ·have hd:=ao ((i:jc)<(n2:jc))
  have Sm:=ao (i<n2);obtain⟨g,o,rfl,bm,a4⟩:=R3 (aA VD);obtain⟨x,hx,Vu⟩:=ox (l:=c.box) (j:=i) (by rw[<-VD];exact a3);have a5:g<M2:=aA u;have ba:g≠(r+1):=aA u;have TB:=(m.but.block g a5 ba).trans (bA g bm);obtain⟨ux,VT,SZ⟩:=bB.at (i:=i) (b:=x.body) (by rw[qd,hx];rfl);obtain⟨z,D,rfl⟩:=SZ.form;have aa:=λk hk=>(bX (a:=⟨g,o+(i*4+k),A⟩) TB).trans (a4 (i*4+k) _ ((pD Bx.cells 4 (λ_ _=>rfl) c.box ub i k x _ hx VT hk).trans (show(x.cells (jb z x.body.length D))[k]?=ja ((x.cells (jb z x.body.length D)).getD k (I N 0)) by have:(x.cells (jb z x.body.length D)).length=4:=T;simp[jR,lr (show k<(x.cells (jb z x.body.length D)).length by omega)])))
  have d0:wr.cell? ⟨g,o+i*4,A⟩=ja (I N x.node):=aa 0 G;have d1:wr.cell? ⟨g,o+i*4+1,A⟩=ja (I N x.lev):=aa 1 G;have d2:wr.cell? ⟨g,o+i*4+2,A⟩=ja (I N x.u):=aa 2 G;have p:wr.cell? ⟨g,o+i*4+3,A⟩=ja (jb z x.body.length D):=aa 3 G;clear VT;have T7:=O Vu;clear a5 ba TB aa a4 hx Vu;obtain⟨P,Q,Ue⟩:=a8 m.own;have au:((c.box.take i).map Bx.val).length=i:=by rw[jD,nz,<-VD];omega
  rw[au]at Ue;have Wm:=O au;subst Ue;clear au
  go_upto_region 10 with fail
  obtain⟨bx,a1⟩:=J wr.heap.size;have ad:=js wr (jd #[I N x.node,I N x.lev,I N x.u,jb z x.body.length D] 54);have n:=ai wr (jd #[I N x.node,I N x.lev,I N x.u,jb z x.body.length D] 54);have Uv:jk ((jS P i Q).ownBlock≠ja bx):=O (cJ m.own (.inl (n0 a1.symm)));rw[<-a1]at ad⊢;obtain⟨R,Un⟩:=J (wr.alloc (jd #[I N x.node,I N x.lev,I N x.u,jb z x.body.length D] 54));rw[<-Un]at ad n⊢;have Yv:=n.trans ((bz R).mono n.size);have Te:jk (Bld M2 (r+1) W2 R.drew ((c.box.take i).map Bx.val) (jb P i Q) us):=O (m.later Y Yv);have bg:jk (aP R.drew (jb z x.body.length D) x.body):=O ((SZ.keep (λg B=>(Yv.block g (jO (show g<M2 by have:=u.out;omega) m.sz)).trans ((m.but.block g (aA u) (aA u)).trans (bA g B)))).bytes);clear SZ;have E:R.drew.heap[(r+1)]?=ja (jd #[I N 3,I N 0,jj ⟨#[]⟩,jb P i Q] 128 (0,0))/\R.drew.heap[bx]?=ja (jd #[I N x.node,I N x.lev,I N x.u,jb z x.body.length D] 54 (0,0)):=⟨Te.box,ad⟩;clear ad n Un a1 m Yv d0 d1 d2 p;refine jV ?_;refine iQ (λF=>F.heap[(r+1)]?=ja (jd #[I N 3,I N 0,jj ⟨#[]⟩,jb P i Q] 128 (0,0))/\F.heap[bx]?=ja (jd #[I N x.node,I N x.lev,I N x.u,jb z x.body.length D] 54 (0,0))) 21 [(0,jf),(1,jf),(2,jf),(3,jf),(5,jf),(6,jf),(8,jf),(9,jf),(10,jf),(12,jf),(13,jf),(14,jf),(4,jp),(7,jp),(11,jp),(15,jp),(16,jp),(17,jp),(18,jp),(19,jp),(20,jf),(21,jp)] ag ag ag G (λ_ _ _ _ h=>h) E ?_;generalize R.drew=wa at E Te bg⊢;refine cQ ?_;refine sD ?_;refine cQ ?_;refine sD ?_;refine cQ ?_;refine sD ?_;iterate 2 refine cQ ?_
  refine sD ?_;iterate 2 refine cQ ?_
  refine sD ?_;refine bE T (λt f=>?_);go_simp;refine(iM x.node wa).mono ?_;rintro e bC ⟨rfl,d⟩;refine f _ _ ⟨az E.1 d,az E.2 d⟩ λbh=>?_
  have bq:=O (d);have br:=O (bg.below d);clear f d E bg;refine L ?_;refine bE T (λt f=>?_);go_simp;refine(iM x.lev bC).mono ?_;rintro e bI ⟨rfl,d⟩;refine f _ _ ⟨az bh.1 d,az bh.2 d⟩ λbk=>?_
  have bs:=ac bq d;have bu:=O (br.below d);clear f d bh bq br;refine L ?_;refine bE T (λt f=>?_);go_simp;refine(iM x.u bI).mono ?_;rintro e bw ⟨rfl,d⟩;refine f _ _ ⟨az bk.1 d,az bk.2 d⟩ λp=>?_
  have V:=ac bs d;have bv:=O (bu.below d);clear f d bk bs bu;refine L ?_;refine bE T (λt f=>?_);go_simp;refine(tZ _ x.body bw bv).mono ?_;rintro e wb ⟨rfl,d⟩;refine f _ _ ⟨az p.1 d,az p.2 d⟩ λS=>?_
  have bl:=ac V d;clear f d p V bv;refine L ?_;refine bE T (λt f=>?_);go_simp;have n:=ai wb (jd #[I N 1,I N x.node,jj ⟨#[]⟩,jb A 0 0,I N 1,I N x.lev,jj ⟨#[]⟩,jb A 0 0,I N 1,I N x.u,jj ⟨#[]⟩,jb A 0 0,I N 2,I N 0,jj (ofB x.body),jb A 0 0] 128);have V:=kz wb [I N 1,I N x.node,jj ⟨#[]⟩,jb A 0 0,I N 1,I N x.lev,jj ⟨#[]⟩,jb A 0 0,I N 1,I N x.u,jj ⟨#[]⟩,jb A 0 0,I N 2,I N 0,jj (ofB x.body),jb A 0 0] 128 4 4 wa.heap.size bl.size T G;refine f _ _ ⟨az S.1 n,az S.2 n⟩ λU=>?_
  clear f;replace V:(wb.alloc (jd #[I N 1,I N x.node,jj ⟨#[]⟩,jb A 0 0,I N 1,I N x.lev,jj ⟨#[]⟩,jb A 0 0,I N 1,I N x.u,jj ⟨#[]⟩,jb A 0 0,I N 2,I N 0,jj (ofB x.body),jb A 0 0] 128)).ownsRow wa.heap.size 128 4 (jb (ja ⟨wb,0,A⟩) 4 4) 4 [I N 1,I N x.node,jj ⟨#[]⟩,jb A 0 0,I N 1,I N x.lev,jj ⟨#[]⟩,jb A 0 0,I N 1,I N x.u,jj ⟨#[]⟩,jb A 0 0,I N 2,I N 0,jj (ofB x.body),jb A 0 0]:=V;generalize wb.alloc (jd #[I N 1,I N x.node,jj ⟨#[]⟩,jb A 0 0,I N 1,I N x.lev,jj ⟨#[]⟩,jb A 0 0,I N 1,I N x.u,jj ⟨#[]⟩,jb A 0 0,I N 2,I N 0,jj (ofB x.body),jb A 0 0] 128)=wc at n V U⊢;obtain⟨s,bv⟩:∃p:jQ jK,p=ja ⟨wb,0,A⟩:=⟨_,T⟩;rw[<-bv]at V⊢;have Tg:=O V;have ZF:=ac bl n;clear n V bv S bl;refine L ?_;refine bE T (λt f=>?_);go_simp;refine(kP s 4 4 wc).mono ?_;rintro e wd ⟨rfl,d⟩;refine f _ _ ⟨az U.1 d,az U.2 d⟩ λYR=>?_
  have SE:=aO Tg d;have WR:=ac ZF d;clear f d Tg ZF U;refine L ?_;refine bE T (λt f=>?_);go_simp;have n:=ai wd (jd #[I N 3,I N 0,jj ⟨#[]⟩,jb s 4 4] 128);have TV:=eU wd [I N 3,I N 0,jj ⟨#[]⟩,jb s 4 4] 128 (0,0) 4 1 1 T (jn _);refine f _ _ ⟨az YR.1 n,az YR.2 n⟩ λH=>?_
  clear f;replace TV:cO (wd.alloc (jd #[I N 3,I N 0,jj ⟨#[]⟩,jb s 4 4] 128)) (jb (ja ⟨wd,0,A⟩) 1 1) 4 1 [I N 3,I N 0,jj ⟨#[]⟩,jb s 4 4]:=TV;generalize wd.alloc (jd #[I N 3,I N 0,jj ⟨#[]⟩,jb s 4 4] 128)=we at n TV H⊢;have SK:=aO SE n;have Vt:=ac WR n;have Sz:=O TV;have Sk:=O (Te.later Y Vt);have bn:=O (show aw (λg=>M2<=g/\g<we.heap.size/\(jS P i Q).ownBlock≠ja g) we (Bx.val x) (jb s 4 4) by
   unfold Bx.val;rw[vL,aw];refine⟨j5 4 ci,ay.of_own SK (Te.fresh Vt SK),?_⟩;exact aC.cons (eD _) (aC.cons (eD _) (aC.cons (eD _) (aC.cons (mu _) (aC.nil)))))
  clear n TV SE WR YR;refine L ?_;refine bE T (λt f=>?_);rw[jB aj];refine iT _ _ T M2 (jb P i Q) _ _ T Sk.own _ 1 _ T Sz (by simp[j3]) (by rw[Wm];omega) Sk.sz λv' wf K=>?_
  have RV:=K.own;rw[Wm]at RV;obtain⟨pn,cn,rfl⟩:=a8 RV;have a2:=eP H.1 K.grown (cJ Sk.own (.inr Y));have UF:=eP H.2 K.grown Uv;refine f _ _ ⟨a2,UF⟩ λbf=>?_
  replace K:=O K;clear f H RV;refine L ?_;refine cQ ?_;refine g6 T (λt f=>?_);obtain⟨⟨vo,c3⟩,f3,bb,YS⟩:=cE (i:=3) (jb pn (i+1) cn) bf.1 ax;go_simp;refine f _ _ ?_;have YN:=O (Sk.push Y (x:=Bx.val x) bn K bb YS);clear f c3 f3 bb YS;refine jU ?_
  go_wp2_with fail
  refine⟨⟨i+1,_,_,by go_num,by omega,by rw[T7,j6];exact YN⟩,?_⟩;simp only[jv];omega
 have hd:=ap ((i:jc)<(n2:jc));have Sm:=ap (i<n2);have bc:c.box.take i=c.box:=lm (by rw[<-VD];omega);replace m:jk (Bld M2 (r+1) W2 wr (c.box.map Bx.val) vr us):=O (by rw[<-bc];exact m);clear bc R3;obtain⟨Yb,WZ,Ue⟩:=a8 m.own;rw[jD,<-VD]at Ue;subst Ue;have bw:=O m.fin;obtain⟨M3,hM⟩:=J wr.heap.size;have Tq:=O hM;have bN:M2<=M3:=by rw[hM];exact m.sz
 rw[<-hM]at bw;have bM:jk (∀g,g<w.heap.size->wr.heap[g]?=w.heap[g]?):=O (λg B=>(m.but.block g (aA u) (aA u)).trans (bA g B));replace y:=O (y.keep (m.but.block b (aA We) (aA We)));replace C:jk (jl w w wr):=O (C.trans (m.but.below (aA u) (aA u)));replace TW:=O ((m.but.block r Y Y).trans TW);have Tu:=O m.box;replace Vr:=O (aw.keep (λg B=>m.but.block g Y Y) _ _ Vr.out);replace Td:=O ((m.but.block (r+2) Y Y).trans Td);clear m;clear hM;rename jh=>W3;obtain⟨c0,c1,UP,Ug,WY,VH,VI,ZB,ZE⟩:=fk c q X.plen X.clen;replace VI:=y.get VI;obtain⟨ub,⟨ZD,p1,q1,al,Zc,bd,Ts⟩,bo⟩:=X.wel;have bB:=O bo;clear bo;obtain⟨n3,Wk⟩:=J c.wel.length;rw[al]at VI;rw[<-Wk]at VI l4 Zc;have bo:=O Wk;have Sl:=O Ts;clear c0 c1 UP Ug WY VH ZB ZE ZD al bd Wk Ts
 go_wp2_with fail
 clear a3 hd Sm hi;have SP:=O (Bld.start (M:=M3) Td (n0 Tq))
 go_loopw [73] (λv wr=>∃(i:je) (vr:ji) (us:jg ji),v=I N i/\i<=n3/\jk (Bld M3 (r+1+1) W3 wr ((c.wel.take i).map Wl.val) vr us)) (λv _=>n3-(jv v).toNat)
 case atStart=>exact⟨0,ci,[],T,jJ _,SP⟩
 clear SP VI;obtain⟨i,vr,us,rfl,hi,m⟩:=hrel
 by_cases a3:i<n3
 ·have hd:=ao ((i:jc)<(n3:jc))
  have Sm:=ao (i<n3);obtain⟨g,o,rfl,bm,a4⟩:=Sl (aA bo);obtain⟨x,hx,Vu⟩:=ox (l:=c.wel) (j:=i) (by rw[<-bo];exact a3);have a5:g<M3:=aA u;have ba:g≠(r+1+1):=aA u;have TB:=(m.but.block g a5 ba).trans (bM g bm);obtain⟨ux,VT,SZ⟩:=bB.at (i:=i) (b:=x.body) (by rw[qd,hx];rfl);obtain⟨z,D,rfl⟩:=SZ.form;have aa:=λk hk=>(bX (a:=⟨g,o+(i*3+k),A⟩) TB).trans (a4 (i*3+k) _ ((pD Wl.cells 3 (λ_ _=>rfl) c.wel ub i k x _ hx VT hk).trans (show(x.cells (jb z x.body.length D))[k]?=ja ((x.cells (jb z x.body.length D)).getD k (I N 0)) by have:(x.cells (jb z x.body.length D)).length=3:=T;simp[jR,lr (show k<(x.cells (jb z x.body.length D)).length by omega)])))
  have d0:wr.cell? ⟨g,o+i*3,A⟩=ja (I N x.dev):=aa 0 G;have d1:wr.cell? ⟨g,o+i*3+1,A⟩=ja (I N x.u):=aa 1 G;have d2:wr.cell? ⟨g,o+i*3+2,A⟩=ja (jb z x.body.length D):=aa 2 G;clear VT;have T7:=O Vu;clear a5 ba TB aa a4 hx Vu;obtain⟨P,Q,Ue⟩:=a8 m.own;have au:((c.wel.take i).map Wl.val).length=i:=by rw[jD,nz,<-bo];omega
  rw[au]at Ue;have Wm:=O au;subst Ue;clear au
  go_upto_region 15 with fail
  obtain⟨bx,a1⟩:=J wr.heap.size;have ad:=js wr (jd #[I N x.dev,I N x.u,jb z x.body.length D] 104);have n:=ai wr (jd #[I N x.dev,I N x.u,jb z x.body.length D] 104);have Uv:jk ((jS P i Q).ownBlock≠ja bx):=O (cJ m.own (.inl (n0 a1.symm)));rw[<-a1]at ad⊢;obtain⟨R,Un⟩:=J (wr.alloc (jd #[I N x.dev,I N x.u,jb z x.body.length D] 104));rw[<-Un]at ad n⊢;have Yv:=n.trans ((bz R).mono n.size);have Te:jk (Bld M3 (r+1+1) W3 R.drew ((c.wel.take i).map Wl.val) (jb P i Q) us):=O (m.later Y Yv);have bg:jk (aP R.drew (jb z x.body.length D) x.body):=O ((SZ.keep (λg B=>(Yv.block g (jO (show g<M3 by have:=u.out;omega) m.sz)).trans ((m.but.block g (aA u) (aA u)).trans (bM g B)))).bytes);clear SZ;have E:R.drew.heap[(r+1+1)]?=ja (jd #[I N 3,I N 0,jj ⟨#[]⟩,jb P i Q] 128 (0,0))/\R.drew.heap[bx]?=ja (jd #[I N x.dev,I N x.u,jb z x.body.length D] 104 (0,0)):=⟨Te.box,ad⟩;clear ad n Un a1 m Yv d0 d1 d2;refine jV ?_;refine iQ (λF=>F.heap[(r+1+1)]?=ja (jd #[I N 3,I N 0,jj ⟨#[]⟩,jb P i Q] 128 (0,0))/\F.heap[bx]?=ja (jd #[I N x.dev,I N x.u,jb z x.body.length D] 104 (0,0))) 18 [(0,jf),(1,jf),(2,jf),(3,jf),(5,jf),(6,jf),(7,jf),(9,jf),(10,jf),(11,jf),(4,jp),(8,jp),(12,jp),(13,jp),(14,jp),(15,jp),(16,jp),(17,jf),(18,jp)] ag ag ag G (λ_ _ _ _ h=>h) E ?_;generalize R.drew=wa at E Te bg⊢;refine cQ ?_;refine ut ?_;refine cQ ?_;refine ut ?_;iterate 2 refine cQ ?_
  refine ut ?_;iterate 2 refine cQ ?_
  refine ut ?_;refine bE T (λt f=>?_);go_simp;refine(iM x.dev wa).mono ?_;rintro e bC ⟨rfl,d⟩;refine f _ _ ⟨az E.1 d,az E.2 d⟩ λbh=>?_
  have bq:=O (d);have br:=O (bg.below d);clear f d E bg;refine L ?_;refine bE T (λt f=>?_);go_simp;refine(iM x.u bC).mono ?_;rintro e bI ⟨rfl,d⟩;refine f _ _ ⟨az bh.1 d,az bh.2 d⟩ λbk=>?_
  have bs:=ac bq d;have bu:=O (br.below d);clear f d bh bq br;refine L ?_;refine bE T (λt f=>?_);go_simp;refine(tZ _ x.body bI bu).mono ?_;rintro e wb ⟨rfl,d⟩;refine f _ _ ⟨az bk.1 d,az bk.2 d⟩ λS=>?_
  have bl:=ac bs d;clear f d bk bs bu;refine L ?_;refine bE T (λt f=>?_);go_simp;have n:=ai wb (jd #[I N 1,I N x.dev,jj ⟨#[]⟩,jb A 0 0,I N 1,I N x.u,jj ⟨#[]⟩,jb A 0 0,I N 2,I N 0,jj (ofB x.body),jb A 0 0] 128);have V:=kz wb [I N 1,I N x.dev,jj ⟨#[]⟩,jb A 0 0,I N 1,I N x.u,jj ⟨#[]⟩,jb A 0 0,I N 2,I N 0,jj (ofB x.body),jb A 0 0] 128 4 3 wa.heap.size bl.size T G;refine f _ _ ⟨az S.1 n,az S.2 n⟩ λU=>?_
  clear f;replace V:(wb.alloc (jd #[I N 1,I N x.dev,jj ⟨#[]⟩,jb A 0 0,I N 1,I N x.u,jj ⟨#[]⟩,jb A 0 0,I N 2,I N 0,jj (ofB x.body),jb A 0 0] 128)).ownsRow wa.heap.size 128 4 (jb (ja ⟨wb,0,A⟩) 3 3) 3 [I N 1,I N x.dev,jj ⟨#[]⟩,jb A 0 0,I N 1,I N x.u,jj ⟨#[]⟩,jb A 0 0,I N 2,I N 0,jj (ofB x.body),jb A 0 0]:=V;generalize wb.alloc (jd #[I N 1,I N x.dev,jj ⟨#[]⟩,jb A 0 0,I N 1,I N x.u,jj ⟨#[]⟩,jb A 0 0,I N 2,I N 0,jj (ofB x.body),jb A 0 0] 128)=wc at n V U⊢;obtain⟨s,bv⟩:∃p:jQ jK,p=ja ⟨wb,0,A⟩:=⟨_,T⟩;rw[<-bv]at V⊢;have Tg:=O V;have ZF:=ac bl n;clear n V bv S bl;refine L ?_;refine bE T (λt f=>?_);go_simp;refine(kP s 3 3 wc).mono ?_;rintro e wd ⟨rfl,d⟩;refine f _ _ ⟨az U.1 d,az U.2 d⟩ λYR=>?_
  have SE:=aO Tg d;have WR:=ac ZF d;clear f d Tg ZF U;refine L ?_;refine bE T (λt f=>?_);go_simp;have n:=ai wd (jd #[I N 3,I N 0,jj ⟨#[]⟩,jb s 3 3] 128);have TV:=eU wd [I N 3,I N 0,jj ⟨#[]⟩,jb s 3 3] 128 (0,0) 4 1 1 T (jn _);refine f _ _ ⟨az YR.1 n,az YR.2 n⟩ λH=>?_
  clear f;replace TV:cO (wd.alloc (jd #[I N 3,I N 0,jj ⟨#[]⟩,jb s 3 3] 128)) (jb (ja ⟨wd,0,A⟩) 1 1) 4 1 [I N 3,I N 0,jj ⟨#[]⟩,jb s 3 3]:=TV;generalize wd.alloc (jd #[I N 3,I N 0,jj ⟨#[]⟩,jb s 3 3] 128)=we at n TV H⊢;have SK:=aO SE n;have Vt:=ac WR n;have Sz:=O TV;have Sk:=O (Te.later Y Vt);have bn:=O (show aw (λg=>M3<=g/\g<we.heap.size/\(jS P i Q).ownBlock≠ja g) we (Wl.val x) (jb s 3 3) by
   unfold Wl.val;rw[vL,aw];refine⟨j5 3 ci,ay.of_own SK (Te.fresh Vt SK),?_⟩;exact aC.cons (eD _) (aC.cons (eD _) (aC.cons (mu _) (aC.nil))))
  clear n TV SE WR YR;refine L ?_;refine bE T (λt f=>?_);rw[jB aj];refine iT _ _ T M3 (jb P i Q) _ _ T Sk.own _ 1 _ T Sz (by simp[j3]) (by rw[Wm];omega) Sk.sz λv' wf K=>?_
  have RV:=K.own;rw[Wm]at RV;obtain⟨pn,cn,rfl⟩:=a8 RV;have a2:=eP H.1 K.grown (cJ Sk.own (.inr Y));have UF:=eP H.2 K.grown Uv;refine f _ _ ⟨a2,UF⟩ λbf=>?_
  replace K:=O K;clear f H RV;refine L ?_;refine cQ ?_;refine g6 T (λt f=>?_);obtain⟨⟨vo,c3⟩,f3,bb,YS⟩:=cE (i:=3) (jb pn (i+1) cn) bf.1 ax;go_simp;refine f _ _ ?_;have YN:=O (Sk.push Y (x:=Wl.val x) bn K bb YS);clear f c3 f3 bb YS;refine jU ?_
  go_wp2_with fail
  refine⟨⟨i+1,_,_,by go_num,by omega,by rw[T7,j6];exact YN⟩,?_⟩;simp only[jv];omega
 have hd:=ap ((i:jc)<(n3:jc));have Sm:=ap (i<n3);have bc:c.wel.take i=c.wel:=lm (by rw[<-bo];omega);replace m:jk (Bld M3 (r+1+1) W3 wr (c.wel.map Wl.val) vr us):=O (by rw[<-bc];exact m);clear bc Sl;obtain⟨n,o,Ue⟩:=a8 m.own;rw[jD,<-bo]at Ue;subst Ue;have x:=O m.fin;have D:jk (wr.heap[r+1+1]?=ja (jd #[I N 3,I N 0,jj ⟨#[]⟩,jb n n3 o] 128 (0,0))):=O m.box;have K:jk (wr.heap[r]?=ja (jd #[I N 3,I N 0,jj ⟨#[]⟩,jb WF n1 WE] 128 (0,0))):=O ((m.but.block r Y Y).trans TW);have P:jk (wr.heap[r+1]?=ja (jd #[I N 3,I N 0,jj ⟨#[]⟩,jb Yb n2 WZ] 128 (0,0))):=O ((m.but.block (r+1) Y Y).trans Tu);have p:=m.sz;have z:=Tq.out;have Q:M2<=M3:=bN;replace Vr:jk (aw (λg=>w.heap.size<=g/\g<wr.heap.size) wr (vL (c.chg.map ak.val)) (jb WF n1 WE)):=O (aw.mono (λg B=>⟨by have:=u.out;omega,by omega⟩) _ _ (aw.keep (λg B=>m.but.block g Y Y) _ _ Vr.out));replace bw:jk (aw (λg=>w.heap.size<=g/\g<wr.heap.size) wr (vL (c.box.map Bx.val)) (jb Yb n2 WZ)):=O (aw.mono (λg B=>⟨by have:=u.out;omega,by omega⟩) _ _ (aw.keep (λg B=>m.but.block g Y Y) _ _ bw.out));replace x:jk (aw (λg=>w.heap.size<=g/\g<wr.heap.size) wr (vL (c.wel.map Wl.val)) (jb n n3 o)):=O (aw.mono (λg B=>⟨by have:=u.out;omega,by omega⟩) _ _ x.out);replace y:=O (y.keep (m.but.block b (aA We) (aA We)));replace C:jk (jl w w wr):=O (C.trans (m.but.below (aA u) (aA u)));clear p z Q
 go_upto_region 17 with fail
 obtain⟨c0,c1,UP,Ug,WY,VH,VI,ZB,ZE⟩:=fk c q X.plen X.clen;have Q:=O X.path;obtain⟨ZD,R,qp,al,Zc,bd,Ts⟩:=X.path;rw[al]at WY Q;have SJ:jk (RZ[0]?=ja (I N c.folder)):=O (by rw[UO];simpa using c0);have Sc:jk (RZ[1]?=ja (I N c.epoch)):=O (by rw[UO];simpa using c1);have aa:jk (RZ[34]?=ja (I N c.author)):=O (by rw[UO];simpa using UP);have ad:jk (RZ[36]?=ja (jb R c.path.length qp)):=O (by rw[UO];simpa using WY);have au:jk (RZ[71]?=ja (I N c.r)):=O (by rw[UO];simpa using ZB);have a1:jk (RZ[72]?=ja (I N c.s)):=O (by rw[UO];simpa using ZE);have p:wr.drew.heap[b]?=ja (jd RZ 63 (0,0))/\wr.drew.heap[r]?=ja (jd #[I N 3,I N 0,jj ⟨#[]⟩,jb WF n1 WE] 128 (0,0))/\wr.drew.heap[r+1]?=ja (jd #[I N 3,I N 0,jj ⟨#[]⟩,jb Yb n2 WZ] 128 (0,0))/\wr.drew.heap[r+1+1]?=ja (jd #[I N 3,I N 0,jj ⟨#[]⟩,jb n n3 o] 128 (0,0)):=⟨by rw[UO];exact y.blk,K,P,D⟩;have z:jk (jl wr wr wr.drew):=O (bz wr);clear c0 c1 UP Ug WY VH VI ZB ZE ZD al Zc bd Ts a3 hd Sm hi TW Tu K P D m y;refine jV ?_;refine bY (λF=>F.heap[b]?=ja (jd RZ 63 (0,0))/\F.heap[r]?=ja (jd #[I N 3,I N 0,jj ⟨#[]⟩,jb WF n1 WE] 128 (0,0))/\F.heap[r+1]?=ja (jd #[I N 3,I N 0,jj ⟨#[]⟩,jb Yb n2 WZ] 128 (0,0))/\F.heap[r+1+1]?=ja (jd #[I N 3,I N 0,jj ⟨#[]⟩,jb n n3 o] 128 (0,0))) (.t 0 (.t 1 (.t 3 (.t 4 (.t 6 (.t 7 (.t 9 (.t 10 (.t 12 (.t 13 (.t 14 (.t 17 (.t 18 (.t 19 (.t 20 (.t 22 (.t 23 (.t 24 (.t 26 (.t 27 (.t 28 (.o 2 (.o 5 (.o 8 (.o 11 (.o 15 (.o 16 (.o 21 (.o 25 (.o 29 (.o 30 (.t 31 .done)))))))))))))))))))))))))))))))) ag ag ag G (λ_ _ _ _ h=>h) p ?_;generalize wr.drew=x0 at p z⊢;refine bi ?_
 (refine aE (v:=?_) T aj (λF m=>?_) ?_;rotate_left;(have k:=ae m.1 SJ;go_simp;with_reducible rfl);refine L ?_)
 refine bi ?_
 (refine aE (v:=?_) T aj (λF m=>?_) ?_;rotate_left;(have k:=ae m.1 Sc;go_simp;with_reducible rfl);refine L ?_)
 iterate 3 refine bi ?_
 (refine aE (v:=?_) T aj (λF m=>?_) ?_;rotate_left;(have k:=ae m.1 aa;go_simp;with_reducible rfl);refine L ?_)
 (refine aE (v:=?_) T aj (λF m=>?_) ?_;rotate_left;(have y:=ae (i:=0) m.2.1 T;have D:=ae (i:=1) m.2.1 T;have K:=ae (i:=2) m.2.1 T;have P:=ae (i:=3) m.2.1 T;go_simp;with_reducible rfl);refine L ?_)
 refine bi ?_
 (refine aE (v:=?_) T aj (λF m=>?_) ?_;rotate_left;(have k:=ae m.1 ad;go_simp;with_reducible rfl);refine L ?_)
 (refine aE (v:=?_) T aj (λF m=>?_) ?_;rotate_left;(have y:=ae (i:=0) m.2.2.1 T;have D:=ae (i:=1) m.2.2.1 T;have K:=ae (i:=2) m.2.2.1 T;have P:=ae (i:=3) m.2.2.1 T;go_simp;with_reducible rfl);refine L ?_)
 (refine aE (v:=?_) T aj (λF m=>?_) ?_;rotate_left;(have y:=ae (i:=0) m.2.2.2 T;have D:=ae (i:=1) m.2.2.2 T;have K:=ae (i:=2) m.2.2.2 T;have P:=ae (i:=3) m.2.2.2 T;go_simp;with_reducible rfl);refine L ?_)
 iterate 4 refine bi ?_
 (refine aE (v:=?_) T aj (λF m=>?_) ?_;rotate_left;(have k:=ae m.1 au;go_simp;with_reducible rfl);refine L ?_)
 iterate 2 refine bi ?_
 (refine aE (v:=?_) T aj (λF m=>?_) ?_;rotate_left;(have k:=ae m.1 a1;go_simp;with_reducible rfl);refine L ?_)
 refine ar T (λt f=>?_);go_simp;refine(iM c.folder x0).mono ?_;rintro e F ⟨rfl,d⟩;refine f _ _ ⟨az p.1 d,az p.2.1 d,az p.2.2.1 d,az p.2.2.2 d⟩ λm=>?_
 have y:=ac z d;clear f d p z;refine L ?_;refine ar T (λt f=>?_);go_simp;refine(iM c.epoch F).mono ?_;rintro e K ⟨rfl,d⟩;refine f _ _ ⟨az m.1 d,az m.2.1 d,az m.2.2.1 d,az m.2.2.2 d⟩ λk=>?_
 have p:=ac y d;clear f d m y;refine L ?_;refine ar T (λt f=>?_);go_simp;refine(tZ _ c.parent K (cZ.parent (q:=q) ⟨by rw[<-UO];exact k.1,X.plen,X.clen⟩)).mono ?_;rintro e P ⟨rfl,d⟩;refine f _ _ ⟨az k.1 d,az k.2.1 d,az k.2.2.1 d,az k.2.2.2 d⟩ λm=>?_
 have y:=ac p d;clear f d k p;refine L ?_;refine ar T (λt f=>?_);go_simp;refine(iM c.author P).mono ?_;rintro e x4 ⟨rfl,d⟩;refine f _ _ ⟨az m.1 d,az m.2.1 d,az m.2.2.1 d,az m.2.2.2 d⟩ λk=>?_
 have p:=ac y d;clear f d m y;refine L ?_;refine ar T (λt f=>?_);go_simp;refine(rX c.path _ x4 (ay.ints (Q.keep λg B=>((C.trans (p.mono C.size)).block g B))) Y).mono ?_;rintro e y ⟨up,rfl,m,d⟩;obtain⟨s,cu,rfl⟩:=a8 m;have z:jk (y.ownsRow wr 128 4 (jb s c.path.length cu) c.path.length (ef c.path)):=O (lV m p.size);refine f _ _ ⟨az k.1 d,az k.2.1 d,az k.2.2.1 d,az k.2.2.2 d⟩ λE=>?_
 have D:=ac p d;clear m;clear f d k p;refine L ?_;refine ar T (λt f=>?_);go_simp;refine(kP s c.path.length cu y).mono ?_;rintro e x6 ⟨rfl,d⟩;refine f _ _ ⟨az E.1 d,az E.2.1 d,az E.2.2.1 d,az E.2.2.2 d⟩ λS=>?_
 have k:=ac D d;have m:=aO z d;clear f d E D z;refine L ?_;refine ar T (λt f=>?_);go_simp;refine(tZ _ c.confirm x6 (cZ.confirm (q:=q) ⟨by rw[<-UO];exact S.1,X.plen,X.clen⟩)).mono ?_;rintro e x7 ⟨rfl,d⟩;refine f _ _ ⟨az S.1 d,az S.2.1 d,az S.2.2.1 d,az S.2.2.2 d⟩ λU=>?_
 have p:=ac k d;have z:=aO m d;clear f d S k m;refine L ?_;refine ar T (λt f=>?_);go_simp;refine(iM c.r x7).mono ?_;rintro e S ⟨rfl,d⟩;refine f _ _ ⟨az U.1 d,az U.2.1 d,az U.2.2.1 d,az U.2.2.2 d⟩ λYR=>?_
 have m:=ac p d;have D:=aO z d;clear f d U p z;refine L ?_;refine ar T (λt f=>?_);go_simp;refine(iM c.s S).mono ?_;rintro e k ⟨rfl,d⟩;refine f _ _ ⟨az YR.1 d,az YR.2.1 d,az YR.2.2.1 d,az YR.2.2.2 d⟩ λH=>?_
 have p:=ac m d;have z:=aO D d;clear f d YR m D;refine L ?_;refine ar T (λt f=>?_);go_simp;have d:=ai k (jd #[I N 1,I N c.folder,jj ⟨#[]⟩,jb A 0 0,I N 1,I N c.epoch,jj ⟨#[]⟩,jb A 0 0,I N 2,I N 0,jj (ofB c.parent),jb A 0 0,I N 1,I N c.author,jj ⟨#[]⟩,jb A 0 0,I N 3,I N 0,jj ⟨#[]⟩,jb WF n1 WE,I N 3,I N 0,jj ⟨#[]⟩,jb s c.path.length cu,I N 3,I N 0,jj ⟨#[]⟩,jb Yb n2 WZ,I N 3,I N 0,jj ⟨#[]⟩,jb n n3 o,I N 2,I N 0,jj (ofB c.confirm),jb A 0 0,I N 1,I N c.r,jj ⟨#[]⟩,jb A 0 0,I N 1,I N c.s,jj ⟨#[]⟩,jb A 0 0] 128);have V:=kz k [I N 1,I N c.folder,jj ⟨#[]⟩,jb A 0 0,I N 1,I N c.epoch,jj ⟨#[]⟩,jb A 0 0,I N 2,I N 0,jj (ofB c.parent),jb A 0 0,I N 1,I N c.author,jj ⟨#[]⟩,jb A 0 0,I N 3,I N 0,jj ⟨#[]⟩,jb WF n1 WE,I N 3,I N 0,jj ⟨#[]⟩,jb s c.path.length cu,I N 3,I N 0,jj ⟨#[]⟩,jb Yb n2 WZ,I N 3,I N 0,jj ⟨#[]⟩,jb n n3 o,I N 2,I N 0,jj (ofB c.confirm),jb A 0 0,I N 1,I N c.r,jj ⟨#[]⟩,jb A 0 0,I N 1,I N c.s,jj ⟨#[]⟩,jb A 0 0] 128 4 11 w.heap.size (jz C.size p.size) T G;replace V:(k.alloc (jd #[I N 1,I N c.folder,jj ⟨#[]⟩,jb A 0 0,I N 1,I N c.epoch,jj ⟨#[]⟩,jb A 0 0,I N 2,I N 0,jj (ofB c.parent),jb A 0 0,I N 1,I N c.author,jj ⟨#[]⟩,jb A 0 0,I N 3,I N 0,jj ⟨#[]⟩,jb WF n1 WE,I N 3,I N 0,jj ⟨#[]⟩,jb s c.path.length cu,I N 3,I N 0,jj ⟨#[]⟩,jb Yb n2 WZ,I N 3,I N 0,jj ⟨#[]⟩,jb n n3 o,I N 2,I N 0,jj (ofB c.confirm),jb A 0 0,I N 1,I N c.r,jj ⟨#[]⟩,jb A 0 0,I N 1,I N c.s,jj ⟨#[]⟩,jb A 0 0] 128)).ownsRow w.heap.size 128 4 (jb (ja ⟨k,0,A⟩) 11 11) 11 [I N 1,I N c.folder,jj ⟨#[]⟩,jb A 0 0,I N 1,I N c.epoch,jj ⟨#[]⟩,jb A 0 0,I N 2,I N 0,jj (ofB c.parent),jb A 0 0,I N 1,I N c.author,jj ⟨#[]⟩,jb A 0 0,I N 3,I N 0,jj ⟨#[]⟩,jb WF n1 WE,I N 3,I N 0,jj ⟨#[]⟩,jb s c.path.length cu,I N 3,I N 0,jj ⟨#[]⟩,jb Yb n2 WZ,I N 3,I N 0,jj ⟨#[]⟩,jb n n3 o,I N 2,I N 0,jj (ofB c.confirm),jb A 0 0,I N 1,I N c.r,jj ⟨#[]⟩,jb A 0 0,I N 1,I N c.s,jj ⟨#[]⟩,jb A 0 0]:=V;have D:=O V;refine f _ _ ⟨az H.1 d,az H.2.1 d,az H.2.2.1 d,az H.2.2.2 d⟩ λbf=>?_
 have m:=ac p d;have t:=aO z d;clear V;clear f d H p z;obtain⟨z,d⟩:=J (k.alloc (jd #[I N 1,I N c.folder,jj ⟨#[]⟩,jb A 0 0,I N 1,I N c.epoch,jj ⟨#[]⟩,jb A 0 0,I N 2,I N 0,jj (ofB c.parent),jb A 0 0,I N 1,I N c.author,jj ⟨#[]⟩,jb A 0 0,I N 3,I N 0,jj ⟨#[]⟩,jb WF n1 WE,I N 3,I N 0,jj ⟨#[]⟩,jb s c.path.length cu,I N 3,I N 0,jj ⟨#[]⟩,jb Yb n2 WZ,I N 3,I N 0,jj ⟨#[]⟩,jb n n3 o,I N 2,I N 0,jj (ofB c.confirm),jb A 0 0,I N 1,I N c.r,jj ⟨#[]⟩,jb A 0 0,I N 1,I N c.s,jj ⟨#[]⟩,jb A 0 0] 128));rw[<-d]at D m t⊢;clear d bf;refine L ?_;refine bi ?_;refine jU ?_
 go_wp2_with fail
 go_ret;have d:=λg (B:w.heap.size<=g/\g<wr.heap.size)=>(show w.heap.size<=g/\g<z.heap.size from⟨B.1,jO B.2 m.size⟩)
 have f:=λg (B:w.heap.size<=g/\g<wr.heap.size)=>m.block g B.2
 refine⟨_,T,⟨[ci,ci,ci,ci,jb WF n1 WE,jb s c.path.length cu,jb Yb n2 WZ,jb n n3 o,ci,ci,ci],D,?_⟩,C.trans (m.mono C.size)⟩;have p:aw (λg=>w.heap.size<=g/\g<z.heap.size) z (vL (c.path.map vI)) (jb s c.path.length cu):=mU t (λg B=>by
  have h:=t.lt g B;exact⟨jz C.size h.1,h.2⟩)
 exact aC.cons (eD _) (aC.cons (eD _) (aC.cons (mu _) (aC.cons (eD _) (aC.cons (aw.mono d _ _ (aw.keep f _ _ Vr.out)) (aC.cons p (aC.cons (aw.mono d _ _ (aw.keep f _ _ bw.out)) (aC.cons (aw.mono d _ _ (aw.keep f _ _ x.out)) (aC.cons (mu _) (aC.cons (eD _) (aC.cons (eD _) aC.nil))))))))))
theorem Z(h:jk (w.heap[B]?=ja o))(w':jl w w a):jk (a.heap[B]?=ja o):=O (az h w')
def de(s:ByteArray)(l:jg Val):af:=cS (aX s) (enc (vL l))
theorem et(s l):(de s l).length=32:=gX _ _
theorem iC(l:jg Val):enc (vL l)=3#8::(bV l.length++encs l):=by rw[vL,enc,jH G,jH G]
structure eu(l:jg Val):Prop where
 wf:aU 16 (vL l)
 len:(enc (vL l)).length<=800000
theorem eu.take(h:eu f)(i:f.length<128)(k:je):eu (f.take k):=by
 have g:=h.wf;have j:=h.len;refine⟨?_,?_⟩
 ·unfold vL at g⊢
  rw[aU]at g⊢
  rcases g with⟨e,-⟩|⟨e,-⟩|⟨a,b,c,d,l⟩
  ·exact jE e G
  ·exact jE e G
  exact .inr (.inr ⟨a,b,c,xp (xq _ _) d,λx m=>l x (List.mem_of_mem_take m)⟩)
 rw[iC]at j⊢;have a:(bV (f.take k).length).length=1:=by rw[kF (xp (xq _ _) i)];rfl
 have b:(bV f.length).length=1:=by rw[kF i];rfl
 have:=sj f k;simp only[jX,jM]at j⊢;omega
theorem ee(l:af):(l.map v8).toArray.all (·.oneCell')=jf:=by
 rw[Array.all_eq_true_iff_forall_mem];intro a b;exact g8 _ a (ah b)
theorem lL(s:ByteArray)(F:s.size<=1000)(l:jg Val)(v:ji)(w:jh)(a:aw (·<w.heap.size) w (vL l) v)(b:eu l)(d:en w)(f:fU w):
 jq jm 51 #[jj s,v] w λe w'=>e=jo (jr ((de s l).map v8).toArray)/\jl w w w':=by
 obtain⟨p,c,rfl⟩:=a.form;have h:(vL l).l.length=l.length:=T;rw[h]at a⊢;obtain⟨n,i⟩:=J l.length;rw[<-i]at a⊢;have j:=O a;have g:=O b;have x:=O d;have y:=O f;clear a b d f i h;have b:=js w (jd aT 23);have a:=ai w (jd aT 23);have d:(w.alloc (jd aT 23)).heap.size=w.heap.size+1:=by simp
 obtain⟨o,f⟩:=J (w.alloc (jd aT 23));obtain⟨D,h⟩:=J w.heap.size;rw[<-f]at b a d;rw[<-h]at b d;have i:=O b;have k:=O a;have m:=O f;have q:=O h;have u:D<o.heap.size:=Y;clear b a d f h
 go_enter func51,ntmps51
 go_wp2_with fail
 rw[<-m,<-q];refine(kP p n c o).mono ?_;rintro e h ⟨rfl,a⟩;have r:=Z i a;have d:=ac k a;have t:jk (aw (·<h.heap.size) h (vL l) (jb p n c)):=O (aw.mono (λb (f:b<w.heap.size)=>jO f d.size) _ _ (aw.keep (λb f=>d.block b f) _ _ j.out));clear a k i u m
 go_wp2_with fail
 refine(yi (vL l) _ 3 h T g.wf t (bL g.len)).mono ?_;rintro e z ⟨H,rfl,b,a⟩;have u:=Z r a;have f:=ac d a;have B:=O (aP.of_own b);obtain⟨K,M,rfl⟩:=a8 b;clear a b d r t j
 go_wp2_with fail
 refine(pJ s Y _ (enc (vL l)) (bL g.len) z B (x.below f (jn _)) (y.below f (jn _))).mono ?_;rintro e d ⟨rfl,a⟩;have r:=Z u a;have t:=ac f a;have i:((cS (aX s) (enc (vL l))).map v8).toArray.size=32:=by rw[jT,jD,gX]
 have j:=ee (cS (aX s) (enc (vL l)));obtain⟨b,k⟩:=J (((cS (aX s) (enc (vL l))).map v8).toArray);rw[<-k]at i j⊢;have C:=O k;have m:=O i;have E:=O j;clear k i j a u f
 go_wp2_with (refine ms T λ_ a=>oj 23 _ _ T D b T T 23 _ r.out (by rw[m];rfl) (by rw[m];simp) E (a _ _ ?_))
 have a:(d.setRow D b).heap[D]?=ja (jd b 23 (0,0)):=ol _ _ _ _ _ _ r.out;have f:jl w w (d.setRow D b):=oo t.out (by rw[q];exact jn _) _;generalize d.setRow D b=k at a f⊢;have i:=O f;have j:=O a;clear a f
 go_wp2_with fail
 refine j0 (v:=jr b) ?_ T ?_
 ·exact qj T _ _ _ 23 _ (0,0) _ T j underlying23 T (by rw[m];rfl)
 exact⟨by rw[C];rfl,i⟩
theorem ay.take{p:jQ jK}{h:je}(sz:ay D w (jb p B m) h B b){k:je}(hk:k<=B):ay D w (jb p k m) h k (b.take (k*h)):=by
 obtain⟨xs,s,t,e,u,d,f⟩:=sz;injection e with i v l
 subst i;subst l;refine⟨?_,p,m,T,by omega,d,λx=>?_⟩
 ·rw[nz,xs,qn (qV _ hk)]
 obtain⟨g,o,e,c,q⟩:=f Y;refine⟨g,o,e,c,λj r a=>q j r ?_⟩;rw[xh]at a
 split at a
 ·exact a
 cases a
theorem Fz:∀(l:jg Val) (a:jg ji) (k:je),a.length=l.length->bU (l.take k) (a.take k)=(bU l a).take (k*4)
 |[],a,k,h=>by
  have:a=[]:=qb (ah h);subst this;simp[bU]
 |x::l,[],k,h=>by simp at h
 |x::l,b::a,0,h=>by simp[bU]
 |x::l,b::a,k+1,h=>by
  have c:(eS x b).length=4:=T;simp only[xr,bU,Fz l a k (ah h)];have e:List.take ((k+1)*4) (eS x b)=eS x b:=lm (by rw[c];omega);rw[List.take_append,c,show(k+1)*4-4=k*4 by omega,e]
theorem aC.take:∀{l:jg Val} {a:jg ji} (k:je),aC D w l a->aC D w (l.take k) (a.take k)
 |[],a,k,h=>by rw[aC]at h;subst h;simp[aC]
 |x::l,a,0,h=>by simp[aC]
 |x::l,a,k+1,h=>by
  rw[aC]at h;obtain⟨b,e,rfl,c,d⟩:=h;simp only[xr];rw[aC];exact⟨b,_,T,c,aC.take k d⟩
theorem tF{h:je}(n:w.ownsRow B e m c h b)(i:0<h):∃g v,c=jb (ja ⟨g,0,A⟩) h v/\h<=v/\B<=g/\g<w.heap.size:=by
 rcases n.2 with⟨rfl,j⟩|⟨g,a,k,rfl,xs,d,f,-⟩
 ·omega
 exact⟨g,a,T,f,xs,(jL.1 d).1⟩
theorem ts(c:aD):(aJ c).length=11:=T
theorem iV.val{c:aD}{p:jQ jK}{n d:je}(h:iV w w' c (jb p n d))(k:je)(hk:k<=11):n=11/\aw (·<w'.heap.size) w' (vL ((aJ c).take k)) (jb p k d):=by
 obtain⟨j,a,f⟩:=h;obtain⟨_,_,e⟩:=a8 a;injection e with o l q
 subst l;have m:=f.len;refine⟨T,?_⟩;rw[vL,aw];have i:=(ay.of_own (D:=(·<w'.heap.size)) a (λg b=>(a.lt g b).2)).take hk;rw[<-Fz _ _ _ m]at i;refine⟨j.take k,?_,aC.mono (λg b=>b.2) _ _ (f.take k)⟩;rw[nz,ts,qn hk];exact i
theorem wV{x:Val}(h:x∈f):(enc x).length<=(encs f).length:=by
 obtain⟨i,a⟩:=xo h;have b:=sj f (i+1);rw[r8 a,jM]at b;omega
theorem JC(l:jg Val):l.length<=(enc (vL l)).length:=by
 have:=po l;rw[iC,jX,jM];omega
theorem eu.lens{c:aD}(h:eu (aJ c)):c.chg.length<=1000000/\c.path.length<=1000000/\c.box.length<=1000000/\c.wel.length<=1000000:=by
 have g:=h.len;have k:∀l:jg Val,vL l∈aJ c->l.length<=1000000:=λl f=>by
  have a:=wV f;have b:=JC l;have d:(encs (aJ c)).length<=(enc (vL (aJ c))).length:=by rw[iC,jX,jM];omega
  omega
 have a:=k (c.chg.map ak.val) (by simp[aJ]);have b:=k (c.path.map vI) (by simp[aJ]);have d:=k (c.box.map Bx.val) (by simp[aJ]);have e:=k (c.wel.map Wl.val) (by simp[aJ]);rw[jD]at a b d e;exact⟨a,b,d,e⟩
structure da(w:jh):Prop where
 num:en w
 start:fU w
theorem da.below(h:da w)(a:jl w w w'):da w':=⟨h.num.below a (jn _),h.start.below a (jn _)⟩
def pL:ByteArray:=⟨#[99,111,109,109,105,116]⟩
def rK:ByteArray:=⟨#[99,111,109,109,105,116,32,115,105,103,110]⟩
def idC(c:aD):af:=de pL (aJ c)
def dJ(c:aD):af:=de rK ((aJ c).take 9)
theorem tJ(c):(idC c).length=32:=et _ _
theorem Ku(c):(dJ c).length=32:=et _ _
theorem fN:(jm.info? 63).map (·.size)=ja 73:=by kernel_rfl
theorem CO(c:aD)(q:CQ)(w:jh)(h:aF (·<w.heap.size) w c q)(m:eu (aJ c))(n:da w):
 jq jm 23 #[jr (av c q).toArray] w λe w'=>e=jo (jr ((idC c).map v8).toArray)/\jl w w w':=by
 have y:=O h;have o:=O m;have r:=O n;obtain⟨d,i⟩:=J ((av c q).toArray);rw[<-i];have s:=O i;have p:d.size=73:=by rw[i,jT,fa c q h.plen h.clen]
 have z:=O p;have f:=js w (jd d 63);have g:=js (w.alloc (jd d 63)) (jd aT 23);have a:jl w w ((w.alloc (jd d 63)).alloc (jd aT 23)):=((jy _ w).alloc (jn _) _).alloc ax _;replace f:=az f (ai (w.alloc (jd d 63)) (jd aT 23));rw[jF]at g;obtain⟨B,j⟩:=J ((w.alloc (jd d 63)).alloc (jd aT 23));obtain⟨b,k⟩:=J w.heap.size;rw[<-j]at g a f;rw[<-k]at g f;have t:=O g;have l:=O a;have u:=O f;have v:=O j;have x:=O k;clear g a j k f i p h m n
 go_enter func23,ntmps23
 go_upto_region 1 with fail
 rw[<-v,<-x];clear v
 go_wp2_with (refine nn T 63 _ T b T 63 d (0,0) _ u.out underlying63 T (by rw[z];exact fN) ?_)
 obtain⟨h,i,j,k⟩:=o.lens;rw[s];refine(oX c q B (y.below l) h i j k).mono ?_;rintro e C ⟨v,rfl,f,a⟩;obtain⟨p,m,rfl⟩:∃p m,v=jb p 11 m:=by obtain⟨K,D,-⟩:=f;exact a8 D
 have E:=O f;have n:=Z t a;have g:=ac l a;rw[<-s];clear f a t l u h i j k
 go_wp2_with fail
 refine(lL pL G (aJ c) _ C (E.val 11 (jn _)).2 o (r.below g).num (r.below g).start).mono ?_;rintro e h ⟨rfl,a⟩;have t:=Z n a;have u:=ac g a;have i:((de pL (aJ c)).map v8).toArray.size=32:=by rw[jT,jD,et]
 have j:=ee (de pL (aJ c));obtain⟨f,k⟩:=J (((de pL (aJ c)).map v8).toArray);rw[<-k]at i j⊢;have F:=O k;have l:=O i;have H:=O j;clear k i j a n g
 go_wp2_with (refine ms T λ_ a=>oj 23 _ _ T (b+1) f T T 23 _ t.out (by rw[l];rfl) (by rw[l];simp) H (a _ _ ?_))
 have a:(h.setRow (b+1) f).heap[b+1]?=ja (jd f 23 (0,0)):=ol _ _ _ _ _ _ t.out;have g:jl w w (h.setRow (b+1) f):=oo u.out (by rw[x];omega) _;generalize h.setRow (b+1) f=k at a g⊢;have i:=O g;have j:=O a;clear a g
 go_wp2_with fail
 refine j0 (v:=jr f) ?_ T ?_
 ·exact qj T _ _ _ 23 _ (0,0) _ T j underlying23 T (by rw[l];rfl)
 exact⟨by rw[F];rfl,i⟩
theorem uj{P:qB}(t e:jI)(k:je)(a:P.underlying t=ja (.slice e))(b:∀w,(sizeOf e).run P w=.ok k w)(g o n c h:je)(d:h<=c)(W:jh):
 (Instr.sliceAt t (jb (ja ⟨g,o,A⟩) n c) A (ja (I N (h:jc))) A).run P W=.ok (jb (ja ⟨g,o,A⟩) h c) W:=by
 have he:P.elem t=e:=by simp[Program.elem,a]
 rw[run_sliceAt_slice W t _ _ _ _ (by rw[he];exact a),run_slice_h W t _ n c (by rw[he];exact a) .i64 _ Y Y,he];simp[b,Result.andThen,sliced,Addr.add]
 try(split<;>simp_all)
theorem uK:∀w,(sizeOf 128).run jm w=.ok 4 w:=λw=>by go_simp
theorem mY(h:w.heap[B]?=ja (jd (j.map v8).toArray 23 (0,0)))(a:j.length=32):aP w (jb (ja ⟨B,0,A⟩) 32 32) j:=by
 refine⟨_,32,by rw[a],by rw[a];exact jn _,(λh=>by cases h),λ_=>⟨B,0,T,λl b=>ae h ?_⟩⟩;rw[kn];simp[jR,b]
theorem FB(c:aD)(q:CQ)(w:jh)(f:aF (·<w.heap.size) w c q)(l:eu (aJ c))(m:da w):
 jq jm 54 #[jr (av c q).toArray] w λe w'=>∃D,e=jo (jb (ja ⟨D,0,A⟩) 32 32)/\aP w' (jb (ja ⟨D,0,A⟩) 32 32) (dJ c)/\jl w w w':=by
 have y:=O f;have o:=O l;have p:=O m;obtain⟨i,g⟩:=J ((av c q).toArray);rw[<-g];have r:=O g;have n:i.size=73:=by rw[g,jT,fa c q f.plen f.clen]
 have z:=O n;have d:=js w (jd i 63);have a:=ai w (jd i 63);obtain⟨B,h⟩:=J (w.alloc (jd i 63));obtain⟨b,j⟩:=J w.heap.size;rw[<-h]at a d;rw[<-j]at d;have k:=O a;have s:=O d;have t:=O h;have C:=O j;clear a h j d g n f l m
 go_enter func54,ntmps54
 go_upto_region 1 with fail
 rw[<-t,<-C];clear t
 go_wp2_with (refine nn T 63 _ T b T 63 i (0,0) _ s.out underlying63 T (by rw[z];exact fN) ?_)
 obtain⟨m,n,t,u⟩:=o.lens;rw[r];refine(oX c q B (y.below k) m n t u).mono ?_;rintro e E ⟨v,rfl,j,a⟩;obtain⟨l,f,rfl,P⟩:∃g f,v=jb (ja ⟨g,0,A⟩) 11 f/\11<=f:=by
  obtain⟨H,h,-⟩:=j;obtain⟨g,c,x,F,-⟩:=tF h G;exact⟨g,c,x,F⟩
 have F:=O j;have h:=ac k a;have H:∀W,(Instr.sliceAt 107 (jb (ja ⟨l,0,A⟩) 11 f) A (ja (I N 9)) A).run jm W=.ok (jb (ja ⟨l,0,A⟩) 9 f) W:=λW=>uj 107 128 4 sn uK l 0 11 f 9 Y W
 rw[<-r];clear j a k s m n t u
 go_wp2_with fail
 refine(lL rK G ((aJ c).take 9) _ E (F.val 9 G).2 (o.take (by rw[ts];decide) 9) (p.below h).num (p.below h).start).mono ?_;rintro e j ⟨rfl,a⟩;have s:=ac h a;have t:((de rK ((aJ c).take 9)).map v8).toArray.size=32:=by rw[jT,jD,et]
 have k:=ee (de rK ((aJ c).take 9));obtain⟨m,n⟩:=J (((de rK ((aJ c).take 9)).map v8).toArray);rw[<-n]at t k⊢;have u:=O n;have Q:=wO j aT m T t k;have x:=js j (jd m 23);have K:=O x;have M:=O (s.trans ((ai j (jd m 23)).mono s.size));clear n a h k x H
 go_wp2_with fail
 go_ret;have h:=K.out;rw[u]at h;have d:=mY h (et _ _);rw[<-u]at d;refine⟨j.heap.size,T,?_,M⟩;exact d
structure vB(b:je)(a:af)(w w':jh):Prop where
 buf:Buf b a w'
 bel:jl b w w'
theorem Gd(k:af)(g:je){W:jh}{t:jI}(h:W.heap[g]?=ja (jd (k.map v8).toArray t (0,0))):∀j v,(k.map v8)[j]?=ja v->W.cell? ((⟨g,0,A⟩:jK).add j)=ja v:=by
 intro j v a;have e:(⟨g,0,A⟩:jK).add j=⟨g,j,A⟩:=by unfold Addr.add;split<;>simp_all
 rw[e];exact ae h (by rw[List.getElem?_toArray];exact a)
theorem Ex(b:je)(a cs:af)(g n c:je)(w:jh)(h:Buf b a w)(d:cs.length=n)(f:g≠b)(i:∀j v,(cs.map v8)[j]?=ja v->w.cell? ((⟨g,0,A⟩:jK).add j)=ja v)(l:a.length+n<=1000000):
 jq jm 115 #[jA (ja ⟨b,0,A⟩),jb (ja ⟨g,0,A⟩) n c] w λe w'=>e=jo (jw #[I N n,.nilIface])/\vB b (a++cs) w w':=by
 refine(Tryz.Buffer_Write_at _ _ b b 0 (a.map v8) (cs.map v8) ⟨g,0,A⟩ n c w h (q8 h.lt) (sl _) (by rw[jD];exact d) f i (sl _) (by rw[jD];omega)).mono ?_;rintro e w' ⟨rfl,j,k,-⟩;exact⟨T,by unfold Buf;rw[j6];exact j,k⟩
theorem sQ(b:je)(a k:af)(w:jh)(h:Buf b a w)(hk:k.length=32)(q:a.length<=900000):
 jq jm 114 #[jA (ja ⟨b,0,A⟩),jr (k.map v8).toArray] w λe w'=>e=jo (jA (ja ⟨b,0,A⟩))/\vB b (a++k) w w':=by
 obtain⟨i,l⟩:=J ((k.map v8).toArray);rw[<-l];have o:=h.lt;have d:=ai w (jd i 64);have m:=js w (jd i 64);obtain⟨c,f⟩:=J (w.alloc (jd i 64));obtain⟨g,n⟩:=J w.heap.size;have r:=O f;have s:=O n;rw[<-f]at d;rw[<-f,<-n]at m;have t:jk (g≠b):=O Y;have p:=O (h.keep d);have u:=O (d.mono (q8 o));have x:jk (∀j v,(k.map v8)[j]?=ja v->c.cell? ((⟨g,0,A⟩:jK).add j)=ja v):=O (Gd k g (by rw[<-l];exact m));have v:=O hk;have y:jk (a.length+32<=1000000):=O Y;clear l h o d m f n hk q
 go_enter func114,ntmps114
 go_upto_region 1 with fail
 rw[<-r,<-s];refine jV ?_;refine bY (λd=>True) (.t 0 (.t 1 (.t 2 (.t 3 (.o 4 .done))))) ag ag ag G (λ_ _ _ _ h=>h) trivial ?_;iterate 4 refine aL ?_
 refine ar T (λd f=>?_);go_simp;refine(Ex b a k g 32 32 c.drew (p.keep (bz c)) v t x y).mono ?_;rintro e l ⟨rfl,d⟩;have j:jk (vB b (a++k) c l):=O ⟨d.buf,((bz c).mono (q8 p.lt)).trans d.bel⟩;clear d;refine f _ _ trivial λ_=>?_
 clear f;refine L ?_;refine jU ?_
 go_wp2_with fail
 go_ret;exact⟨T,j.buf,u.trans j.bel⟩
theorem Bg(b:je)(a:af)(s:ByteArray)(B:s.size<=100000)(w:jh)(h:Buf b a w)(C:a.length<=900000)(t:da w):
 jq jm 116 #[jA (ja ⟨b,0,A⟩),jj s] w λe w'=>e=jo (jr ((cS (aX s) a).map v8).toArray)/\jl w w w':=by
 obtain⟨g,i⟩:=J (cS (aX s) a);have j:=gX (aX s) a;rw[<-i]at j⊢;have k:(g.map v8).toArray.size=32:=by rw[jT,jD,j]
 have l:(g.map v8).toArray.all (·.oneCell')=jf:=by
  rw[List.all_toArray,List.all_eq_true];exact λc d=>sl _ c d
 obtain⟨m,n⟩:=J ((g.map v8).toArray);rw[<-n]at k l⊢;have D:=O n;have E:=O i;have o:=O k;have F:=O l;have c:=ai w (jd aT 64);have p:=js w (jd aT 64);obtain⟨H,d⟩:=J (w.alloc (jd aT 64));obtain⟨f,q⟩:=J w.heap.size;have K:=O d;rw[<-d]at c;rw[<-d,<-q]at p;have u:=O (h.keep c);have x:=O (t.below c);have y:=O c;have r:=O p;have z:=O q;clear h c p t n i j k l d q
 go_enter func116,ntmps116
 go_wp2_with fail
 rw[<-K,<-z];refine(Pb b a H u).mono ?_;rintro e l ⟨v,rfl,d,c⟩;have h:=pJ s B v a C l (aP.of_own (by rw[jD]at d;exact d)) (x.below c).num (x.below c).start;rw[<-E,<-D]at h;have j:=O h;have i:=O ((c.block _ (jL.1 r).1).trans r);have k:=ac y c;clear c r y u h d
 go_wp2_with fail
 refine j.mono ?_;rintro e h ⟨rfl,c⟩;have d:=O ((c.block _ (jL.1 i).1).trans i);have n:=ac k c;clear c i k j
 go_wp2_with (refine ms T λ_ c=>oj 64 _ _ T f m T T 64 _ d.out (by rw[o];rfl) (by rw[o];rfl) F (c _ _ ?_))
 have c:(h.setRow f m).heap[f]?=ja (jd m 64 (0,0)):=ol _ _ _ _ _ _ d.out;refine j0 (qj T _ _ f 64 _ (0,0) _ T c mb T (by rw[o];rfl)) T ?_;exact⟨T,oo n.out (by rw[z];exact jn _) _⟩
def kp(s:ByteArray)(nums:jg jc):Val:=vL (.mk 2 0 s []::nums.map vI)
def fi(k:af)(s:ByteArray)(nums:jg jc):af:=cS (aX ⟨#[100,101,114,105,118,101]⟩) (k++enc (kp s nums))
theorem oA(k s nums):(fi k s nums).length=32:=gX _ _
def kv(s:ByteArray)(nums:jg jc):jg ji:=[I N 2,I N 0,jj s,jb A 0 0]++ef nums
theorem Qn{a:ji}{s:ByteArray}{nums:jg jc}(b:w.ownsRow B 128 4 a (nums.length+1) (kv s nums))(c:∀g,a.ownBlock=ja g->D g):aw D w (kp s nums) a:=by
 rw[kp,vL,aw];refine⟨ci::j5 nums.length ci,?_,?_⟩
 ·rw[jX,jD];exact ay.of_own b c
 rw[aC];refine⟨ci,_,T,?_,uQ nums⟩;rw[aw];exact⟨[],⟨T,A,0,T,jn _,λ_=>rfl,λh=>jE h G⟩,by rw[aC]⟩
structure zj(s:ByteArray)(nums:jg jc):Prop where
 wf:aU 16 (kp s nums)
 len:(enc (kp s nums)).length<=800000
 cnt:nums.length<=100000
theorem OG(s:ByteArray)(l:jg jc)(n:jc):kv s (l++[n])=kv s l++[I N 1,I N n,jj ⟨#[]⟩,jb A 0 0]:=by
 unfold kv;rw[zN,j8]
theorem Lr{h:je}(n:w.ownsRow B e m c h b)(sz:0<h):∃g v,c=jb (ja ⟨g,0,A⟩) h v/\B<=g/\g<w.heap.size/\∀j xs,b[j]?=ja xs->w.cell? ((⟨g,0,A⟩:jK).add j)=ja xs:=by
 rcases n.2 with⟨rfl,o⟩|⟨g,f,p,rfl,i,d,q,r,s,k⟩
 ·omega
 refine⟨g,f,T,i,(jL.1 d).1,λj xs a=>?_⟩;have e:(⟨g,0,A⟩:jK).add j=⟨g,j,A⟩:=by unfold Addr.add;split<;>simp_all
 rw[e];refine ae d ?_;rw[<-k]at a;have l:=(xi.1 a).1;rw[nz]at l;rw[qU Y]at a;rw[<-a];simp
theorem Dc(h:∀j w',b[j]?=ja w'->w.cell? ((⟨B,0,A⟩:jK).add j)=ja w')(hk:a.heap[B]?=w.heap[B]?):∀j w',b[j]?=ja w'->a.cell? ((⟨B,0,A⟩:jK).add j)=ja w':=by
 intro j w' xs;have e:(⟨B,0,A⟩:jK).add j=⟨B,j,A⟩:=by unfold Addr.add;split<;>simp_all
 have:=h j w' xs;rw[e]at this⊢;exact(bX hk).trans this
theorem pM(k:af)(hk:k.length=32)(s:ByteArray)(l:jg jc)(v:ji)(w:jh)(hv:cV w v l)(f:zj s l)(E:da w):
 jq jm 47 #[jr (k.map v8).toArray,jj s,v] w λe w'=>e=jo (jr ((fi k s l).map v8).toArray)/\jl w w w':=by
 obtain⟨p,c,rfl,hc,r⟩:=hv;obtain⟨n,t⟩:=J l.length;have hl:=f.cnt;rw[<-t]at hc hl r⊢;have z:=O t;have B:=O f;have U:=O r;have C:=O hk;obtain⟨h,g⟩:=J ((k.map v8).toArray);have K:h.size=32:=by rw[g,jT,jD,hk]
 have u:=ai w (jd h 64);have x:=js w (jd h 64);have y:=ai (w.alloc (jd h 64)) (jd aT 64);have b:=js (w.alloc (jd h 64)) (jd aT 64);rw[jF]at b;obtain⟨a,i⟩:=J ((w.alloc (jd h 64)).alloc (jd aT 64));obtain⟨d,o⟩:=J w.heap.size;have q:=(y.block _ (jL.1 x).1).trans x;have m:=O (u.trans (y.mono u.size));have M:a.heap.size=d+1+1:=by rw[i,o];simp
 rw[<-o]at q b;rw[<-i]at q b m;rw[<-g];have V:=O g;have Sw:=O i;have F:=O o;have Ul:=O q;have R5:=O b;have H:=O E;have Sb:=O K;have j:=O M;clear t f r hk g u x y b i o q E K M
 go_enter func47,ntmps47
 go_upto_region 2 with fail
 rw[<-Sw,<-F];have b:=ai a (jd #[I N 2,I N 0,jj s,jb A 0 0] 128);have g:(a.alloc (jd #[I N 2,I N 0,jj s,jb A 0 0] 128)).ownsRow a.heap.size 128 4 (jb (ja ⟨d+1+1,0,A⟩) 1 1) 1 (kv s []):=by
  rw[<-j];refine⟨by simp[kv,ef,bU],.inr ⟨a.heap.size,1,_,T,jn _,js a _,jn _,by unfold j4;omega,rfl,by simp[kv,ef,bU]⟩⟩
 obtain⟨W2,i⟩:=J (a.alloc (jd #[I N 2,I N 0,jj s,jb A 0 0] 128));rw[<-i]at b g⊢;have RE:=O b;have W:=O g;obtain⟨v2,o⟩:=J (jS (ja ⟨d+1+1,0,A⟩) 1 1);rw[<-o]at W⊢;have bf:=b.size;clear b g i o
 go_wp2_with fail
 go_loopw [7,18] (λg b wr=>∃(i:je) (K:ji),g=K/\b=I N i/\i<=n/\jk (wr.ownsRow a 128 4 K (i+1) (kv s (l.take i)))/\jk (jl a a wr)) (λ_ b _=>n-(jv b).toNat)
 case atStart=>exact⟨0,_,T,T,jJ _,O (by rw[List.take_zero];exact W),RE⟩
 obtain⟨i,K,rfl,rfl,hi,t,q⟩:=hrel
 by_cases X:i<n
 ·have hd:=ao ((i:jc)<(n:jc))
  have Sm:=ao (i<n);obtain⟨g,o,rfl,u⟩:=U Y;have r:i<l.length:=by rw[<-z];exact X
  have E:l.getD i 0=l[i]:=by simp[jR,r]
  obtain⟨y,x⟩:=J (l.getD i 0);have b:=u i X;rw[<-x]at b;have M:wr.cell? ⟨g,o+i,A⟩=ja (I N y):=(bX (q.block g (jO (fb b) m.size))).trans ((bX (m.block g (fb b))).trans b);have H:jk (kv s (l.take (i+1))=kv s (l.take i)++[I N 1,I N y,jj ⟨#[]⟩,jb A 0 0]):=O (by
   rw[mz r,OG,x,E])
  have P:=q.size;clear E x b u r U
  go_wp2_with (at_builtin;refine Hid.out ?_)
  refine O ?_;refine ms T λ_ x=>iT _ _ T a.heap.size _ _ _ T (dx t (ai wr _)) _ 1 [I N 1,I N y,jj ⟨#[]⟩,jb A 0 0] T (eU wr [I N 1,I N y,jj ⟨#[]⟩,jb A 0 0] _ _ 4 1 1 T (jn _)) (by simp[j3]) (show i+1+1<=4000000 by omega) (by rw[jF];omega) λE w6 b=>x _ _ ?_
  have r:=O (q.trans (((ai wr _).mono (show a.heap.size<=wr.heap.size by omega)).trans (b.below (dx t (ai wr _)) (by rw[jF];omega))));replace b:=O b.own;clear x
  go_wp2_with fail
  refine⟨⟨i+1,_,T,by go_num,by omega,O (by rw[H];exact b),r⟩,?_⟩;simp only[jv];omega
 have hd:=ap ((i:jc)<(n:jc));have Sm:=ap (i<n);have o:i=n:=Y;have b:=t.out;rw[o,lm (by rw[<-z];exact jn _),z]at b;obtain⟨p7,c7,rfl⟩:=a8 b;have y:=Qn (D:=(·<wr.heap.size)) b (λg u=>(b.lt g u).2);have aa:=O (yi (kp s l) _ 3 wr T B.wf y (bL B.len));have bg:=O o;clear o b y t
 go_wp2_with fail
 refine aa.mono ?_;rintro e u ⟨vb,rfl,Tw,b⟩;have o:=ac q b;clear b
 go_upto_region 9 with fail
 have y:=Buf.new u;have g:=ai u (jd #[jb A 0 0,I N 0,.int .i8 0] 180);obtain⟨M,VQ⟩:=J (u.alloc (jd #[jb A 0 0,I N 0,.int .i8 0] 180));obtain⟨b,P⟩:=J u.heap.size;rw[<-VQ]at y g⊢;rw[<-P]at y⊢;have ad:=o.size;have Q:M.heap[d]?=ja (jd h 64 (0,0)):=(g.block _ (aA j)).trans ((o.block _ (aA j)).trans Ul);have al:M.heap[d+1]?=ja (jd aT 64 (0,0)):=(g.block _ (aA j)).trans ((o.block _ (aA j)).trans R5);have au:=Q;rw[V]at Q;obtain⟨R,cb,e3,bc,S,t⟩:=Lr Tw (BM _);subst e3;have a1:R<b:=by rw[P];exact S
 replace t:=Dc t (g.block _ S);obtain⟨E,f⟩:=J (enc (kp s l));have a2:E.length<=800000:=by rw[f];exact B.len
 rw[<-f]at t⊢;have a3:=O y;have a4:=O au;have Tj:=O al;have Ve:=O t;have bd:=O f;have a5:=O a1;have ba:=O a2;have RO:=O (m.trans ((o.mono m.size).trans (g.mono (jz m.size ad))));have Ys:jk (w.heap.size<=b):=O (eF j F);have bb:jk (d+1<b):=O (aA j);clear y g VQ P ad Q al au Tw bc S t a1 f a2 aa o q j hd Sm;refine qL ?_;refine nn T 64 _ T d T 64 h (0,0) _ a4.out mb T (by rw[Sb];rfl) ?_
 go_wp2_with fail
 have f:=sQ b [] k M a3 C ax;rw[<-V]at f;refine f.mono ?_;clear f;rintro e y ⟨rfl,f⟩;rw[mF]at f;have g:jk (∀j v,(E.map v8)[j]?=ja v->y.cell? ((⟨R,0,A⟩:jK).add j)=ja v):=O (by
  exact Dc Ve (f.bel.block _ a5.out))
 have j:=O ((f.bel.block _ bb.out).trans Tj);have q:=O (RO.trans (f.bel.mono Ys));have t:=O f.buf;clear f Tj RO Ve a4 a3
 go_wp2_with fail
 refine(Ex b k E R E.length cb y t T (Nat.ne_of_lt a5) g (by have:=ba.out;rw[C];omega)).mono ?_;rintro e w6 ⟨rfl,f⟩;have o:=O ((f.bel.block _ bb.out).trans j);have r:=O (q.trans (f.bel.mono Ys));have ad:=O f.buf;clear f j q t g;have f:=Bg b (k++E) ⟨#[100,101,114,105,118,101]⟩ G w6 ad (by have:=ba.out;rw[jM,C];omega) (H.below r);have P:cS (aX ⟨#[100,101,114,105,118,101]⟩) (k++E)=fi k s l:=by rw[bd];rfl
 rw[P]at f;have Q:=oA k s l;have q:=ee (fi k s l);obtain⟨g,j⟩:=J (((fi k s l).map v8).toArray);have S:g.size=32:=by rw[j,jT,jD,Q]
 rw[<-j]at f q;have aa:=O f;have al:=O j;have t:=O S;have au:=O q;clear f P Q q j S
 go_wp2_with fail
 refine aa.mono ?_;rintro e q ⟨rfl,f⟩;have j:=O ((f.block _ (jL.1 o).1).trans o);have P:=ac r f;clear f o r aa
 go_wp2_with (refine ms T λ_ x=>oj 64 _ _ T (d+1) g T T 64 _ j.out (by rw[t];rfl) (by rw[t];rfl) au (x _ _ ?_))
 have f:(q.setRow (d+1) g).heap[d+1]?=ja (jd g 64 (0,0)):=ol _ _ _ _ _ _ j.out;refine j0 (qj T _ _ (d+1) 64 _ (0,0) _ T f mb T (by rw[t];rfl)) T ?_;exact⟨by rw[al],oo P.out (by rw[F];exact Nat.le_succ _) _⟩
def nW(s:ByteArray)(a b:af):af:=cS (aX ⟨#[109,105,120]⟩) ([]++dq (aX s)++a++b)
theorem Ct(s a b):(nW s a b).length=32:=gX _ _
theorem Ke:(jm.info? 64).map (·.size)=ja 32:=by kernel_rfl
theorem rN{a:Act}{o:lo}{x:Operand}(e:g.size=32)(f:o.op=.load 64 x)(c:a.eval x=jA (ja ⟨B,0,A⟩))(i:w.heap[B]?=ja (jd g 64 (0,0))):
 (qg a.eval o).run jm w=.ok (.value (jr g)) w:=by
 have h:=rx (P:=jm) o a 64 x f B 0 c g.toList _ (tW (t:=64) (l:=g.toList) (ah i)) mb T (by rw[Array.length_toList,e];exact Ke)
 simpa using h
theorem Pi(s:ByteArray)(R:s.size<=100000)(g i:af)(q:g.length=32)(r:i.length=32)(w:jh)(S:da w):
 jq jm 84 #[jj s,jr (g.map v8).toArray,jr (i.map v8).toArray] w λe w'=>e=jo (jr ((nW s g i).map v8).toArray)/\jl w w w':=by
 obtain⟨A0,U⟩:=J (((dq (aX s)).map v8).toArray);obtain⟨k,t⟩:=J ((g.map v8).toArray);obtain⟨l,u⟩:=J ((i.map v8).toArray);have V:k.size=32:=by rw[t,jT,jD,q]
 have W:l.size=32:=by rw[u,jT,jD,r]
 have X:=Ct s g i;have z:=ee (nW s g i);obtain⟨m,x⟩:=J (((nW s g i).map v8).toArray);have aa:m.size=32:=by rw[x,jT,jD,X]
 rw[<-x]at z⊢;rw[<-t,<-u];obtain⟨f,d⟩:=J w.heap.size;obtain⟨j,c⟩:=J (((w.alloc (jd k 64)).alloc (jd l 64)).alloc (jd aT 64));have hp:j.heap[f]?=ja (jd k 64 (0,0)):=by
  rw[c,d];exact(jG _ _ _ (by simp;omega)).trans ((jG _ _ _ ax).trans (js w _))
 have ad:j.heap[f+1]?=ja (jd l 64 (0,0)):=by
  have h:=js (w.alloc (jd k 64)) (jd l 64);rw[jF]at h;rw[c,d];exact(jG _ _ _ ax).trans h
 have hr:j.heap[f+1+1]?=ja (jd aT 64 (0,0)):=by
  have h:=js ((w.alloc (jd k 64)).alloc (jd l 64)) (jd aT 64);rw[jF,jF]at h;rw[c,d];exact h
 have a:jl w w j:=by
  rw[c];exact(((jy _ w).alloc (jn _) _).alloc ax _).alloc (by simp;omega) _
 have al:j.heap.size=f+1+1+1:=by rw[c,d];simp
 have o:=Buf.new j;have n:=ai j (jd #[jb A 0 0,I N 0,.int .i8 0] 180);obtain⟨W2,B⟩:=J (j.alloc (jd #[jb A 0 0,I N 0,.int .i8 0] 180));rw[<-B]at o n;rw[al]at o;obtain⟨b,C⟩:=J (f+1+1+1);rw[<-C]at o;have D:jk (w.heap.size<=b):=O Y;have E:jk (f<b):=O Y;have F:jk (f+1<b):=O Y;have H:jk (f+1+1<b):=O Y;have au:=O o;have K:=Z hp n;have M:=Z ad n;have Se:=Z hr n;have RE:=O (a.trans (n.mono a.size));have HG:=O d;have Sw:=O c;have a3:=O B;have Ww:=O C;have SJ:=O U;have Sc:=O t;have Sy:=O u;have a4:=O V;have a5:=O W;have a1:=O x;have P:=O aa;have ba:=O z;have p:=O q;have a2:=O r;have Q:=O S;have y:jk (s.size<=100000/\(dq (aX s)).length=32):=O ⟨R,lJ _⟩;clear d c B C U t u V W x X aa z q r S R hp ad hr a al o n
 go_enter func84,ntmps84
 go_upto_region 2 with fail
 rw[<-HG,<-Sw,<-a3,<-Ww];refine jV ?_;refine bY (λc=>c.heap[f]?=ja (jd k 64 (0,0))/\c.heap[f+1]?=ja (jd l 64 (0,0))) (.t 0 (.t 4 (.t 6 (.o 1 (.o 2 (.o 3 (.o 5 (.o 7 (.o 8 (.o 9 .done)))))))))) ag ag ag G (λ_ _ _ _ h=>h) ⟨K,M⟩ ?_;obtain⟨o,d⟩:=J W2.drew;have a:=bz W2;rw[<-d]at a⊢;have x:=O (au.keep a);have z:=Z Se a;have B:=Z K a;have C:=Z M a;have R:=ac RE a;clear au Se K M RE a d;refine aL ?_
 (refine aE (v:=jr k) T aj (λc d=>rN a4 T T d.1) (L ?_))
 (refine aE (v:=jr l) T aj (λc d=>rN a5 T T d.2) (L ?_))
 refine ar T (λn c=>?_);go_simp;have d:=uz s o;rw[d];have a:=r6 s o o.heap.size (jn _);have h:=sI s o;obtain⟨V,t⟩:=J (eM s o);rw[<-t]at a h⊢;clear d t;have K:=O (x.keep a);have M:=Z z a;have t:=Z B a;have u:=Z C a;have d:=ac R a;clear x z B C R a;have W:=O h;clear h;go_simp;refine c _ _ ⟨t,u⟩ λ_=>?_
 clear c;refine L ?_;refine ar T (λn c=>?_);go_simp;have h:=sC _ _ (by rw[eW];have:=y.out;omega) V W (Q.below d).num (Q.below d).start;rw[<-SJ]at h;refine h.mono ?_;clear h;rintro e X ⟨rfl,a⟩;have B:=O (K.keep a);have C:=Z M a;have x:=Z t a;have z:=Z u a;have R:=ac d a;clear K M t u d a;refine c _ _ ⟨x,z⟩ λ_=>?_
 clear c;refine L ?_;refine ar T (λn c=>?_);go_simp;have h:=sQ b [] (dq (aX s)) X B (lJ _) (by have:=y.out;have:=p.out;simp only[km,jM];omega);rw[<-SJ]at h;refine h.mono ?_;clear h;rintro e x3 ⟨rfl,d⟩;have K:=O d.buf;have M:=O ((d.bel.block _ H.out).trans C);have t:=O ((d.bel.block _ E.out).trans x);have u:=O ((d.bel.block _ F.out).trans z);have S:=O (R.trans (d.bel.mono D));clear d B C x z R;refine c _ _ ⟨t,u⟩ λ_=>?_
 clear c;refine L ?_;refine ar T (λn c=>?_);go_simp;have h:=sQ b ([]++dq (aX s)) g x3 K p (by have:=y.out;have:=p.out;simp only[km,jM];omega);rw[<-Sc]at h;refine h.mono ?_;clear h;rintro e x4 ⟨rfl,d⟩;have C:=O d.buf;have R:=O ((d.bel.block _ H.out).trans M);have x:=O ((d.bel.block _ E.out).trans t);have z:=O ((d.bel.block _ F.out).trans u);have U:=O (S.trans (d.bel.mono D));clear d K M t u S;refine c _ _ ⟨x,z⟩ λ_=>?_
 clear c;refine L ?_;refine ar T (λn c=>?_);go_simp;have h:=sQ b ([]++dq (aX s)++g) i x4 C a2 (by have:=y.out;have:=p.out;simp only[km,jM];omega);rw[<-Sy]at h;refine h.mono ?_;clear h;rintro e S ⟨rfl,d⟩;have h:=O d.buf;have K:=O ((d.bel.block _ H.out).trans R);have t:=O ((d.bel.block _ E.out).trans x);have u:=O ((d.bel.block _ F.out).trans z);have B:=O (U.trans (d.bel.mono D));clear d C R x z U;refine c _ _ ⟨t,u⟩ λ_=>?_
 clear c;refine L ?_;refine ar T (λn c=>?_);go_simp;have d:=Bg b ([]++dq (aX s)++g++i) ⟨#[109,105,120]⟩ G S h (by have q:=lJ (aX s);have r:=p.out;have x:=a2.out;simp only[km,jM];omega) (Q.below B);have x:cS (aX ⟨#[109,105,120]⟩) ([]++dq (aX s)++g++i)=nW s g i:=T;rw[x]at d;rw[<-a1]at d;refine d.mono ?_;clear d x;rintro e d ⟨rfl,a⟩;have U:=O (h.keep a);have x:=Z K a;have C:=Z t a;have M:=Z u a;have R:=ac B a;clear h K t u B a;refine c _ _ ⟨C,M⟩ λ_=>?_
 clear c;refine L ?_;refine ar T (λn c=>?_);rw[jB aj];refine oj 64 _ _ T (f+1+1) m T T 64 _ x.out (by rw[P];rfl) (by rw[P];rfl) ba (c _ _ ⟨(qM _ _ _ _ Y).trans C,(qM _ _ _ _ Y).trans M⟩ λ_=>?_);clear c;have a:(d.setRow (f+1+1) m).heap[f+1+1]?=ja (jd m 64 (0,0)):=ol _ _ _ _ _ _ x.out;have c:jl w w (d.setRow (f+1+1) m):=oo R.out (by rw[HG];omega) _;generalize d.setRow (f+1+1) m=z at a c⊢;have h:=O a;have n:=O c;clear a c;refine L ?_;refine jU ?_
 go_wp2_with fail
 refine j0 (qj T _ _ (f+1+1) 64 _ (0,0) _ T h mb T (by rw[P];rfl)) T ?_;exact⟨by rw[a1],n⟩
theorem yt(w:jh):cV w (jb A 0 0) []:=⟨A,0,T,jn _,λh=>jE h ax⟩
theorem Fg(a:je)(b:a<2^64):(bV a).length<=10:=kT a b
theorem ze(s:ByteArray)(b:s.size<=1000):zj s [] where
 wf:=by
  rw[kp,vL,aU];refine .inr (.inr ⟨T,T,T,by simp,λx a=>?_⟩);simp only[q4,List.mem_cons,List.mem_nil_iff,or_false]at a;subst a;rw[aU];exact .inr (.inl ⟨T,T,by omega,rfl⟩)
 len:=by
  rw[kp,iC];simp only[q4,encs,enc];rw[jH G,jB trivial];have a:=Fg 1 G;have c:=Fg s.size Y;simp only[jX,jM,km,eW];simp only[km,kn];omega
 cnt:=by simp
theorem yH(h:w.heap[B]?=ja (jd (j.map v8).toArray e (0,0)))(a:j.length=32):aP w (jb (ja ⟨B,0,A⟩) 32 32) j:=by
 refine⟨_,32,by rw[a],by rw[a];exact jn _,(λh=>by cases h),λ_=>⟨B,0,T,λl b=>ae h ?_⟩⟩;rw[kn];simp[jR,b]
def tp(k:af)(s:ByteArray):je:=nS (aX ⟨#[115,99,97,108,97,114]⟩) (fi k s [])
theorem Fc(k:af)(hk:k.length=32)(s:ByteArray)(x:s.size<=1000)(w:jh)(h:da w):
 jq jm 107 #[jr (k.map v8).toArray,jj s] w λe w'=>e=jo (I N (tp k s:je))/\jl w w w':=by
 obtain⟨b,i⟩:=J ((k.map v8).toArray);have o:b.size=32:=by rw[i,jT,jD,hk]
 have a:=ai w (jd b 64);have c:=js w (jd b 64);obtain⟨y,j⟩:=J w.heap.size;obtain⟨z,l⟩:=J (w.alloc (jd b 64));rw[<-j]at c;rw[<-l]at c a;have d:=pM k hk s [] _ z (yt _) (ze s x) (h.below a);rw[<-i]at d⊢;have m:=oA k s [];have n:=ee (fi k s []);obtain⟨f,g⟩:=J (((fi k s []).map v8).toArray);have p:f.size=32:=by rw[g,jT,jD,m]
 rw[<-g]at n d;have B:=O j;have C:=O l;have D:=O a;have q:=O c;have r:=O d;have E:=O g;have t:=O p;have u:=O m;have F:=O n;have H:=O o;have v:=O h;clear i o a c j l d m n g p h
 go_enter func107,ntmps107
 go_upto_region 1 with fail
 rw[<-B,<-C];refine qL ?_;refine nn T 64 _ T y T 64 b (0,0) _ q.out mb T (by rw[H];rfl) ?_
 go_wp2_with fail
 refine r.mono ?_;rintro e a ⟨rfl,c⟩;have g:=ac D c;clear c r q
 go_wp2_with (refine ms T λ_ j=>oj 64 _ _ T a.heap.size f T T 64 _ (js a _) (by rw[t];rfl) (by rw[t];rfl) F (j _ _ ?_))
 obtain⟨h,c⟩:=J ((a.alloc (jd aT 64)).setRow a.heap.size f);have i:h.heap[a.heap.size]?=ja (jd f 64 (0,0)):=by rw[c];exact ol _ _ _ _ _ _ (js a _)
 have d:jl w w h:=by rw[c];exact oo (g.trans ((ai a _).mono g.size)) g.size _
 rw[E]at i;have l:=F3 ⟨#[115,99,97,108,97,114]⟩ G _ _ (by rw[u];decide) h (yH i u) (v.below d).num (v.below d).start;rw[<-c];have m:=O d;clear i c j d;refine l.mono ?_;clear l;rintro e i ⟨rfl,c⟩;have d:=ac m c;clear c
 go_wp2_with fail
 go_ret;exact⟨T,d⟩
theorem Iv(n:je)(r:n<=1000000)(w:jh):
 jq jm 175 #[jb A 0 0,I N n] w λe w'=>∃v,e=jo v/\w'.ownsRow w 128 4 v 0 []/\jl w w w':=by
 rcases qv n with b|b
 ·subst b
  go_enter func175,ntmps175
  go_wp2
  go_ret;exact⟨_,T,j1 _ _ _ _,jy _ _⟩
 obtain⟨i,f,g,j,h⟩:=oi A9;have a:=Lib.run_append_nil_zeros (P:=jm) w 107 3 107 128 i (jr #[I N 0,I N 0,jj ⟨#[]⟩,jb A 0 0]:ji) .i64 .i64 sn jP f g n b Y Y (by rw[h];omega);have l:=grownCap_ge w n 0 128;have c:=grownCap_le_maxLen w n 0 128 (by unfold j4;omega);generalize grownCap w n 0 128=C at a l c;have d:(Builtin.zeroCells (jr #[I N 0,I N 0,jj ⟨#[]⟩,jb A 0 0]:ji).cells n++Builtin.zeroCells (jr #[I N 0,I N 0,jj ⟨#[]⟩,jb A 0 0]:ji).cells (C-n)).size=C*4:=by
  rw[Array.size_append,size_zeroCells,size_zeroCells];show n*4+(C-n)*4=C*4;omega
 generalize Builtin.zeroCells (jr #[I N 0,I N 0,jj ⟨#[]⟩,jb A 0 0]:ji).cells n++Builtin.zeroCells (jr #[I N 0,I N 0,jj ⟨#[]⟩,jb A 0 0]:ji).cells (C-n)=m at a d;have o:=O a;have p:=O d;have q:=O c;clear a d c f g j h;have a:(0:jc)<(n:jc):=Y
 go_enter func175,ntmps175
 go_wp2_with (at_builtin;refine Lib.wpList_append_run _ T _ _ 107 3 T _ _ T T _ _ o.out ?_)
 go_ret;refine⟨_,T,⟨T,.inr ⟨w.heap.size,C,m,T,jn _,js w.drew _,jJ _,q,p,T⟩⟩,?_⟩;exact⟨T,T,T,by simp,λk hk=>jG w.drew _ _ hk⟩
def rb(w:jh)(v:ji)(l:jg (jg ji)):Prop:=cO w v 4 l.length l.flatten
def fB(a:jg (jg (jg ji)))(k:je):jg (jg ji):=(a.take k).flatten
theorem Ew(a:jg (jg (jg ji)))(k:je)(hk:k<a.length):fB a (k+1)=fB a k++a.getD k []:=by
 unfold fB;rw[List.take_add_one,xt];simp[hk,jR]
theorem wu(a:jg (jg (jg ji)))(k:je):(fB a k).length<=a.flatten.length:=by
 have h:a.flatten=fB a k++(a.drop k).flatten:=by
  unfold fB;rw[<-xt,xj]
 rw[h];simp
theorem Og(g m:je)(t:jI)(h:jg ji)(a:jg (jg (jg ji)))(z:h.length=m)(B:a.length=m)(U:a.flatten.length<=1000000)(w:jh)
 (b:w.heap[g]?=ja (jd h.toArray t (0,0))) (c:∀i,i<m->rb w (h.getD i ju) (a.getD i [])) (V:m<=1000) (d:∀e∈a.flatten,∀o∈e,o.oneCell'=jf):
 jq jm 117 #[jb (ja ⟨g,0,A⟩) m m] w λe w'=>∃v,e=jo v/\w'.ownsRow w 128 4 v a.flatten.length a.flatten.flatten/\jl w w w':=by
 have C:g<w.heap.size:=(jL.1 b).1;have f:jk (∀i,i<m->w.cell? ⟨g,i,A⟩=ja (h.getD i ju)):=O λi D=>by
  simp[j7,b,z,D,jR]
 have u:=O c;have E:=O d;clear c b d
 go_enter func117,ntmps117
 go_wp2_with fail
 go_loopw [3,11] (λs b wr=>∃k:je,b=I N k/\k<=m/\s=I N ((fB a k).length:je)/\wr=w) (λ_ b _=>(m-jv b).toNat)
 case atStart=>exact⟨0,T,by omega,rfl,rfl⟩
 obtain⟨k,rfl,hk,rfl,c⟩:=hrel;have F:=c.symm;subst F;clear c
 by_cases s:k<m
 ·have l:=f k s
  have H:=wu a (k+1);have d:=Ew a k Y;obtain⟨n,p,c,j,x,y,q⟩:=u k s;rw[j]at l;have r:(fB a (k+1)).length=(fB a k).length+(a.getD k []).length:=by rw[d];simp
  clear j q d n;generalize(a.getD k []).length=n at l r x;have j:=O r;clear r;generalize(fB a k).length=q at j⊢;have K:¬((q:jc)+(n:jc)<0):=Y;have M:q+n<=1000000:=aA j
  go_wp2
  refine⟨⟨k+1,by go_num,by omega,?_,trivial⟩,by simp[jv];omega⟩;rw[j];simp
 have W:jk (k=m):=O Y;have H:=wu a k
 go_wp2_with fail
 refine(Iv _ Y _).mono ?_;rintro e X ⟨v,rfl,K,c⟩;have M:=O c;clear c
 go_wp2_with fail
 go_loopw [6,27] (λl b c=>∃j:je,b=I N j/\j<=m/\c.ownsRow w 128 4 l (fB a j).length (fB a j).flatten/\jk (jl w w c)) (λ_ b _=>(m-jv b).toNat)
 case atStart=>exact⟨0,T,by omega,by simpa [fB]using K,M⟩
 obtain⟨j,rfl,hj,b,c⟩:=hrel
 by_cases x:j<m
 ·have P:=fG (f j x) (c.block _ C)
  have l:=cO.below (u j x) c;have d:=Ew a j Y;have y:=wu a (j+1);generalize h.getD j ju=vj at P l;have n:∀o∈(a.getD j []).flatten,o.oneCell'=jf:=λo p=>by
   obtain⟨e,he,p⟩:=xw.1 p;refine E e (xw.2 ⟨a.getD j [],?_,he⟩) o p;have q:j<a.length:=Y;simp[jR,q]
  generalize a.getD j []=q at d l n;have aa:=c.size;have r:(fB a j).length+q.length<=1000000:=by rw[d,jM]at y;omega
  have Q:=O d;have R:=O n;have S:=O l;clear d l y n
  go_wp2_with (at_builtin;refine Hid.out ?_)
  refine O ?_;refine ms T λ_ d=>iT _ _ T w.heap.size _ _ _ T b _ q.length q.flatten T S R Y Y λy w4 f=>d _ _ ?_
  have l:=f.own;have n:=f.grown;clear f d
  go_wp2_with fail
  go_roundw
  case rel=>
   refine⟨j+1,by go_num,by omega,?_,c.grown n Y (λk e=>(b.lt k e).1)⟩;rw[Q]
   simpa using l
  case measure=>simp[jv];omega
 have d:j=m:=Y;have l:fB a j=a.flatten:=by rw[d,<-B];simp[fB]
 rw[l]at b;have n:=O b;clear b d l
 go_wp2
 go_ret;exact⟨_,T,n,c⟩
def lK(w:jh):Prop:=w.var? jm "chartroom/schedule.labels" =ja #[jj ⟨#[105,110,105,116]⟩,jj ⟨#[99,111,109,109,105,116]⟩,jj ⟨#[99,104,105,108,100]⟩]
theorem yh:jm.globalNamed "chartroom/schedule.labels" =ja 0:=by kernel_rfl
theorem lK.below(h:lK w)(b:jl w w w'):lK w':=by
 unfold lK World.var? at*;rw[yh]at h⊢;simp only[Option.bind_some]at h⊢;have c:0<w.heap.size:=by
  rcases qs 0 w.heap.size with a|a
  ·exact a
  rw[Array.getElem?_eq_none a]at h
  cases h
 rw[b.block _ c];exact h
theorem lK.c0(h:lK w):w.cell? ⟨0,0,A⟩=ja (jj ⟨#[105,110,105,116]⟩):=by
 have:=xx yh h 0
 simpa using this
theorem lK.c1(h:lK w):w.cell? ⟨0,1,A⟩=ja (jj ⟨#[99,111,109,109,105,116]⟩):=by
 have:=xx yh h 1
 simpa using this
structure gy(w:jh):Prop where
 dig:da w
 lab:lK w
theorem gy.below(h:gy w)(a:jl w w w'):gy w':=⟨h.dig.below a,h.lab.below a⟩
def pO(a:ByteArray)(k:af):af:=fi k a []
def sF(init a:af):af:=nW ⟨#[101,112,111,99,104]⟩ init (pO ⟨#[99,111,109,109,105,116]⟩ a)
def mx(s:af):je:=tp s ⟨#[110,111,100,101]⟩
theorem vO(l k):(pO l k).length=32:=oA _ _ _
theorem vx(l k):(sF l k).length=32:=Ct _ _ _
structure Arr(l:af)(a:jZ ji):Prop where
 eq:a=(l.map v8).toArray
 sz:a.size=32
 one:a.all (·.oneCell')=jf
theorem Arr.mk'(h:j.length=32):∃a,a=(j.map v8).toArray/\Arr j a:=⟨_,T,T,by rw[jT,jD,h],ee _⟩
theorem Kc(k:af)(l:k.length=32)(w:jh)(h:gy w):
 jq jm 85 #[I N 1,jr (k.map v8).toArray] w λe w'=>e=jo (jr ((pO ⟨#[99,111,109,109,105,116]⟩ k).map v8).toArray)/\jl w w w':=by
 obtain⟨c,r,s⟩:=Arr.mk' l;obtain⟨f,t,u⟩:=Arr.mk' (vO ⟨#[99,111,109,109,105,116]⟩ k);rw[<-r,<-t];have hk:=O l;have x:=O s;have g:=O u;have C:=O h;have m:=ai w (jd c 64);have y:=js w (jd c 64);have a:=ai (w.alloc (jd c 64)) (jd aT 64);have n:=js (w.alloc (jd c 64)) (jd aT 64);rw[jF]at n;obtain⟨B,o⟩:=J ((w.alloc (jd c 64)).alloc (jd aT 64));obtain⟨b,p⟩:=J w.heap.size;have i:=Z y a;have d:=O (m.trans (a.mono m.size));have j:=O n;rw[<-p]at i j;rw[<-o]at i j d;have D:=O o;have q:=O p;clear m y a n o p;have m:=O (aB h.lab.c1 d);have y:jk (0<b+1):=O (by have:=fb h.lab.c1;rw[q];exact Nat.lt_succ_of_lt this);clear r s t u l h
 go_enter func85,ntmps85
 go_upto_region 1 with fail
 rw[<-D,<-q];refine jV ?_;refine bY (λl=>l.heap[b]?=ja (jd c 64 (0,0))/\l.cell? ⟨0,1,A⟩=ja (jj ⟨#[99,111,109,109,105,116]⟩)) (.t 0 (.t 1 (.t 2 (.t 3 (.o 4 (.o 5 .done)))))) ag ag ag G (λ_ _ _ _ h=>h) ⟨i,m⟩ ?_;obtain⟨r,h⟩:=J B.drew;have a:=bz B;rw[<-h]at a⊢;replace d:=ac d a;have n:=Z i a;have o:=Z j a;have p:=O (aB m a);clear a h i j m
 (refine aE (v:=jr c) T aj (λl h=>rN x.sz T T h.1) (L ?_))
 iterate 2 refine aL ?_
 (refine aE (v:=?_) T aj (λl h=>?_) ?_;rotate_left;(have i:=h.2;go_simp;with_reducible rfl);refine L ?_)
 refine ar T (λs h=>?_);go_simp;have i:=pM k hk ⟨#[99,111,109,109,105,116]⟩ [] _ r (yt _) (ze _ G) (C.dig.below d);rw[<-x.eq]at i;have j:((fi k ⟨#[99,111,109,109,105,116]⟩ []).map v8).toArray=f:=g.eq.symm;rw[j]at i;refine i.mono ?_;clear i j;rintro e i ⟨rfl,a⟩;have j:=Z n a;have l:=Z o a;have m:=O (aB p a);have t:=ac d a;clear a n o p d;refine h _ _ ⟨j,m⟩ λ_=>?_
 clear h;refine L ?_;refine ar T (λs h=>?_);rw[jB aj];refine oj 64 _ _ T (b+1) f T T 64 _ l.out (by rw[g.sz];rfl) (by rw[g.sz];rfl) g.one (h _ _ ⟨(qM _ _ _ _ Y).trans j,(bX (qM _ _ _ _ (Nat.ne_of_lt y))).trans m⟩ λ_=>?_);clear h;have a:(i.setRow (b+1) f).heap[b+1]?=ja (jd f 64 (0,0)):=ol _ _ _ _ _ _ l.out;have d:jl w w (i.setRow (b+1) f):=oo t.out (by rw[q];exact Nat.le_succ _) _;generalize i.setRow (b+1) f=z at a d⊢;have h:=O a;have n:=O d;clear a d;refine L ?_;refine jU ?_
 go_wp2_with fail
 refine j0 (qj T _ _ (b+1) 64 _ (0,0) _ T h mb T (by rw[g.sz];rfl)) T ?_;exact⟨T,n⟩
end Go.Proofs.YtdjkajodkjfjlaaGreatDoor
