/- Texts of the proof, part 5 of 8 (Lh Li Lj Lk Ll La Lb Lm Ln Bc Bd Be Bf Bh Bi Bg Bj Bk Bl Bm Bn Bo Bq Wp Bs Bu Bv Bx Lt Ha Hb Jc Ia Ib Rp). -/
import Derived.BigQuiet
import Derived.Deep.MidRow
import Derived.Deep.QuietTactic
import Derived.Deep.CutBlock
import Derived.Deep.DeepCutAuto
import Derived.Shelf.SlSortCmp.NoneTotal
import Derived.Ground.SlsfProg
import Derived.Test.YthpmekcffpppkaaGreatDoorRows
import Derived.OpenShut
import Derived.WalkLawsBesides
import Derived.Test.YthpmekcffpppkaaGreatDoorZR1
import Derived.Test.YthpmekcffpppkaaGreatDoorZR2
import Derived.Test.YthpmekcffpppkaaGreatDoorZR3
import Derived.Test.YthpmekcffpppkaaGreatDoorZR4
namespace Go.Proofs.YthpmekcffpppkaaGreatDoor
set_option maxHeartbeats 64000000
set_option maxRecDepth 100000
set_option linter.unusedVariables false
set_option linter.unusedSimpArgs false
open Go.RowKit
open Go.Proofs.Tryz
open Go.Value renaming int->I
open Go.IntKind renaming i64->N
open _root_.Option renaming some->T,none->ic,isSome_iff_exists->qs,map_some->qB,getD_some->qY,map_map->wx,bind_some->w9
open Go.Value renaming slice->ih,agg->jf,pointer->jj,tuple->jr
open Go.Obj renaming cells->ii
open Go.RowKit renaming Hid->ja,Below->jd
open Go renaming World->jb,Value->jc,Calls->jg,Boxed->jp,TypeId->ju,Addr->jv,setRow_other->jR,wp_store_row->jS,setRow_heap->jT,below_setRow->jU,undef->jV,wp_region_noPanic->j1,maxLen->km,bodyPost_ret->kn,Program->nn,grownBy_setCell'->ob,wp_region_lit->oi,wpList_load_row->oj,wpList_plain->qU,run_sliceAt_slice->qW
open Go.Proofs.Tryz renaming prog->je
open Go.Ending renaming returned->jh
open _root_.List renaming length_map->ji,mem_map->jk,length_append->jq,mem_cons->js,length_cons->jt,size_toArray->jz,mem_cons_self->jA,getElem?_map->jB,mem_of_getElem?->jD,mem_cons_of_mem->jE,map_append->jG,take_of_length_le->jH,mem_append->jI,getD->jJ,mergeSort_perm->jK,getElem?_eq_getElem->jL,length_nil->jM,mem_filter->jO,map_map->jX,replicate->jY,getElem?_eq_some_iff->j5,length_take_le->j7,length_attach->j8,zipIdx_cons->j9,mem_nil_iff->ki,pairwise_map->lm,any_eq_false->lr,mem_singleton->lw,any_eq_true->ms,range->ow,pairwise_cons->pa,pairwise_iff_getElem->pz,getElem?_append_left->qa,getElem_map->qb,eq_nil_of_length_eq_zero->qc,map_cons->qg,filter_sublist->qh,cons_append->qi,flatMap_cons->qj,append_assoc->qk,set_cons_succ->qm,mem_range->qt,getElem_mem->qv,map_congr_left->qw,getElem_of_mem->qz,length_filter_le->qC,getElem?_append_right->qD,length->qE,nodup_append->qF,nil_append->qL,length_take->qM,getElem?_cons_succ->q4,getElem?_take_of_lt->q8,nodup_cons->q9,map_mergeSort->ri,attach_map_subtype_val->rn,push_toArray->sh,append_toArray->sn,find?_eq_none->sq,set_append_right->sv,mem_map_of_mem->wi,pairwise_mergeSort->wq
open _root_.Nat renaming le_refl->jl,le_trans->jn,lt_of_lt_of_le->jF,zero_le->jQ,mul_le_mul_right->jW,lt_or_ge->lo,mul_comm->mb,add_le_add->mz,pow_le_pow_right->p6,add_assoc->ql,pow_add->qn,lt_or_eq_of_le->qx,le_of_lt_succ->qy,mod_lt->qG,div_add_mod->qH,eq_zero_or_pos->qK,le_of_eq->qQ,mul_le_mul_left->qS,div_lt_of_lt_mul->q6
open Go.World renaming alloc_heap_new->jm,ownsRow_nil->jZ,size_alloc->j4,cell?->kw,frozen?->qI,setCell->uy
open Go.Proofs renaming intOf->jo
open Go.RowKit.Below renaming refl->jw,heap_setCell->tx
open _root_.Array renaming getElem?_eq_some_iff->jy,getElem?_modify->qJ,length_toList->qN,toList_setIfInBounds->qO,ext'->qP,replicate_succ->rv,replicate_zero->sg,getElem?_setIfInBounds_ne->sx
open Go.NoPanic renaming normal->jC
open Go.Proofs.Tryz renaming underlying3->jN,underlying29->j3,underlying4->ol,results12->oo,results31->qo,underlying5->qT,underlying37->qV
open Go.Value renaming int->jP,bool->qe,oneCell'->qf
open _root_.BitVec renaming ofInt->j0,eq_of_toNat_eq->q5,toNat_xor->xa
open _root_.Bool renaming eq_iff_iff->j6,and_eq_true->lv,eq_false_iff->qd
open Go.IntKind renaming u64->kl,i64->o4,wrap_i64->qu,wrap_u64->wt
open _root_.Int renaming eq_ofNat_of_zero_le->qA,ediv_le_self->qX,natCast_ediv->qZ
noncomputable def cU(t:List (Int×Int))(d:Int):List (Int×Int):=t.filter λe=> !gZ (512+d) e.1
def dA(z:Int×Int):List (Int×Int)->List (Int×Int)
 |[]=>[z]
 |x::r=>if z.1<x.1 then z::x::r else x::dA z r
theorem Ep(z:Int×Int):∀l,(dA z l).length=l.length+1
 |[]=>rfl
 |x::r=>by
  unfold dA
  split
  ·rfl
  simp[Ep z r]
theorem MH(t:List (Int×Int))(v:jc)(w:jb)(d:aT w v t)(g:t.length<=km):
 jg je 20 #[jf #[v]] w λe w'=>e=jh (.bool (decide (t.length<=80)))/\jd w w w':=by
 obtain⟨p,c,rfl,i,-,-,-⟩:=d;have b:=O ((jw _ w).alloc (jl _) (ii #[ih p t.length c] 27))
 by_cases h:t.length<=80
 ·have f:=aj ((t.length:Int)<=80)
  have a:=O (decide_eq_true h);generalize t.length=n at*
  go_enter func20,ntmps20
  go_wp2
  go_ret;exact⟨by rw[a];rfl,b⟩
 have f:=ak ((t.length:Int)<=80);have a:=O (decide_eq_false h);generalize t.length=n at*
 go_enter func20,ntmps20
 go_wp2
 go_ret;exact⟨by rw[a];rfl,b⟩
theorem pN(w:jb):aT w (ih ic 0 0) []:=⟨ic,0,rfl,jl _,λ_=>rfl,λh=>absurd h ar,λx h=>by cases h⟩
theorem nG{z e:Int×Int}:∀{l:List (Int×Int)},e∈dA z l->e=z\/e∈l
 |[],h=>by left;simpa [dA]using h
 |x::r,h=>by
  unfold dA at h
  split at h
  ·rcases js.1 h with h|h
   ·exact .inl h
   exact .inr h
  rcases js.1 h with h|h
  ·exact .inr (h▸jA ..)
  rcases nG h with h|h
  ·exact .inl h
  exact .inr (jE _ h)
noncomputable def ig(t:List (Int×Int))(d x:Int):List (Int×Int):=if eT t d x=0 then dA (512+d,x) (cU t d)else []
noncomputable def ma(t:List (Int×Int))(d:Int):List (Int×Int):=if cS t d true=0 then cU t d else []
theorem vz{t:List (Int×Int)}{d:Int}(h:∀e∈t,I64 e.1/\I64 e.2):∀e∈cU t d,I64 e.1/\I64 e.2:=λe he=>h e (jO.1 he).1

def dQ(t:List (Int×Int))(d:Int)(l:List Int):Nat->Int->Option Int
 |0,y=>if y=512+d then T (l.getD 0 0)else fy (ofF t) ((512+d)::aQ d) y
 |k+1,y=>if y=(aQ d).getD k 0 then T (l.getD (k+1) 0)else dQ t d l k y
theorem zP{t:List (Int×Int)}{d:Int}{l:List Int}:∀k y,(dQ t d l k y).isSome=true->y∈(512+d)::((ow k).map λj=>(aQ d).getD j 0)++t.map (·.1)
 |0,y,h=>by
  unfold dQ at h
  split at h
  ·rename_i e;rw[e];simp
  obtain⟨v,a⟩:=qs.1 h;simp only[jI,js,jk];exact .inr ⟨_,mF (ou a).1,rfl⟩
 |k+1,y,h=>by
  unfold dQ at h
  split at h
  ·rename_i e
   simp only[jI,js,jk,qt];exact .inl (.inr ⟨k,by omega,e.symm⟩)
  have:=zP k y h;simp only[jI,js,jk,qt]at this⊢
  rcases this with(h1|⟨j,h1,h2⟩)|h1
  ·exact .inl (.inl h1)
  ·exact .inl (.inr ⟨j,by omega,h2⟩)
  exact .inr h1
theorem Ou{t:List (Int×Int)}{d:Int}{l:List Int}{k:Nat}{xs:List Int}(h:KeysOf (dQ t d l k) xs):xs.length<=t.length+k+1:=by
 have a:xs⊆(512+d)::((ow k).map λj=>(aQ d).getD j 0)++t.map (·.1):=λy b=>zP k y (h.2.1 y b).2
 have:=h.1.length_le_of_subset a;simp at this;omega
theorem zH{t:List (Int×Int)}{d:Int}{l:List Int}(b:∀e∈t,I64 e.1/\I64 e.2)(a:∀j,I64 (l.getD j 0)):∀k y v,I64 y->dQ t d l k y=T v->I64 v
 |0,y,v,_,h=>by
  unfold dQ at h
  split at h
  ·cases h;exact a 0
  exact(b _ (mF (ou h).1)).2
 |k+1,y,v,c,h=>by
  unfold dQ at h
  split at h
  ·cases h;exact a (k+1)
  exact zH b a k y v c h
theorem aH.no_cell{P:nn}{k e:ju}{α:Type}{E:EKind P e α}{w:jb}{b n:Nat}{f:Int->Option α}(h:aH E k w b n f){j:Nat}{v:jc}:w.cell? ⟨b,j,ic⟩≠T v:=by
 obtain⟨D,⟨c,d,a,_⟩,_⟩:=h;unfold kw;rw[a];simp
noncomputable def et(t:List (Int×Int))(d:Int)(l:List Int):Int:=by classical exact if cS t d true=0 then(if l.length=10/\fW l then 0 else 50)else cS t d true
def Jw(t:List (Int×Int))(d:Int)(l:List Int)(w:jb)(E:Int)(e:Ending)(w':jb):Prop:=
 jd w w w'/\(E≠0->e=jh (jr #[jf #[ih ic 0 0],I N E]))/\
 (E=0->∃v xs,e=jh (jr #[jf #[v],I N 0])/\KeysOf (dQ t d l 9) xs/\aT w' v (cQ (dQ t d l 9) (xs.mergeSort leI))/\Fr w.heap.size v)
theorem Gp(t:List (Int×Int))(v:jc)(d:Int)(l:List Int)(a2:jc)(w:jb)(b:aT w v t)(g:t.length<=900000)(i:I64 d)(hu:cH w a2 l)(k:l.length<=1000000)(m:∀j,I64 (l.getD j 0)):
 jg je 31 #[jf #[v],I N d,a2] w λe w'=>Jw t d l w (et t d l) e w':=by
 have n:∀e∈t,I64 e.1/\I64 e.2:=by obtain⟨p,c,-,-,-,-,h⟩:=b;exact h
 obtain⟨pl,cl,rfl,al,o⟩:=hu;have u:jd w w ((w.alloc (ii #[v] 27)).alloc (ii #[ih ic 0 0] 27)):=((jw _ w).alloc (jl _) _).alloc ar _;have S:=O (wQ t v d true ((w.alloc (ii #[v] 27)).alloc (ii #[ih ic 0 0] 27)) (b.below u) Y i);have C:jp ((w.alloc (ii #[v] 27)).alloc (ii #[ih ic 0 0] 27)) (w.heap.size+1) 27 (ih ic 0 0):=by
  have h:=jm (w.alloc (ii #[v] 27)) (ii #[ih ic 0 0] 27);rw[j4]at h;exact h
 have ZU:=O n;have X:=O g;have WB:=O o;have au:=O m;have R2:=O k;obtain⟨E,f⟩:=J (cS t d true);have HE:=O f;rw[<-f]at S;clear b g f n i o m k
 go_enter func31,ntmps31
 go_wp2_with fail
 obtain⟨W0,b⟩:=J ((w.alloc (ii #[v] 27)).alloc (ii #[ih ic 0 0] 27));rw[<-b]at S C u⊢;clear b;refine S.mono ?_;rintro e g ⟨aa,Zp,a1⟩;have m:jp g (w.heap.size+1) 27 (ih ic 0 0):=(aa.block _ C.lt).trans C;have D:=O (u.trans (aa.mono u.size));have Rf:=O m;have bw:w.heap.size+1<g.heap.size:=m.lt
 by_cases o:E=0
 ·obtain⟨b,p,c,rfl,i,f,F⟩:=a1 o
  have HM:=O f;have bA:w.heap.size+1<b:=jF C.lt i;have bf:=vy (HE.symm.trans o);have HZ:ja (I64 (512+d)):=O (I64.of (x:=512+d) Y);have S7:o4.wrap (512+d)=512+d:=by rw[qu];omega
  have TH:=O F;have H:ja (∀z,(l.length=10/\fW l->z=0)->(¬(l.length=10/\fW l)->z=50)->et t d l=z):=O (λz k n=>by
   unfold et;rw[if_pos (HE.symm.trans o)]
   by_cases h:l.length=10/\fW l
   ·rw[if_pos h,k h]
   rw[if_neg h,n h])
  subst o;obtain⟨d0,d1⟩:=bf;have bg:b<g.heap.size:=f.lt;clear Zp a1 aa u C m S f i F
  by_cases r:l.length=10
  ·obtain⟨f,U,rfl,i⟩:=WB Y
   have Tm:=O i;have bh:ja (cH g (ih (T ⟨f,U,ic⟩) l.length cl) l):=O ⟨_,cl,rfl,al,λ_=>⟨f,U,rfl,λj K=>bD (i j K) (D.block f (dV (i j K)))⟩⟩;have a3:=O (Px l _ g bh R2);have V:=O r;rw[r]at a3 al⊢;clear i r
   go_wp2_with fail
   refine a3.mono ?_;rintro e n ⟨bB,rfl,Ti,i⟩;have Ss:ja (jp n (w.heap.size+1) 27 (ih ic 0 0)):=O ((i.block _ Y).trans Rf);have Ru:=O (HM.below i bg);have bk:=i.size;have W:=ac D i;have bl:=O (i);clear i
   by_cases M:fW l
   ·obtain rfl:=Ti.1 M
    have s:=O (H 0 (λ_=>rfl) (λh=>absurd ⟨V,M⟩ h));clear Ti M;have WG:ja (∀j,j<10->n.cell? ⟨f,U+j,ic⟩=T (I N (l.getD j 0))):=O λj K=>bD (Tm j (by rw[V];exact K)) (W.block f (dV (Tm j (by rw[V];exact K))))
    have bC:f<w.heap.size:=dV (Tm 0 (by rw[V];omega));have bI:n.cell? ⟨f,U,ic⟩=T (I N (l.getD 0 0)):=WG 0 Y;have R3:=O (ry d d0 d1);have Zn:=O (wH d d0 d1);have bK:f<n.heap.size:=Y;have q:g.ownsRow W0 3 1 (ih p 9 c) (aQ d).length ((aQ d).map (jP .i64)):=by rw[R3];exact TH
    obtain⟨p',c',a4,-,i⟩:=ni q;rw[R3]at a4 i
    cases a4
    obtain⟨P,rfl,bM,bm,k⟩:=i Y;have QE:=O k;have a5:P≠b:=λe=>by have h:=k 0 Y;rw[e]at h;exact aH.no_cell HM h
    clear q i k
    go_wp2_with (at_mapUpdate;refine mu (E:=da jN) rfl _ _ _ 152 rfl jN underlying152 b _ _ rfl Ru (by have:=X.out;unfold km;omega) (512+d) rfl HZ (l.getD 0 0) rfl (au 0) ?_;intro Q Wb T5;have RP:=O Wb;have U6:=O T5;have bn:=T5.grown.size;clear Wb T5)
    have Qp:ja (jd w w Q):=O (W.grown U6.grown (aU W.size) (λj e=>by cases e;omega));have bo:ja (aH (da jN) 3 Q b (t.length+1+0) (dQ t d l 0)):=O RP;have bN:n.heap.size<=Q.heap.size:=bn;have bO:g.heap.size<=n.heap.size:=bk
    go_wp2_with fail
    go_loopw [39] (λi wr=>∃j:Nat,i=I N j/\j<=9/\ja (aH (da jN) 3 wr b (t.length+1+j) (dQ t d l j))/\ja (jd w w wr)/\ja (∀k,k<Q.heap.size->k≠b->wr.heap[k]?=Q.heap[k]?)/\Q.heap.size<=wr.heap.size) (λi _=>9-(jo i).toNat)
    case atStart=>exact⟨0,rfl,jQ _,bo,Qp,O (λ_ _ _=>rfl),jl _⟩
    obtain⟨j,rfl,K,ba,Sj,ad,bT⟩:=hrel
    by_cases bb:j<9
    ·have bq:=aj ((j:Int)<9)
     have cy:wr.cell? ⟨P,j,ic⟩=T (I N ((aQ d).getD j 0)):=bD (bD (bD (QE j bb) (bl.block P bm)) (U6.grown.block P Y (by simpa using a5))) (ad P Y a5);have cz:wr.cell? ⟨f,U+(j+1),ic⟩=T (I N (l.getD (j+1) 0)):=bD (bD (WG (j+1) Y) (U6.grown.block f Y (by simp;omega))) (ad f Y Y);have q:j<(aQ d).length:=by rw[R3];exact bb
     have bc:(aQ d).getD j 0=(aQ d)[j]:=by simp[jJ,q]
     have bd:ja (0<=(aQ d).getD j 0/\(aQ d).getD j 0<1024):=O (by rw[bc];exact Zn _ (qv q));obtain⟨y,R⟩:=J ((aQ d).getD j 0);obtain⟨z,i⟩:=J (l.getD (j+1) 0);rw[<-R]at cy bd;rw[<-i]at cz;have br:ja (I64 y):=O (I64.of (x:=y) (aw bd));have bs:ja (I64 z):=O (by rw[i];exact au _);have HY:=O R;have bu:=O i;have b0:P<wr.heap.size:=Y;have b1:f<wr.heap.size:=Y;clear q bc R i
     go_wp2_with (at_mapUpdate;refine mu (E:=da jN) rfl _ _ _ 152 rfl jN underlying152 b _ _ rfl ba (by have:=X.out;unfold km;omega) y rfl br z rfl bs ?_;intro w5 q i;have bv:=O q;have bc:=O i;have R:=i.grown.size;clear q i)
     refine⟨⟨j+1,by go_num,by omega,O ?_,O (Sj.grown bc.grown (aU Sj.size) (λj e=>by cases e;omega)),O λk hk R=>(bc.grown.block k Y (by simpa using R)).trans (ad k hk R),by omega⟩,by simp only[jo];omega⟩;refine aH.congr bv (λx _=>?_);show(if x=y then T z else dQ t d l j x)=dQ t d l (j+1) x;rw[HY,bu]
     rfl
    have bq:=ak ((j:Int)<9);obtain rfl:j=9:=Y;have SP:ja (jp wr (w.heap.size+1) 27 (ih ic 0 0)):=O ((ad _ Y Y).trans ((U6.grown.block _ Y (by simp;omega)).trans Ss));have br:w.heap.size+1<wr.heap.size:=Y
    go_wp2_with fail
    refine(yX b (t.length+1+9) (dQ t d l 9) wr ba (aw X) (λxs h=>jn (Ou h) (aw X)) (zH ZU au 9)).mono ?_;rintro e w4 ⟨v',xs,rfl,bc,⟨F,bd⟩,i⟩;obtain⟨q,k,rfl⟩:=sD F;have y:ja (jp w4 (w.heap.size+1) 27 (ih ic 0 0)):=O ((i.block _ br).trans SP);have Qt:=ac Sj i;have VE:=O bc;have Q6:=O F;have bs:=O bd;have z:=y.cell;have cf:=y.frozen;clear bc F bd i
    go_wp2_with fail
    have Wc:=O (ob w4 (w.heap.size+1) (ih q (cQ (dQ t d l 9) (xs.mergeSort leI)).length k));have i:=(Boxed.set (ih q (cQ (dQ t d l 9) (xs.mergeSort leI)).length k) y).cell;refine kn (v:=jr #[jf #[ih q (cQ (dQ t d l 9) (xs.mergeSort leI)).length k],I N 0]) (by simp[results,qo,go_sem,i]) rfl ?_;refine⟨Qt.grown Wc (aU Qt.size) (λj e=>by cases e;omega),λh=>absurd s h,λ_=>⟨_,xs,rfl,VE,?_,(Fr.of_own Q6).mono Y⟩⟩;exact vY (B:=wr.heap.size) (ownsRow_setCell_below Q6 (a:=⟨w.heap.size+1,0,ic⟩) (by show w.heap.size+1<wr.heap.size;omega) _) bs
   obtain rfl:=Ti.2 M;have s:=O (H 50 (λh=>absurd h.2 M) (λ_=>rfl));have z:=Ss.cell;have cf:=Ss.frozen;have i:=(Boxed.set (ih ic 0 0) Ss).cell;clear Ti M
   go_wp2_with fail
   refine kn (v:=jr #[jf #[ih ic 0 0],I N 50]) (by simp[results,qo,go_sem,i]) rfl ?_;exact⟨W.grown (ob n (w.heap.size+1) _) (aU W.size) (λj e=>by cases e;omega),λ_=>by rw[s],λh=>absurd (s.symm.trans h) L⟩
  obtain⟨n,R⟩:=J l.length;rw[<-R]at al r⊢;have f:=O R;have k:=ak ((n:Int)=10);have q:=ak (n=10);have y:((n:Int)!=10)=true:=by simp;omega
  have s:=O (H 50 (λh=>absurd (f.trans h.1) r) (λ_=>rfl));have V:=O r;have z:=Rf.cell;have cf:=Rf.frozen;have i:=(Boxed.set (ih ic 0 0) Rf).cell;clear R r
  go_wp2_with fail
  refine kn (v:=jr #[jf #[ih ic 0 0],I N 50]) (by simp[results,qo,go_sem,i]) rfl ?_;exact⟨D.grown (ob g (w.heap.size+1) _) (aU D.size) (λj e=>by cases e;omega),λ_=>by rw[s],λh=>absurd (s.symm.trans h) L⟩
 obtain rfl:=Zp o;have b:=ak (E=0);have z:=m.cell;have cf:=m.frozen;have i:=(Boxed.set (ih ic 0 0) m).cell;clear Zp a1 aa u C m S
 go_wp2_with fail
 have H:ja (et t d l=E):=O (by unfold et;rw[if_neg (by rw[<-HE];exact o)];exact HE.symm);refine kn (v:=jr #[jf #[ih ic 0 0],I N E]) (by simp[results,qo,go_sem,i]) rfl ?_;exact⟨D.grown (ob g (w.heap.size+1) _) (aU D.size) (λj e=>by cases e;omega),λ_=>by rw[H],λh=>absurd (H.symm.trans h) o⟩
noncomputable def dO(t:List (Int×Int))(d:Int)(l:List Int):Nat->List (Int×Int)
 |0=>cU t d
 |k+1=>dA ((512+d)/2^k,l.getD k 0) (dO t d l k)
noncomputable def im(t:List (Int×Int))(d:Int)(l:List Int):List (Int×Int):=if et t d l=0 then dO t d l 10 else []
theorem BH{d:Int}{k:Nat}(a:0<=d)(b:d<512):0<=(512+d)/2^k/\(512+d)/2^k<=1023:=by
 have c:(0:Int)<2^k:=by exact_mod_cast Nat.two_pow_pos k
 refine⟨Int.ediv_nonneg Y Y,?_⟩;have:(512+d)/2^k<=512+d:=qX _ Y;omega
theorem Bd{t:List (Int×Int)}{d:Int}{l:List Int}(h:∀e∈t,I64 e.1/\I64 e.2)(a:∀j,I64 (l.getD j 0))(b:0<=d)(c:d<512):∀k,∀e∈dO t d l k,I64 e.1/\I64 e.2
 |0,e,he=>vz h e he
 |k+1,e,he=>by
  unfold dO at he
  rcases nG he with rfl|he
  ·exact⟨I64.of (by have:=BH (k:=k) b c;omega),a k⟩
  exact Bd h a b c k e he
def Str(t:List (Int×Int)):Prop:=t.Pairwise λa b=>a.1<b.1
def Wf(t:List (Int×Int)):Prop:=∀e∈t,I64 e.1/\I64 e.2
theorem Str.keys{t:List (Int×Int)}(h:Str t):(t.map (·.1)).Pairwise (·<·):=lm.2 h
theorem ku(e:Int×Int)(t:List (Int×Int))(x:Int):ofF (e::t) x=if e.1=x then T e.2 else ofF t x:=by
 unfold ofF;rw[List.find?_cons]
 by_cases h:e.1=x
 ·simp[h]
 have a:(e.1==x)=false:=by simpa using h
 simp[h,a]
theorem Fo:∀{t:List (Int×Int)},Str t->∀e∈t,ofF t e.1=T e.2
 |[],_,e,he=>by cases he
 |y::t,h,e,he=>by
  rw[ku];have a:=pa.1 h
  rcases js.1 he with rfl|he
  ·rw[if_pos rfl]
  rw[if_neg (aU (a.1 e he))];exact Fo a.2 e he
theorem zK{t:List (Int×Int)}(h:Str t):(t.map (·.1)).map (λx=>(x,(ofF t x).getD 0))=t:=by
 rw[jX];have:∀e∈t,((λx=>(x,(ofF t x).getD 0))∘(·.1)) e=id e:=λe he=>by
  simp only[Function.comp,Fo h e he,qY,id]
 rw[qw this,List.map_id]
theorem tb{t:List (Int×Int)}{x:Int}:(ofF t x).isSome=true↔x∈t.map (·.1):=by
 rw[zC,jk]
theorem KJ{s t:List (Int×Int)}(b:Str s)(c:Str t)(d:Wf s)(f:Wf t)(h:∀x,I64 x->ofF s x=ofF t x):s=t:=by
 have hk:s.map (·.1)=t.map (·.1):=tn b.keys c.keys (λx=>by
  rw[<-tb,<-tb]
  constructor
  ·intro a
   obtain⟨e,he,rfl⟩:=jk.1 (tb.1 a);rw[<-h _ (d e he).1];exact a
  intro a;obtain⟨e,he,rfl⟩:=jk.1 (tb.1 a);rw[h _ (f e he).1];exact a)
 rw[<-zK b,<-zK c,<-hk];refine qw λx a=>?_
 obtain⟨e,he,rfl⟩:=jk.1 a;rw[h _ (d e he).1]
def Good(t:List (Int×Int)):Prop:=Str t/\∀e∈t,1<=e.1/\e.1<=1023/\aM e.2/\mn t e.1
theorem getD_at{t:List (Int×Int)}{i:Nat}(a:i<t.length):t.getD i (0,0)=t[i]:=by simp[jJ,a]
theorem Kx{t:List (Int×Int)}(h:∀i,i+1<t.length->(t.getD i (0,0)).1<(t.getD (i+1) (0,0)).1):Str t:=by
 have d:∀j,j<t.length->∀i,i<j->(t.getD i (0,0)).1<(t.getD j (0,0)).1:=by
  intro j
  induction j with
  |zero=>intro _ i a;omega
  |succ j e=>
   intro b i a;have f:=h j b
   rcases qx (qy a)with c|c
   ·have:=e Y i c;omega
   rw[c];exact f
 unfold Str;rw[pz];intro i j a b c;have:=d j b i c
 rwa [getD_at a,getD_at b]at this
theorem iP{t:List (Int×Int)}(h:cN t=0):Good t:=by
 have c:∀i,i<t.length->¬nV t i:=λi b c=>by rw[KO b c]at h;exact absurd h L
 refine⟨Kx (λi b=>?_),λe he=>?_⟩
 ·have:=c (i+1) b
  unfold nV at this;have d:¬(0<i+1/\(t.getD (i+1) (0,0)).1<=(t.getD (i+1-1) (0,0)).1):=λa=>this (.inr (.inr (.inl a)))
  rw[show i+1-1=i by omega]at d;omega
 obtain⟨i,b,rfl⟩:=qz he;have:=c i b;unfold nV at this;rw[getD_at b]at this;refine⟨?_,?_,?_,?_⟩
 ·exact Classical.byContradiction λa=>this (.inl Y)
 ·exact Classical.byContradiction λa=>this (.inr (.inl Y))
 ·exact Classical.byContradiction λa=>this (.inr (.inr (.inr (.inl a))))
 exact Classical.byContradiction λa=>this (.inr (.inr (.inr (.inr a))))
theorem nR{t:List (Int×Int)}(h:Good t):cN t=0:=by
 refine Ma (λi b a=>?_);have c:=h.2 t[i] (qv b);unfold nV at a;rw[getD_at b]at a
 rcases a with a|a|a|a|a
 ·omega
 ·omega
 ·have d:=(pz.1 h.1) (i-1) i Y b Y
  rw[getD_at Y]at a;omega
 ·exact a c.2.2.1
 exact a c.2.2.2
theorem zb(t:List (Int×Int))(d x:Int):ofF (cU t d) x=if gZ (512+d) x=true then ic else ofF t x:=by
 induction t with
 |nil=>simp[cU,ofF]
 |cons e t c=>
  unfold cU at c⊢;rw[List.filter_cons]
  by_cases b:gZ (512+d) e.1=true
  ·rw[if_neg (by simp[b]),c,ku]
   by_cases a:e.1=x
   ·rw[<-a,if_pos b,if_pos b]
   rw[if_neg a]
  rw[if_pos (by simp[b]),ku,ku,c]
  by_cases a:e.1=x
  ·rw[<-a,if_pos rfl,if_neg b,if_pos rfl]
  rw[if_neg a,if_neg a]
theorem sy{z:Int×Int}:∀{t:List (Int×Int)},(∀e∈t,e.1≠z.1)->∀x,ofF (dA z t) x=if x=z.1 then T z.2 else ofF t x
 |[],_,x=>by
  unfold dA;rw[ku]
  by_cases h:x=z.1
  ·rw[if_pos h.symm,if_pos h]
  rw[if_neg (λb=>h b.symm),if_neg h]
 |e::t,h,x=>by
  unfold dA
  split
  ·rw[ku]
   by_cases a:x=z.1
   ·rw[if_pos a.symm,if_pos a]
   rw[if_neg (λb=>a b.symm),if_neg a]
  rw[ku,ku,sy (λe he=>h e (jE _ he))];have b:=h e (jA ..)
  by_cases a:e.1=x
  ·rw[if_pos a,if_pos a,if_neg (by rw[<-a];exact b)]
  rw[if_neg a,if_neg a]
theorem oI{t:List (Int×Int)}(h:Str t)(d:Int):Str (cU t d):=List.Pairwise.filter _ h
theorem sY{z:Int×Int}:∀{t:List (Int×Int)},Str t->(∀e∈t,e.1≠z.1)->Str (dA z t)
 |[],_,_=>by unfold dA Str;simp
 |e::t,c,h=>by
  have b:=pa.1 c;have f:=h e (jA ..);unfold dA
  split
  ·rename_i d
   refine pa.2 ⟨λy a=>?_,c⟩
   rcases js.1 a with rfl|a
   ·exact d
   have:=b.1 y a;omega
  refine pa.2 ⟨λy a=>?_,sY b.2 (λe he=>h e (jE _ he))⟩
  rcases nG a with rfl|a
  ·omega
  exact b.1 y a
theorem Ex{t:List (Int×Int)}{d:Int}{e:Int×Int}(h:e∈cU t d):e∈t/\¬Und (512+d) e.1:=by
 unfold cU at h;obtain⟨b,a⟩:=jO.1 h;refine⟨b,λc=>?_⟩;rw[rG c]at a
 cases a
theorem oK{t:List (Int×Int)}{d x:Int}(a:Und (512+d) x):∀e∈cU t d,e.1≠x:=λe he h=>(Ex he).2 (by rw[h];exact a)
theorem F1{f:Int->Option Int}{xs:List Int}(h:xs.Nodup):Str (cQ f (xs.mergeSort leI)):=by
 have c:(xs.mergeSort leI).Pairwise (·<·):=by
  have a:=uf xs;have b:(xs.mergeSort leI).Nodup:=(jK xs leI).nodup_iff.2 h;exact(a.and b).imp λh=>by have:=h.1;have:=h.2;omega
 unfold Str cQ;rw[lm];exact c
theorem MS{f:Int->Option Int}(a:List Int)(x:Int):ofF (cQ f a) x=if x∈a then T ((f x).getD 0)else ic:=by
 induction a with
 |nil=>rfl
 |cons y a b=>
  show ofF ((y,(f y).getD 0)::cQ f a) x=_;rw[ku,b]
  by_cases h:y=x
  ·subst h;simp
  have:¬x=y:=λc=>h c.symm
  simp[h,this]
theorem NP{f:Int->Option Int}{xs:List Int}(h:KeysOf f xs)(x:Int)(b:I64 x):ofF (cQ f (xs.mergeSort leI)) x=f x:=by
 rw[MS]
 by_cases a:x∈xs
 ·rw[if_pos ((sl xs x).2 a)]
  obtain⟨v,c⟩:=qs.1 (h.2.1 x a).2;rw[c];rfl
 rw[if_neg (λc=>a ((sl xs x).1 c))]
 cases hf:f x with
 |none=>rfl
 |some v=>exact absurd (h.2.2 x b (by rw[hf];rfl)) a
theorem nB{w:jb}{v:jc}{t:List (Int×Int)}(h:aT w v t):Wf t:=by obtain⟨p,c,-,-,-,-,h⟩:=h;exact h
theorem ym{f:Int->Option Int}{xs:List Int}(h:KeysOf f xs)(b:Wf (cQ f (xs.mergeSort leI))){t:List (Int×Int)}(c:Str t)(d:Wf t)(e:∀x,I64 x->f x=ofF t x):cQ f (xs.mergeSort leI)=t:=
 KJ (F1 h.1) c b d (λx a=>by rw[NP h x a,e x a])
theorem uK{t:List (Int×Int)}{d:Int}(a:0<=d)(b:d<512)(x:Int):fy (ofF t) ((512+d)::aQ d) x=ofF (cU t d) x:=by
 rw[zb];unfold fy
 by_cases h:x∈(512+d)::aQ d
 ·rw[if_pos h,if_pos (rG ((mU d a b x).1 h))]
 rw[if_neg h,if_neg (λc=>h ((mU d a b x).2 ((wy _ _).1 c)))]
theorem G8{t:List (Int×Int)}{d x:Int}(a:0<=d)(b:d<512)(y:Int):gx t d x y=ofF (dA (512+d,x) (cU t d)) y:=by
 rw[sy (oK (oq Y))];unfold gx
 by_cases h:y=512+d
 ·rw[if_pos h,if_pos h]
 rw[if_neg h,if_neg h];exact uK a b y
theorem wX{t:List (Int×Int)}{d:Int}{m:Bool}(h:cS t d m=0):cN t=0/\0<=d/\d<512:=by
 have a:=vy h;refine⟨?_,a.1,a.2⟩;unfold cS at h
 split at h
 ·assumption
 exact h
theorem oB{d:Int}(i:0<=d)(p:d<512){k:Nat}(hk:k<=9):1<=(512+d)/2^k/\∀j,j<k->(512+d)/2^k<(512+d)/2^j:=by
 obtain⟨n,rfl⟩:=qA i;have h:∀n:Fin 512,∀k:Fin 10,1<=(512+n.val)/2^k.val:=by decide+kernel
 have c:∀j:Nat,(512+(n:Int))/2^j=(((512+n)/2^j:Nat):Int):=λj=>by
  rw[qZ];push_cast;rfl
 have g:∀k,k<=9->1<=(512+n)/2^k:=λk hk=>h ⟨n,by omega⟩ ⟨k,by omega⟩
 have l:∀k,(512+n)/2^(k+1)=(512+n)/2^k/2:=λk=>by rw[Nat.pow_succ,Nat.div_div_eq_div_mul]
 have m:∀k,k<=9->∀j,j<k->(512+n)/2^k<(512+n)/2^j:=by
  intro k
  induction k with
  |zero=>intro _ j e;omega
  |succ k o=>
   intro hk j e;have a:=g k Y;have b:=l k
   rcases qx (qy e)with f|f
   ·have:=o Y j f;omega
   rw[f];omega
 refine⟨by rw[c];have:=g k hk;omega,λj e=>by rw[c,c];have:=m k hk j e;omega⟩
theorem yC{d:Int}(a:0<=d)(b:d<512){k:Nat}(hk:k<=9):Und (512+d) ((512+d)/2^k):=⟨(oB a b hk).1,k,rfl⟩
theorem Gs{d x:Int}(b:0<=d)(c:d<512)(h:Und (512+d) x):∃k,k<=9/\x=(512+d)/2^k:=by
 obtain⟨e,j,a⟩:=h;refine⟨j,?_,a.symm⟩
 rcases lo 9 j with h|h
 ·have f:(512+d)/2^j=0:=by
   have g:(1024:Int)<=2^j:=by
    have:=p6 (n:=2) L (show 10<=j from h)
    exact_mod_cast this
   exact Int.ediv_eq_zero_of_lt Y Y
  omega
 exact h
theorem ID{d:Int}(a:0<=d)(c:d<512){k:Nat}(hk:k<9):(aQ d).getD k 0=(512+d)/2^(k+1):=by
 obtain⟨n,rfl⟩:=qA a;have h:∀n:Fin 512,∀k:Fin 9,(gL n.val).getD k.val 0=(512+n.val)/2^(k.val+1):=by decide+kernel
 have b:=h ⟨n,by omega⟩ ⟨k,hk⟩;have f:=ry (n:Int) a c;have e:aQ (n:Int)=(gL n).map λm:Nat=>(m:Int):=by simp[aQ]
 have g:k<(gL n).length:=by rw[e,ji]at f;omega
 rw[e];simp only[jJ,jB,jL g,qB,qY]at b⊢;rw[b,qZ];push_cast;rfl
theorem yb{t:List (Int×Int)}{d:Int}{l:List Int}:∀{k:Nat} {e:Int×Int},e∈dO t d l k->e∈cU t d\/∃j,j<k/\e=((512+d)/2^j,l.getD j 0)
 |0,e,h=>.inl h
 |k+1,e,h=>by
  unfold dO at h
  rcases nG h with rfl|h
  ·exact .inr ⟨k,Nat.lt_succ_self _,rfl⟩
  rcases yb h with h|⟨j,a,h⟩
  ·exact .inl h
  exact .inr ⟨j,Nat.lt_succ_of_lt a,h⟩
theorem Bs{t:List (Int×Int)}{d:Int}{l:List Int}(a:0<=d)(b:d<512){k:Nat}(hk:k<=9):∀e∈dO t d l k,e.1≠(512+d)/2^k:=by
 intro e he
 rcases yb he with h|⟨j,c,rfl⟩
 ·exact oK (yC a b hk) e h
 have:=(oB a b hk).2 j c;show(512+d)/2^j≠_;omega
theorem yR{t:List (Int×Int)}{d:Int}{l:List Int}(a:Str t)(b:0<=d)(c:d<512):∀{k:Nat},k<=10->Str (dO t d l k)
 |0,_=>oI a d
 |k+1,hk=>sY (yR a b c Y) (Bs b c Y)
theorem rM{t:List (Int×Int)}{d:Int}{l:List Int}(a:0<=d)(b:d<512){k:Nat}(hk:k<=9)(x:Int):ofF (dO t d l (k+1)) x=if x=(512+d)/2^k then T (l.getD k 0)else ofF (dO t d l k) x:=
 sy (Bs a b hk) x
theorem Ft{t:List (Int×Int)}{d:Int}{l:List Int}(a:0<=d)(b:d<512)(x:Int):∀k,k<=9->dQ t d l k x=ofF (dO t d l (k+1)) x
 |0,hk=>by
  rw[rM a b hk];unfold dQ;simp only[Int.pow_zero,Int.ediv_one]
  by_cases h:x=512+d
  ·rw[if_pos h,if_pos h]
  rw[if_neg h,if_neg h];exact uK a b x
 |k+1,hk=>by
  rw[rM a b hk];unfold dQ;rw[ID a b Y,Ft a b x k Y]
theorem OQ(t:List (Int×Int))(v:jc)(d x:Int)(w:jb)(b:aT w v t)(q:t.length<=800000)(i:I64 d)(c:I64 x):
 jg je 93 #[jf #[v],I N d,I N x] w λe w'=>∃a,e=jh (jr #[jf #[a],I N (eT t d x)])/\aT w' a (ig t d x)/\jd w w w':=by
 refine(PE t v d x w b Y i c).mono ?_;rintro e w' ⟨f,j,k⟩
 by_cases h:eT t d x=0
 ·obtain⟨a,xs,rfl,hk,g⟩:=k h
  have l:cS t d false=0:=by
   unfold eT at h
   split at h
   ·assumption
   exact h
  obtain⟨m,n,o⟩:=wX l;have p:=iP m;refine⟨a,by rw[h],?_,f⟩;unfold ig;rw[if_pos h,<-ym hk (nB g) (sY (oI p.1 d) (oK (oq Y))) (λe he=>?_) (λy _=>G8 n o y)]
  ·exact g
  rcases nG he with rfl|he
  ·exact⟨I64.of (by show -9223372036854775808<=512+d/\512+d<=9223372036854775807;omega),c⟩
  exact vz (nB b) e he
 refine⟨_,j h,?_,f⟩;unfold ig;rw[if_neg h];exact pN _
theorem Mb(t:List (Int×Int))(v:jc)(d:Int)(w:jb)(b:aT w v t)(o:t.length<=800000)(g:I64 d):
 jg je 92 #[jf #[v],I N d] w λe w'=>∃a,e=jh (jr #[jf #[a],I N (cS t d true)])/\aT w' a (ma t d)/\jd w w w':=by
 refine(Gx t v d w b Y g).mono ?_;rintro e w' ⟨c,i,j⟩
 by_cases h:cS t d true=0
 ·obtain⟨a,xs,rfl,hk,f⟩:=j h
  obtain⟨k,l,m⟩:=wX h;have n:=iP k;refine⟨a,by rw[h],?_,c⟩;unfold ma;rw[if_pos h,<-ym hk (nB f) (oI n.1 d) (vz (nB b)) (λy _=>uK l m y)];exact f
 refine⟨_,i h,?_,c⟩;unfold ma;rw[if_neg h];exact pN _
theorem Ly(t:List (Int×Int))(v:jc)(d:Int)(l:List Int)(a:jc)(w:jb)(f:aT w v t)(z:t.length<=800000)(k:I64 d)(m:cH w a l)(n:l.length<=1000000)(g:∀j,I64 (l.getD j 0)):
 jg je 31 #[jf #[v],I N d,a] w λe w'=>∃x,e=jh (jr #[jf #[x],I N (et t d l)])/\(aT w' x (im t d l)/\Fr w.heap.size x)/\jd w w w':=by
 refine(Gp t v d l a w f Y k m n g).mono ?_;rintro e w' ⟨i,o,p⟩
 by_cases h:et t d l=0
 ·obtain⟨a,xs,rfl,hk,j,q⟩:=p h
  have r:cS t d true=0:=by
   unfold et at h
   split at h
   ·assumption
   exact h
  obtain⟨s,b,c⟩:=wX r;have u:=iP s;refine⟨a,by rw[h],⟨?_,q⟩,i⟩;unfold im;rw[if_pos h,<-ym hk (nB j) (yR u.1 b c (jl 10)) (Bd (nB f) g b c 10) (λy _=>Ft b c y 9 Y)];exact j
 refine⟨_,o h,⟨?_,Fr.nil _⟩,i⟩;unfold im;rw[if_neg h];exact pN _
structure co(g:Grp):Prop where
 fol:gD g.folder
 ep:0<=g.epoch/\g.epoch<=1099511627776
 tree:cN g.tree=0
 zero:g.epoch=0->g.mem=[]/\g.last=jY 32 0#8
 dev:g.mem.map Mem.dev=aV g.tree
 ok:∀m∈g.mem,1<=m.since/\m.since<=g.epoch/\aM m.ver
def pT(x:Chg):Prop:=eK x.d/\((x.k=1/\aM x.p/\aM x.v/\x.c=0)\/(x.k=2/\x.p=0/\x.v=0/\0<=x.c/\x.c<=1048576)\/(x.k=3/\aM x.p/\aM x.v/\0<=x.c/\x.c<=1048576))
structure dG(l:List Chg):Prop where
 each:∀x∈l,pT x
 once:(l.map Chg.d).Nodup
 len:l.length<=64
structure eV(g:Grp)(a:Int)(l:List Chg):Prop where
 own:cr g.mem a=decide (0<g.epoch)
 first:g.epoch=0->∃x r,l=x::r/\x.d=a
 each:∀x∈l,cr g.mem x.d=decide (x.k≠1)/\(cr g.mem a=true->x.d≠a)
noncomputable def eH(t:List (Int×Int))(x:Chg):List (Int×Int):=if x.k=2 then ma t x.d else ig t x.d x.p
noncomputable def aJ(t:List (Int×Int))(l:List Chg):List (Int×Int):=l.foldl eH t
theorem Nw(t:List (Int×Int))(l:List Chg)(x:Chg):aJ t (l++[x])=eH (aJ t l) x:=by unfold aJ;rw[List.foldl_append];rfl
theorem KU(t:List (Int×Int))(x:Chg):(eH t x).length<=t.length+1:=by
 have a:∀d,(cU t d).length<=t.length:=λd=>qC _ _
 unfold eH
 split
 ·unfold ma
  split
  ·have:=a x.d;omega
  simp
 unfold ig
 split
 ·have:=Ep (512+x.d,x.p) (cU t x.d);have:=a x.d;omega
 simp
theorem tN(t:List (Int×Int)):∀l:List Chg,(aJ t l).length<=t.length+l.length:=by
 intro l
 induction l generalizing t with
 |nil=>simp[aJ]
 |cons x l a=>
  have b:=a (eH t x);have c:=KU t x;show(aJ (eH t x) l).length<=_;simp only[jt];omega
def kL(a:Int)(x:Chg):Bool:=decide (x.k=2)||decide (x.d=a)
def eX(l:List Chg):List Chg:=l.mergeSort λx y=>decide (x.d<=y.d)
def dk(a:Int)(l:List Chg):List Chg:=eX (l.filter λx=> !kL a x)
def gA(a:Int):List Int:=(lN a.toNat).map λn:Nat=>(n:Int)
noncomputable def eB(t:List (Int×Int))(l:List Int)(k:Nat):List (Int×Int):=(l.zipIdx k).flatMap λx=>(dU t x.1).map λn=>((x.2:Int),n)
noncomputable def dI(t:List (Int×Int))(a:Int):List (Int×Int):=eB t (gA a) 1
def dt(g:Grp)(a:Int)(l:List Chg):Int:=match g.mem.find? (λm=>m.dev==a)with
 |some m=>m.ver
 |none=>match l with|x::_=>x.v|[]=>0
structure fl(c:Cmt):Prop where
 fol:gD c.folder
 ep:1<=c.epoch/\c.epoch<=1099511627776
 aut:eK c.author
 chg:dG c.chg
 plen:c.path.length=10
 blen:c.box.length<=1024
 wlen:c.wel.length<=512
 path:∀p∈c.path,aM p
 box:∀b∈c.box,1<=b.node/\b.node<1024/\1<=b.lev/\b.lev<=9/\kE b.u b.body.length
 wel:∀x∈c.wel,eK x.dev/\kE x.u x.body.length
 inc:∀i,0<i->i<c.wel.length->((c.wel.map Wl.dev).getD (i-1) 0)<((c.wel.map Wl.dev).getD i 0)
noncomputable def ff(c:Cmt):Int:=by classical exact if fl c then 0 else 220
theorem rX{c:Cmt}(h:fl c):ff c=0:=by unfold ff;rw[if_pos h]
theorem ef{c:Cmt}(h:¬fl c):ff c=220:=by unfold ff;rw[if_neg h]
noncomputable def cD(g:Grp)(a:Int)(l:List Chg):Int:=by classical exact if co g then(if dG l/\eV g a l then 0 else 221)else 1
noncomputable def dh(g:Grp)(a:Int)(l:List Chg):List (Int×Int):=if cD g a l=0 then dI (aJ g.tree l) a else []
theorem mf{g:Grp}{a:Int}{l:List Chg}:cD g a l=0↔co g/\dG l/\eV g a l:=by
 unfold cD
 by_cases h:co g
 ·rw[if_pos h]
  by_cases b:dG l/\eV g a l
  ·rw[if_pos b];exact⟨λ_=>⟨h,b⟩,λ_=>rfl⟩
  rw[if_neg b];exact⟨λe=>absurd e L,λe=>absurd e.2 b⟩
 rw[if_neg h];exact⟨λe=>absurd e L,λe=>absurd e.1 h⟩
def aA(g:Grp)(vm vt:jc):List jc:=I N g.folder::I N g.epoch::(g.last.map v8++[vm,vt])
structure bQ(w:jb)(g:Grp)(vm vt:jc):Prop where
 mem:EM.At w vm g.mem
 tree:aT w vt g.tree
 llen:g.last.length=32
theorem bQ.below{w w':jb}{g:Grp}{vm vt:jc}(h:bQ w g vm vt)(a:jd w w w'):bQ w' g vm vt:=⟨h.mem.below a,h.tree.below a,h.llen⟩
theorem tw{g:Grp}{vm vt:jc}(h:g.last.length=32):(aA g vm vt).length=36:=by unfold aA;simp[h]
structure cV(w:jb)(b:Nat)(g:Grp)(vm vt:jc):Prop where
 blk:w.heap[b]?=T (ii (aA g vm vt).toArray 29 (0,0))
 llen:g.last.length=32
theorem cV.new(w:jb){g:Grp}{vm vt:jc}(h:g.last.length=32):cV (w.alloc (ii (aA g vm vt).toArray 29)) w.heap.size g vm vt:=⟨jm w _,h⟩
theorem cV.lt{w:jb}{b:Nat}{g:Grp}{vm vt:jc}(h:cV w b g vm vt):b<w.heap.size:=(jy.1 h.blk).1
theorem cV.keep{w w':jb}{b:Nat}{g:Grp}{vm vt:jc}(h:cV w b g vm vt)(hk:w'.heap[b]?=w.heap[b]?):cV w' b g vm vt:=⟨hk.trans h.blk,h.llen⟩
theorem cV.below{w w':jb}{b:Nat}{g:Grp}{vm vt:jc}(h:cV w b g vm vt)(a:jd w w w'):cV w' b g vm vt:=h.keep (a.block b h.lt)
theorem cV.get{w:jb}{b:Nat}{g:Grp}{vm vt:jc}(h:cV w b g vm vt){i:Nat}{v:jc}(a:(aA g vm vt)[i]?=T v):w.cell? ⟨b,i,ic⟩=T v:=
 cell_of h.blk (by simpa using a)
theorem kF{g:Grp}{vm vt:jc}(h:g.last.length=32):(aA g vm vt)[0]?=T (I N g.folder)/\(aA g vm vt)[1]?=T (I N g.epoch)/\(aA g vm vt)[34]?=T vm/\(aA g vm vt)[35]?=T vt:=by
 have a:(g.last.map v8).length=32:=by rw[ji];exact h
 unfold aA;refine⟨rfl,rfl,?_,?_⟩
 ·show(g.last.map v8++[vm,vt])[32]?=_
  rw[qD Y,a];rfl
 show(g.last.map v8++[vm,vt])[33]?=_;rw[qD Y,a];rfl
theorem cV.at{w:jb}{b:Nat}{g:Grp}{vm vt:jc}(h:cV w b g vm vt):w.cell? ⟨b,0,ic⟩=T (I N g.folder)/\w.cell? ⟨b,1,ic⟩=T (I N g.epoch)/\w.cell? ⟨b,34,ic⟩=T vm/\w.cell? ⟨b,35,ic⟩=T vt:=
 have e:=kF (vm:=vm) (vt:=vt) h.llen
 ⟨h.get e.1,h.get e.2.1,h.get e.2.2.1,h.get e.2.2.2⟩
theorem cV.last{w:jb}{b:Nat}{g:Grp}{vm vt:jc}(h:cV w b g vm vt):w.rangeAt b 2 (g.last.map v8):=by
 intro j v a;have c:=(j5.1 a).1;refine h.get ?_;unfold aA;rw[show 2+j=j+1+1 by omega,q4,q4,qa c];exact a
theorem EK.At.mems{w:jb}{v:jc}{l:List Mem}(h:EM.At w v l):mc w v l:=by
 obtain⟨a,p,c,b,d,f,i⟩:=h;refine⟨a,p,c,b,d,f,λj=>?_⟩;obtain⟨g,o,e,k⟩:=i j;exact⟨g,o,e,trivial,k⟩
theorem kI{g:Grp}{vm vt:jc}(h:g.last.length=32):(je.info? 29).map (·.size)=T (aA g vm vt).toArray.size:=by
 rw[jz,tw h];kernel_rfl
theorem uM(g:Grp)(vm vt:jc)(d:Int)(w:jb)(a:EM.At w vm g.mem)(i:ky g.mem)(q:g.mem.length<=1000000)(r:g.last.length=32):
 jg je 87 #[jf (aA g vm vt).toArray,I N d] w λe w'=>e=jh (jr #[I N (iY g.mem d:Nat),.bool (cr g.mem d)])/\jd w w w':=by
 have j:=cV.new w (vm:=vm) (vt:=vt) r;have b:=af w (ii (aA g vm vt).toArray 29);have f:=O (OT g.mem i vm d _ (a.mems.below b) q);have h:=O b;obtain⟨k,l,m,n⟩:=j.at;obtain⟨p,c,rfl,-,-⟩:=a.form;obtain⟨s,o⟩:=J ((aA g (ih p g.mem.length c) vt).toArray);rw[<-o]at k l m n f h⊢;clear j b a i o
 go_enter func87,ntmps87
 go_wp2_with fail
 refine(f).mono ?_;rintro e i ⟨rfl,a⟩;have b:=ac h a;clear a f k l m n h
 go_wp2_with fail
 go_ret2;exact⟨rfl,b⟩
noncomputable def fh(ep:Int)(m:Mem):Bool:=decide (m.since<1)||decide (ep<m.since)||decide (bS m.ver≠0)
theorem Lu(g:Grp)(vm vt:jc)(b:Nat)(m:Mem)(w:jb)(l:cV w b g vm vt):
 jg je 73 #[jf m.cells.toArray,jj (T ⟨b,0,ic⟩)] w λe w'=>e=jh (.bool (fh g.epoch m))/\jd w w w':=by
 obtain⟨md,a,f⟩:=m;obtain⟨r,c⟩:=J (fh g.epoch ⟨md,a,f⟩);rw[<-c];have i:=O c;unfold Mem.cells;have d:=af w (ii #[I N md,I N a,I N f] 45);obtain⟨-,n,-,-⟩:=(l.below d).at;have h:=O d;have j:=O (fs f);obtain⟨p,k⟩:=J (bS f);rw[<-k]at j;have q:=O k;obtain⟨ep,he⟩:=J g.epoch;rw[<-he]at n;have o:=O he;clear c d l k he
 by_cases c:a<1
 ·have k:decide (a<1)=true:=by simpa using c
  obtain rfl:r=true:=by rw[i];unfold fh;simp[c]
  go_enter func73,ntmps73
  go_wp2_with fail
  go_ret;exact⟨rfl,h⟩
 have k:decide (a<1)=false:=by simpa using c
 by_cases d:ep<a
 ·have l:decide (ep<a)=true:=by simpa using d
  obtain rfl:r=true:=by rw[i];unfold fh;rw[<-o];simp[d]
  go_enter func73,ntmps73
  go_wp2_with fail
  go_ret;exact⟨rfl,h⟩
 have l:decide (ep<a)=false:=by simpa using d
 have s:ja (r=decide (p≠0)):=O (by rw[i];unfold fh;rw[<-o,<-q];simp[c,d]);clear c d
 go_enter func73,ntmps73
 go_wp2_with fail
 refine(j _).mono ?_;rintro e t ⟨rfl,c⟩;have d:=ac h c;clear c j h n
 go_wp2_with fail
 go_ret;exact⟨iI (by rw[s];exact Pb _ _),d⟩
theorem Ih(m:Mem)(d:Int)(w:jb):
 jg je 74 #[jf m.cells.toArray,I N d] w λe w'=>e=jh (.bool (m.dev==d))/\jd w w w':=by
 obtain⟨md,a,b⟩:=m;unfold Mem.cells;have c:=O (af w (ii #[I N md,I N a,I N b] 45))
 go_enter func74,ntmps74
 go_wp2_with fail
 go_ret;exact⟨rfl,c⟩
theorem Ak(g:Grp)(vm vt:jc)(b a:Nat)(c:b<a):fB EM 73 #[jj (T ⟨b,0,ic⟩)] a (λW=>cV W b g vm vt) (fh g.epoch) where
 enter _ _:=rfl
 keep w w' hn h hB:=h.keep (hB.block b c)
 call x w hn h:=Lu g vm vt b x w h
theorem Ja(a:Int)(b:Nat)(x:Chg)(w:jb)(k:jp w b 3 (I N a)):
 jg je 79 #[jf x.cells.toArray,jj (T ⟨b,0,ic⟩)] w λe w'=>e=jh (.bool (kL a x))/\jd w w w':=by
 obtain⟨c,f,g,h,i⟩:=x;obtain⟨r,d⟩:=J (kL a ⟨c,f,g,h,i⟩);rw[<-d];have l:=O d;unfold Chg.cells;have j:=af w (ii #[I N c,I N f,I N g,I N h,I N i] 49);have n:(w.alloc (ii #[I N c,I N f,I N g,I N h,I N i] 49)).cell? ⟨b,0,ic⟩=T (I N a):=cell_below k.cell j;have m:=O j;clear d j k
 by_cases d:c=2
 ·subst d
  obtain rfl:r=true:=by rw[l];unfold kL;simp
  go_enter func79,ntmps79
  go_wp2_with fail
  go_ret;exact⟨rfl,m⟩
 have k:(c==2)=false:=by simpa using d
 have o:decide (c=2)=false:=by simpa using d
 have j:ja (r=(f==a)):=O (by rw[l];unfold kL;simp[d];rfl);clear d
 go_enter func79,ntmps79
 go_wp2_with fail
 go_ret;exact⟨iI j.symm,m⟩
theorem ON(a:Int)(b c:Nat)(d:b<c):fB EC 79 #[jj (T ⟨b,0,ic⟩)] c (λW=>jp W b 3 (I N a)) (kL a) where
 enter _ _:=rfl
 keep w w' hn h hB:=(hB.block b d).trans h
 call x w hn h:=Ja a b x w h
theorem o8{P:nn}{b:Array Oper}{c:Exit->Act->jb->Prop}{a:Act}{w:jb}{d:List Oper}{o:Oper}(e:Region.wanted o (yielded b a.tmps)=true)
 (h:∀K:Act->jb->Prop,(∀a w,wpList P b c d a w->K a w)->o.wp P a w K c):wpList P b c (o::d) a w:=
 wpList_step λK f=>by rw[if_pos e];exact h K f
theorem JM(n m:Int):(n==m)=decide (n=m):=by by_cases h:n=m<;>simp[h]
theorem PG{l:List Mem}{r:List Int}(c:l.length=r.length)(h:∀t,t<l.length->(l.getD t bF).dev=r.getD t 0):l.map Mem.dev=r:=by
 refine List.ext_getElem (by rw[ji];exact c) λi a d=>?_
 have b:i<l.length:=by rw[ji]at a;exact a
 have:=h i b;rw[eu _ b,eu _ d]at this;rw[qb];exact this
theorem Np{l:List Mem}{r:List Int}{k:Nat}(hk:k<l.length)(h:(l.getD k bF).dev≠r.getD k 0):¬l.map Mem.dev=r:=λe=>by
 apply h
 rw[<-e,eu _ hk,eu _ (by rw[ji];exact hk),qb]
theorem tG(l:List Mem)(r:List Int)(v M:jc)(w:jb)(h:EM.At w v l)(hu:cH w M r)(hl:l.length<=1000000)(hr:r.length<=1000000):
 jg je 75 #[v,M,.func (.func 74) #[] #[]] w λe w'=>e=jh (.bool (decide (l.map Mem.dev=r)))/\jd w w w':=by
 obtain⟨C,a⟩:=J (decide (l.map Mem.dev=r));rw[<-a];have D:=O a;obtain⟨p,c,rfl,hc,-⟩:=h.form;obtain⟨q,d,rfl,hd,g⟩:=hu;have P:=O h;have HV:=O g;obtain⟨n,b⟩:=J l.length;obtain⟨m,f⟩:=J r.length;have s:=O b;have z:=O f;rw[<-b]at hl hc P⊢;rw[<-f]at hr hd⊢;have EG:∀args w,(callFunc 74 args).run je w=.ok (.enter 74 args) w:=λ_ _=>rfl
 clear h g b f a
 by_cases f:n=m
 ·have aa:((n:Int)!=(m:Int))=false:=by simp[f]
  have ad:((n:Int)==(m:Int))=true:=by simp[f]
  have B:=O f;clear f
  go_enter func75,ntmps75
  go_wp2_with fail
  go_loopw [17] (λi wr=>∃k:Nat,i=I N k/\k<=n/\ja (∀t,t<k->(l.getD t bF).dev=r.getD t 0)/\ja (jd w w wr)) (λi _=>n-(jo i).toNat)
  case atStart=>exact⟨0,rfl,jQ _,O (λt Q=>absurd Q Y),O (jw _ _)⟩
  obtain⟨k,rfl,hk,R,b⟩:=hrel
  by_cases E:k<n
  ·have al:=aj ((k:Int)<(n:Int))
   have au:=aj (k<n);have YG:k<m:=aw B;have a1:=aj ((k:Int)<(m:Int));have a2:=aj (k<m);obtain⟨e,he,-⟩:=dE (l:=l) (j:=k) (by rw[<-s];exact E);obtain⟨g,o,rfl,h⟩:=(P.cells).2.2 Y;obtain⟨S,U,rfl,V⟩:=HV.out (by rw[<-z,<-B];omega);have x:=V k (by rw[<-z,<-B];exact E);have X:l.getD k bF=e:=by simp[jJ,he]
   have HE:=O X;obtain⟨y,F⟩:=J (r.getD k 0);rw[<-F]at x;have HY:=O F;obtain⟨a,i,u⟩:=e;have c0:wr.cell? ⟨g,o+k*3,ic⟩=T (I N a):=cell_below (h k _ he 0 _ rfl) b;have c1:wr.cell? ⟨g,o+k*3+1,ic⟩=T (I N i):=cell_below (h k _ he 1 _ rfl) b;have c2:wr.cell? ⟨g,o+k*3+2,ic⟩=T (I N u):=cell_below (h k _ he 2 _ rfl) b;have H:=af wr (ii #[I N a,I N i,I N u] 45);have c3:wr.cell? ⟨S,U+k,ic⟩=T (I N y):=cell_below x b;have c4:(wr.alloc (ii #[I N a,I N i,I N u] 45)).cell? ⟨S,U+k,ic⟩=T (I N y):=cell_below c3 H;have HC:ja (∀W,jg je 74 #[jf #[I N a,I N i,I N u],I N y] W λe w'=>e=jh (.bool (a==y))/\jd W W w'):=O (Ih ⟨a,i,u⟩ y);have K:=O H;clear h V x X F he H
   go_wp2_with fail
   refine(HC _).mono ?_;rintro x W ⟨rfl,h⟩;have F:=O (b.trans ((K.trans (h.mono K.size)).mono b.size));clear h HC c0 c1 c2 c3 c4 K
   by_cases h:a=y
   ·have K:(a==y)=true:=by simpa using h
    have V:ja (∀t,t<k+1->(l.getD t bF).dev=r.getD t 0):=O (λt Q=>by
     rcases lo t k with H|H
     ·exact R t H
     obtain rfl:t=k:=Y;rw[HE,<-HY];exact h)
    clear h
    go_wp2_with fail
    exact⟨⟨k+1,by go_num,by omega,V,F⟩,by simp only[jo];omega⟩
   have K:(a==y)=false:=by simpa using h
   obtain rfl:C=false:=by
    rw[D,decide_eq_false_iff_not];exact Np (by rw[<-s];exact E) (by rw[HE,<-HY];exact h)
   clear h
   go_wp2_with fail
   go_ret;exact⟨rfl,F⟩
  have al:=ak ((k:Int)<(n:Int));have au:=ak (k<n);obtain rfl:k=n:=Y;obtain rfl:C=true:=by
   rw[D,decide_eq_true_iff];exact PG (by rw[<-s,<-z];exact B) (by rw[<-s];exact R)
  go_wp2_with fail
  go_ret;exact⟨rfl,b⟩
 have aa:((n:Int)!=(m:Int))=true:=by simp;omega
 have ad:((n:Int)==(m:Int))=false:=by simp;omega
 obtain rfl:C=false:=by
  rw[D,decide_eq_false_iff_not];intro e;have:=congrArg qE e;rw[ji,<-s,<-z]at this;exact f this
 clear f
 go_enter func75,ntmps75
 go_wp2_with fail
 go_ret;exact⟨rfl,jw _ _⟩
theorem uc(a b:LBy)(f:a.length=32)(g:b.length=32)(z:jb):
 (Op.equalIn 10000 23 (jf (a.map v8).toArray) (jf (b.map v8).toArray)).run je z=.ok (decide (a=b)) z:=by
 have h:=yF (P:=je) (t:=23) (e:=5) (n:=32) (k:=.u8) underlying23 qT ae ae ae (a.map λb=>(b.toNat:Int)) (b.map λb=>(b.toNat:Int)) (by rw[ji];exact f) (by rw[ji];exact g)
  (by
   intro c d;obtain⟨y,-,rfl⟩:=jk.1 d;have:=y.isLt;exact WalkArith.wf_u8 Y) (by
    intro c d;obtain⟨y,-,rfl⟩:=jk.1 d;have:=y.isLt;exact WalkArith.wf_u8 Y) z
 have e:∀l:LBy,(l.map λb=>(b.toNat:Int)).map (jP .u8)=l.map v8:=λl=>by rw[jX];rfl
 rw[e,e]at h;rw[h]
 congr 1
 have c:(a.map λb=>(b.toNat:Int))=(b.map λb=>(b.toNat:Int))↔a=b:=by
  refine List.map_inj_right λx y d=>?_
  have:x.toNat=y.toNat:=Int.ofNat.inj d;exact q5 this
 simp only[c]
theorem kW{w:jb}{B:Nat}{v:jc}{l:List Int}(h:w.ownsRow B 3 1 v l.length (l.map (jP .i64))):cH w v l:=by
 obtain⟨m,p,c,b,d,n,f⟩:=bZ.of_own h;refine⟨p,c,b,d,λi=>?_⟩;obtain⟨g,o,e,k⟩:=f i;refine⟨g,o,e,λj a=>k j _ ?_⟩;rw[jB,jL a];simp[jJ,a]
theorem dw{w w':jb}{v:jc}{l:List Int}(h:cH w v l)(a:jd w w w'):cH w' v l:=by
 obtain⟨p,c,b,d,f⟩:=h;refine⟨p,c,b,d,λi=>?_⟩;obtain⟨g,o,e,k⟩:=f i;exact⟨g,o,e,λj m=>cell_below (k j m) a⟩
noncomputable def eJ(g:Grp):Bool:=by classical exact decide (co g)
theorem gG{g:Grp}(h:¬co g):eJ g=false:=by unfold eJ;simpa using h
theorem BC{g:Grp}(h:co g):eJ g=true:=by unfold eJ;simpa using h
theorem BK{ep:Int}{m:Mem}:fh ep m=false↔1<=m.since/\m.since<=ep/\aM m.ver:=by
 unfold fh;have e:(bS m.ver=0)↔aM m.ver:=⟨λh=>by
  by_cases g:aM m.ver
  ·exact g
  rw[iw g]at h;exact absurd h L,fw⟩
 simp only[Bool.or_eq_false_iff,decide_eq_false_iff_not,Int.not_lt,ne_eq,Classical.not_not,e];exact⟨λh=>⟨h.1.1,h.1.2,h.2⟩,λh=>⟨⟨h.1,h.2.1⟩,h.2.2⟩⟩
theorem zO{g:Grp}(e:gD g.folder)(f:0<=g.epoch/\g.epoch<=1099511627776)(h:cN g.tree=0)(i:g.epoch=0->g.mem=[]/\g.last=jY 32 0#8):
 eJ g=(decide (g.mem.map Mem.dev=aV g.tree)&& !(g.mem.any (fh g.epoch))):=by
 by_cases a:co g
 ·rw[BC a]
  have b:decide (g.mem.map Mem.dev=aV g.tree)=true:=decide_eq_true a.dev;have c:g.mem.any (fh g.epoch)=false:=by
   rw[lr];intro m d;rw[BK.2 (a.ok m d)];simp
  rw[b,c];rfl
 rw[gG a]
 by_cases b:g.mem.map Mem.dev=aV g.tree
 ·have c:g.mem.any (fh g.epoch)=true:=by
   cases hx:g.mem.any (fh g.epoch)with
   |true=>rfl
   |false=>
    exfalso
    apply a
    rw[lr]at hx;exact⟨e,f,h,i,b,λm d=>BK.1 (by simpa using hx m d)⟩
  rw[c];simp
 simp[b]
theorem MB(t:List (Int×Int)):(aV t).length<=512:=by
 have e:=mi t;have c:=λd=>(mA t d).1
 have f:((aV t).map Int.toNat).Nodup:=by
  have g:((aV t).map Int.toNat).Pairwise (·<·):=lm.2 (e.imp_of_mem λ{a b} h i j=>by have:=(c a h).1;have:=(c b i).1;omega);exact g.imp λh=>Nat.ne_of_lt h
 have:=List.Nodup.length_le_of_subset f (l₂:=ow 512) (λx a=>by
  obtain⟨d,b,rfl⟩:=jk.1 a;have g:=c d b;rw[qt];omega)
 simpa using this
theorem zl(g:Grp)(vm vt:jc)(w:jb)(h:bQ w g vm vt)(F:g.mem.length<=1000000)(k:g.tree.length<=1000000):
 jg je 22 #[jf (aA g vm vt).toArray] w λe w'=>e=jh (.bool (eJ g))/\jd w w w':=by
 obtain⟨r,o⟩:=J (eJ g);rw[<-o];have M:=O o;obtain⟨fo,p⟩:=J (decide (gD g.folder));have a1:=O p;have c:=cV.new w (vm:=vm) (vt:=vt) h.llen;have a:=af w (ii (aA g vm vt).toArray 29);have d:=h.below a;obtain⟨pm,cm,rfl,H,-⟩:=h.mem.form;obtain⟨t,q⟩:=J g.mem.length;rw[<-q]at c a d H⊢;have ZA:=O q;obtain⟨ad,f⟩:=J ((aA g (ih pm t cm) vt).toArray);obtain⟨m,P,R,n⟩:=c.at;have i:=c.blk;have s:=kF (g:=g) (vm:=ih pm t cm) (vt:=vt) h.llen;have j:=c.last;have u:ja (ad[34]?=T (ih pm t cm)):=O (by rw[f];simpa using s.2.2.1);have y:ja (ad[35]?=T vt):=O (by rw[f];simpa using s.2.2.2);rw[<-f]at m P R n i a d j⊢;obtain⟨b,v⟩:=J w.heap.size;rw[<-v]at m P R n i j;obtain⟨W1,z⟩:=J (w.alloc (ii ad 29));rw[<-z]at m P R n i a d j;have Rc:=O z;have SE:=O v;have Tq:=O f;have K:=O i;have B:=O d;have l:=O a;have R2:=O h.llen;have T6:=O k;have UN:=O F;have Q:=O j;have au:ja ((aV g.tree).length<=1000000):=O (jn (MB _) L);obtain⟨ck,C⟩:=J (cN g.tree);have U:ja (∀W,aT W vt g.tree->jg je 72 #[jf #[vt]] W λe w'=>e=jh (I N ck)/\jd W W w'):=O (by rw[C];exact λW x=>tY g.tree vt W x k);have WG:=O C;obtain⟨ep,D⟩:=J g.epoch;rw[<-D]at P;have S:=O D;obtain⟨fd,E⟩:=J g.folder;have V:ja (∀e x,e=g.folder->jg je 66 #[I N e] x λe w'=>e=jh (.bool fo)/\x=w'):=O (by rw[p];rintro e x rfl;exact BV _ x);rw[<-E]at m;have ba:=O E;clear h o p c a d H q f i s j v z F k C D E
 go_enter func22,ntmps22
 go_upto_region 1 with fail
 rw[<-Rc,<-SE]
 go_wp2_with fail
 refine(V fd W1 ba).mono ?_;rintro e w1 ⟨rfl,rfl⟩;clear V
 cases fo with
 |false=>
  obtain rfl:r=false:=by rw[M];exact gG λh=>by have x:=a1.out;rw[decide_eq_true h.fol]at x;cases x
  go_wp2_with fail
  go_ret;exact⟨rfl,l⟩
 |true=>
 by_cases a:ep<0
 ·have bb:decide (ep<0)=true:=by simpa using a
  obtain rfl:r=false:=by rw[M];exact gG λh=>by have:=h.ep.1;rw[<-S]at this;omega
  clear a
  go_wp2_with fail
  go_ret;exact⟨rfl,l⟩
 have bb:decide (ep<0)=false:=by simpa using a
 by_cases x:1099511627776<ep
 ·have bc:decide (1099511627776<ep)=true:=by simpa using x
  obtain rfl:r=false:=by rw[M];exact gG λh=>by have:=h.ep.2;rw[<-S]at this;omega
  clear a x
  go_wp2_with fail
  go_ret;exact⟨rfl,l⟩
 have bc:decide (1099511627776<ep)=false:=by simpa using x
 have a4:=O (show 0<=ep/\ep<=1099511627776 by omega);clear a x
 go_wp2_with fail
 refine(U W1 B.tree).mono ?_;rintro e w1 ⟨rfl,a⟩;have f:=Z K a;have i:=O (B.below a);have k:=ac l a;have bd:ja (w1.rangeAt b 2 (g.last.map v8)):=O (λj v c=>cell_below (Q j v c) a);replace P:=cell_below P a;replace R:=cell_below R a;clear a K B l Q m n U
 by_cases B:ck=0
 case neg=>
  have c:(ck==0)=false:=by simpa using B
  have d:decide (ck=0)=false:=by simpa using B
  have j:(ck !=0)=true:=by simpa using B
  obtain rfl:r=false:=by rw[M];exact gG λh=>B (by rw[WG];exact h.tree)
  clear B
  go_wp2_with fail
  go_ret;exact⟨rfl,k⟩
 subst B;have a5:ja (0=cN g.tree):=WG
 by_cases h4:ep=0
 case pos=>
  subst h4
  by_cases d:0<t
  ·have bf:decide (0<t)=true:=by simpa using d
   have bg:decide ((0:Int)<(t:Int))=true:=by simpa using d
   obtain rfl:r=false:=by rw[M];exact gG λh=>by have:=(h.zero S.symm).1;have e:=ZA.out;rw[this]at e;simp at e;omega
   clear d
   go_wp2_with fail
   go_ret;exact⟨rfl,k⟩
  have bf:decide (0<t)=false:=by simpa using d
  have bg:decide ((0:Int)<(t:Int))=false:=by simpa using d
  obtain⟨bh,c⟩:=J ((g.last.map v8).toArray);have bk:=O c;obtain⟨Q,p⟩:=J (decide (g.last=jY 32 0#8));have C:=O p;have j:∀z,(Op.equalIn 10000 23 (jf bh) (jf aI)).run je z=.ok Q z:=by
   rw[c,p];exact λz=>uc g.last (jY 32 0#8) R2 rfl z
  clear c p
  go_upto_region 3 with fail
  refine oi ?_;iterate 10 refine aL ?_
  refine o8 ag λ_ c=>wp_load_mid 23 _ rfl b 2 rfl (g.last.map v8) _ bd.out underlying23 rfl (by rw[ji,R2];kernel_rfl) (c _ _ ?_)
  rw[<-bk];refine G ?_;refine aL ?_
  rcases Q with _|_
  ·obtain rfl:r=false:=by rw[M];exact gG λh=>by have x:=(h.zero S.symm).2;have B:=C.out;rw[decide_eq_true x]at B;cases B
   go_wp2_with fail
   go_ret;exact⟨rfl,k⟩
  have U:ja (r=(decide (g.mem.map Mem.dev=aV g.tree)&& !(g.mem.any (fh g.epoch)))):=O (by
   rw[M];exact zO (of_decide_eq_true a1.symm) (by rw[<-S];exact a4) a5.symm (λe=>⟨qc (by rw[<-ZA];simpa using d),of_decide_eq_true C.symm⟩))
  clear C d;obtain⟨Q,p⟩:=J (decide (g.mem.map Mem.dev=aV g.tree));obtain⟨wr,V⟩:=J (g.mem.any (fh g.epoch));rw[<-p,<-V]at U;have C:ja (decide (g.mem.map Mem.dev=aV g.tree)=Q):=O p.symm;have a2:=O V;clear p V
  go_upto_region 7 with fail
  clear P R j;refine j1 ?_;refine bi (λn=>n.heap[b]?=T (ii ad 29 (0,0))) (.take 0 (.take 1 (.take 2 (.take 3 (.take 5 (.one 4 (.one 6 (.take 7 (.take 8 (.take 9 (.take 10 (.one 11 (.take 12 (.take 13 (.take 14 .done))))))))))))))) ae ae ae L (λ_ _ _ _ h=>h) f ?_;obtain⟨x0,al⟩:=J w1.drew;have a:=aP w1;rw[<-al]at a⊢;have D:=Z f a;have o:=O (i.below a);have l:=ac k a;clear a al f i k
  cases Q with
  |true=>
   refine aC ?_
   (refine az (v:=?_) rfl ag (λn d=>?_) ?_;rotate_left;(have E:=cell_of d u;have F:=cell_of d y;go_simp;with_reducible rfl);refine G ?_)
   refine aC ?_
   (refine az (v:=?_) rfl ag (λn d=>?_) ?_;rotate_left;(have E:=cell_of d u;have F:=cell_of d y;go_simp;with_reducible rfl);refine G ?_)
   refine aC ?_;refine ai rfl (λq c=>?_);go_simp;refine(pW g.tree vt x0 o.tree T6).mono ?_;rintro e W ⟨a3,rfl,m,a⟩;have s:=O (kW m);obtain⟨pu,cu,rfl,X,aa⟩:=kW m;clear m X aa;have k:=ac l a;have f:=Z D a;have i:=O (o.below a);clear l D o;clear a;refine c _ _ f.out λ_=>?_
   clear c;refine G ?_;refine ai rfl (λq c=>?_);go_simp;refine(tG g.mem (aV g.tree) _ _ W i.mem s UN au).mono ?_;rintro e x2 ⟨rfl,a⟩;rw[C];have H:=ac k a;have j:=Z f a;have K:=O (i.below a);clear k f i s;clear a;refine c _ _ j.out λ_=>?_
   clear c;refine G ?_;iterate 2 refine aC ?_
   (refine az (v:=?_) rfl ag (λn d=>?_) ?_;rotate_left;(have E:=cell_of d u;have F:=cell_of d y;go_simp;with_reducible rfl);refine G ?_)
   refine aC ?_;refine ai rfl (λq c=>?_);rw[if_pos ag];go_simp;refine(C4 (Ak g (ih pm t cm) vt b x2.heap.size (jy.1 j).1) g.mem _ x2 K.mem ⟨by rw[j,Tq],R2⟩ (jl _) UN).mono ?_;rintro e x3 ⟨rfl,a⟩;rw[<-a2];have Qp:=ac H a;have TU:=Z j a;have bl:=O (K.below a);clear H j K;clear a;refine c _ _ TU.out λ_=>?_
   clear c;refine G ?_;iterate 3 refine aC ?_
   refine jC ?_
   go_wp2_with fail
   go_ret;exact⟨by rw[U];rfl,Qp⟩
  |false=>
   refine aC ?_
   (refine az (v:=?_) rfl ag (λn d=>?_) ?_;rotate_left;(have E:=cell_of d u;have F:=cell_of d y;go_simp;with_reducible rfl);refine G ?_)
   refine aC ?_
   (refine az (v:=?_) rfl ag (λn d=>?_) ?_;rotate_left;(have E:=cell_of d u;have F:=cell_of d y;go_simp;with_reducible rfl);refine G ?_)
   refine aC ?_;refine ai rfl (λq c=>?_);go_simp;refine(pW g.tree vt x0 o.tree T6).mono ?_;rintro e W ⟨a3,rfl,m,a⟩;have s:=O (kW m);obtain⟨pu,cu,rfl,X,aa⟩:=kW m;clear m X aa;have k:=ac l a;have f:=Z D a;have i:=O (o.below a);clear l D o;clear a;refine c _ _ f.out λ_=>?_
   clear c;refine G ?_;refine ai rfl (λq c=>?_);go_simp;refine(tG g.mem (aV g.tree) _ _ W i.mem s UN au).mono ?_;rintro e x2 ⟨rfl,a⟩;rw[C];have H:=ac k a;have j:=Z f a;have K:=O (i.below a);clear k f i s;clear a;refine c _ _ j.out λ_=>?_
   clear c;refine G ?_;refine aC ?_;iterate 3 refine gH ?_
   refine ai rfl (λq c=>?_);rw[if_neg (qd.1 ag)];refine c _ _ j.out λ_=>?_
   clear c;refine G ?_;refine gH ?_;iterate 2 refine aC ?_
   refine jC ?_
   go_wp2_with fail
   go_ret;exact⟨by rw[U];rfl,H⟩
 have z:decide (ep=0)=false:=by simpa using h4
 have bf:(ep==0)=false:=by simpa using h4
 have U:ja (r=(decide (g.mem.map Mem.dev=aV g.tree)&& !(g.mem.any (fh g.epoch)))):=O (by rw[M];exact zO (of_decide_eq_true a1.symm) (by rw[<-S];exact a4) a5.symm (λe=>absurd (S.trans e) h4));clear h4;obtain⟨Q,p⟩:=J (decide (g.mem.map Mem.dev=aV g.tree));obtain⟨wr,V⟩:=J (g.mem.any (fh g.epoch));rw[<-p,<-V]at U;have C:ja (decide (g.mem.map Mem.dev=aV g.tree)=Q):=O p.symm;have a2:=O V;clear p V
 go_upto_region 7 with fail
 clear P R;refine j1 ?_;refine bi (λn=>n.heap[b]?=T (ii ad 29 (0,0))) (.take 0 (.take 1 (.take 2 (.take 3 (.take 5 (.one 4 (.one 6 (.take 7 (.take 8 (.take 9 (.take 10 (.one 11 (.take 12 (.take 13 (.take 14 .done))))))))))))))) ae ae ae L (λ_ _ _ _ h=>h) f ?_;obtain⟨x0,al⟩:=J w1.drew;have a:=aP w1;rw[<-al]at a⊢;have D:=Z f a;have o:=O (i.below a);have l:=ac k a;clear a al f i k
 cases Q with
 |true=>
  refine aC ?_
  (refine az (v:=?_) rfl ag (λn d=>?_) ?_;rotate_left;(have E:=cell_of d u;have F:=cell_of d y;go_simp;with_reducible rfl);refine G ?_)
  refine aC ?_
  (refine az (v:=?_) rfl ag (λn d=>?_) ?_;rotate_left;(have E:=cell_of d u;have F:=cell_of d y;go_simp;with_reducible rfl);refine G ?_)
  refine aC ?_;refine ai rfl (λq c=>?_);go_simp;refine(pW g.tree vt x0 o.tree T6).mono ?_;rintro e W ⟨a3,rfl,m,a⟩;have s:=O (kW m);obtain⟨pu,cu,rfl,X,aa⟩:=kW m;clear m X aa;have k:=ac l a;have f:=Z D a;have i:=O (o.below a);clear l D o;clear a;refine c _ _ f.out λ_=>?_
  clear c;refine G ?_;refine ai rfl (λq c=>?_);go_simp;refine(tG g.mem (aV g.tree) _ _ W i.mem s UN au).mono ?_;rintro e x2 ⟨rfl,a⟩;rw[C];have H:=ac k a;have j:=Z f a;have K:=O (i.below a);clear k f i s;clear a;refine c _ _ j.out λ_=>?_
  clear c;refine G ?_;iterate 2 refine aC ?_
  (refine az (v:=?_) rfl ag (λn d=>?_) ?_;rotate_left;(have E:=cell_of d u;have F:=cell_of d y;go_simp;with_reducible rfl);refine G ?_)
  refine aC ?_;refine ai rfl (λq c=>?_);rw[if_pos ag];go_simp;refine(C4 (Ak g (ih pm t cm) vt b x2.heap.size (jy.1 j).1) g.mem _ x2 K.mem ⟨by rw[j,Tq],R2⟩ (jl _) UN).mono ?_;rintro e x3 ⟨rfl,a⟩;rw[<-a2];have Qp:=ac H a;have TU:=Z j a;have bl:=O (K.below a);clear H j K;clear a;refine c _ _ TU.out λ_=>?_
  clear c;refine G ?_;iterate 3 refine aC ?_
  refine jC ?_
  go_wp2_with fail
  go_ret;exact⟨by rw[U];rfl,Qp⟩
 |false=>
  refine aC ?_
  (refine az (v:=?_) rfl ag (λn d=>?_) ?_;rotate_left;(have E:=cell_of d u;have F:=cell_of d y;go_simp;with_reducible rfl);refine G ?_)
  refine aC ?_
  (refine az (v:=?_) rfl ag (λn d=>?_) ?_;rotate_left;(have E:=cell_of d u;have F:=cell_of d y;go_simp;with_reducible rfl);refine G ?_)
  refine aC ?_;refine ai rfl (λq c=>?_);go_simp;refine(pW g.tree vt x0 o.tree T6).mono ?_;rintro e W ⟨a3,rfl,m,a⟩;have s:=O (kW m);obtain⟨pu,cu,rfl,X,aa⟩:=kW m;clear m X aa;have k:=ac l a;have f:=Z D a;have i:=O (o.below a);clear l D o;clear a;refine c _ _ f.out λ_=>?_
  clear c;refine G ?_;refine ai rfl (λq c=>?_);go_simp;refine(tG g.mem (aV g.tree) _ _ W i.mem s UN au).mono ?_;rintro e x2 ⟨rfl,a⟩;rw[C];have H:=ac k a;have j:=Z f a;have K:=O (i.below a);clear k f i s;clear a;refine c _ _ j.out λ_=>?_
  clear c;refine G ?_;refine aC ?_;iterate 3 refine gH ?_
  refine ai rfl (λq c=>?_);rw[if_neg (qd.1 ag)];refine c _ _ j.out λ_=>?_
  clear c;refine G ?_;refine gH ?_;iterate 2 refine aC ?_
  refine jC ?_
  go_wp2_with fail
  go_ret;exact⟨by rw[U];rfl,H⟩
def kq(g:Grp)(a:Int)(x:Chg):Bool:=(cr g.mem x.d==decide (x.k=1))||(cr g.mem a&&decide (x.d=a))
noncomputable def iM(g:Grp)(a:Int)(l:List Chg):Bool:=by classical exact decide (eV g a l)
theorem pY{g:Grp}{a:Int}{l:List Chg}:iM g a l=true↔eV g a l:=by unfold iM;simp
theorem rf{g:Grp}{a:Int}{l:List Chg}(h:¬eV g a l):iM g a l=false:=by unfold iM;simpa using h
theorem B9{g:Grp}{a:Int}{l:List Chg}(c:cr g.mem a=decide (0<g.epoch))(d:g.epoch=0->∃x r,l=x::r/\x.d=a):iM g a l= !(l.any (kq g a)):=by
 have e:∀x:Chg,kq g a x=false↔(cr g.mem x.d=decide (x.k≠1)/\(cr g.mem a=true->x.d≠a)):=λx=>by
  unfold kq
  cases cr g.mem x.d<;>cases cr g.mem a<;>by_cases b:x.k=1<;>by_cases f:x.d=a<;>simp[b,f]
 rw[j6,pY,Bool.not_eq_true',lr]
 constructor
 ·intro h x b
  rw[(e x).2 (h.each x b)];simp
 intro h;exact⟨c,d,λx b=>(e x).1 (by simpa using h x b)⟩
theorem GB(g:Grp)(vm vt:jc)(a:Int)(f:Bool)(s t u:Nat)(x:Chg)(w:jb)(k:cV w s g vm vt)(K:EM.At w vm g.mem)(M:ky g.mem)(P:g.mem.length<=1000000)
 (v:jp w t 4 (.bool f)) (y:jp w u 3 (I N a)) (Q:f=cr g.mem a):
 jg je 117 #[jf x.cells.toArray,jj (T ⟨s,0,ic⟩),jj (T ⟨t,0,ic⟩),jj (T ⟨u,0,ic⟩)] w λe w'=>e=jh (.bool (kq g a x))/\jd w w w':=by
 obtain⟨c,b,l,m,n⟩:=x;obtain⟨r,o⟩:=J (kq g a ⟨c,b,l,m,n⟩);rw[<-o];have HR:=O o;unfold Chg.cells;have d:=af w (ii #[I N c,I N b,I N l,I N m,I N n] 49);have p:=jm w (ii #[I N c,I N b,I N l,I N m,I N n] 49);have j:=O (uM g vm vt b _ (K.below d) M P k.llen);have q:=(k.below d).blk;have z:=kI (vm:=vm) (vt:=vt) k.llen;obtain⟨aa,R⟩:=J ((aA g vm vt).toArray);rw[<-R]at j q z;obtain⟨W0,C⟩:=J (w.alloc (ii #[I N c,I N b,I N l,I N m,I N n] 49));obtain⟨B,D⟩:=J w.heap.size;rw[<-C]at j q d p;rw[<-D]at p;have S:=O q;have QH:=O z;have U:=O d;have E:=O p;have V:=O ((d.block _ v.lt).trans v);have W:=O ((d.block _ y.lt).trans y);have ad:=O C;have SE:=O D;obtain⟨F,H⟩:=J (cr g.mem b);rw[<-H]at j;have h:ja (r=((F==decide (c=1))||(f&&decide (b=a)))):=O (by rw[o,H,Q];rfl);have X:=cell_of (i:=1) E rfl;clear d p q z R C D o H k K M P v y Q
 go_enter func117,ntmps117
 go_upto_region 1 with fail
 rw[<-ad,<-SE];refine oi ?_;refine oj rfl 29 _ rfl s rfl 29 aa (0,0) _ S.out j3 rfl QH ?_
 go_wp2_with fail
 refine(j).mono ?_;rintro e o ⟨rfl,k⟩;have p:=Z E k;have q:ja (jp o t 4 (.bool f)):=Z V k;have v:ja (jp o u 3 (I N a)):=Z W k;have d:=ac U k;clear k j E V W U S X;have y:=cell_of (i:=0) p rfl;have X:=cell_of (i:=1) p rfl;have z:=q.cell;have C:=v.cell
 by_cases hk:c=1
 case pos=>
  subst hk
  cases F with
  |true=>
   obtain rfl:r=true:=by rw[h];simp
   go_wp2_with fail
   go_ret;exact⟨rfl,d⟩
  |false=>
   cases f with
   |true=>
    have j:ja (r=(b==a)):=O (by rw[h];simp;rfl)
    go_wp2_with fail
    go_ret;exact⟨iI j.symm,d⟩
   |false=>
    obtain rfl:r=false:=by rw[h];simp
    go_wp2_with fail
    go_ret;exact⟨rfl,d⟩
 have D:(c==1)=false:=by simpa using hk
 have k:decide (c=1)=false:=by simpa using hk
 clear hk
 rcases F with _|_
 ·obtain rfl:r=true:=by rw[h,k];simp
  go_wp2_with fail
  go_ret;exact⟨rfl,d⟩
 cases f with
 |true=>
  have j:ja (r=(b==a)):=O (by rw[h,k];simp;rfl)
  go_wp2_with fail
  go_ret;exact⟨iI j.symm,d⟩
 |false=>
  obtain rfl:r=false:=by rw[h,k];simp
  go_wp2_with fail
  go_ret;exact⟨rfl,d⟩
theorem Nf(g:Grp)(vm vt:jc)(a:Int)(c:Bool)(d e f:Nat)(b:jb)(k:cV b d g vm vt)(l:EM.At b vm g.mem)(m:ky g.mem)(n:g.mem.length<=1000000)
 (i:jp b e 4 (.bool c)) (j:jp b f 3 (I N a)) (o:c=cr g.mem a):
 fB EC 117 #[jj (T ⟨d,0,ic⟩),jj (T ⟨e,0,ic⟩),jj (T ⟨f,0,ic⟩)] b.heap.size (λW=>jd b b W) (kq g a) where
 enter _ _:=rfl
 keep w w' hn h hB:=h.trans hB
 call x w hn h:=GB g vm vt a c d e f x w (k.below h) (l.below h) m n ((h.block _ i.lt).trans i) ((h.block _ j.lt).trans j) o
theorem r5{g:Grp}(h:co g):ky g.mem:=by
 intro i j c a;have b:=mi g.tree;rw[<-h.dev]at b;have:=(pz.1 b) i j (by rw[ji];omega) (by rw[ji];exact a) c;rw[qb,qb]at this;rw[eu _ Y,eu _ a];exact this
theorem Lv(g:Grp)(vm vt vl:jc)(a:Int)(l:List Chg)(w:jb)(h:bQ w g vm vt)(f:co g)(z:g.mem.length<=1000000)(E:EC.At w vl l)(hl:l.length<=1000000):
 jg je 53 #[jf (aA g vm vt).toArray,I N a,vl] w λe w'=>e=jh (.bool (iM g a l))/\jd w w w':=by
 obtain⟨r,F⟩:=J (iM g a l);rw[<-F];have k:=O F;have j:=af w (ii (aA g vm vt).toArray 29);have H:=cV.new w (vm:=vm) (vt:=vt) h.llen;obtain⟨B,b⟩:=J (w.alloc (ii (aA g vm vt).toArray 29));rw[<-b]at j H;have m:=af B (ii #[I N a] 3);have d:=Boxed.new B 3 (I N a);have K:=H.below m;obtain⟨W2,M⟩:=J (B.alloc (ii #[I N a] 3));rw[<-M]at m d K;have o:=j.trans (m.mono j.size);have s:=h.below o;have P:=E.below o;have x:=O (uM g vm vt a W2 s.mem (r5 f) z s.llen);have Q:=kI (vm:=vm) (vt:=vt) h.llen;have u:=K.blk;obtain⟨al,R⟩:=J ((aA g vm vt).toArray);rw[<-R]at b x Q u⊢;obtain⟨C,y⟩:=J w.heap.size;obtain⟨p,S⟩:=J B.heap.size;rw[<-y]at u;rw[<-S]at d;obtain⟨pl,cl,rfl,Sz,-⟩:=E.form;obtain⟨n,U⟩:=J l.length;obtain⟨q,V⟩:=J (cr g.mem a);obtain⟨ep,D⟩:=J g.epoch;have au:=O f.ep.1;have a1:=O (r5 f);rw[<-V]at x;rw[<-U]at Sz P⊢;have a2:=O b;have a3:=O M;have a4:=O y;have Uf:ja (p=C+1):=O (by rw[S,y,b];simp);have Tq:=O R;have QH:=O Q;have W:=O u;have X:=O d;have Qk:=O o;have Ua:=O s;have QE:=O P;have SX:=O U;have t:=O V;have c:=O D;have a5:=O hl;have Zw:=O z;have bb:ja (p<W2.heap.size):=O d.lt;clear F j H b m d K M o s P Q u R y S U V D E hl z h f
 go_enter func53,ntmps53
 go_upto_region 1 with fail
 rw[<-a2,<-a4,<-a3,<-Uf];refine oi ?_;refine oj rfl 29 _ rfl C rfl 29 al (0,0) _ W.out j3 rfl QH ?_;have P:=X.cell
 go_wp2_with fail
 refine(x).mono ?_;rintro e u ⟨rfl,b⟩;have j:=Z W b;have m:ja (jp u p 3 (I N a)):=Z X b;have y:=O (Ua.below b);have z:=O (QE.below b);have E:=ac Qk b;clear b x W X Ua QE Qk P
 go_upto_region 2 with fail
 have b:=af u (ii #[.bool q] 4);have d:=Boxed.new u 4 (.bool q);obtain⟨f,x⟩:=J (u.alloc (ii #[.bool q] 4));obtain⟨Q,F⟩:=J u.heap.size;rw[<-x]at b d⊢;rw[<-F]at d⊢;have R:=Z j b;have S:ja (jp f p 3 (I N a)):=Z m b;have U:=O (y.below b);have V:=O (z.below b);have s:=ac E b;have W:=O d;clear b x F d j m y z E;have P:=W.cell;have c1:=S.cell;have c2:=cell_of (i:=1) (v:=I N ep) R.out (by rw[Tq,c];rfl);have X:ja (∀z:jb,(∃m,z=f.drewN m)->jg je 34 #[ih pl n cl,.func (.func 117) #[] #[jj (T ⟨C,0,ic⟩),jj (T ⟨Q,0,ic⟩),jj (T ⟨p,0,ic⟩)]] z λe w'=>e=jh (.bool (l.any (kq g a)))/\jd w w w'):=O (by
  rintro z ⟨m,rfl⟩;have b:jd f f (f.drewN m):=(jw _ _).trans ⟨rfl,rfl,rfl,jl _,λ_ _=>rfl⟩;refine(EI (Nf g vm vt a q C Q p (f.drewN m) ⟨by rw[av R b,Tq],U.llen⟩ (U.mem.below b) a1 Zw (av W b) (av S b) t) l _ _ (V.below b) (jw _ _) (jl _) a5).mono ?_;rintro e w' ⟨rfl,o⟩;exact⟨rfl,s.trans ((b.trans (o.mono b.size)).mono s.size)⟩)
 by_cases b:0<ep
 case pos=>
  have m:decide (0<ep)=true:=by simpa using b
  have x:(ep==0)=false:=by simp;omega
  have j:=O b;clear b
  rcases q with _|_
  ·obtain rfl:r=false:=by
    rw[k];exact rf λh=>by have d:=h.own;rw[<-t,<-c,m]at d;cases d
   go_quiet (fail)
   go_wp2_with fail
   go_ret;exact⟨rfl,s.trans ⟨rfl,rfl,rfl,jl _,λ_ _=>rfl⟩⟩
  have E:ja (r= !(l.any (kq g a))):=O (by rw[k];exact B9 (by rw[<-t,<-c,m]) (λe=>absurd (c.trans e) (aw j)))
  go_quiet (fail)
  go_wp2_with fail
  refine(X _ ⟨_,rfl⟩).mono ?_;rintro e w5 ⟨rfl,y⟩;have F:=O y;clear y
  go_wp2_with fail
  go_ret;exact⟨iI E.symm,F⟩
 have m:decide (0<ep)=false:=by simpa using b
 have D:ep=0:=by have:=au.out;rw[<-c]at this;omega
 subst D;clear b
 cases q with
 |true=>
  obtain rfl:r=false:=by
   rw[k];exact rf λh=>by have d:=h.own;rw[<-t,<-c,m]at d;cases d
  go_quiet (fail)
  go_wp2_with fail
  go_ret;exact⟨rfl,s.trans ⟨rfl,rfl,rfl,jl _,λ_ _=>rfl⟩⟩
 |false=>
 by_cases d:n=0
 case pos=>
  subst d;obtain rfl:r=false:=by
   rw[k];exact rf λh=>by
    obtain⟨x,r,b,-⟩:=h.first c.symm;have j:=SX.out;rw[b]at j;simp at j
  go_quiet (fail)
  go_wp2_with fail
  go_ret;exact⟨rfl,s.trans ⟨rfl,rfl,rfl,jl _,λ_ _=>rfl⟩⟩
 have bc:((n:Int)==0)=false:=by simp;omega
 have ba:0<n:=Y;obtain⟨g0,o0,rfl,aa⟩:=(V.cells).2.2 ba;obtain⟨x,H,K⟩:∃x H,l=x::H:=by
  rcases l with _|⟨x,r⟩
  ·have:=SX.out;simp at this;omega
  exact⟨x,r,rfl⟩
 have c3:f.cell? ⟨g0,o0+1,ic⟩=T (I N x.d):=by
  have h:=aa 0 x (by rw[K];rfl) 1 _ rfl;rw[Nat.zero_mul,Nat.add_zero]at h;exact h
 obtain⟨z,M⟩:=J x.d;rw[<-M]at c3;have YZ:=O K;have ad:=O M;clear aa K M d
 by_cases b:z=a
 case neg=>
  have K:(z==a)=false:=by simpa using b
  have M:(z !=a)=true:=by simpa using b
  obtain rfl:r=false:=by
   rw[k];exact rf λh=>by
    obtain⟨x2,r2,j,h5⟩:=h.first c.symm;rw[YZ]at j;injection j with j _
    subst j;exact b (ad.trans h5)
  clear b
  go_quiet (fail)
  go_wp2_with fail
  go_ret;exact⟨rfl,s.trans ⟨rfl,rfl,rfl,jl _,λ_ _=>rfl⟩⟩
 have K:(z==a)=true:=by simpa using b
 have M:(z !=a)=false:=by simpa using b
 have E:ja (r= !(l.any (kq g a))):=O (by rw[k];exact B9 (by rw[<-t,<-c,m]) (λe=>⟨x,H,YZ,by rw[<-ad];exact b⟩));clear b
 go_quiet (fail)
 go_wp2_with fail
 refine(X _ ⟨_,rfl⟩).mono ?_;rintro e w5 ⟨rfl,y⟩;have F:=O y;clear y
 go_wp2_with fail
 go_ret;exact⟨iI E.symm,F⟩
def mo(x:Chg):Prop:=(x.k=1/\aM x.p/\aM x.v/\x.c=0)\/(x.k=2/\x.p=0/\x.v=0/\0<=x.c/\x.c<=1048576)\/(x.k=3/\aM x.p/\aM x.v/\0<=x.c/\x.c<=1048576)
noncomputable def iW(x:Chg):Bool:=by classical exact decide (mo x)
noncomputable def pO(x:Chg):Bool:=decide (bS x.p=0)&&decide (bS x.v=0)
def oH(x:Chg):Bool:=decide (0<=x.c)&&decide (x.c<=1048576)
theorem vB{n:Int}:bS n=0↔aM n:=⟨λh=>by
 by_cases g:aM n
 ·exact g
 rw[iw g]at h;exact absurd h L,fw⟩
theorem Ci{x:Chg}:pO x=true↔aM x.p/\aM x.v:=by unfold pO;simp[vB]
theorem CJ{x:Chg}:oH x=true↔0<=x.c/\x.c<=1048576:=by unfold oH;simp
theorem oh{x:Chg}:iW x=true↔mo x:=by unfold iW;simp
theorem OO{x:Chg}(h:x.k=1):iW x=(pO x&&(x.c==0)):=by
 rw[j6,lv,Ci,beq_iff_eq,oh];unfold mo;simp[h,and_assoc]
theorem PU{x:Chg}(h:x.k=2):iW x=((x.p==0)&&(x.v==0)&&oH x):=by
 rw[j6,lv,lv,CJ,beq_iff_eq,beq_iff_eq,oh];unfold mo;simp[h,and_assoc]
theorem G9{x:Chg}(h:x.k=3):iW x=(pO x&&oH x):=by
 rw[j6,lv,Ci,CJ,oh];unfold mo;simp[h,and_assoc]
theorem IT{x:Chg}(a:x.k≠1)(b:x.k≠2)(c:x.k≠3):iW x=false:=by
 have h:¬mo x:=by unfold mo;simp[a,b,c]
 cases hb:iW x with
 |false=>rfl
 |true=>exact absurd (oh.1 hb) h
noncomputable def gh(l:List Chg):Bool:=by classical exact decide (dG l)
theorem mw{l:List Chg}:gh l=true↔dG l:=by unfold gh;simp
theorem Cd{l:List Chg}(h:¬dG l):gh l=false:=by unfold gh;simpa using h
structure kj(l:List Chg):Prop where
 each:∀x∈l,pT x
 once:(l.map Chg.d).Nodup
theorem kj.nil:kj []:=⟨(λx h=>by cases h),by simp⟩
theorem kj.snoc{l:List Chg}{x:Chg}(h:kj l)(f:eK x.d)(g:iW x=true)(i:x.d∉l.map Chg.d):kj (l++[x]):=by
 refine⟨λy c=>?_,?_⟩
 ·rcases jI.1 c with c|c
  ·exact h.each y c
  rw[lw]at c;subst c;refine⟨f,?_⟩;exact oh.1 g
 rw[jG,qF];refine⟨h.once,by simp,λa j b d=>?_⟩;simp at d;subst d;exact λe=>i (e▸j)
theorem uo{l:List Chg}{k:Nat}{x:Chg}(a:l[k]?=T x)(h:¬eK x.d\/iW x=false\/x.d∈(l.take k).map Chg.d):gh l=false:=by
 refine Cd λb=>?_
 have c:=b.each x (jD a)
 rcases h with h|h|h
 ·exact h c.1
 ·rw[oh.2 c.2]at h;cases h
 have f:l=l.take k++l.drop k:=(List.take_append_drop k l).symm;have g:x∈l.drop k:=by
  obtain⟨hk,e⟩:=j5.1 a;rw[List.drop_eq_getElem_cons hk,e];exact jA ..
 have d:=b.once;rw[f,jG,qF]at d;exact d.2.2 _ h _ (jk.2 ⟨x,g,rfl⟩) rfl
theorem Ld{l:List Chg}(h:kj l):gh l=decide (l.length<=64):=by
 rw[j6,mw,decide_eq_true_iff];exact⟨λh=>h.len,λa=>⟨h.each,h.once,a⟩⟩
theorem Mv(a:List Int)(y:Int):(dq a y).getD false=decide (y∈a):=by
 unfold dq
 split<;>simp_all
theorem wP(l:List Chg)(v:jc)(w:jb)(h:EC.At w v l)(hl:l.length<=1000000):
 jg je 52 #[v] w λe w'=>e=jh (.bool (gh l))/\jd w w w':=by
 obtain⟨V,a⟩:=J (gh l);rw[<-a];have W:=O a;obtain⟨p,c,rfl,hc,-⟩:=h.form;have HU:=O h;obtain⟨n,b⟩:=J l.length;have HN:=O b;rw[<-b]at hl hc HU⊢;have d:=aH.made (fO ol) 3 w;have f:=af w (.map #[] 0);have aa:=O d;have Qm:=O f;have g:=@run_makeMap je;clear h b a d f
 go_enter func52,ntmps52
 go_wp2_with fail
 clear g;obtain⟨M,a⟩:=J w.heap.size;have Tu:=O a;rw[<-a]at aa⊢;obtain⟨W0,b⟩:=J (w.alloc (.map #[] 0));rw[<-b]at aa Qm⊢;clear a b
 go_loopw [12] (λi wr=>∃k:Nat,i=I N k/\k<=n/\ja (aH (fO ol) 3 wr M k (dq ((l.take k).map Chg.d)))/\ja (kj (l.take k))/\ja (jd w w wr)) (λi _=>n-(jo i).toNat)
 case atStart=>exact⟨0,rfl,jQ _,O (aa.congr (λx _=>by simp[dq])),O (by simpa using kj.nil),Qm⟩
 obtain⟨k,rfl,hk,z,HP,a⟩:=hrel
 by_cases a1:k<n
 case neg=>
  have y:=ak ((k:Int)<(n:Int));have a2:=ak (k<n);obtain rfl:k=n:=Y;have b:ja (V=decide (k<=64)):=O (by
   have h:=HP.out;rw[jH (by rw[<-HN];exact jl _)]at h;rw[W,Ld h,<-HN])
  go_wp2_with fail
  go_ret;exact⟨iI (by rw[b,j6,decide_eq_true_iff,decide_eq_true_iff];omega),a⟩
 have y:=aj ((k:Int)<(n:Int));have a2:=aj (k<n);obtain⟨e,he,K⟩:=dE (l:=l) (j:=k) (by rw[<-HN];exact a1);obtain⟨g,o,rfl,b⟩:=(HU.cells).2.2 Y;have HE:=O he;have Ur:=O K;have Q:=O (OO (x:=e));have R:=O (PU (x:=e));have D:=O (G9 (x:=e));have X:=O (IT (x:=e));obtain⟨kb,B⟩:=J (pO e);obtain⟨F,C⟩:=J (oH e);obtain⟨s,H⟩:=J (iW e);have YW:=O B;have RN:=O C;have al:=O H;rw[<-B]at Q D;rw[<-C]at R D;rw[<-H]at X Q R D;obtain⟨d,f,ep,u,r⟩:=e;have c0:wr.cell? ⟨g,o+k*5,ic⟩=T (I N d):=cell_below (b k _ he 0 _ rfl) a;have c1:wr.cell? ⟨g,o+k*5+1,ic⟩=T (I N f):=cell_below (b k _ he 1 _ rfl) a;have S:wr.cell? ⟨g,o+k*5+2,ic⟩=T (I N ep):=cell_below (b k _ he 2 _ rfl) a;have c3:wr.cell? ⟨g,o+k*5+3,ic⟩=T (I N u):=cell_below (b k _ he 3 _ rfl) a;have c4:wr.cell? ⟨g,o+k*5+4,ic⟩=T (I N r):=cell_below (b k _ he 4 _ rfl) a;have U:=af wr (ii #[I N d,I N f,I N ep,I N u,I N r] 49);have hX:=jm wr (ii #[I N d,I N f,I N ep,I N u,I N r] 49);have m:=O U;have q:=O hX;dsimp only at X Q R D;clear b he K B C H U hX
 go_upto_region 5 with fail
 obtain⟨B,b⟩:=J wr.heap.size;rw[<-b]at q⊢;obtain⟨W1,C⟩:=J (wr.alloc (ii #[I N d,I N f,I N ep,I N u,I N r] 49));rw[<-C]at m q⊢;have K:=O (z.below m z.lt);have Qj:=O (a.trans (m.mono a.size));have SE:=O b;clear b C c0 c1 S c3 c4 z a m
 go_cut [6] (λv b=>v=.bool kb/\ja (jd W1 W1 b))
 case first=>
  have b2:=cell_of (i:=2) q rfl;have b3:=cell_of (i:=3) q rfl;have U:=O (fs ep);have QW:=O (fs u);have C:ja (kb=(decide (bS ep=0)&&decide (bS u=0))):=O YW;obtain⟨S,a⟩:=J (bS ep);obtain⟨c3,m⟩:=J (bS u);rw[<-a]at U C;rw[<-m]at QW C;clear a m
  go_wp2_with fail
  refine(U _).mono ?_;rintro e w2 ⟨rfl,a⟩;replace b3:=cell_below b3 a;have z:=O a;clear a b2
  by_cases m:S=0
  ·subst m
   go_wp2_with fail
   refine(QW _).mono ?_;rintro e w3 ⟨rfl,a⟩;have H:=ac z a;clear a
   go_wp2_with fail
   go_meet
   exact⟨by rw[C,<-JM];rfl,H⟩
  have au:(S==0)=false:=by simpa using m
  have ad:decide (S=0)=false:=by simpa using m
  obtain rfl:kb=false:=by rw[C,ad];rfl
  clear m
  go_wp2_with fail
  go_meet
  exact⟨rfl,z⟩
 obtain⟨rfl,z⟩:=hcut;have U:=O (av q z);have Ru:=O (K.below z K.lt);have H:=O (Qj.trans (z.mono Qj.size));clear q K Qj z;have b4:=cell_of (i:=4) U rfl
 go_upto_region 6 with fail
 go_cut [7] (λv b=>v=.bool F/\wc=b)
 case first=>
  have a:ja (F=(decide (0<=r)&&decide (r<=1048576))):=O RN
  by_cases q:0<=r
  ·have y:decide (0<=r)=true:=by simpa using q
   have C:ja (F=decide (r<=1048576)):=O (by rw[a,y];rfl)
   go_wp2_with fail
   go_meet
   exact⟨congrArg qe C.symm,rfl⟩
  have y:decide (0<=r)=false:=by simpa using q
  obtain rfl:F=false:=by rw[a,y];rfl
  clear q
  go_wp2_with fail
  go_meet
  exact⟨rfl,rfl⟩
 obtain⟨rfl,rfl⟩:=hcut;have b0:=cell_of (i:=0) U rfl;have b2:=cell_of (i:=2) U rfl;have b3:=cell_of (i:=3) U rfl
 go_upto_block 2 with fail
 go_cut [8] (λv b=>v=.bool s/\wc=b)
 case first=>
  by_cases q:d=1
  ·have y:(d==1)=true:=by simpa using q
   have a:=Q q;clear q
   rcases kb with _|_
   ·obtain rfl:s=false:=by rw[a];rfl
    clear a
    go_wp2_with fail
    go_meet
    exact⟨rfl,rfl⟩
   have C:ja (s=(r==0)):=O (by rw[a];rfl);clear a
   go_wp2_with fail
   go_meet
   exact⟨congrArg qe C.symm,rfl⟩
  have y:(d==1)=false:=by simpa using q
  by_cases m:d=2
  ·have au:(d==2)=true:=by simpa using m
   have a:=R m;clear q m
   by_cases b:ep=0
   ·have ad:(ep==0)=true:=by simpa using b
    by_cases K:u=0
    ·have a3:(u==0)=true:=by simpa using K
     have C:ja (s=F):=O (by rw[a,b,K];simp);clear a b K
     go_wp2_with fail
     go_meet
     exact⟨congrArg qe C.symm,rfl⟩
    have a3:(u==0)=false:=by simpa using K
    obtain rfl:s=false:=by rw[a];simp[K]
    clear a b K
    go_wp2_with fail
    go_meet
    exact⟨rfl,rfl⟩
   have ad:(ep==0)=false:=by simpa using b
   obtain rfl:s=false:=by rw[a];simp[b]
   clear a b
   go_wp2_with fail
   go_meet
   exact⟨rfl,rfl⟩
  have au:(d==2)=false:=by simpa using m
  by_cases b:d=3
  ·have ad:(d==3)=true:=by simpa using b
   have a:=D b;clear q m b
   rcases kb with _|_
   ·obtain rfl:s=false:=by rw[a];rfl
    clear a
    go_wp2_with fail
    go_meet
    exact⟨rfl,rfl⟩
   have C:ja (s=F):=O (by rw[a];rfl);clear a
   go_wp2_with fail
   go_meet
   exact⟨congrArg qe C.symm,rfl⟩
  have ad:(d==3)=false:=by simpa using b
  obtain rfl:s=false:=X q m b;clear q m b
  go_wp2_with fail
  go_meet
  exact⟨rfl,rfl⟩
 obtain⟨rfl,rfl⟩:=hcut;clear b0 b2 b3 b4 X Q R D YW RN;have b1:=cell_of (i:=1) U rfl
 cases s with
 |false=>
  obtain rfl:V=false:=by rw[W];exact uo HE (.inr (.inl al.symm))
  go_wp2_with fail
  go_ret;exact⟨rfl,H⟩
 |true=>
 have a:=O (yK f);obtain⟨Q,b⟩:=J (decide (eK f));rw[<-b]at a;have q:=O b;clear b
 go_wp2_with fail
 refine(a _).mono ?_;rintro e w4 ⟨rfl,rfl⟩;clear a
 cases Q with
 |false=>
  obtain rfl:V=false:=by rw[W];exact uo HE (.inl (by have h:=q.symm;simpa using h))
  go_wp2_with fail
  go_ret;exact⟨rfl,H⟩
 |true=>
 have a:eK f:=of_decide_eq_true q.symm;have b:I64 f:=I64.of (by unfold eK at a;omega);have R:=O a;have C:=Ru.look (P:=je) jN (t:=193) underlying193 (yL _) b false;obtain⟨D,m⟩:=J (decide (f∈(l.take k).map Chg.d));have ad:(Instr.lookup 193 (.map (T M)) (I N f) false).run je wc=.ok (.bool D) wc:=by
  rw[C,m,<-Mv];rfl
 have K:=O m;have X:=O b;clear a b C m
 cases D with
 |true=>
  obtain rfl:V=false:=by rw[W];exact uo HE (.inr (.inr (of_decide_eq_true K.symm)))
  go_wp2_with fail
  go_ret;exact⟨rfl,H⟩
 |false=>
 have C:ja (kj (l.take (k+1))):=O (by
  rw[Ur];exact HP.snoc R al.symm (of_decide_eq_false K.symm))
 have HS:ja ((l.take (k+1)).map Chg.d=(l.take k).map Chg.d++[f]):=O (by rw[Ur,jG];rfl);have au:k<1000001:=Y;have YR:ja (M<wc.heap.size):=O Ru.lt;have a:ja (w.heap.size<=M):=O (by rw[Tu];exact jl _)
 go_wp2_with (at_mapUpdate;refine mu (E:=fO ol) rfl _ _ _ 193 rfl jN underlying193 M _ _ rfl Ru (by unfold km;omega) f rfl X true rfl trivial ?_;intro w3 b m;have RP:=O b;have U6:=O m;clear b m)
 exact⟨⟨k+1,by go_num,by omega,O (by
  have h:=RP.out;rw[vD]at h;rw[HS];exact h),C,O (H.grown U6.grown (dS YR a) (λj e=>by cases e;exact a))⟩,by simp only[jo];omega⟩
theorem gE{w:jb}{v:jc}{t:List (Int×Int)}(h:aT w v t):∃p n c,v=ih p n c:=by
 obtain⟨p,c,a,-⟩:=h;exact⟨p,_,c,a⟩
theorem wF{n:Int}(h:aM n):I64 n:=I64.of (by have:=h.1;have:=h.2.1;omega)
theorem aT.setRow{w:jb}{v:jc}{t:List (Int×Int)}{b:Nat}{p:Option jv}{n c:Nat}{l:ju}{fr:Nat×Nat}{cs:Array jc}(h:aT w v t)(m:w.heap[b]?=T (ii #[ih p n c] l fr)):aT (w.setRow b cs) v t:=by
 have f:∀(g o:Nat) (x:Int),w.cell? ⟨g,o,ic⟩=T (I N x)->(w.setRow b cs).cell? ⟨g,o,ic⟩=T (I N x):=λg o x d=>by
  by_cases e:g=b
  ·subst e
   exfalso
   unfold kw at d;rw[m]at d
   rcases o with _ |o<;>simp at d
  rw[<-d];exact bE (a:=⟨g,o,ic⟩) (jR _ _ _ _ e)
 obtain⟨p,c,q,r,s,u,y⟩:=h;refine⟨p,c,q,r,s,λz=>?_,y⟩;obtain⟨g,o,e,i⟩:=u z;exact⟨g,o,e,λj k=>⟨f _ _ _ (i j k).1,f _ _ _ (i j k).2⟩⟩
theorem nK:(je.info? 27).map (·.size)=T 1:=by kernel_rfl
theorem uC(g:Grp)(vm vt vl:jc)(l:List Chg)(w:jb)(h:bQ w g vm vt)(u:dG l)(z:g.tree.length<=700000)(v:EC.At w vl l):
 jg je 32 #[jf (aA g vm vt).toArray,vl] w λe w'=>∃M,e=jh (jf #[M])/\aT w' M (aJ g.tree l)/\jd w w w':=by
 obtain⟨f,q,b,rfl⟩:=gE h.tree;obtain⟨r,x⟩:=J ((aA g vm (ih f q b)).toArray);have B:r[35]?=T (ih f q b):=by rw[x];simpa using(kF (vm:=vm) (vt:=ih f q b) h.llen).2.2.2
 rw[<-x];have al:=O B;obtain⟨x0,c⟩:=J ((((w.alloc (ii r 29)).alloc (ii #[ih ic 0 0] 27)).alloc (ii #[ih f q b] 27)));obtain⟨d,k⟩:=J w.heap.size;have a:=jm w (ii r 29);have m:=af w (ii r 29);have i:=jm (w.alloc (ii r 29)) (ii #[ih ic 0 0] 27);have o:=af (w.alloc (ii r 29)) (ii #[ih ic 0 0] 27);have p:=jm ((w.alloc (ii r 29)).alloc (ii #[ih ic 0 0] 27)) (ii #[ih f q b] 27);have s:=af ((w.alloc (ii r 29)).alloc (ii #[ih ic 0 0] 27)) (ii #[ih f q b] 27);replace a:=av a o;replace a:=av a s;rw[j4]at i;replace i:=av i s;rw[j4,j4]at p;have t:=((m).trans (o.mono (m).size)).trans (s.mono ((m).trans (o.mono (m).size)).size);rw[<-c]at t;rw[<-c,<-k]at a;rw[<-c,<-k]at i;rw[<-c,<-k]at p;have ba:=O a;have QL:=O i;have au:=O p;have Qm:=O t;have HW:=O c;have P:=O k;obtain⟨pl,cl,rfl,Sz,-⟩:=v.form;obtain⟨n,y⟩:=J l.length;have C:=u.len;have bb:n<=64:=Y;have We:ja (aT x0 (ih f q b) g.tree):=O (h.tree.below t);have QB:ja (EC.At w (ih pl l.length cl) l):=O v;rw[<-y]at QB Sz⊢;have SX:=O y;have HF:=O u;have T6:=O z;clear t c k a m i o p s x y C u z v h B
 go_enter func32,ntmps32
 have a:((w.alloc (ii r 29)).alloc (ii #[ih ic 0 0] 27)).cell? ⟨w,35,ic⟩=T (ih f q b):=cell_of (av (jm w _) (af _ _)) al
 go_upto_region 2 with fail
 clear a;rw[<-HW,<-P]
 go_wp2_with fail
 go_loopw [12] (λi wr=>∃(k:Nat) (p:Option jv) (m c:Nat),i=I N k/\k<=n/\ja (wr.heap[d+1+1]?=T (ii #[ih p m c] 27 (0,0)))/\ja (wr.heap[d+1]?=T (ii #[ih ic 0 0] 27 (0,0)))/\ja (aT wr (ih p m c) (aJ g.tree (l.take k)))/\ja (jd w w wr)) (λi _=>n-(jo i).toNat)
 case atStart=>exact⟨0,f,q,b,rfl,jQ _,au,QL,We,Qm⟩
 obtain⟨k,p,m,c,rfl,hk,C,v,x,s⟩:=hrel
 by_cases a1:k<n
 case neg=>
  have a2:=ak ((k:Int)<(n:Int));have a3:=ak (k<n);obtain rfl:k=n:=Y;have b:=cell_of (i:=0) C rfl;have a:ja (aT wr (ih p m c) (aJ g.tree l)):=O (by have h:=x.out;rw[jH (by rw[<-SX];exact jl _)]at h;exact h);have t:d+1≠d+1+1:=Y
  go_wp2_with (refine qU rfl λ_ y=>jS 27 _ _ rfl (d+1) #[ih p m c] rfl rfl 27 _ v.out nK ag (by simp[qf]) (y _ _ ?_))
  have o:(wr.setRow (d+1) #[ih p m c]).heap[d+1]?=T (ii #[ih p m c] 27 (0,0)):=jT _ _ _ _ _ _ v.out;refine kn (results_cell_row rfl _ _ (d+1) 27 _ (0,0) _ rfl o underlying27 rfl nK) rfl ?_;exact⟨_,rfl,a.setRow v,jU s.out (by rw[P];omega) _⟩
 have a2:=aj ((k:Int)<(n:Int));have a3:=aj (k<n);obtain⟨e,he,D⟩:=dE (l:=l) (j:=k) (by rw[<-SX];exact a1);obtain⟨z,o,rfl,a⟩:=(QB.cells).2.2 Y;have B:=HF.each e (jD he);have HI:ja (I64 e.d):=O (I64.of (by have:=B.1;unfold eK at this;omega));have ad:ja (e.k≠2->I64 e.p):=O (λt=>by
  rcases B.2 with h|h|h
  ·exact wF h.2.1
  ·exact absurd h.1 t
  exact wF h.2.1)
 have Rp:ja (aJ g.tree (l.take (k+1))=eH (aJ g.tree (l.take k)) e):=O (by rw[D,Nw]);have Vp:ja ((aJ g.tree (l.take k)).length<=800000):=O (by have:=tN g.tree (l.take k);have:=T6.out;have:=j7 k l;omega);generalize aJ g.tree (l.take k)=Q at Rp Vp x;obtain⟨u,t,ep,R,S⟩:=e;have H:wr.cell? ⟨z,o+k*5,ic⟩=T (I N u):=cell_below (a k _ he 0 _ rfl) s;have K:wr.cell? ⟨z,o+k*5+1,ic⟩=T (I N t):=cell_below (a k _ he 1 _ rfl) s;have c2:wr.cell? ⟨z,o+k*5+2,ic⟩=T (I N ep):=cell_below (a k _ he 2 _ rfl) s;have c3:wr.cell? ⟨z,o+k*5+3,ic⟩=T (I N R):=cell_below (a k _ he 3 _ rfl) s;have c4:wr.cell? ⟨z,o+k*5+4,ic⟩=T (I N S):=cell_below (a k _ he 4 _ rfl) s;dsimp only at HI ad;clear a he D B
 go_upto_region 5 with fail
 obtain⟨U,a⟩:=J wr;rw[<-a]at C v x s H K c2 c3 c4⊢;clear a;have a:=af U (ii #[I N u,I N t,I N ep,I N R,I N S] 49);have D:=jm U (ii #[I N u,I N t,I N ep,I N R,I N S] 49);obtain⟨y2,hx⟩:=J (U.alloc (ii #[I N u,I N t,I N ep,I N R,I N S] 49));rw[<-hx]at a D⊢;obtain⟨E,F⟩:=J U.heap.size;rw[<-F]at D⊢;have bc:=O F;have B:=Z C a;have V:=Z v a;have W:=O (x.below a);have X:=ac s a;clear C v x s;have x:=O D;clear D hx a F;have b0:=cell_of (i:=0) x rfl;have b1:=cell_of (i:=1) x rfl;have b2:=cell_of (i:=2) x rfl;have t0:=cell_of (i:=0) B rfl;clear H K c2 c3 c4
 by_cases s:u=2
 ·have a4:(u==2)=true:=by simpa using s
  have aa:ja (aJ g.tree (l.take (k+1))=ma Q t):=O (by rw[Rp];exact if_pos s);clear s
  go_wp2_with fail
  refine(Mb Q (ih p m c) t y2 W Vp HI).mono ?_;rintro e y3 ⟨M,rfl,C,a⟩;have D:=O C;clear C b0 b1 b2 t0;have v:=Z B a;have QZ:=Z V a;have Qp:=ac X a;clear B V W X x;clear a;obtain⟨F,H,K,rfl⟩:=gE D
  go_wp2_with (refine qU rfl λ_ y=>jS 27 _ _ rfl (d+1+1) #[ih F H K] rfl rfl 27 _ v.out nK ag (by simp[qf]) (y _ _ ?_))
  exact⟨⟨k+1,F,H,K,by go_num,by omega,O (jT _ _ _ _ _ _ v.out),O ((jR _ _ _ _ Y).trans QZ),O (by rw[aa];exact D.setRow v),O (jU Qp.out (by rw[P];omega) _)⟩,by simp only[jo];omega⟩
 have a4:(u==2)=false:=by simpa using s
 have aa:ja (aJ g.tree (l.take (k+1))=ig Q t ep):=O (by rw[Rp];exact if_neg s);have a5:=O (ad s);clear s
 go_wp2_with fail
 refine(OQ Q (ih p m c) t ep y2 W Vp HI a5).mono ?_;rintro e y3 ⟨M,rfl,C,a⟩;have D:=O C;clear C b0 b1 b2 t0;have v:=Z B a;have QZ:=Z V a;have Qp:=ac X a;clear B V W X x;clear a;obtain⟨F,H,K,rfl⟩:=gE D
 go_wp2_with (refine qU rfl λ_ y=>jS 27 _ _ rfl (d+1+1) #[ih F H K] rfl rfl 27 _ v.out nK ag (by simp[qf]) (y _ _ ?_))
 exact⟨⟨k+1,F,H,K,by go_num,by omega,O (jT _ _ _ _ _ _ v.out),O ((jR _ _ _ _ Y).trans QZ),O (by rw[aa];exact D.setRow v),O (jU Qp.out (by rw[P];omega) _)⟩,by simp only[jo];omega⟩
section
open Go.Shelf
def Tryzx.laysM_ren:Go.Shelf.Ren:=⟨fun|6=>38|15=>97|14=>96|28=>160|29=>161|20=>152|21=>153|22=>154|23=>155|24=>156|25=>157|26=>158|27=>159|46=>204|47=>205|48=>206|49=>207|50=>208|57=>238|n=>n,fun|22=>24|24=>45|25=>96|3=>3|39=>163|0=>0|53=>247|55=>219|4=>4|46=>241|45=>240|50=>101|5=>5|9=>9|66=>292|70=>295|76=>322|77=>323|n=>n,fun|n=>n⟩
theorem Tryzx.laysM:Go.Proofs.SlLaysF0.n6 je Tryzx.laysM_ren:={
 mixed:=by kernel_rfl
 f6:=⟨Tryz.f38.name,by decide,func38.trans (congrArg T ae)⟩
 f14:=⟨Tryz.f96.name,by decide,func96.trans (congrArg T ae)⟩
 f15:=func97.trans (congrArg T ae)
 f20:=⟨Tryz.f152.name,by decide,func152.trans (congrArg T ae)⟩
 f21:=⟨Tryz.f153.name,by decide,func153.trans (congrArg T ae)⟩
 f22:=⟨Tryz.f154.name,by decide,func154.trans (congrArg T ae)⟩
 f23:=⟨Tryz.f155.name,by decide,func155.trans (congrArg T ae)⟩
 f24:=⟨Tryz.f156.name,by decide,func156.trans (congrArg T ae)⟩
 f25:=⟨Tryz.f157.name,by decide,func157.trans (congrArg T ae)⟩
 f26:=⟨Tryz.f158.name,by decide,func158.trans (congrArg T ae)⟩
 f27:=⟨Tryz.f159.name,by decide,func159.trans (congrArg T ae)⟩
 f28:=func160.trans (congrArg T ae)
 f29:=func161.trans (congrArg T ae)
 f46:=⟨Tryz.f204.name,by decide,func204.trans (congrArg T ae)⟩
 f47:=func205.trans (congrArg T ae)
 f48:=func206.trans (congrArg T ae)
 f49:=⟨Tryz.f207.name,by decide,func207.trans (congrArg T ae)⟩
 f50:=⟨Tryz.f208.name,by decide,func208.trans (congrArg T ae)⟩
 f57:=⟨Tryz.f238.name,by decide,func238.trans (congrArg T ae)⟩
 t0:=underlying0
 a0:=Tryz.isAgg0
 z0:=Tryz.sizeOf0
 v0:=Tryz.zeroValue0
 t3:=jN
 a3:=Tryz.isAgg3
 z3:=Tryz.sizeOf3
 v3:=Tryz.zeroValue3
 t4:=ol
 a4:=Tryz.isAgg4
 z4:=Tryz.sizeOf4
 v4:=Tryz.zeroValue4
 t5:=qT
 a5:=Tryz.isAgg5
 z5:=Tryz.sizeOf5
 v5:=Tryz.zeroValue5
 t9:=underlying9
 a9:=Tryz.isAgg9
 z9:=Tryz.sizeOf9
 v9:=Tryz.zeroValue9
 t22:=underlying24
 a22:=Tryz.isAgg24
 z22:=Tryz.sizeOf24
 v22:=Tryz.zeroValue24
 t25:=underlying96
 a25:=Tryz.isAgg96
 z25:=Tryz.sizeOf96
 v25:=Tryz.zeroValue96
 t39:=underlying163
 a39:=Tryz.isAgg163
 z39:=Tryz.sizeOf163
 v39:=Tryz.zeroValue163
 t45:=underlying240
 a45:=Tryz.isAgg240
 z45:=Tryz.sizeOf240
 v45:=Tryz.zeroValue240
 t46:=underlying241
 a46:=Tryz.isAgg241
 z46:=Tryz.sizeOf241
 v46:=Tryz.zeroValue241
 t50:=underlying101
 a50:=Tryz.isAgg101
 z50:=Tryz.sizeOf101
 v50:=Tryz.zeroValue101
 t53:=underlying247
 a53:=Tryz.isAgg247
 z53:=Tryz.sizeOf247
 v53:=Tryz.zeroValue247
 t55:=underlying219
 a55:=Tryz.isAgg219
 z55:=Tryz.sizeOf219
 v55:=Tryz.zeroValue219
 t66:=underlying292
 a66:=Tryz.isAgg292
 z66:=Tryz.sizeOf292
 v66:=Tryz.zeroValue292
 t70:=underlying295
 a70:=Tryz.isAgg295
 z70:=Tryz.sizeOf295
 v70:=Tryz.zeroValue295
 t76:=underlying322
 a76:=Tryz.isAgg322
 z76:=Tryz.sizeOf322
 v76:=Tryz.zeroValue322
 t77:=underlying323
 a77:=Tryz.isAgg323
 z77:=Tryz.sizeOf323
 v77:=Tryz.zeroValue323}
theorem Tryzx.sortFunc_noneM(p:Option jv)(a:Nat)(b:jc)(w:jb):
 jg je 38 #[ih p 0 a,b] w λe w'=>e=jh (jr #[])/\w'=w:=AnyF.slices_SortFunc_none Tryzx.laysM p a b w
def Tryzx.laysC_ren:Go.Shelf.Ren:=⟨fun|6=>80|15=>97|14=>142|28=>160|29=>161|20=>191|21=>192|22=>193|23=>194|24=>195|25=>196|26=>197|27=>198|46=>233|47=>205|48=>206|49=>234|50=>235|57=>247|n=>n,fun|22=>30|24=>49|25=>146|3=>3|39=>163|0=>0|53=>247|55=>219|4=>4|46=>241|45=>240|50=>101|5=>5|9=>9|66=>292|70=>295|76=>322|77=>323|n=>n,fun|n=>n⟩
theorem Tryzx.laysC:Go.Proofs.SlLaysF0.n6 je Tryzx.laysC_ren:={
 mixed:=by kernel_rfl
 f6:=⟨Tryz.f80.name,by decide,func80.trans (congrArg T ae)⟩
 f14:=⟨Tryz.f142.name,by decide,func142.trans (congrArg T ae)⟩
 f15:=func97.trans (congrArg T ae)
 f20:=⟨Tryz.f191.name,by decide,func191.trans (congrArg T ae)⟩
 f21:=⟨Tryz.f192.name,by decide,func192.trans (congrArg T ae)⟩
 f22:=⟨Tryz.f193.name,by decide,func193.trans (congrArg T ae)⟩
 f23:=⟨Tryz.f194.name,by decide,func194.trans (congrArg T ae)⟩
 f24:=⟨Tryz.f195.name,by decide,func195.trans (congrArg T ae)⟩
 f25:=⟨Tryz.f196.name,by decide,func196.trans (congrArg T ae)⟩
 f26:=⟨Tryz.f197.name,by decide,func197.trans (congrArg T ae)⟩
 f27:=⟨Tryz.f198.name,by decide,func198.trans (congrArg T ae)⟩
 f28:=func160.trans (congrArg T ae)
 f29:=func161.trans (congrArg T ae)
 f46:=⟨Tryz.f233.name,by decide,func233.trans (congrArg T ae)⟩
 f47:=func205.trans (congrArg T ae)
 f48:=func206.trans (congrArg T ae)
 f49:=⟨Tryz.f234.name,by decide,func234.trans (congrArg T ae)⟩
 f50:=⟨Tryz.f235.name,by decide,func235.trans (congrArg T ae)⟩
 f57:=⟨Tryz.f247.name,by decide,func247.trans (congrArg T ae)⟩
 t0:=underlying0
 a0:=Tryz.isAgg0
 z0:=Tryz.sizeOf0
 v0:=Tryz.zeroValue0
 t3:=jN
 a3:=Tryz.isAgg3
 z3:=Tryz.sizeOf3
 v3:=Tryz.zeroValue3
 t4:=ol
 a4:=Tryz.isAgg4
 z4:=Tryz.sizeOf4
 v4:=Tryz.zeroValue4
 t5:=qT
 a5:=Tryz.isAgg5
 z5:=Tryz.sizeOf5
 v5:=Tryz.zeroValue5
 t9:=underlying9
 a9:=Tryz.isAgg9
 z9:=Tryz.sizeOf9
 v9:=Tryz.zeroValue9
 t22:=underlying30
 a22:=Tryz.isAgg30
 z22:=Tryz.sizeOf30
 v22:=Tryz.zeroValue30
 t25:=underlying146
 a25:=Tryz.isAgg146
 z25:=Tryz.sizeOf146
 v25:=Tryz.zeroValue146
 t39:=underlying163
 a39:=Tryz.isAgg163
 z39:=Tryz.sizeOf163
 v39:=Tryz.zeroValue163
 t45:=underlying240
 a45:=Tryz.isAgg240
 z45:=Tryz.sizeOf240
 v45:=Tryz.zeroValue240
 t46:=underlying241
 a46:=Tryz.isAgg241
 z46:=Tryz.sizeOf241
 v46:=Tryz.zeroValue241
 t50:=underlying101
 a50:=Tryz.isAgg101
 z50:=Tryz.sizeOf101
 v50:=Tryz.zeroValue101
 t53:=underlying247
 a53:=Tryz.isAgg247
 z53:=Tryz.sizeOf247
 v53:=Tryz.zeroValue247
 t55:=underlying219
 a55:=Tryz.isAgg219
 z55:=Tryz.sizeOf219
 v55:=Tryz.zeroValue219
 t66:=underlying292
 a66:=Tryz.isAgg292
 z66:=Tryz.sizeOf292
 v66:=Tryz.zeroValue292
 t70:=underlying295
 a70:=Tryz.isAgg295
 z70:=Tryz.sizeOf295
 v70:=Tryz.zeroValue295
 t76:=underlying322
 a76:=Tryz.isAgg322
 z76:=Tryz.sizeOf322
 v76:=Tryz.zeroValue322
 t77:=underlying323
 a77:=Tryz.isAgg323
 z77:=Tryz.sizeOf323
 v77:=Tryz.zeroValue323}
theorem Tryzx.sortFunc_noneC(p:Option jv)(a:Nat)(b:jc)(w:jb):
 jg je 80 #[ih p 0 a,b] w λe w'=>e=jh (jr #[])/\w'=w:=AnyF.slices_SortFunc_none Tryzx.laysC p a b w
end
section
open Go.RowKit Go.Maps Go.Sort Go.Shelf
section
variable {α:Type} {E:EK α}
theorem IV{l:List α}[Inhabited {x//x∈l}](t:Nat)(d:t<l.length*E.k):(E.flat l)[t]?=T ((E.cells (l.attach.toArray[t/E.k]!).1)[t%E.k]!):=by
 have b:t/E.k<l.length:=q6 (by rw[mb];exact d);have a:t%E.k<E.k:=qG _ E.pos;have h:=E.flat_get l (t/E.k) (t%E.k) l[t/E.k] (jL b) a;rw[show t/E.k*E.k+t%E.k=t by rw[mb];exact qH t E.k]at h;have e:(l.attach.toArray[t/E.k]!).1=l[t/E.k]:=by rw[getElem!_pos l.attach.toArray _ (by simpa using b)];simp
 rw[h,e];have c:=E.len l[t/E.k];rw[jL (by rw[c];exact a),getElem!_pos _ _ (by rw[c];exact a)]
theorem cM.holds{j:Nat}{w W:jb}{g n c:Nat}{l:List α}[Inhabited {x//x∈l}](h:cM E j w W g n c l):HoldsK (λx:{x//x∈l}=>E.cells x.1) E.k W g 0 l.attach.toArray:=by
 obtain⟨p,k⟩:=h.own
 rcases k with⟨b,_⟩|⟨q,r,s,b,u,e,v,y,z,m⟩
 ·cases b
 injection b with a B o
 injection a with a
 injection a with a
 subst a;subst o;intro t d;rw[size_flatK]at d;have f:t<l.length*E.k:=by simpa using d
 have i:=IV (E:=E) t f;rw[get_flatK _ _ _ _ d];refine⟨?_,by simp[qI,e]⟩;rw[Nat.zero_add,kw,e];rw[<-m,q8 (by rw[h.len];exact f)]at i
 simpa using i
theorem Ez{l:List α}[Inhabited {x//x∈l}]{W:jb}{g n c:Nat}{d:List {x//x∈l}}(h:HoldsK (λx:{x//x∈l}=>E.cells x.1) E.k W g 0 d.toArray)(p:n=(d.map Subtype.val).length)(q:n<=c):E.At W (ih (T ⟨g,0,ic⟩) n c) (d.map Subtype.val):=by
 refine⟨E.flat_length _,T ⟨g,0,ic⟩,c,by rw[p],by omega,(λe=>by cases e),λ_=>⟨g,0,rfl,λj r k=>?_⟩⟩;have b:=(j5.1 k).1;rw[E.flat_length,ji]at b;have f:=(h j (by rw[size_flatK];simpa using b)).1;rw[get_flatK _ _ _ _ (by simpa using b)]at f;have m:j/E.k<d.length:=q6 (by rw[mb];exact b);have i:j%E.k<E.k:=qG _ E.pos;have a:=E.flat_get (d.map Subtype.val) (j/E.k) (j%E.k) (d[j/E.k]).1 (by rw[jB,jL m];rfl) i;rw[show j/E.k*E.k+j%E.k=j by rw[mb];exact qH j E.k,k]at a;have e:d.toArray[j/E.k]! =d[j/E.k]:=by rw[getElem!_pos d.toArray _ (by simpa using m)];simp
 rw[e]at f;have o:=E.len (d[j/E.k]).1;rw[jL (by rw[o];exact i)]at a;injection a with a
 rw[getElem!_pos _ _ (by rw[o];exact i),<-a]at f;exact f
theorem DY{β:Type}[Inhabited β]{enc:β->List jc}{k a:Nat}{w:jb}{g n:Nat}{d:Array β}{os:Array Obj}(b:a<=g)(c:a<=w.heap.size):jd a w (sortWorldK enc k w g 0 n d os):=by
 unfold sortWorldK putRowK putRow mapBlock Go.Sort.ahead Go.Sort.grow;refine⟨rfl,rfl,rfl,by simp,λk hk=>?_⟩;simp only;rw[Array.getElem?_append_left (by simp;omega),qJ,if_neg Y]
theorem CX{β:Type}(f:β->Int):SWO (ltOf λx y:β=>cE (f x) (f y)) where
 irrefl x:=by simp[ltOf,cE]
 trans x y z h1 h2:=by
  simp only[ltOf,decide_eq_true_eq]at*;unfold cE at*
  by_cases a:f x<f y
  ·by_cases b:f y<f z
   ·rw[if_pos Y];decide
   rw[if_neg b]at h2;split at h2<;>omega
  rw[if_neg a]at h1;split at h1<;>omega
 ntrans x y z h1 h2:=by
  simp only[ltOf,decide_eq_false_iff_not]at*;unfold cE at*
  by_cases a:f x<f z
  ·exfalso
   by_cases b:f x<f y
   ·rw[if_pos b]at h1;exact h1 L
   by_cases c:f y<f z
   ·rw[if_pos c]at h2;exact h2 L
   omega
  rw[if_neg a];split<;>omega
theorem DW(x y:Int):(!(decide (cE y x<0)))=decide (x<=y):=by
 unfold cE
 by_cases h:y<x
 ·rw[if_pos h];simp;omega
 rw[if_neg h];split<;>simp<;>omega
theorem Am{f:α->Int}:∀{l:List α},(l.map f).Nodup->∀x∈l,∀y∈l,f x=f y->x=y
 |[],_,x,g,_,_,_=>by cases g
 |a::l,d,x,g,y,h,e=>by
  rw[qg,q9]at d
  rcases js.1 g with c|c
  ·rcases js.1 h with b|b
   ·rw[c,b]
   exact absurd (jk.2 ⟨y,b,by rw[<-e,c]⟩) d.1
  rcases js.1 h with b|b
  ·exact absurd (jk.2 ⟨x,c,by rw[e,b]⟩) d.1
  exact Am d.2 x c y b e
theorem Er(w:jb)(a b:Obj):(w.alloc a).alloc b=grow (w.drewN 0) #[a,b]:=by
 show({({w with heap:=w.heap.push a}:jb)with heap:=(w.heap.push a).push b}:jb)={w with heap:=w.heap++ #[a,b]}
 congr 1
theorem zm{l:List α}{f:α->Int}(g:(l.map f).Nodup){x y:α}(h:x∈l)(i:y∈l)(c:decide (cE (f x) (f y)<0)=false)(d:decide (cE (f y) (f x)<0)=false):x=y:=by
 have e:f x=f y:=by
  simp only[decide_eq_false_iff_not]at c d;unfold cE at c d
  by_cases a:f x<f y
  ·rw[if_pos a]at c;exact absurd L c
  by_cases b:f y<f x
  ·rw[if_pos b]at d;exact absurd L d
  omega
 exact Am g x h y i e
end
theorem L4(x y:Mem)(w:jb):
 jg je 39 #[jf (EM.cells x).toArray,jf (EM.cells y).toArray] w λe w'=>e=jh (I N (cE x.dev y.dev))/\∃q os,w'=grow (w.drewN q) os:=by
 obtain⟨a,c,d⟩:=x;obtain⟨b,f,g⟩:=y;show jg je 39 #[jf #[I N a,I N c,I N d],jf #[I N b,I N f,I N g]] w λe w'=>e=jh (I N (cE a b))/\∃q os,w'=grow (w.drewN q) os
 have h:=O (yJ a b);have i:ja (∃q os,(w.alloc (ii #[I N a,I N c,I N d] 45)).alloc (ii #[I N b,I N f,I N g] 45)=grow (w.drewN q) os):=O ⟨0,#[ii #[I N a,I N c,I N d] 45,ii #[I N b,I N f,I N g] 45],Er _ _ _⟩
 go_enter func39,ntmps39
 go_wp2_with fail
 refine(h _).mono ?_;rintro e j ⟨rfl,rfl⟩
 go_wp2_with fail
 go_ret;exact⟨rfl,i⟩
def ee(l:List Mem):List Mem:=l.mergeSort λx y=>decide (x.dev<=y.dev)
theorem FZ(l:List Mem)(k:(l.map Mem.dev).Nodup)(d g n c:Nat)(w W:jb)(h:cM EM d w W g n c l)(p:n<=1000000):
 jg je 38 #[ih (T ⟨g,0,ic⟩) n c,.func (.func 39) #[] #[]] W λe w'=>e=jh (jr #[])/\EM.At w' (ih (T ⟨g,0,ic⟩) n c) (ee l)/\jd d W w':=by
 rcases qK n with i|i
 ·subst i
  obtain rfl:l=[]:=qc h.len.symm;refine(Tryzx.sortFunc_noneM _ c _ W).mono ?_;rintro e w' ⟨rfl,rfl⟩;have e:ee []=[]:=by unfold ee;simp
  rw[e];exact⟨rfl,h.at,jw _ _⟩
 have j:l≠[]:=λe=>by have:=h.len;rw[e]at this;simp at this;omega
 haveI:Inhabited {x//x∈l}:=⟨⟨l.head j,List.head_mem j⟩⟩
 have hk:=AnyQ.slices_SortFunc_total (α:={x//x∈l}) Tryzx.laysM 3 Tryz.isAgg45 Tryz.sizeOf45 (λx=>EM.cells x.1) (λ_=>rfl) (λx v a=>EM.one x.1 v a) (λx y=>cE x.1.dev y.1.dev) (CX (λx:{x//x∈l}=>x.1.dev)) 39 #[] g 0 c l.attach.toArray W
  (enters_of func39 ae rfl) (λ_ _ _ _ x y=>L4 x.1 y.1 _) (h.holds) h.lt.2 (by rw[jz,j8,<-h.len];omega) (λx y a b=>Subtype.ext (zm k x.2 y.2 a b))
 rw[jz,j8,<-h.len]at hk;refine hk.mono ?_;rintro e w' ⟨rfl,m,os,rfl⟩;have o:((l.attach.mergeSort λx y=> !ltOf (λx y:{x//x∈l}=>cE x.1.dev y.1.dev) y x).map Subtype.val)=ee l:=by
  refine(ri (r:=λx y:{x//x∈l}=> !ltOf (λx y:{x//x∈l}=>cE x.1.dev y.1.dev) y x) (s:=λx y:Mem=>decide (x.dev<=y.dev)) (f:=Subtype.val) (λa _ b _=>DW _ _)).trans ?_;rw[rn]
  rfl
 have a:=holdsK_sortWorldK (λx:{x//x∈l}=>EM.cells x.1) 3 W g 0 m l.attach.toArray (l.attach.mergeSort λx y=> !ltOf (λx y:{x//x∈l}=>cE x.1.dev y.1.dev) y x).toArray os h.lt.2 h.holds (by simp[(jK _ _).length_eq]);refine⟨rfl,?_,DY h.lt.1 (aU h.lt)⟩;rw[<-o];exact Ez (E:=EM) a (by rw[ji,(jK _ _).length_eq,j8];exact h.len) h.cap
theorem Lc(x y:Chg)(w:jb):
 jg je 81 #[jf (EC.cells x).toArray,jf (EC.cells y).toArray] w λe w'=>e=jh (I N (cE x.d y.d))/\∃q os,w'=grow (w.drewN q) os:=by
 obtain⟨c,a,d,f,g⟩:=x;obtain⟨h,b,i,j,k⟩:=y;show jg je 81 #[jf #[I N c,I N a,I N d,I N f,I N g],jf #[I N h,I N b,I N i,I N j,I N k]] w λe w'=>e=jh (I N (cE a b))/\∃q os,w'=grow (w.drewN q) os
 have l:=O (yJ a b);have m:ja (∃q os,(w.alloc (ii #[I N c,I N a,I N d,I N f,I N g] 49)).alloc (ii #[I N h,I N b,I N i,I N j,I N k] 49)=grow (w.drewN q) os):=O ⟨0,#[ii #[I N c,I N a,I N d,I N f,I N g] 49,ii #[I N h,I N b,I N i,I N j,I N k] 49],Er _ _ _⟩
 go_enter func81,ntmps81
 go_wp2_with fail
 refine(l _).mono ?_;rintro e n ⟨rfl,rfl⟩
 go_wp2_with fail
 go_ret;exact⟨rfl,m⟩
theorem OJ(l:List Chg)(k:(l.map Chg.d).Nodup)(d g n c:Nat)(w W:jb)(h:cM EC d w W g n c l)(p:n<=1000000):
 jg je 80 #[ih (T ⟨g,0,ic⟩) n c,.func (.func 81) #[] #[]] W λe w'=>e=jh (jr #[])/\EC.At w' (ih (T ⟨g,0,ic⟩) n c) (eX l)/\jd d W w':=by
 rcases qK n with i|i
 ·subst i
  obtain rfl:l=[]:=qc h.len.symm;refine(Tryzx.sortFunc_noneC _ c _ W).mono ?_;rintro e w' ⟨rfl,rfl⟩;have e:eX []=[]:=by unfold eX;simp
  rw[e];exact⟨rfl,h.at,jw _ _⟩
 have j:l≠[]:=λe=>by have:=h.len;rw[e]at this;simp at this;omega
 haveI:Inhabited {x//x∈l}:=⟨⟨l.head j,List.head_mem j⟩⟩
 have hk:=AnyQ.slices_SortFunc_total (α:={x//x∈l}) Tryzx.laysC 5 Tryz.isAgg49 Tryz.sizeOf49 (λx=>EC.cells x.1) (λ_=>rfl) (λx v a=>EC.one x.1 v a) (λx y=>cE x.1.d y.1.d) (CX (λx:{x//x∈l}=>x.1.d)) 81 #[] g 0 c l.attach.toArray W
  (enters_of func81 ae rfl) (λ_ _ _ _ x y=>Lc x.1 y.1 _) (h.holds) h.lt.2 (by rw[jz,j8,<-h.len];omega) (λx y a b=>Subtype.ext (zm k x.2 y.2 a b))
 rw[jz,j8,<-h.len]at hk;refine hk.mono ?_;rintro e w' ⟨rfl,m,os,rfl⟩;have o:((l.attach.mergeSort λx y=> !ltOf (λx y:{x//x∈l}=>cE x.1.d y.1.d) y x).map Subtype.val)=eX l:=by
  refine(ri (r:=λx y:{x//x∈l}=> !ltOf (λx y:{x//x∈l}=>cE x.1.d y.1.d) y x) (s:=λx y:Chg=>decide (x.d<=y.d)) (f:=Subtype.val) (λa _ b _=>DW _ _)).trans ?_;rw[rn]
  rfl
 have a:=holdsK_sortWorldK (λx:{x//x∈l}=>EC.cells x.1) 5 W g 0 m l.attach.toArray (l.attach.mergeSort λx y=> !ltOf (λx y:{x//x∈l}=>cE x.1.d y.1.d) y x).toArray os h.lt.2 h.holds (by simp[(jK _ _).length_eq]);refine⟨rfl,?_,DY h.lt.1 (aU h.lt)⟩;rw[<-o];exact Ez (E:=EC) a (by rw[ji,(jK _ _).length_eq,j8];exact h.len) h.cap
end
theorem tH{α:Type}{E:EK α}{a:Nat}{w:jb}{v:jc}{l:List α}(h:w.ownsRow a E.t E.k v l.length (E.flat l))(e:a<=w.heap.size):(v=ih ic 0 0/\l=[])\/∃g c,v=ih (T ⟨g,0,ic⟩) l.length c/\cM E a w w g l.length c l:=by
 have f:=h
 rcases h.2 with⟨rfl,b⟩|⟨g,i,k,rfl,m,n,o,p,q,r⟩
 ·refine .inl ⟨rfl,qc ?_⟩
  first
   |exact b
   |(have d:=h.1;rw[b]at d;exact(qK l.length).elim id λj=>by have:=Nat.mul_pos j E.pos;simp at d;omega)
 exact .inr ⟨g,i,rfl,f,rfl,jw _ _,e⟩
theorem Gz{a:Nat}{b:Array jc}{c:Nat}{d:jb->Prop}{p:Mem->Bool}(f:fB EM a b c d p)(w:jb)(g:d w)(i:c<=w.heap.size):
 jg je 36 #[ih ic 0 0,.func (.func a) #[] b] w λe w'=>e=jh (ih ic 0 0)/\jd w w w':=by
 have h:=O (ww f [] (ih ic 0 0) w EK.At.nil g i ar);clear f g
 go_enter func36,ntmps36
 go_wp2_with fail
 refine(h).mono ?_;rintro e l ⟨r,rfl,g,f⟩;have j:=O f;clear f h
 rcases g with⟨rfl,-⟩|⟨k,e,-,he,-⟩
 ·go_wp2_with fail
  go_ret;exact⟨rfl,j⟩
 simp at he
theorem Gc{f:Nat}{i:Array jc}{a:Nat}{j:jb->Prop}{p:Mem->Bool}(k:fB EM f i a j p)(l:List Mem)(v:jc)(w:jb)(h:w.ownsRow a EM.t EM.k v l.length (EM.flat l))(m:j w)(b:a<=w.heap.size)(o:l.length<=1000000):
 jg je 36 #[v,.func (.func f) #[] i] w λe w'=>∃n,e=jh n/\w'.ownsRow a EM.t EM.k n (l.filter λx=> !p x).length (EM.flat (l.filter λx=> !p x))/\jd a w w':=by
 rcases tH h b with⟨rfl,rfl⟩|⟨g,c,rfl,q⟩
 ·refine(Gz k w m b).mono ?_
  rintro e w' ⟨rfl,d⟩;exact⟨_,rfl,jZ _ _ _ _,d.mono b⟩
 refine(Kr k l g l.length c w q m o).mono ?_;rintro e w' ⟨n',rfl,d⟩;have r:=d.len;subst r;exact⟨_,rfl,d.own,d.bel⟩
theorem F2(l:List Mem)(b:(l.map Mem.dev).Nodup)(a:Nat)(v:jc)(w:jb)(h:w.ownsRow a EM.t EM.k v l.length (EM.flat l))(d:a<=w.heap.size)(f:l.length<=1000000):
 jg je 38 #[v,.func (.func 39) #[] #[]] w λe w'=>e=jh (jr #[])/\EM.At w' v (ee l)/\jd a w w':=by
 rcases tH h d with⟨rfl,rfl⟩|⟨g,c,rfl,i⟩
 ·refine(Tryzx.sortFunc_noneM ic 0 _ w).mono ?_
  rintro e w' ⟨rfl,rfl⟩;have e:ee []=[]:=by unfold ee;simp
  rw[e];exact⟨rfl,EK.At.nil,jw _ _⟩
 exact FZ l b a g l.length c w w i f
theorem IG{a:Nat}{b:Array jc}{c:Nat}{d:jb->Prop}{p:Chg->Bool}(f:fB EC a b c d p)(w:jb)(g:d w)(i:c<=w.heap.size):
 jg je 78 #[ih ic 0 0,.func (.func a) #[] b] w λe w'=>e=jh (ih ic 0 0)/\jd w w w':=by
 have h:=O (yz f [] (ih ic 0 0) w EK.At.nil g i ar);clear f g
 go_enter func78,ntmps78
 go_wp2_with fail
 refine(h).mono ?_;rintro e l ⟨r,rfl,g,f⟩;have j:=O f;clear f h
 rcases g with⟨rfl,-⟩|⟨k,e,-,he,-⟩
 ·go_wp2_with fail
  go_ret;exact⟨rfl,j⟩
 simp at he
theorem Ob{f:Nat}{i:Array jc}{a:Nat}{j:jb->Prop}{p:Chg->Bool}(k:fB EC f i a j p)(l:List Chg)(v:jc)(w:jb)(h:w.ownsRow a EC.t EC.k v l.length (EC.flat l))(m:j w)(b:a<=w.heap.size)(o:l.length<=1000000):
 jg je 78 #[v,.func (.func f) #[] i] w λe w'=>∃n,e=jh n/\w'.ownsRow a EC.t EC.k n (l.filter λx=> !p x).length (EC.flat (l.filter λx=> !p x))/\jd a w w':=by
 rcases tH h b with⟨rfl,rfl⟩|⟨g,c,rfl,q⟩
 ·refine(IG k w m b).mono ?_
  rintro e w' ⟨rfl,d⟩;exact⟨_,rfl,jZ _ _ _ _,d.mono b⟩
 refine(Jq k l g l.length c w q m o).mono ?_;rintro e w' ⟨n',rfl,d⟩;have r:=d.len;subst r;exact⟨_,rfl,d.own,d.bel⟩
theorem JW(l:List Chg)(b:(l.map Chg.d).Nodup)(a:Nat)(v:jc)(w:jb)(h:w.ownsRow a EC.t EC.k v l.length (EC.flat l))(d:a<=w.heap.size)(f:l.length<=1000000):
 jg je 80 #[v,.func (.func 81) #[] #[]] w λe w'=>e=jh (jr #[])/\EC.At w' v (eX l)/\jd a w w':=by
 rcases tH h d with⟨rfl,rfl⟩|⟨g,c,rfl,i⟩
 ·refine(Tryzx.sortFunc_noneC ic 0 _ w).mono ?_
  rintro e w' ⟨rfl,rfl⟩;have e:eX []=[]:=by unfold eX;simp
  rw[e];exact⟨rfl,EK.At.nil,jw _ _⟩
 exact OJ l b a g l.length c w w i f
theorem vR(a:Int)(l:List Chg)(v:jc)(w:jb)(h:EC.At w v l)(r:(l.map Chg.d).Nodup)(k:l.length<=1000000):
 jg je 27 #[I N a,v] w λe w'=>∃d,e=jh d/\EC.At w' d (dk a l)/\jd w w w':=by
 obtain⟨p,c,rfl,-,-⟩:=h.form;have f:=af w (ii #[I N a] 3);have g:=Boxed.new w 3 (I N a);obtain⟨n,s⟩:=J l.length;have i:=h.below f;obtain⟨j,m⟩:=J (w.alloc (ii #[I N a] 3));obtain⟨b,o⟩:=J w.heap.size;rw[<-m]at f g i;rw[<-o]at g;rw[<-s]at i⊢;have t:=O (EZ l _ j i k);have y:=O m;have z:=O o;have q:=O g;have u:=O f;have x:=O k;have B:=O r;clear h f g s i m o k r
 go_enter func27,ntmps27
 go_upto_region 1 with fail
 rw[<-y,<-z]
 go_wp2_with fail
 refine(t).mono ?_;rintro e h ⟨d,rfl,i,f⟩;have k:=O i;have m:ja (jp h b 3 (I N a)):=Z q f;have o:=O f;have g:=O f.size;have C:ja (b<j.heap.size):=O q.lt;clear i f t q
 go_wp2_with fail
 refine(Ob (ON a b j.heap.size C) l d h k m g x).mono ?_;rintro e t ⟨D,rfl,i,f⟩;have q:=O i;have r:=O (o.trans f);have s:=O (jn g f.size);clear i f k m o g
 go_wp2_with fail
 refine(JW _ (B.sublist (qh.map _)) j.heap.size D t q s (jn (qC _ _) x)).mono ?_;rintro e m ⟨rfl,f,g⟩;have i:=O f;have k:=O (u.trans ((r.trans g).mono u.size));clear f g q r s
 go_wp2_with fail
 go_ret;exact⟨_,rfl,i,k⟩
section
attribute [local go_sem] Oper.semAt_some
theorem CK(t:List (Int×Int))(x:Int):(dU t x).length<=1023:=by
 unfold dU
 split
 ·rename_i h
  have a:1<=x/\x<=1023:=by
   unfold iR at h
   split at h
   ·split at h
    ·cases h
    omega
   exact absurd h (by assumption)
  have b:=pj (ofF t) (hgt x.toNat) x.toNat;have c:=(tc (n:=x.toNat) Y Y).2;have d:1*2^hgt x.toNat<=x.toNat*2^hgt x.toNat:=jW _ Y;omega
 simp
theorem OG(t:List (Int×Int)):∀(l:List Int) (x:Int) (k:Nat),eB t (l++[x]) k=eB t l k++(dU t x).map λn=>(((k+l.length:Nat):Int),n):=by
 intro l
 induction l with
 |nil=>intro x k;simp[eB]
 |cons y l a=>
  intro x k;have h:=a x (k+1);unfold eB at h⊢;rw[qi,j9,qj,j9,qj,h,qk];simp only[jt];rw[show k+1+l.length=k+(l.length+1) by omega]
theorem zF(t:List (Int×Int)):∀(l:List Int) (k:Nat),(eB t l k).length<=1023*l.length:=by
 intro l
 induction l with
 |nil=>intro k;simp[eB]
 |cons y l a=>
  intro k;have h:=a (k+1);unfold eB at h⊢;rw[j9,qj,jq,ji,jt];have b:(dU t (y,k).1).length<=1023:=CK t y;omega
theorem wZ{a:Int}(b:0<=a)(c:a<512):(gA a).length=9:=by
 unfold gA lN;rw[ji,ji,r8 _ Y]
theorem aT.but{w w':jb}{v:jc}{t:List (Int×Int)}{d:Nat}{p:Option jv}{n c:Nat}{l:ju}{fr:Nat×Nat}(h:aT w v t)(m:w.heap[d]?=T (ii #[ih p n c] l fr))(hk:∀k,k<w.heap.size->k≠d->w'.heap[k]?=w.heap[k]?):aT w' v t:=by
 have f:∀(g o:Nat) (x:Int),w.cell? ⟨g,o,ic⟩=T (I N x)->w'.cell? ⟨g,o,ic⟩=T (I N x):=λg o x b=>by
  by_cases e:g=d
  ·subst e
   exfalso
   unfold kw at b;rw[m]at b
   rcases o with _ |o<;>simp at b
  rw[<-b];exact bE (a:=⟨g,o,ic⟩) (hk g (eR b) e)
 obtain⟨p,c,q,r,s,u,y⟩:=h;refine⟨p,c,q,r,s,λz=>?_,y⟩;obtain⟨g,o,e,i⟩:=u z;exact⟨g,o,e,λj k=>⟨f _ _ _ (i j k).1,f _ _ _ (i j k).2⟩⟩
structure ko(w:jb)(a:Nat)(Ψ:Nat->Prop)(wr:jb):Prop where
 lt:∀k,Ψ k->k<wr.heap.size
 old:∀k,a<=k->k≠a->k<w.heap.size->Ψ k
 kept:∀k,k<w.heap.size->k≠a->wr.heap[k]?=w.heap[k]?
 not:¬Ψ a
 sz:w.heap.size<=wr.heap.size
def mE(Ψ:Nat->Prop)(a b:jb)(k:Nat):Prop:=Ψ k\/(a.heap.size<=k/\k<b.heap.size)
theorem ko.more{w a b:jb}{c:Nat}{Ψ:Nat->Prop}(h:ko w c Ψ a)(e:c<w.heap.size)(d:jd a a b):ko w c (mE Ψ a b) b where
 lt k hk:=by rcases hk with hk|hk;exact jF (h.lt k hk) d.size;exact hk.2
 old k h1 h2 h3:=.inl (h.old k h1 h2 h3)
 kept k h1 h2:=(d.block k (jF h1 h.sz)).trans (h.kept k h1 h2)
 not hk:=by rcases hk with hk|hk;exact h.not hk;have:=h.sz;omega
 sz:=jn h.sz d.size
theorem ko.yield{w a b:jb}{c:Nat}{Ψ:Nat->Prop}(h:ko w c Ψ a)(d:jd c a b)(hk:∀k,Ψ k->b.heap[k]?=a.heap[k]?):ko w c Ψ b where
 lt k h1:=jF (h.lt k h1) d.size
 old:=h.old
 kept k h1 h2:=by
  refine Eq.trans ?_ (h.kept k h1 h2)
  rcases lo k c with e|e
  ·exact d.block k e
  exact hk k (h.old k e h2 h1)
 not:=h.not
 sz:=jn h.sz d.size
theorem Fc{β:Type}{B0:Nat}{c:β->(Nat->Prop)->jb->Prop}(h:bj B0 c){s:β}{Ψ:Nat->Prop}{a b:jb}(d:c s Ψ a)(e:jd a a b):c s (mE Ψ a b) b:=
 h s Ψ (mE Ψ a b) a b d (a8.ofBelow e (λk hk _=>hk)) (λk hk=>.inl hk) (λk hk=>by rcases hk with hk|hk;exact .inl hk;exact .inr hk.1)
theorem ap.more{Ψ:Nat->Prop}{a b:jb}{v:jc}{sz n:Nat}{xs:List jc}(h:ap Ψ a v sz n xs)(c:∀k,Ψ k->k<a.heap.size)(d:jd a a b):ap (mE Ψ a b) b v sz n xs:=
 (h.keep λk hk=>d.block k (c k hk)).mono λk hk=>.inl hk
theorem ap.ofMine{Ψ:Nat->Prop}{a b:jb}{v:jc}{sz n:Nat}{t:ju}{xs:List jc}(h:b.ownsRow a t sz v n xs):ap (mE Ψ a b) b v sz n xs:=
 ap.of_own h λg c=>.inr (h.lt g c)
theorem Lk(t:List (Int×Int))(ad:jc)(a:Int)(j:0<=a)(C:a<512)(w:jb)(f:Nat)(p:Option jv)(n c:Nat)(ty:ju)(m:w.heap[f]?=T (ii #[ih p n c] ty (0,0)))(y z:Nat)(o:y≠f)(B:z≠f)
 (e:jp w y 3 (I N a)) (q:w.heap[z]?=T (ii #[ad] 27 (0,0))) (s:aT w ad t) (E:t.length<=1000000):
 dK je 118 #[jj (T ⟨y,0,ic⟩),jj (T ⟨z,0,ic⟩)] (λx:Int×Int=>#[I N x.1,I N x.2]) (λk=>f<=k/\k≠f/\k<w.heap.size) f (λxs=>xs=dI t a) (λ_=>True) (λb=>b.length<=10000) w:=by
 intro l D Jx W g x F H K;have S:=(jy.1 m).1;have u:ko w f (λk=>f<=k/\k≠f/\k<w.heap.size) W:=⟨λk hk=>jF hk.2.2 g.size,λk a b c=>⟨a,b,c⟩,λk hk _=>g.block k hk,λhk=>hk.2.1 rfl,g.size⟩;have U:=O u;have Zw:=O S;have HG:=O m;have HA:=O e;have HT:=O q;have HN:=O s;have HL:=O E;have SX:=O o;have a3:=O B;have a4:=O e.lt;have T6:=O (jy.1 q).1;obtain⟨M,P,Q,rfl⟩:=gE s;have HJ:=O x;have al:=O F;have R:=O H;have V:=O K;have v:=wZ j C;obtain⟨r,rfl⟩:=qA j;have h:=O (Hn r Y);have X:iv (lN r)=(gA (r:Int)).map (jP .i64):=by unfold iv gA;rw[jX];rfl
 rw[X]at h;have aa:dI t (r:Int)=eB t (gA (r:Int)) 1:=rfl;rw[aa];generalize gA (r:Int)=d at v h⊢;have Tm:=O v;have ca:W.cell? ⟨y,0,ic⟩=T (I N (r:Int)):=by rw[bE (a:=⟨y,0,ic⟩) (u.kept y a4 o)];exact e.cell
 clear m e q s E o B x F H K v u S X aa j C g;refine(callsIn_wide (n:=0)).1 ?_;refine callsIn_of_wp func118 rfl trivial ?_ rfl;simp only[ntmps118,jz,jt,jM,Nat.reduceAdd,Nat.reduceSub,rv,sg,sh,sn,qL,qi]
 gi_wp2_with fail
 refine⟨trivial,rfl,(callsIn_wide.2 (h W)).mono ?_⟩;rintro e W1 ⟨v,rfl,j,g⟩;have Sk:=O (U.more Zw g);have Q7:=O (Fc HJ V g);have m:=ap.ofMine (Ψ:=λk=>f<=k/\k≠f/\k<w.heap.size) j;obtain⟨pc,cc,rfl⟩:=m.form;have Q5:=O m;have a5:=g.size;generalize mE (λk=>f<=k/\k≠f/\k<w.heap.size) W W1=Ψ1 at Sk Q7 Q5;clear j g m V U h ca
 gi_wp2_with fail
 gi_loopw [19] (λs wr=>W.heap.size<=wr.heap.size/\∃(k:Nat) (Ψ:Nat->Prop),s=I N k/\k<=9/\ja (ko w f Ψ wr)/\ja (D (eB t (d.take k) 1) Ψ wr)/\ja (ap Ψ wr (ih pc 9 cc) 1 9 (d.map (jP .i64)))) (λs _=>(9-jo s).toNat)
 case atStart=>exact⟨a5,0,Ψ1,rfl,by omega,Sk,Q7,Q5⟩
 obtain⟨bd,k,Ψ,rfl,hk,g,E,q⟩:=hrel
 by_cases ba:k<9
 case neg=>
  obtain rfl:k=9:=Y;have S:ja (D (eB t d 1) Ψ wr):=O (by have h:=E.out;rw[jH (by rw[Tm];exact jl _)]at h;exact h);clear R al E
  gi_wp2
  refine bodyPost_end (results_none rfl _ _ _) rfl ?_;exact⟨⟨_,rfl⟩,.inl ⟨_,_,rfl,S⟩⟩
 have hd:=aj ((k:Int)<9);have Q3:=aj (k<9);have m:k<d.length:=by rw[Tm];exact ba
 have F:=O (OG t (d.take k) d[k] 1);have Ut:ja (d.take (k+1)=d.take k++[d[k]]):=O (List.take_succ_eq_append_getElem m);have au:ja ((d.take k).length=k):=O (by rw[qM];omega);obtain⟨-,_,_,U,-,-,o⟩:=q.out;injection U with V X UE
 subst V;subst UE;obtain⟨gc,oc,rfl,-,o⟩:=o Y;have x:=o k (I N d[k]) (by rw[jB,jL m];rfl);obtain⟨sb,u⟩:=J (d[k]);rw[<-u]at x F Ut;have c1:wr.cell? ⟨z,0,ic⟩=T (ih M P Q):=by rw[bE (a:=⟨z,0,ic⟩) (g.kept z T6 a3)];exact cell_of (i:=0) HT rfl
 have aa:ja (aT wr (ih M P Q) t):=O (HN.but HG g.kept);have a1:=O (J5 t (ih M P Q) sb wr aa HL);clear o u m X
 gi_wp2_with fail
 refine⟨trivial,rfl,(callsIn_wide.2 a1).mono ?_⟩;rintro e W2 ⟨vn,rfl,j,B⟩;have Ru:=O (g.more Zw B);have Sd:=O (Fc HJ E B);have QM:=O (q.more g.lt B);have Rs:=ap.ofMine (Ψ:=Ψ) j;obtain⟨pn,cn,rfl⟩:=Rs.form;have H:=O Rs;have bf:=B.size;generalize mE Ψ wr W2=Ψ2 at Ru Sd QM H;have K:=O (CK t sb);obtain⟨u,a2⟩:=J (dU t sb);rw[<-a2]at H F K⊢;obtain⟨m,hm⟩:=J u.length;rw[<-hm]at H K⊢;have Tu:=O hm;have R3:=O (zF t (d.take k) 1);obtain⟨Ql,WX⟩:=J (eB t (d.take k) 1);rw[<-WX]at Sd F R3;have bb:ja (m<=1023):=K;have UY:=K.out;clear j B Rs a1 aa g E q x c1 hm a2 WX
 gi_wp2_with fail
 gi_loopw [32] (λs B=>W.heap.size<=B.heap.size/\∃(j:Nat) (Ψ:Nat->Prop),s=I N j/\j<=m/\ja (ko w f Ψ B)/\ja (D (Ql++(u.take j).map λn=>((k:Int)+1,n)) Ψ B)/\ja (ap Ψ B (ih (T ⟨gc,oc,ic⟩) 9 cc) 1 9 (d.map (jP .i64)))/\ja (ap Ψ B (ih pn m cn) 1 m (u.map (jP .i64)))) (λs _=>(m-jo s).toNat)
 case atStart=>exact⟨by omega,0,Ψ2,rfl,by omega,Ru,O (by simpa using Sd.out),QM,H⟩
 obtain⟨bg,j,Ψ,rfl,hj,g,s,q,E⟩:=hrel
 by_cases a1:j<m
 case neg=>
  obtain rfl:j=m:=Y;have a2:decide ((j:Int)<(j:Int))=false:=by simp
  have S:ja (D (eB t (d.take (k+1)) 1) Ψ wr):=O (by
   have h:=s.out;rw[jH (by rw[<-Tu];exact jl _)]at h;rw[Ut,F,au,show((1+k:Nat):Int)=(k:Int)+1 by omega];exact h)
  clear R al s
  gi_wp2_with fail
  exact⟨⟨by omega,k+1,Ψ,by go_num,by omega,g,S,q⟩,by simp only[jo];omega⟩
 have a2:=aj ((j:Int)<(m:Int));have bh:=aj (j<m);obtain⟨S,h,B⟩:=dE (l:=u) (j:=j) (by rw[<-Tu];exact a1);have bc:ja ((u.take (j+1)).map (λn=>((k:Int)+1,n))=(u.take j).map (λn=>((k:Int)+1,n))++[((k:Int)+1,S)]):=O (by rw[B,jG];rfl);obtain⟨-,_,_,U,-,-,o⟩:=E.out;injection U with V X UE
 subst V;subst UE;obtain⟨gn,on,rfl,-,o⟩:=o Y;have x:=o j (I N S) (by rw[jB,h];rfl);have aa:=R (Ql++(u.take j).map λn=>((k:Int)+1,n)) ((k:Int)+1,S) Ψ wr s g.lt (by
  rw[jq,jq,ji,qM];have C:=R3.out;rw[au]at C;have h2:=bb.out;simp only[jt,jM]
  omega)
 rw[qk,<-bc]at aa;dsimp only at aa;obtain⟨fn,tmps,assign,body,hy,hR⟩:=aa;have HR:=O hR;clear o h B X hR
 gi_wp2_with fail
 refine⟨rfl,HR.mono ?_⟩;rintro e W3 (⟨rfl,UJ,B,h⟩|⟨rfl,VW,B,h⟩)
 ·have RP:=O (g.yield B h)
  have RI:=O (q.keep h);have YT:=O (E.keep h);have X:=O UJ;have bk:=B.size;clear UJ B h HR g q E s hy x
  gi_wp2_with fail
  exact⟨⟨by omega,j+1,Ψ,by go_num,by omega,RP,X,RI,YT⟩,by simp only[jo];omega⟩
 have X:=O VW;clear VW B h HR g q E s hy x
 gi_wp2
 refine kn (results_none rfl _ _ _) rfl ?_;exact⟨⟨_,rfl⟩,.inr ⟨_,_,trivial,X⟩⟩
end
section
attribute [local go_sem] Oper.semAt_some
def EB0:EK (Int×Int):=⟨λx=>[I N x.2,I N x.1,I N 0,ih ic 0 0],4,74,by decide,λ_=>rfl,λx v a=>by simp at a;rcases a with rfl|rfl|rfl|rfl<;>rfl⟩
theorem Eu:(je.info? 74).map (λi=>(i.zero,i.size,i.bytes))=T (T (jf #[I N 0,I N 0,I N 0,ih ic 0 0]),4,48):=by kernel_rfl
theorem KZ(b:jc)(a:Int)(w:jb):jg je 54 #[jf #[b],I N a] w λe w'=>e=jh (.func (.func 118) #[] #[jj (T ⟨w.heap.size+1,0,ic⟩),jj (T ⟨w,0,ic⟩)])/\w'=(w.alloc (ii #[b] 27)).alloc (ii #[I N a] 3):=by
 go_enter func54,ntmps54
 go_wp2_with fail
 go_ret;exact⟨rfl,rfl⟩
section
variable {P:nn} {F:Fence} {nF:Nat}
theorem BZ{e:Array Oper}{i:List Oper}{o:Oper}{a:Act}{w:jb}{j:Exit->Act->jb->Prop}(k:Region.wanted o (yielded e a.tmps)=true)(b:ju)(x:Operand)(f:o.op=.load b x)
 (g:Nat) (l:a.eval x=jj (T ⟨g,0,ic⟩)) (t:ju) (cs:Array jc) (fr:Nat×Nat) (d:TypeDesc) (m:w.heap[g]?=T (ii cs t fr))
 (n:P.underlying b=T d) (p:(match d with| .struct _ | .array _ _=>true|_=>false)=true) (q:(P.info? b).map (·.size)=T cs.size)
 (h:wpListIn F nF P e j i (a.put o.dst (jf cs)) w):wpListIn F nF P e j (o::i) a w:=by
 refine wpListIn_step λu r=>?_
 rw[if_pos k];unfold Oper.wpIn;refine⟨by simp[Oper.about,f],?_⟩;rw[Oper.semAt_plain F _ _ (by rw[f];intro c s;cases s)];simp only[execOp,f,l,Instr.loadAt,Instr.sureAddr,Sem.run_bind,Sem.run_pure,Result.andThen_ok,run_loadVar_row w g t b cs fr d m n p q];exact r _ _ h
end
theorem tf{g:Grp}{a:Int}{l:List Chg}(c:co g)(f:dG l)(d:eV g a l):0<=a/\a<512:=by
 by_cases h:0<g.epoch
 ·have b:=d.own
  rw[decide_eq_true h]at b;unfold cr at b;obtain⟨m,i,j⟩:=ms.1 b;have k:a∈aV g.tree:=by rw[<-c.dev];exact jk.2 ⟨m,i,by simpa using j⟩
  have e:=(mA g.tree a).1 k;exact⟨e.1,e.2.1⟩
 have he:g.epoch=0:=by have:=c.ep.1;omega
 obtain⟨x,r,rfl,b⟩:=d.first he;have:=(f.each x (jA ..)).1;rw[<-b];exact this
theorem uD(g:Grp)(a:Int)(l:List Chg):(eJ g=false/\cD g a l=1)\/(eJ g=true/\(gh l=false\/iM g a l=false)/\cD g a l=221)\/(eJ g=true/\gh l=true/\iM g a l=true/\cD g a l=0):=by
 unfold cD
 by_cases h:co g
 ·rw[BC h,if_pos h]
  by_cases b:dG l/\eV g a l
  ·rw[if_pos b];exact .inr (.inr ⟨rfl,mw.2 b.1,pY.2 b.2,rfl⟩)
  rw[if_neg b];refine .inr (.inl ⟨rfl,?_,rfl⟩)
  by_cases c:dG l
  ·right;exact rf λd=>b ⟨c,d⟩
  left;exact Cd c
 rw[gG h,if_neg h];exact .inl ⟨rfl,rfl⟩
theorem tj(g:Grp)(vm vt vl:jc)(a:Int)(l:List Chg)(w:jb)(h:bQ w g vm vt)(j:EC.At w vl l)(k:g.mem.length<=1000000)(E:g.tree.length<=700000)(m:l.length<=1000000):
 jg je 12 #[jf (aA g vm vt).toArray,I N a,vl] w λe w'=>∃z,e=jh (jr #[z,I N (cD g a l)])/\w'.ownsRow w 74 4 z (dh g a l).length (EB0.flat (dh g a l))/\jd w w w':=by
 have C:=uD g a l;have s:=kI (vm:=vm) (vt:=vt) h.llen;obtain⟨o,c⟩:=J ((aA g vm vt).toArray);rw[<-c]at s⊢;have D:=av (jm w (ii o 29)) (af (w.alloc (ii o 29)) (ii #[ih ic 0 0] 32));have t:=jm (w.alloc (ii o 29)) (ii #[ih ic 0 0] 32);rw[j4]at t;have i:jd w w ((w.alloc (ii o 29)).alloc (ii #[ih ic 0 0] 32)):=(af w _).trans ((af (w.alloc (ii o 29)) (ii #[ih ic 0 0] 32)).mono (af w _).size);have u:=O D;have H:=O t;have K:=O i;have y:=O (h.below i);have B:=O (j.below i);obtain⟨r,cl,rfl,-,-⟩:=j.form;obtain⟨n,v⟩:=J l.length;rw[<-v]at B⊢;have HV:ja (∀W,bQ W g vm vt->jg je 22 #[jf o] W λe w'=>e=jh (.bool (eJ g))/\jd W W w'):=O (by rw[c];exact λW d=>zl g vm vt W d k Y);have HP:ja (∀W,co g->bQ W g vm vt->EC.At W (ih r n cl) l->jg je 53 #[jf o,I N a,ih r n cl] W λe w'=>e=jh (.bool (iM g a l))/\jd W W w'):=O (by rw[c];exact λW f d x=>Lv g vm vt _ a l W d f k x m);have VG:ja (∀W,dG l->bQ W g vm vt->EC.At W (ih r n cl) l->jg je 32 #[jf o,ih r n cl] W λe w'=>∃z,e=jh (jf #[z])/\aT w' z (aJ g.tree l)/\jd W W w'):=O (by rw[c];exact λW q d x=>uC g vm vt _ l W d q E x);have Q:=O s;have HL:=O m;have SX:=O v;have T6:=O E;have WB:=O C;obtain⟨er,d⟩:=J (cD g a l);have Zv:ja (er≠0->dh g a l=[]):=O (λh=>by unfold dh;rw[if_neg (by rw[<-d];exact h)]);have a3:ja (er=0->dh g a l=dI (aJ g.tree l) a):=O (λh=>by unfold dh;rw[if_pos (by rw[<-d];exact h)]);rw[<-d]at WB⊢;clear C s c D t i h j k E m v d;refine(callsIn_wide (n:=0)).1 ?_;refine callsIn_of_wp_marks func12 rfl trivial ?_ rfl;simp only[ntmps12,jz,jt,jM,Nat.reduceAdd,Nat.reduceSub,rv,sg,sh,sn,qL,qi]
 gi_wp2_with (refine mB rfl 29 _ rfl w.heap.size rfl 29 o (0,0) _ u.out j3 rfl Q ?_)
 refine⟨trivial,rfl,(callsIn_wide.2 (HV _ y.out)).mono ?_⟩;rintro e R ⟨rfl,c⟩;have D:=Z u c;have v:=Z H c;have S:=O (y.below c);have x:=O (B.below c);have F:=ac K c;clear c u H y B K;obtain⟨d,i⟩:=J w.heap.size;rw[<-i]at D v⊢;have H:=O i;clear i
 rcases WB.out with⟨f,he⟩|⟨f,B,he⟩|⟨f,q,B,he⟩
 ·subst he
  rw[f];have K:ja (dh g a l=[]):=O (Zv L);have i:jp R (d+1) 32 (ih ic 0 0):=v.out;clear f;have TS:=i.cell;have aa:=i.frozen
  gi_wp2_with fail
  have u:(R.setCell ⟨d+1,0,ic⟩ (ih ic 0 0)).cell? ⟨d+1,0,ic⟩=T (ih ic 0 0):=(i.set _).cell;exact⟨jr #[ih ic 0 0,I N 1],by simp[results,oo,go_sem,u],_,rfl,by rw[K];exact jZ _ _ _ _,F.setCell (p:=⟨d+1,0,ic⟩) (by rw[H];show w.heap.size<=w.heap.size+1;omega) _⟩
 ·subst he
  rw[f];have M:co g:=by
   by_cases P:co g
   ·exact P
   rw[gG P]at f;cases f
  have U:=O M;have K:ja (dh g a l=[]):=O (Zv L);clear f M;have a1:=O B;clear B;have ad:=O (wP l (ih r n cl))
  gi_wp2_with fail
  refine⟨trivial,rfl,(callsIn_wide.2 (ad R x HL)).mono ?_⟩;rintro e y ⟨rfl,c⟩;have j:=Z D c;have k:=Z v c;have m:=O (S.below c);have s:=O (x.below c);have t:=ac F c;clear D v S x F;clear c
  rcases a1.out with q|q
  ·rw[q]
   clear q;have i:jp y (d+1) 32 (ih ic 0 0):=k.out;have TS:=i.cell;have aa:=i.frozen
   gi_wp2_with fail
   refine⟨trivial,?_⟩
   gi_wp2_with fail
   have u:(y.setCell ⟨d+1,0,ic⟩ (ih ic 0 0)).cell? ⟨d+1,0,ic⟩=T (ih ic 0 0):=(i.set _).cell;exact⟨jr #[ih ic 0 0,I N 221],by simp[results,oo,go_sem,u],_,rfl,by rw[K];exact jZ _ _ _ _,t.setCell (p:=⟨d+1,0,ic⟩) (by rw[H];show w.heap.size<=w.heap.size+1;omega) _⟩
  by_cases C:gh l=false
  ·rw[C]
   clear C q;have i:jp y (d+1) 32 (ih ic 0 0):=k.out;have TS:=i.cell;have aa:=i.frozen
   gi_wp2_with fail
   refine⟨trivial,?_⟩
   gi_wp2_with fail
   have u:(y.setCell ⟨d+1,0,ic⟩ (ih ic 0 0)).cell? ⟨d+1,0,ic⟩=T (ih ic 0 0):=(i.set _).cell;exact⟨jr #[ih ic 0 0,I N 221],by simp[results,oo,go_sem,u],_,rfl,by rw[K];exact jZ _ _ _ _,t.setCell (p:=⟨d+1,0,ic⟩) (by rw[H];show w.heap.size<=w.heap.size+1;omega) _⟩
  have C:gh l=true:=by simpa using C
  rw[C];have al:=O q;clear C q
  gi_wp2_with (refine BZ ag 29 _ rfl d rfl 29 o (0,0) _ j.out j3 rfl Q ?_)
  refine⟨trivial,rfl,(callsIn_wide.2 (HP y U m s)).mono ?_⟩;rintro e C ⟨rfl,c⟩;have au:=Z j c;have V:=Z k c;have YY:=O (m.below c);have QW:=O (s.below c);have X:=ac t c;clear j k m s t;clear c;rw[al];have i:jp C (d+1) 32 (ih ic 0 0):=V.out;have TS:=i.cell;have aa:=i.frozen
  gi_wp2_with fail
  have u:(C.setCell ⟨d+1,0,ic⟩ (ih ic 0 0)).cell? ⟨d+1,0,ic⟩=T (ih ic 0 0):=(i.set _).cell;exact⟨jr #[ih ic 0 0,I N 221],by simp[results,oo,go_sem,u],_,rfl,by rw[K];exact jZ _ _ _ _,X.setCell (p:=⟨d+1,0,ic⟩) (by rw[H];show w.heap.size<=w.heap.size+1;omega) _⟩
 subst he;rw[f];have M:co g:=by
  by_cases P:co g
  ·exact P
  rw[gG P]at f;cases f
 have U:=O M;have Vb:=O (mw.1 q);have R3:=O (pY.1 B);have a4:=O q;have al:=O B;have ad:=O (wP l (ih r n cl));clear f M q B
 gi_wp2_with fail
 refine⟨trivial,rfl,(callsIn_wide.2 (ad R x HL)).mono ?_⟩;rintro e y ⟨rfl,c⟩;have j:=Z D c;have k:=Z v c;have m:=O (S.below c);have s:=O (x.below c);have t:=ac F c;clear D v S x F;clear c;rw[a4]
 gi_wp2_with (refine BZ ag 29 _ rfl d rfl 29 o (0,0) _ j.out j3 rfl Q ?_)
 refine⟨trivial,rfl,(callsIn_wide.2 (HP y U m s)).mono ?_⟩;rintro e C ⟨rfl,c⟩;have au:=Z j c;have V:=Z k c;have YY:=O (m.below c);have QW:=O (s.below c);have X:=ac t c;clear j k m s t;clear c;rw[al]
 gi_wp2_with (refine mB rfl 29 _ rfl d rfl 29 o (0,0) _ au.out j3 rfl Q ?_)
 refine⟨trivial,rfl,(callsIn_wide.2 (VG C Vb YY QW)).mono ?_⟩;rintro e i ⟨z,rfl,j,c⟩;have k:=O j;have m:=Z V c;have t:=ac X c;clear au V YY QW X;clear c j;obtain⟨B,F,M,rfl⟩:=gE k
 gi_wp2_with fail
 refine⟨trivial,rfl,(callsIn_wide.2 (KZ _ a i)).mono ?_⟩;rintro e s ⟨rfl,c⟩
 gi_wp2_with fail
 rw[<-c];have j:jd i i s:=by rw[c];exact(af i _).trans ((af _ _).mono (af i _).size)
 have bT:s.heap[i.heap.size]?=T (ii #[ih B F M] 27 (0,0)):=by rw[c];exact av (jm i _) (af _ _)
 have bA:jp s (i.heap.size+1) 3 (I N a):=by
  have h:=Boxed.new (i.alloc (ii #[ih B F M] 27)) 3 (I N a);rw[j4]at h;rw[c];exact h
 have bN:jp s (d+1) 32 (ih ic 0 0):=av m j;have a5:=k.below j;have ba:jd w w s:=t.trans (j.mono t.size);have Uu:i.heap.size+2<=s.heap.size:=by rw[c];simp
 have bg:d+1<i.heap.size:=(jy.1 m).1;have bb:w.heap.size=d:=H.symm;have aa:=O bb;obtain⟨h0,h1⟩:=tf U Vb R3;have E:(aJ g.tree l).length<=1000000:=by have:=tN g.tree l;have:=T6.out;have:=Vb.len;omega
 have Td:ja (dh g a l=dI (aJ g.tree l) a):=O (a3 (by trivial));have Wc:ja (d+1<=s.heap.size):=O Y;obtain⟨i0,hi,Qs,bc,bd⟩:=lE Eu;clear c m k j t;refine nO (n:=0) (gf:=118) (lb:=#[jj (T ⟨i.heap.size+1,0,ic⟩),jj (T ⟨i,0,ic⟩)]) rfl (enters_of func118 ae rfl)
  (Lk (aJ g.tree l) (ih B F M) a h0 h1 s (d+1) ic 0 0 32 bN (i.heap.size+1) i.heap.size Y Y bA bT a5 E) Y (λ_=>rfl) (λk hk=>hk.2.2)
  (λt Ψ W=>kN (d+1) 32 (d+1) 74 4 t.length (EB0.flat t) (λ_=>True) Ψ W/\(jd w w W/\∀k,Ψ k->w.heap.size<=k))
  (λ_ _ _ _=>False)
  ((oM s.heap.size (d+1) 32 (d+1) 74 4 (λt=>t.length) (λt=>EB0.flat t) (λ_ _=>True)).and (lq _ _ w (jl _) Y))
  (λ_=>eZ _ _)
  ⟨⟨_,bN,λh=>h.2.1 rfl,jZ _ _ _ _,by simp[Value.ownBlock],trivial⟩,ba,λk hk=>by omega⟩
  (λx D _ _=>D={tmps:=#[jf o,I N a,ih r n cl,jj (T ⟨d,0,ic⟩),jV,jV,jj (T ⟨d+1,0,ic⟩),I N 0,I N x.1,I N x.2,
   jf o,.bool true,.bool false,ih r n cl,.bool true,.bool false,.bool false,jf o,I N a,ih r n cl,.bool true,.bool false,.bool false,jf o,ih r n cl,jf #[ih B F M],I N a,
   .func (.func 118) #[] #[jj (T ⟨i.heap.size+1,0,ic⟩),jj (T ⟨i,0,ic⟩)],I N x.1,I N x.2,jV,jV,jV,jV,jV,jV,jV],defers:=[]}) (eZ _ _)
  ?assign ?body ?done ?stop
 case assign=>
  intro l' t x Ψ j K c _ P
  gi_wp2
  exact P _ _ (jw _ _) c rfl
 case body=>
  rintro l' t ⟨S,nd⟩ Ψ D Qr ⟨⟨v,f,a1,c,x,-⟩,k,hΨ⟩ rfl j VD bh WR;have bk:t.length<=10000:=by have:=j;rw[jq]at this;omega
  have hc:=f.cell;have K:=O k;have bl:=k.size;have Uh:=O (CC Qr [I N nd,I N S,I N 0,ih ic 0 0] 74);clear k j
  gi_wp2_with (gi_at_builtin;refine wpListIn_append_own_at _ rfl _ _ 32 rfl (d+1) 74 i0 (jf #[I N 0,I N 0,I N 0,ih ic 0 0]) 4 48 underlying32 hi Qs bc bd rfl L _ _ _ rfl (c.alloc _) ⟨Qr,0,ic⟩ 1 1 [I N nd,I N S,I N 0,ih ic 0 0] rfl rfl Uh (by simp[qf]) (by unfold km;omega) Y (by simp;omega) ?_;intro v' w1 YP YO bm a2;obtain⟨g',bn,rfl⟩:=ownsRow_succ YP;obtain⟨m,bf⟩:=oF (B0:=s.heap.size) f L c Y (jl _) a1 x VD YP YO (by intro j hj;rw[hj]at a2;rcases a2 with h|h;exact .inl h.symm;exact .inr (by simpa using h));have j:jp w1 (d+1) 32 v:=(f.alloc _).kept YO (by have:=f.not_row (e:=74) L c;exact this);have bo:=j.cell;have bq:=j.frozen)
  obtain⟨v',j,b2,b3,b4,b5⟩:=bf;refine⟨⟨m.1,m.2.1,m.2.2⟩,⟨v',j,b2,?_,b4,trivial⟩,K.trans (m.2.1.mono (by rw[aa];omega)),hΨ⟩;rw[EB0.flat_append,jq];exact b3
 case done=>
  rintro D xs Ψ W hD hS ⟨⟨v,f,a1,c,x,-⟩,k,hΨ⟩ P;have hc:=f.cell;have q:=f.frozen;have K:=O k;clear k;obtain⟨j,k,rfl⟩:=aO c;obtain⟨m,S⟩:=J xs.length;rw[<-S]at f c x hc;have a2:=O S;have Zt:=O hS;clear S hS
  gi_wp2
  refine⟨by simp,.inl ⟨_,_,rfl,run_takeDeferred (b:=D) (ds:=[]) ?_,?_⟩⟩
  ·exact(KeepsOthers.setCell W _ _).same D _ P rfl
  have S:jp (W.setCell ⟨d+1,0,ic⟩ (ih j m k)) (d+1) 32 (ih j m k):=f.set _;have Ui:(W.setCell ⟨d+1,0,ic⟩ (ih j m k)).heap[D]?=T (.deferred (T [])):=(KeepsOthers.setCell W _ _).same D _ P rfl;have bf:(W.setCell ⟨d+1,0,ic⟩ (ih j m k)).ownsRow (d+1) 74 4 (ih j m k) m (EB0.flat xs):=
   c.kept (ob W _ _) (.inr (f.not_row (e:=74) L c).symm)
  have ZR:jp ((W.setCell ⟨d+1,0,ic⟩ (ih j m k)).putObj D (.deferred ic)) (d+1) 32 (ih j m k):=
   (World.putObj_heap_other Y).trans S
  have u:=ZR.cell;refine⟨jr #[ih j m k,I N 0],by simp[results,oo,go_sem,u],_,rfl,?_,?_⟩
  ·have h:=ownsRow_putObj bf (.deferred ic) Ui rfl
   rw[aa,Td,<-Zt,<-a2];exact oV h Y
  exact(K.setCell (p:=⟨d+1,0,ic⟩) (by show w.heap.size<=d+1;omega) _).trans (ie Y)
 intro D c t Ψ W _ _ h;exact h.elim
end
theorem cI.at{w:jb}{b:Nat}{c:Cmt}{q:CQ}(h:cI w b c q):w.cell? ⟨b,0,ic⟩=T (I N c.folder)/\w.cell? ⟨b,1,ic⟩=T (I N c.epoch)/\w.cell? ⟨b,34,ic⟩=T (I N c.author)/\w.cell? ⟨b,35,ic⟩=T q.vc/\w.cell? ⟨b,36,ic⟩=T q.vp/\
 w.cell? ⟨b,37,ic⟩=T q.vb/\w.cell? ⟨b,38,ic⟩=T q.vw/\w.cell? ⟨b,71,ic⟩=T (I N c.r)/\w.cell? ⟨b,72,ic⟩=T (I N c.s):=by
 obtain⟨a,d,e,f,g,i,j,k,l⟩:=eE c q h.plen h.clen;exact⟨h.get a,h.get d,h.get e,h.get f,h.get g,h.get i,h.get j,h.get k,h.get l⟩
theorem cI.new(w:jb){c:Cmt}{q:CQ}(a:c.parent.length=32)(b:c.confirm.length=32):cI (w.alloc (ii (ah c q).toArray 37)) w.heap.size c q:=⟨jm w _,a,b⟩
theorem cI.lt{w:jb}{b:Nat}{c:Cmt}{q:CQ}(h:cI w b c q):b<w.heap.size:=(jy.1 h.blk).1
theorem cI.below{w w':jb}{b:Nat}{c:Cmt}{q:CQ}(h:cI w b c q)(a:jd w w w'):cI w' b c q:=h.keep (a.block b h.lt)
theorem mC{α:Type}{w:jb}{v:jc}{l:List α}{b:List jc}{f:α->jc->List jc}{k:Nat}{D:Nat->Prop}(h:ap D w v k l.length (cG f l b))(hk:∀x a,(f x a).length=k){j:Nat}{x:α}{a:jc}(d:l[j]?=T x)(m:b[j]?=T a):∃g o c,v=ih (T ⟨g,o,ic⟩) l.length c/\∀i y,(f x a)[i]?=T y->w.cell? ⟨g,o+j*k+i,ic⟩=T y:=by
 obtain⟨s,p,c,rfl,t,u,n⟩:=h;have z:=(j5.1 d).1;obtain⟨g,o,rfl,-,q⟩:=n Y;refine⟨g,o,c,rfl,λi y e=>?_⟩;have r:i<k:=by rw[<-hk x a];exact(j5.1 e).1
 rw[ql];exact q (j*k+i) y ((oA f k hk l b j i x a d m r).trans e)
def wk(b:Bx):Prop:=1<=b.node/\b.node<1024/\1<=b.lev/\b.lev<=9/\kE b.u b.body.length
def sc(x:Wl):Prop:=eK x.dev/\kE x.u x.body.length
structure iV(l:List Wl):Prop where
 each:∀x∈l,sc x
 inc:∀i,0<i->i<l.length->((l.map Wl.dev).getD (i-1) 0)<((l.map Wl.dev).getD i 0)
theorem iV.snoc{l:List Wl}{x:Wl}(h:iV l)(e:sc x)(f:l=[]\/∃y,l[l.length-1]?=T y/\y.dev<x.dev):iV (l++[x]):=by
 refine⟨λy a=>?_,λi c g=>?_⟩
 ·rcases jI.1 a with a|a
  ·exact h.each y a
  rw[lw]at a;subst a;exact e
 rw[jq,List.length_singleton]at g;rw[jG]
 rcases lo i l.length with b|b
 ·have d:=h.inc i c b
  simp only[jJ,qa (show i<(l.map Wl.dev).length by rw[ji];exact b),qa (show i-1<(l.map Wl.dev).length by rw[ji];omega)]at d⊢;exact d
 obtain rfl:i=l.length:=Y
 rcases f with rfl|⟨y,a,d⟩
 ·exact absurd c ar
 simp only[jJ,qa (show l.length-1<(l.map Wl.dev).length by rw[ji];omega),qD (show(l.map Wl.dev).length<=l.length by rw[ji];exact jl _),jB,a,ji,Nat.sub_self]
 simpa using d
theorem iV.nil:iV []:=⟨(λx h=>by cases h),λi b a=>absurd a ar⟩
theorem nA{a:Int}{n:Nat}:kK a n=0↔kE a n:=⟨λh=>by
 by_cases g:kE a n
 ·exact g
 rw[su g]at h;exact absurd h L,Cw⟩
theorem CE(c:Cmt)(q:CQ)(w:jb)(a:ay (·<w.heap.size) w c q)(l1:c.chg.length<=1000000)(l2:c.path.length<=1000000)(l3:c.box.length<=1000000)(l4:c.wel.length<=1000000)(l5:∀b∈c.box,b.body.length<4611686018427387904)(l6:∀b∈c.wel,b.body.length<4611686018427387904):
 jg je 18 #[jf (ah c q).toArray] w λe w'=>e=jh (I N (ff c))/\jd w w w':=by
 obtain⟨r,B⟩:=J (ff c);rw[<-B];have C:=O B;have D:=cI.new w (q:=q) a.plen a.clen;have f:=af w (ii (ah c q).toArray 37);obtain⟨pc,cc,F⟩:=a.chg.form;obtain⟨pp,cp,j⟩:=a.path.form;obtain⟨pb,cb,k⟩:∃p c',q.vb=ih p c.box.length c':=by obtain⟨us,h,-⟩:=a.box;exact h.form
 obtain⟨pw,cw,n⟩:∃p c',q.vw=ih p c.wel.length c':=by obtain⟨us,h,-⟩:=a.wel;exact h.form
 obtain⟨o,t,c2,g,m,s,x,-,-⟩:=D.at;rw[F]at g;rw[j]at m;rw[k]at s;rw[n]at x;have bl:=O (EK.At.of_sl (E:=EC) a.chg);have bB:=O a.path;have Uf:=O a.box;have Ta:=O a.wel;have bC:=O l5;have bI:=O l6;rw[F]at bl;obtain⟨nc,u⟩:=J c.chg.length;obtain⟨np,y⟩:=J c.path.length;obtain⟨nb,bb⟩:=J c.box.length;obtain⟨P,bc⟩:=J c.wel.length;rw[<-u]at g bl l1;rw[<-y]at m l2;rw[<-bb]at s l3;rw[<-bc]at x l4;obtain⟨fd,H⟩:=J c.folder;obtain⟨ep,K⟩:=J c.epoch;obtain⟨au,M⟩:=J c.author;rw[<-H]at o;rw[<-K]at t;rw[<-M]at c2;obtain⟨x0,i⟩:=J (w.alloc (ii (ah c q).toArray 37));obtain⟨b,S⟩:=J w.heap.size;have z:=D.blk;obtain⟨ad,d⟩:=J ((ah c q).toArray);rw[<-d]at i f z⊢;rw[<-d]at o t c2 g m s x;rw[<-i,<-S]at o t c2 g m s x z;rw[<-i]at f;have HX:=O i;have SE:=O S;have Q:=O z;have R:=O f;have QB:=O (bl.below f);have cf:ja (ad[36]?=T (ih pp np cp)):=O (by rw[d,y,<-j];simpa using(eE c q a.plen a.clen).2.2.2.2.1);have bK:ja (ad[37]?=T (ih pb nb cb)):=O (by rw[d,bb,<-k];simpa using(eE c q a.plen a.clen).2.2.2.2.2.1);have aa:ja (ad[38]?=T (ih pw P cw)):=O (by rw[d,bc,<-n];simpa using(eE c q a.plen a.clen).2.2.2.2.2.2.1);have Zf:=O u;have bh:=O y;have Zv:=O bb;have Si:=O bc;have bq:=O H;have SJ:=O K;have br:=O M;have bM:=O j;have bN:=O k;have bs:=O n;have U:=O (BV fd);have al:=O (yK au);obtain⟨fo,V⟩:=J (decide (gD fd));obtain⟨dv,a3⟩:=J (decide (eK au));rw[<-V]at U;rw[<-a3]at al;have bu:=O V;have bv:=O a3;have W:=O (wP c.chg (ih pc nc cc));obtain⟨fm,X⟩:=J (gh c.chg);rw[<-X]at W;have bw:=O X;have WE:ja (c.chg.length<=1000000):=O (by rw[<-u];exact l1);clear B D f F j k n a u y bb bc H K M i S z d V a3 X l5 l6
 go_enter func18,ntmps18
 go_upto_region 1 with fail
 rw[<-HX,<-SE]
 go_wp2_with fail
 refine(U x0).mono ?_;rintro e x1 ⟨rfl,rfl⟩
 cases fo with
 |false=>
  obtain rfl:r=220:=by rw[C];exact ef λh=>by have h2:=h.fol;rw[<-bq]at h2;have h3:=bu.out;rw[decide_eq_true h2]at h3;cases h3
  go_wp2_with fail
  go_ret;exact⟨rfl,R⟩
 |true=>
 by_cases f:ep<1
 ·have bO:decide (ep<1)=true:=by simpa using f
  obtain rfl:r=220:=by rw[C];exact ef λh=>by have:=h.ep.1;rw[<-SJ]at this;omega
  clear f
  go_wp2_with fail
  go_ret;exact⟨rfl,R⟩
 have bO:decide (ep<1)=false:=by simpa using f
 have TM:=O f;clear f
 by_cases f:1099511627776<ep
 ·have bT:decide (1099511627776<ep)=true:=by simpa using f
  obtain rfl:r=220:=by rw[C];exact ef λh=>by have:=h.ep.2;rw[<-SJ]at this;omega
  clear f
  go_wp2_with fail
  go_ret;exact⟨rfl,R⟩
 have bT:decide (1099511627776<ep)=false:=by simpa using f
 have B:=O f;clear f
 go_wp2_with fail
 refine(al x0).mono ?_;rintro e x1 ⟨rfl,rfl⟩
 cases dv with
 |false=>
  obtain rfl:r=220:=by rw[C];exact ef λh=>by have h2:=h.aut;rw[<-br]at h2;have h3:=bv.out;rw[decide_eq_true h2]at h3;cases h3
  go_wp2_with fail
  go_ret;exact⟨rfl,R⟩
 |true=>
 go_wp2_with fail
 refine(W x0 QB WE).mono ?_;rintro e x1 ⟨rfl,d⟩;have X:=Z Q d;have H:=ac R d;replace m:=cell_below m d;replace s:=cell_below s d;replace x:=cell_below x d;clear d Q R QB o t c2 g W al U
 cases fm with
 |false=>
  obtain rfl:r=220:=by rw[C];exact ef λh=>by have h2:=mw.2 h.chg;rw[<-bw]at h2;cases h2
  go_wp2_with fail
  go_ret;exact⟨rfl,H⟩
 |true=>
 by_cases f:¬np=10
 ·have a:((np:Int)==10)=false:=by simp;omega
  have g:((np:Int)!=10)=true:=by simp;omega
  obtain rfl:r=220:=by rw[C];exact ef λh=>f (bh.trans h.plen)
  clear f
  go_wp2_with fail
  go_ret;exact⟨rfl,H⟩
 have b3:np=10:=Y;clear f;subst b3
 by_cases f:1024<nb
 ·have b4:=aj (1024<(nb:Int))
  obtain rfl:r=220:=by rw[C];exact ef λh=>by have:=h.blen;rw[<-Zv]at this;omega
  clear f
  go_wp2_with fail
  go_ret;exact⟨rfl,H⟩
 have b4:=ak (1024<(nb:Int));have bb:nb<=1024:=Y;clear f
 by_cases f:512<P
 ·have b5:=aj (512<(P:Int))
  obtain rfl:r=220:=by rw[C];exact ef λh=>by have:=h.wlen;rw[<-Si]at this;omega
  clear f
  go_wp2_with fail
  go_ret;exact⟨rfl,H⟩
 have b5:=ak (512<(P:Int));have bc:P<=512:=Y;clear f
 go_wp2_with fail
 go_loopw [56] (λi wr=>∃k:Nat,i=I N k/\k<=10/\ja (∀j,j<k->aM (c.path.getD j 0))/\ja (wr.heap[b]?=T (ii ad 37 (0,0)))/\ja (jd w w wr)) (λi _=>10-(jo i).toNat)
 case atStart=>exact⟨0,rfl,jQ _,O (λj hj=>absurd hj Y),X,H⟩
 obtain⟨k,rfl,hk,HP,HK,z⟩:=hrel
 by_cases bd:k<10
 case pos=>
  have b6:=aj ((k:Int)<10);have U:=aj (k<10);obtain⟨y,K⟩:∃y,c.path[k]?=T y:=⟨_,jL (by rw[<-bh];exact bd)⟩;obtain⟨-,V,c',F,-,-,D⟩:=bB.out;rw[bM]at F;injection F with e1 e2 e3
  obtain⟨g,o,hg,-,D⟩:=D (by rw[<-bh];omega);rw[hg]at e1;subst e1;have d0:wr.cell? ⟨g,o+k,ic⟩=T (I N y):=cell_below (D k (I N y) (by rw[jB,K];rfl)) z;have HY:=O K;have a:=O (fs y);obtain⟨u,t⟩:=J (bS y);rw[<-t]at a;have SO:=O t;clear K D e2 e3 hg t
  go_wp2_with fail
  refine(a _).mono ?_;rintro e W ⟨rfl,d⟩;have S:=Z HK d;have M:=ac z d;clear d a HK z d0
  by_cases n:u=0
  ·have a4:(u !=0)=false:=by simpa using n
   have a5:(u==0)=true:=by simpa using n
   have ba:ja (∀j,j<k+1->aM (c.path.getD j 0)):=O (λj hj=>by
    rcases lo j k with a|a
    ·exact HP j a
    obtain rfl:j=k:=Y;rw[show c.path.getD j 0=y by simp[jJ,HY.out]];exact vB.1 (SO.symm.trans n))
   clear n
   go_wp2_with fail
   exact⟨⟨k+1,by go_num,by omega,ba,S,M⟩,by simp only[jo];omega⟩
  have a4:(u !=0)=true:=by simpa using n
  have a5:(u==0)=false:=by simpa using n
  obtain rfl:r=220:=by rw[C];exact ef λh=>n (by rw[SO];exact vB.2 (h.path y (jD HY)))
  clear n
  go_wp2_with fail
  go_ret;exact⟨rfl,M⟩
 have b6:=ak ((k:Int)<10);have b7:ja (∀j,j<10->aM (c.path.getD j 0)):=O (λj hj=>HP j Y);have a:=cell_of HK bK;clear m s x X H HP
 go_wp2_with fail
 go_loopw [67] (λi wz=>∃k:Nat,i=I N k/\k<=nb/\ja (∀x∈c.box.take k,wk x)/\ja (wz.heap[b]?=T (ii ad 37 (0,0)))/\ja (jd w w wz)) (λi _=>nb-(jo i).toNat)
 case atStart=>exact⟨0,rfl,jQ _,O ar,HK,z⟩
 clear a HK z;obtain⟨k,rfl,hk,HP,HK,z⟩:=hrel
 by_cases bd:k<nb
 case pos=>
  have bm:=aj ((k:Int)<(nb:Int));have bn:=aj (k<nb);obtain⟨x,f,TF⟩:=dE (l:=c.box) (j:=k) (by rw[<-Zv];exact bd);obtain⟨us,bf,bg⟩:=Uf.out;obtain⟨b8,hu,Yh⟩:=bg.at (i:=k) (b:=x.body) (by rw[jB,f];rfl);obtain⟨g,o,c',hq,D⟩:=mC bf (λ_ _=>rfl) f hu;rw[bN]at hq;injection hq with e1 e2 e3
  subst e1;subst e3;obtain⟨U,V,rfl⟩:=Yh.form;have a1:=bC x (jD f);have UB:=O f;have Ut:=O TF;obtain⟨m,hm⟩:=J x.body.length;have HM:=O hm;obtain⟨a,s,F,xb⟩:=x;dsimp only at a1 hm D;rw[<-hm]at a1 D;have d0:wr.cell? ⟨g,o+k*4,ic⟩=T (I N a):=cell_below (D 0 _ rfl) z;have d1:wr.cell? ⟨g,o+k*4+1,ic⟩=T (I N s):=cell_below (D 1 _ rfl) z;have d2:wr.cell? ⟨g,o+k*4+2,ic⟩=T (I N F):=cell_below (D 2 _ rfl) z;have M:wr.cell? ⟨g,o+k*4+3,ic⟩=T (ih U m V):=cell_below (D 3 _ rfl) z;have a2:=O (Dj F U m V a1);obtain⟨u,t⟩:=J (kK F m);rw[<-t]at a2;have SO:=O t;clear D bf bg hu Yh f TF e2 hm t a1
  go_upto_region 12 with fail
  obtain⟨y1,TD⟩:=J wr;have X:ja (y1.heap[b]?=T (ii ad 37 (0,0))):=by rw[TD];exact HK
  have H:ja (jd w w y1):=by rw[TD];exact z
  rw[<-TD]at d0 d1 d2 M⊢;clear TD HK z;have d:=af y1 (ii #[I N a,I N s,I N F,ih U m V] 74);have Qo:=jm y1 (ii #[I N a,I N s,I N F,ih U m V] 74);obtain⟨y2,f⟩:=J (y1.alloc (ii #[I N a,I N s,I N F,ih U m V] 74));rw[<-f]at d Qo⊢;obtain⟨E,hg⟩:=J y1.heap.size;rw[<-hg]at Qo⊢;have b9:=O hg;have W:=Z X d;have S:=ac H d;clear X H;have B:=O Qo;clear Qo f d hg;have b0:=cell_of (i:=0) B rfl;have b1:=cell_of (i:=1) B rfl;have b2:=cell_of (i:=2) B rfl;have bk:=cell_of (i:=3) B rfl;clear d0 d1 d2 M
  by_cases f:a<1
  ·have g1:decide (a<1)=true:=by simpa using f
   obtain rfl:r=220:=by rw[C];exact ef λh=>by have M:=h.box _ (jD UB);exact by have:=M.1;dsimp only at this;omega
   clear f
   go_wp2_with fail
   go_ret;exact⟨rfl,S⟩
  have g1:decide (a<1)=false:=by simpa using f
  have bo:1<=a:=Y;clear f
  by_cases f:1024<=a
  ·have g2:decide (1024<=a)=true:=by simpa using f
   obtain rfl:r=220:=by rw[C];exact ef λh=>by have M:=h.box _ (jD UB);exact by have:=M.2.1;dsimp only at this;omega
   clear f
   go_wp2_with fail
   go_ret;exact⟨rfl,S⟩
  have g2:decide (1024<=a)=false:=by simpa using f
  have bA:a<1024:=Y;clear f
  by_cases f:s<1
  ·have g3:decide (s<1)=true:=by simpa using f
   obtain rfl:r=220:=by rw[C];exact ef λh=>by have M:=h.box _ (jD UB);exact by have:=M.2.2.1;dsimp only at this;omega
   clear f
   go_wp2_with fail
   go_ret;exact⟨rfl,S⟩
  have g3:decide (s<1)=false:=by simpa using f
  have ca:1<=s:=Y;clear f
  by_cases f:9<s
  ·have g4:decide (9<s)=true:=by simpa using f
   obtain rfl:r=220:=by rw[C];exact ef λh=>by have M:=h.box _ (jD UB);exact by have:=M.2.2.2.1;dsimp only at this;omega
   clear f
   go_wp2_with fail
   go_ret;exact⟨rfl,S⟩
  have g4:decide (9<s)=false:=by simpa using f
  have cd:s<=9:=Y;clear f
  go_wp2_with fail
  refine(a2 y2).mono ?_;rintro e y3 ⟨rfl,d⟩;have SC:=Z W d;have Qp:=ac S d;clear d a2 W S B b0 b1 b2 bk
  by_cases n:u=0
  ·have a4:(u !=0)=false:=by simpa using n
   have a5:(u==0)=true:=by simpa using n
   have ba:ja (∀y∈c.box.take (k+1),wk y):=O (λy K=>by
    rw[Ut]at K
    rcases jI.1 K with K|K
    ·exact HP y K
    rw[lw]at K;subst K;exact⟨by omega,by omega,by omega,by omega,by rw[<-HM];exact nA.1 (SO.symm.trans n)⟩)
   clear n
   go_wp2_with fail
   exact⟨⟨k+1,by go_num,by omega,ba,SC,Qp⟩,by simp only[jo];omega⟩
  have a4:(u !=0)=true:=by simpa using n
  have a5:(u==0)=false:=by simpa using n
  obtain rfl:r=220:=by rw[C];exact ef λh=>by have M:=h.box _ (jD UB);exact n (by rw[SO,HM];exact nA.2 M.2.2.2.2)
  clear n
  go_wp2_with fail
  go_ret;exact⟨rfl,Qp⟩
 have bm:=ak ((k:Int)<(nb:Int));have bn:=ak (k<nb);obtain rfl:k=nb:=Y;have Zn:ja (∀x∈c.box,wk x):=O (by have h:=HP.out;rw[jH (by rw[<-Zv];exact jl _)]at h;exact h);have f6:=cell_of HK aa;clear HP
 go_wp2_with fail
 go_loopw [99] (λi wz=>∃k:Nat,i=I N k/\k<=P/\ja (iV (c.wel.take k))/\ja (wz.heap[b]?=T (ii ad 37 (0,0)))/\ja (jd w w wz)) (λi _=>P-(jo i).toNat)
 case atStart=>exact⟨0,rfl,jQ _,O (by simpa using iV.nil),HK,z⟩
 clear f6 HK z;obtain⟨k,rfl,hk,bk,HK,z⟩:=hrel
 by_cases bd:k<P
 case pos=>
  have bm:=aj ((k:Int)<(P:Int));have bn:=aj (k<P);obtain⟨x,f,TF⟩:=dE (l:=c.wel) (j:=k) (by rw[<-Si];exact bd);obtain⟨us,bf,bg⟩:=Ta.out;obtain⟨b8,hu,Yh⟩:=bg.at (i:=k) (b:=x.body) (by rw[jB,f];rfl);obtain⟨g,o,c',hq,D⟩:=mC bf (λ_ _=>rfl) f hu;rw[bs]at hq;injection hq with e1 e2 e3
  subst e1;subst e3;have ca:ja (∀j y,c.wel[j]?=T y->w.cell? ⟨g,o+j*3,ic⟩=T (I N y.dev)):=O (λj y K=>by
   obtain⟨u2,M,-⟩:=bg.at (i:=j) (b:=y.body) (by rw[jB,K];rfl);obtain⟨g2,o2,c2,s,bo⟩:=mC bf (λ_ _=>rfl) K M;rw[bs]at s;injection s with a ce cj
   injection a with a
   injection a with bA cd
   subst bA;subst cd;exact bo 0 _ rfl)
  obtain⟨U,V,rfl⟩:=Yh.form;have a1:=bI x (jD f);have UB:=O f;have Ut:=O TF;obtain⟨m,hm⟩:=J x.body.length;have HM:=O hm;obtain⟨M,F,xb⟩:=x;dsimp only at a1 hm D;rw[<-hm]at a1 D;have d0:wr.cell? ⟨g,o+k*3,ic⟩=T (I N M):=cell_below (D 0 _ rfl) z;have d1:wr.cell? ⟨g,o+k*3+1,ic⟩=T (I N F):=cell_below (D 1 _ rfl) z;have d2:wr.cell? ⟨g,o+k*3+2,ic⟩=T (ih U m V):=cell_below (D 2 _ rfl) z;have a2:=O (Dj F U m V a1);obtain⟨u,t⟩:=J (kK F m);rw[<-t]at a2;have SO:=O t;have al:=O (yK M);obtain⟨dv,a3⟩:=J (decide (eK M));rw[<-a3]at al;have Zg:=O a3;clear D bf bg hu Yh f TF e2 hm t a1 a3
  go_upto_region 18 with fail
  obtain⟨y1,TD⟩:=J wr;have X:ja (y1.heap[b]?=T (ii ad 37 (0,0))):=by rw[TD];exact HK
  have H:ja (jd w w y1):=by rw[TD];exact z
  rw[<-TD]at d0 d1 d2⊢;clear TD HK z;have d:=af y1 (ii #[I N M,I N F,ih U m V] 76);have Qo:=jm y1 (ii #[I N M,I N F,ih U m V] 76);obtain⟨y2,f⟩:=J (y1.alloc (ii #[I N M,I N F,ih U m V] 76));rw[<-f]at d Qo⊢;obtain⟨E,hg⟩:=J y1.heap.size;rw[<-hg]at Qo⊢;have b9:=O hg;have W:=Z X d;have S:=ac H d;clear X H;have B:=O Qo;clear Qo f d hg;clear d0 d1 d2
  cases dv with
  |false=>
   obtain rfl:r=220:=by rw[C];exact ef λh=>by have h2:=(h.wel _ (jD UB)).1;have h3:=Zg.out;rw[decide_eq_true h2]at h3;cases h3
   refine j1 ?_;refine bi (λs=>s.heap[E]?=T (ii #[I N M,I N F,ih U m V] 76 (0,0))/\s.heap[b]?=T (ii ad 37 (0,0))) (.take 0 (.take 1 (.one 2 (.take 3 (.take 4 (.take 5 (.take 6 (.take 7 (.take 8 (.take 9 (.take 10 (.take 11 (.take 12 (.take 13 (.take 14 (.take 15 (.take 16 (.take 17 (.take 18 (.take 19 (.take 20 (.take 21 (.take 22 (.one 23 (.take 24 (.take 25 .done)))))))))))))))))))))))))) ae ae ae L (λ_ _ _ _ h=>h) ⟨B,W⟩ ?_;obtain⟨z0,Qs⟩:=J y2.drew;have d:=aP y2;rw[<-Qs]at d⊢;have RE:=Z B d;have Q:=Z W d;have R:=ac S d;clear d Qs B W S;refine aC ?_
   (refine az (v:=?_) rfl ag (λs a=>?_) ?_;rotate_left;(have b0:=cell_of (i:=0) a.1 rfl;have b1:=cell_of (i:=1) a.1 rfl;have b2:=cell_of (i:=2) a.1 rfl;have f6:=cell_of a.2 aa;go_simp;with_reducible rfl);refine G ?_)
   refine ai rfl (λK' t=>?_);go_simp;refine(al _).mono ?_;rintro e _ ⟨rfl,rfl⟩;refine t _ _ ⟨RE,Q⟩ λ_=>?_
   clear t;refine G ?_;iterate 2 refine aC ?_
   iterate 14 refine gH ?_
   iterate 2 refine aC ?_
   iterate 2 refine gH ?_
   refine ai rfl (λK' t=>?_);rw[if_neg (qd.1 ag)];refine t _ _ ⟨RE,Q⟩ λ_=>?_
   clear t;refine G ?_;refine gH ?_;refine aC ?_;refine jC ?_
   go_wp2_with fail
   go_ret;exact⟨rfl,R⟩
  |true=>
  by_cases VO:k=0
  ·have cd:=ak ((0:Int)<(k:Int))
   have ce:=ak (0<k);have a1:=O VO;clear VO;refine j1 ?_;refine bi (λs=>s.heap[E]?=T (ii #[I N M,I N F,ih U m V] 76 (0,0))/\s.heap[b]?=T (ii ad 37 (0,0))) (.take 0 (.take 1 (.one 2 (.take 3 (.take 4 (.take 5 (.take 6 (.take 7 (.take 8 (.take 9 (.take 10 (.take 11 (.take 12 (.take 13 (.take 14 (.take 15 (.take 16 (.take 17 (.take 18 (.take 19 (.take 20 (.take 21 (.take 22 (.one 23 (.take 24 (.take 25 .done)))))))))))))))))))))))))) ae ae ae L (λ_ _ _ _ h=>h) ⟨B,W⟩ ?_;obtain⟨z0,Qs⟩:=J y2.drew;have d:=aP y2;rw[<-Qs]at d⊢;have RE:=Z B d;have Q:=Z W d;have R:=ac S d;clear d Qs B W S;refine aC ?_
   (refine az (v:=?_) rfl ag (λs a=>?_) ?_;rotate_left;(have b0:=cell_of (i:=0) a.1 rfl;have b1:=cell_of (i:=1) a.1 rfl;have b2:=cell_of (i:=2) a.1 rfl;have f6:=cell_of a.2 aa;go_simp;with_reducible rfl);refine G ?_)
   refine ai rfl (λK' t=>?_);go_simp;refine(al _).mono ?_;rintro e _ ⟨rfl,rfl⟩;refine t _ _ ⟨RE,Q⟩ λ_=>?_
   clear t;refine G ?_;iterate 5 refine aC ?_
   iterate 10 refine gH ?_
   iterate 4 refine aC ?_
   (refine az (v:=?_) rfl ag (λs a=>?_) ?_;rotate_left;(have b0:=cell_of (i:=0) a.1 rfl;have b1:=cell_of (i:=1) a.1 rfl;have b2:=cell_of (i:=2) a.1 rfl;have f6:=cell_of a.2 aa;go_simp;with_reducible rfl);refine G ?_)
   refine ai rfl (λK' t=>?_);rw[if_pos ag];go_simp;refine(a2 z0).mono ?_;rintro e z1 ⟨rfl,d⟩;have TM:=Z RE d;have X:=Z Q d;have H:=ac R d;clear RE Q R;clear d;refine t _ _ ⟨TM,X⟩ λ_=>?_
   clear t;refine G ?_;iterate 2 refine aC ?_
   refine jC ?_;clear a2
   by_cases n:u=0
   ·have a4:(u !=0)=false:=by simpa using n
    have a5:(u==0)=true:=by simpa using n
    have bg:ja (sc ⟨M,F,xb⟩):=O ⟨of_decide_eq_true Zg.symm,by rw[<-HM];exact nA.1 (SO.symm.trans n)⟩;have ba:ja (iV (c.wel.take (k+1))):=O (by rw[Ut];exact bk.snoc bg (by exact .inl (by rw[a1];rfl)));clear n
    go_wp2_with fail
    exact⟨⟨k+1,by go_num,by omega,ba,X,H⟩,by simp only[jo];omega⟩
   have a4:(u !=0)=true:=by simpa using n
   have a5:(u==0)=false:=by simpa using n
   obtain rfl:r=220:=by rw[C];exact ef λh=>n (by rw[SO,HM];exact nA.2 (h.wel _ (jD UB)).2)
   clear n
   go_wp2_with fail
   go_ret;exact⟨rfl,H⟩
  have cd:=aj ((0:Int)<(k:Int));have ce:=aj (0<k);obtain⟨j,hj⟩:=J (k-1);have bf:k=j+1:=Y;have cj:o4.wrap ((k:Int)-1)=(j:Int):=by rw[bf,show(((j+1:Nat):Int)-1)=(j:Int) by omega];exact IntWalk.i64_in _ Y
  have Vm:=aj ((j:Int)<(P:Int));have ck:=aj (j<P);have cm:decide ((0:Int)<=(j:Int))=true:=by simp
  have cn:j<P:=Y;obtain⟨y,K⟩:∃y,c.wel[j]?=T y:=⟨_,jL (by rw[<-Si];omega)⟩;obtain⟨pd,bo⟩:=J y.dev;have T9:ja (y2.cell? ⟨g,o+j*3,ic⟩=T (I N pd)):=O (by rw[bo];exact cell_below (ca j y K) S);have HY:=O K;have bA:=O bo;have a1:=O bf;clear VO hj bf K bo
  by_cases bf:M<=pd
  ·have bo:decide (M<=pd)=true:=by simpa using bf
   obtain rfl:r=220:=by
    rw[C];refine ef λh=>?_
    have h2:=h.inc k (aw a1) (by rw[<-Si];exact bd);rw[show k-1=j by have:=a1.out;omega]at h2;rw[show(c.wel.map Wl.dev).getD j 0=pd by rw[bA];simp[jJ,HY.out],show(c.wel.map Wl.dev).getD k 0=M by simp[jJ,UB.out]]at h2;omega
   clear bf;refine j1 ?_;refine bi (λs=>s.heap[E]?=T (ii #[I N M,I N F,ih U m V] 76 (0,0))/\s.heap[b]?=T (ii ad 37 (0,0))/\s.cell? ⟨g,o+j*3,ic⟩=T (I N pd)) (.take 0 (.take 1 (.one 2 (.take 3 (.take 4 (.take 5 (.take 6 (.take 7 (.take 8 (.take 9 (.take 10 (.take 11 (.take 12 (.take 13 (.take 14 (.take 15 (.take 16 (.take 17 (.take 18 (.take 19 (.take 20 (.take 21 (.take 22 (.one 23 (.take 24 (.take 25 .done)))))))))))))))))))))))))) ae ae ae L (λ_ _ _ _ h=>h) ⟨B,W,T9⟩ ?_;obtain⟨z0,Qs⟩:=J y2.drew;have d:=aP y2;rw[<-Qs]at d⊢;have RE:=Z B d;have Q:=Z W d;have R:=ac S d;have Zx:=O (cell_below T9 d);clear d Qs B W S T9;refine aC ?_
   (refine az (v:=?_) rfl ag (λs a=>?_) ?_;rotate_left;(have b0:=cell_of (i:=0) a.1 rfl;have b1:=cell_of (i:=1) a.1 rfl;have b2:=cell_of (i:=2) a.1 rfl;have f6:=cell_of a.2.1 aa;have p0:=a.2.2;go_simp;with_reducible rfl);refine G ?_)
   refine ai rfl (λK' t=>?_);go_simp;refine(al _).mono ?_;rintro e _ ⟨rfl,rfl⟩;refine t _ _ ⟨RE,Q,Zx⟩ λ_=>?_
   clear t;refine G ?_;iterate 6 refine aC ?_
   (refine az (v:=?_) rfl ag (λs a=>?_) ?_;rotate_left;(have b0:=cell_of (i:=0) a.1 rfl;have b1:=cell_of (i:=1) a.1 rfl;have b2:=cell_of (i:=2) a.1 rfl;have f6:=cell_of a.2.1 aa;have p0:=a.2.2;go_simp;with_reducible rfl);refine G ?_)
   iterate 4 refine aC ?_
   (refine az (v:=?_) rfl ag (λs a=>?_) ?_;rotate_left;(have b0:=cell_of (i:=0) a.1 rfl;have b1:=cell_of (i:=1) a.1 rfl;have b2:=cell_of (i:=2) a.1 rfl;have f6:=cell_of a.2.1 aa;have p0:=a.2.2;go_simp;with_reducible rfl);refine G ?_)
   refine aC ?_
   (refine az (v:=?_) rfl ag (λs a=>?_) ?_;rotate_left;(have b0:=cell_of (i:=0) a.1 rfl;have b1:=cell_of (i:=1) a.1 rfl;have b2:=cell_of (i:=2) a.1 rfl;have f6:=cell_of a.2.1 aa;have p0:=a.2.2;go_simp;with_reducible rfl);refine G ?_)
   iterate 4 refine aC ?_
   iterate 2 refine gH ?_
   refine ai rfl (λK' t=>?_);rw[if_neg (qd.1 ag)];refine t _ _ ⟨RE,Q,Zx⟩ λ_=>?_
   clear t;refine G ?_;refine gH ?_;refine aC ?_;refine jC ?_
   go_wp2_with fail
   go_ret;exact⟨rfl,R⟩
  have bo:decide (M<=pd)=false:=by simpa using bf
  have Zr:ja (pd<M):=O Y;clear bf;refine j1 ?_;refine bi (λs=>s.heap[E]?=T (ii #[I N M,I N F,ih U m V] 76 (0,0))/\s.heap[b]?=T (ii ad 37 (0,0))/\s.cell? ⟨g,o+j*3,ic⟩=T (I N pd)) (.take 0 (.take 1 (.one 2 (.take 3 (.take 4 (.take 5 (.take 6 (.take 7 (.take 8 (.take 9 (.take 10 (.take 11 (.take 12 (.take 13 (.take 14 (.take 15 (.take 16 (.take 17 (.take 18 (.take 19 (.take 20 (.take 21 (.take 22 (.one 23 (.take 24 (.take 25 .done)))))))))))))))))))))))))) ae ae ae L (λ_ _ _ _ h=>h) ⟨B,W,T9⟩ ?_;obtain⟨z0,Qs⟩:=J y2.drew;have d:=aP y2;rw[<-Qs]at d⊢;have RE:=Z B d;have Q:=Z W d;have R:=ac S d;have Zx:=O (cell_below T9 d);clear d Qs B W S T9;refine aC ?_
  (refine az (v:=?_) rfl ag (λs a=>?_) ?_;rotate_left;(have b0:=cell_of (i:=0) a.1 rfl;have b1:=cell_of (i:=1) a.1 rfl;have b2:=cell_of (i:=2) a.1 rfl;have f6:=cell_of a.2.1 aa;have p0:=a.2.2;go_simp;with_reducible rfl);refine G ?_)
  refine ai rfl (λK' t=>?_);go_simp;refine(al _).mono ?_;rintro e _ ⟨rfl,rfl⟩;refine t _ _ ⟨RE,Q,Zx⟩ λ_=>?_
  clear t;refine G ?_;iterate 6 refine aC ?_
  (refine az (v:=?_) rfl ag (λs a=>?_) ?_;rotate_left;(have b0:=cell_of (i:=0) a.1 rfl;have b1:=cell_of (i:=1) a.1 rfl;have b2:=cell_of (i:=2) a.1 rfl;have f6:=cell_of a.2.1 aa;have p0:=a.2.2;go_simp;with_reducible rfl);refine G ?_)
  iterate 4 refine aC ?_
  (refine az (v:=?_) rfl ag (λs a=>?_) ?_;rotate_left;(have b0:=cell_of (i:=0) a.1 rfl;have b1:=cell_of (i:=1) a.1 rfl;have b2:=cell_of (i:=2) a.1 rfl;have f6:=cell_of a.2.1 aa;have p0:=a.2.2;go_simp;with_reducible rfl);refine G ?_)
  refine aC ?_
  (refine az (v:=?_) rfl ag (λs a=>?_) ?_;rotate_left;(have b0:=cell_of (i:=0) a.1 rfl;have b1:=cell_of (i:=1) a.1 rfl;have b2:=cell_of (i:=2) a.1 rfl;have f6:=cell_of a.2.1 aa;have p0:=a.2.2;go_simp;with_reducible rfl);refine G ?_)
  iterate 5 refine aC ?_
  (refine az (v:=?_) rfl ag (λs a=>?_) ?_;rotate_left;(have b0:=cell_of (i:=0) a.1 rfl;have b1:=cell_of (i:=1) a.1 rfl;have b2:=cell_of (i:=2) a.1 rfl;have f6:=cell_of a.2.1 aa;have p0:=a.2.2;go_simp;with_reducible rfl);refine G ?_)
  refine ai rfl (λK' t=>?_);rw[if_pos ag];go_simp;refine(a2 z0).mono ?_;rintro e z1 ⟨rfl,d⟩;have TM:=Z RE d;have X:=Z Q d;have H:=ac R d;have a:=O (cell_below Zx d);clear RE Q R Zx;clear d;refine t _ _ ⟨TM,X,a⟩ λ_=>?_
  clear t;refine G ?_;iterate 2 refine aC ?_
  refine jC ?_;clear a2
  by_cases n:u=0
  ·have a4:(u !=0)=false:=by simpa using n
   have a5:(u==0)=true:=by simpa using n
   have bg:ja (sc ⟨M,F,xb⟩):=O ⟨of_decide_eq_true Zg.symm,by rw[<-HM];exact nA.1 (SO.symm.trans n)⟩;have ba:ja (iV (c.wel.take (k+1))):=O (by rw[Ut];exact bk.snoc bg (by exact .inr ⟨y,by rw[qM,Nat.min_eq_left (by rw[<-Si];omega),show k-1=j by have:=a1.out;omega,q8 (aw a1)];exact HY,by rw[<-bA];exact Zr⟩));clear n
   go_wp2_with fail
   exact⟨⟨k+1,by go_num,by omega,ba,X,H⟩,by simp only[jo];omega⟩
  have a4:(u !=0)=true:=by simpa using n
  have a5:(u==0)=false:=by simpa using n
  obtain rfl:r=220:=by rw[C];exact ef λh=>n (by rw[SO,HM];exact nA.2 (h.wel _ (jD UB)).2)
  clear n
  go_wp2_with fail
  go_ret;exact⟨rfl,H⟩
 have bm:=ak ((k:Int)<(P:Int));have bn:=ak (k<P);obtain rfl:k=P:=Y;have a:ja (iV c.wel):=O (by have h:=bk.out;rw[jH (by rw[<-Si];exact jl _)]at h;exact h);have g:ja (fl c):=O ⟨by rw[<-bq];exact of_decide_eq_true bu.symm,by rw[<-SJ];have:=TM.out;have:=B.out;omega,by rw[<-br];exact of_decide_eq_true bv.symm,
  mw.1 bw.symm,bh.symm,by rw[<-Zv];exact bb,by rw[<-Si];exact bc,λp i=>by
   obtain⟨j,hj,rfl⟩:=qz i;have h:=b7 j (by rw[bh];exact hj);rw[eu _ hj]at h;exact h,Zn,a.each,a.inc⟩
 obtain rfl:r=0:=by rw[C];exact rX g
 clear bk
 go_wp2_with fail
 go_ret;exact⟨rfl,z⟩
theorem eY{w w':jb}{x:Val}{c:jc}(h:ao (·<w.heap.size) w x c)(d:jd w w w'):ao (·<w'.heap.size) w' x c:=
 ao.mono (λb (a:b<w.heap.size)=>jF a d.size) _ _ (ao.keep (λb a=>d.block b a) _ _ h)
theorem pg{w w':jb}{v:jc}{l:List Int}(h:cH w v l)(a:jd w w w'):cH w' v l:=by
 obtain⟨p,c,b,d,f⟩:=h;refine⟨p,c,b,d,λi=>?_⟩;obtain⟨g,o,e,k⟩:=f i;exact⟨g,o,e,λj m=>cell_below (k j m) a⟩
def grp:List Val->List jc->List (List jc)
 |x::xs,a::b=>eo x a::grp xs b
 |_,_=>[]
theorem pA:∀(l:List Val) (a:List jc),(grp l a).flatten=aX l a
 |[],a=>by cases a<;>simp[grp,aX]
 |x::l,[]=>by simp[grp,aX]
 |x::l,b::a=>by simp[grp,aX,pA l a]
theorem yj:∀(l:List Val) (a:List jc),a.length=l.length->(grp l a).length=l.length
 |[],a,h=>by cases a<;>simp[grp]
 |x::l,[],h=>by simp at h
 |x::l,b::a,h=>by simp[grp,yj l a (by simpa using h)]
theorem uW{D:Nat->Prop}{w:jb}:∀{l:List Val} {a:List jc},ax D w l a->∀e∈grp l a,∀b∈e,b.oneCell'=true
 |[],a,h,e,he,b,d=>by cases a<;>simp[grp]at he
 |x::l,a,h,e,he,b,d=>by
  rw[ax]at h;obtain⟨v,i,rfl,f,g⟩:=h;simp only[grp,js]at he
  rcases he with rfl|he
  ·obtain⟨p,c,rfl⟩:=f.form
   simp only[eo,js,ki,or_false]at d
   rcases d with rfl|rfl|rfl|rfl<;>rfl
  exact uW g e he b d
theorem pP(s:Nat)(a c:List Val)(k l:Option jv)(m n o p:Nat)(w:jb)(C:ao (·<w.heap.size) w (vL a) (ih k m n))(D:ao (·<w.heap.size) w (vL c) (ih l o p))
 (t:w.heap[s]?=T (ii #[ih k m n,ih l o p] 109 (0,0))) (E:a.length+c.length<=1000000):
 jg je 109 #[ih (T ⟨s,0,ic⟩) 2 2] w λe w'=>∃v,e=jh v/\ao (·<w'.heap.size) w' (vL (a++c)) v/\jd w w w':=by
 obtain⟨d,u,j⟩:=C.slice;obtain⟨f,x,q⟩:=D.slice;replace j:ax (·<w.heap.size) w a d:=j;replace q:ax (·<w.heap.size) w c f:=q;replace u:ap (·<w.heap.size) w (ih k m n) 4 a.length (aX a d):=u;replace x:ap (·<w.heap.size) w (ih l o p) 4 c.length (aX c f):=x;have y:=yj _ _ j.len;have z:=yj _ _ q.len;have F:oY w (ih k m n) (grp a d):=by unfold oY;rw[y,pA];exact u.row
 have H:oY w (ih l o p) (grp c f):=by unfold oY;rw[z,pA];exact x.row
 have B:[grp a d,grp c f].flatten=grp a d++grp c f:=by simp
 have K:∀e∈[grp a d,grp c f].flatten,∀r∈e,r.oneCell'=true:=by
  intro e he r b;rw[B]at he
  rcases jI.1 he with h|h
  ·exact uW j e h r b
  exact uW q e h r b
 refine(MO s 2 109 [ih k m n,ih l o p] [grp a d,grp c f] rfl rfl (by rw[B,jq,y,z];exact E) w t (λi b=>by match i,b with|0,_=>exact F|1,_=>exact H) L K).mono ?_;rintro e w' ⟨M,rfl,i,h⟩;refine⟨M,rfl,?_,h⟩;rw[B,jq,y,z,List.flatten_append,pA,pA,<-nf _ _ _ _ j.len,<-jq]at i;rw[vL,ao];refine⟨d++f,ap.of_own i (λg t=>(i.lt g t).2),ax.append ?_ ?_⟩
 ·exact ax.mono (λb (g:b<w.heap.size)=>jF g h.size) _ _ (ax.keep (λb g=>h.block b g) _ _ j)
 exact ax.mono (λb (g:b<w.heap.size)=>jF g h.size) _ _ (ax.keep (λb g=>h.block b g) _ _ q)
theorem Lr{a:Act}{o:Oper}{x:Operand}{c:Array jc}{b:Nat}{d:jb}(e:c.size=73)(f:o.op=.load 37 x)(g:a.eval x=jj (T ⟨b,0,ic⟩))(i:d.heap[b]?=T (ii c 37 (0,0))):
 (execOp a.eval o).run je d=.ok (.value (jf c)) d:=by
 have h:=po (P:=je) o a 37 x f b 0 g c.toList _ (te (t:=37) (l:=c.toList) (by simpa using i)) qV rfl (by rw[qN,e];exact fa)
 simpa using h
def mp(c:Cmt)(a:ByteArray)(nums:List Int):LBy:=cP a ((aB c).take 4++nums.map vI)
theorem BA(c:Cmt)(q:CQ)(n:ByteArray)(nums:List Int)(v:jc)(w:jb)(j:n.size<=1000)(a:ay (·<w.heap.size) w c q)(hI:cH w v nums)(hn:nums.length<=1000)
 (hl:c.chg.length<=1000000/\c.path.length<=1000000/\c.box.length<=1000000/\c.wel.length<=1000000) (k:dC ((aB c).take 4++nums.map vI)) (l:cF w):
 jg je 47 #[jf (ah c q).toArray,.string n,v] w λe w'=>∃D,e=jh (ih (T ⟨D,0,ic⟩) 32 32)/\BytesAt w' (ih (T ⟨D,0,ic⟩) 32 32) (mp c n nums)/\jd w w w':=by
 obtain⟨l1,l2,l3,l4⟩:=hl;have m:=O a;have QV:=O k;have HT:=O l;have YN:=O j;have o:=O hI;obtain⟨pv,cv,rfl,-,-⟩:=hI;obtain⟨Qz,d⟩:=J ((ah c q).toArray);rw[<-d];have Tr:=O d;have p:Qz.size=73:=by rw[d,jz,dT c q a.plen a.clen]
 have Tj:=O p;have S:=jm w (ii Qz 37);have f:=af w (ii Qz 37);obtain⟨W1,g⟩:=J (w.alloc (ii Qz 37));obtain⟨b,h⟩:=J w.heap.size;rw[<-g]at f S;rw[<-h]at S;have i:=O f;have r:=O S;have s:=O g;have U2:=O h;clear f g h S d p a k l j
 go_enter func47,ntmps47
 go_upto_region 1 with fail
 rw[<-s,<-U2];clear s;have Qm:ja (jd w w W1.drew):=O (i.trans ((aP W1).mono i.size));have Vu:ja (W1.drew.heap[b]?=T (ii Qz 37 (0,0))):=O r;have QB:ja (ay (·<W1.drew.heap.size) W1.drew c q):=O (m.below Qm);have Uc:ja (cH W1.drew (ih pv nums.length cv) nums):=O (pg o Qm);clear i r m o;refine j1 ?_;refine bi (λa=>a.heap[b]?=T (ii Qz 37 (0,0))) (.take 0 (.take 1 (.take 4 (.two 2 9 (.take 3 (.two 5 9 (.two 6 9 (.two 7 9 (.two 8 9 (.one 9 (.one 10 .done)) (.one 8 (.one 10 .done))) (.one 7 (.one 8 (.one 10 .done)))) (.one 6 (.one 7 (.one 8 (.one 10 .done))))) (.one 5 (.one 6 (.one 7 (.one 8 (.one 10 .done))))))) (.one 2 (.take 3 (.one 5 (.one 6 (.one 7 (.one 8 (.one 10 .done))))))))))) ae ae ae L (λ_ _ _ _ h=>h) Vu ?_;generalize W1.drew=x0 at Qm Vu QB Uc⊢;refine aS ?_
 (refine az (v:=jf Qz) rfl ag (λa d=>Lr Tj rfl rfl d) ?_;refine G ?_)
 refine aS ?_;refine gB ?_ ?_
 ·refine ai rfl (λk d=>?_)
  go_simp;rw[Tr];refine(nL c q x0 QB l1 l2 l3 l4).mono ?_;rintro e x1 ⟨v,rfl,ba,a⟩;obtain⟨E,o,rfl,Sz⟩:∃g o,v=ih (T ⟨g,0,ic⟩) 11 o/\11<=o:=by
   obtain⟨us,ho,-⟩:=ba;obtain⟨g,c,h1,h2,-⟩:=sO ho L;exact⟨g,c,h1,h2⟩
  have bh:∀W,(Instr.sliceAt 109 (ih (T ⟨E,0,ic⟩) 11 o) ic (T (I N 4)) ic).run je W=.ok (ih (T ⟨E,0,ic⟩) 4 o) W:=λW=>tz 109 118 4 underlying109 tT E 0 11 o 4 Y W
  have Qj:=ac Qm a;have Wn:=Z Vu a;have Tt:=O (pg Uc a);clear Qm Vu QB Uc;clear a;have bb:=O (ba.val 4 L).2;clear ba;rw[<-Tr];refine d _ _ Wn.out λ_=>?_
  clear d;refine G ?_;refine aS ?_;refine gB ?_ ?_
  ·refine ai rfl (λk d=>?_)
   go_simp;refine(pV nums _ x1 Tt Y).mono ?_;rintro e x2 ⟨bg,rfl,U,a⟩;obtain⟨V,X,rfl⟩:=aO U;have a5:=lX (D:=(·<x2.heap.size)) U (λg i=>(U.lt g i).2);have Qk:=ac Qj a;have Ss:=Z Wn a;have a4:=O (eY bb a);clear Qj Wn Tt bb;have bc:=O a5;clear a U a5;refine d _ _ Ss.out λ_=>?_
   clear d;refine G ?_;refine gB ?_ ?_
   ·refine ai rfl (λk d=>?_)
    go_simp;have a:=af x2 (ii #[ih (T ⟨E,0,ic⟩) 4 o,ih V nums.length X] 109);have f:=jm x2 (ii #[ih (T ⟨E,0,ic⟩) 4 o,ih V nums.length X] 109);obtain⟨B,l⟩:=J (x2.alloc (ii #[ih (T ⟨E,0,ic⟩) 4 o,ih V nums.length X] 109));rw[<-l]at a f⊢;obtain⟨gl,i⟩:=J x2.heap.size;rw[<-i]at f⊢;have bf:=O i;clear i;have Qp:=ac Qk a;have K:=Z Ss a;have al:=O (eY a4 a);have au:=O (eY bc a);clear Qk Ss a4 bc;have UR:=O f;clear f;clear l a;refine d _ _ K.out λ_=>?_
    clear d;refine G ?_;refine gB ?_ ?_
    ·refine ai rfl (λk d=>?_)
     go_simp;refine(pP gl ((aB c).take 4) (nums.map vI) _ _ _ _ _ _ B al au UR.out (by rw[ji];exact jn (mz (j7 _ _) hn) L)).mono ?_;rintro e x4 ⟨vc,rfl,F,a⟩;obtain⟨pc,bd,rfl⟩:=F.form;have H:=ac Qp a;have C:=Z K a;clear Qp K al au UR;have a2:=O F;clear a F;refine d _ _ C.out λ_=>?_
     clear d;refine G ?_;refine gB ?_ ?_
     ·refine ai rfl (λk d=>?_)
      go_simp;refine(kQ n YN ((aB c).take 4++nums.map vI) _ x4 a2 QV (HT.below H).num (HT.below H).start).mono ?_;rintro e x5 ⟨rfl,a⟩;have r:((cP n ((aB c).take 4++nums.map vI)).map v8).toArray.size=32:=by rw[jz,ji,dL]
      have s:=dB (cP n ((aB c).take 4++nums.map vI));obtain⟨j,t⟩:=J (((cP n ((aB c).take 4++nums.map vI)).map v8).toArray);rw[<-t]at r s⊢;have Ro:=O t;have M:=O r;have Ra:=O s;clear t r s;have m:=ac H a;have p:=Z C a;clear H C a2;clear a;refine d _ _ p.out λ_=>?_
      clear d;refine G ?_;refine ai rfl (λk d=>?_);go_simp;have a:=af x5 (ii aI 23);have f:=jm x5 (ii aI 23);obtain⟨u,l⟩:=J (x5.alloc (ii aI 23));rw[<-l]at a f⊢;obtain⟨D,i⟩:=J x5.heap.size;rw[<-i]at f⊢;have P:=O i;clear i;have RA:=ac m a;have Q:=Z p a;have R:=O f;have S9:ja (w.heap.size<=D):=O (by rw[P];exact m.size);have a1:ja (b<D):=O (by rw[P];exact(jy.1 p).1);clear f l a;clear m p;refine d _ _ Q.out λ_=>?_
      clear d;refine G ?_;refine ai rfl (λk d=>?_);rw[if_pos ag];refine jS 23 _ _ rfl D j rfl rfl 23 _ R.out (by rw[M];rfl) (by rw[M];simp) Ra (d _ _ ((jR _ _ _ _ (aw a1)).trans Q) λ_=>?_);clear d;have x:(u.setRow D j).heap[D]?=T (ii j 23 (0,0)):=jT _ _ _ _ _ _ R.out;have y:jd w w (u.setRow D j):=jU RA S9 _;generalize u.setRow D j=z at x y⊢;have Ry:=O x;have Rn:=O y;clear x y;refine G ?_;refine jC ?_
      go_wp2_with fail
      go_ret;have h:=Ry.out;rw[Ro]at h;have S:=l9 h (dL _ _);refine⟨D,rfl,?_,Rn⟩;exact S
     refine ai rfl (λk d=>?_);go_simp;have a:=af x4 (ii aI 23);have f:=jm x4 (ii aI 23);obtain⟨x5,l⟩:=J (x4.alloc (ii aI 23));rw[<-l]at a f⊢;obtain⟨D,i⟩:=J x4.heap.size;rw[<-i]at f⊢;have P:=O i;clear i;have m:=ac H a;have p:=Z C a;have aa:=O (eY a2 a);have ad:=O f;have S9:ja (w.heap.size<=D):=O (by rw[P];exact H.size);have a1:ja (b<D):=O (by rw[P];exact(jy.1 C).1);clear f l a;clear H C a2;refine d _ _ p.out λ_=>?_
     clear d;refine G ?_;refine ai rfl (λk d=>?_);go_simp;refine(kQ n YN ((aB c).take 4++nums.map vI) _ x5 aa QV (HT.below m).num (HT.below m).start).mono ?_;rintro e u ⟨rfl,a⟩;have r:((cP n ((aB c).take 4++nums.map vI)).map v8).toArray.size=32:=by rw[jz,ji,dL]
     have s:=dB (cP n ((aB c).take 4++nums.map vI));obtain⟨j,t⟩:=J (((cP n ((aB c).take 4++nums.map vI)).map v8).toArray);rw[<-t]at r s⊢;have Ro:=O t;have M:=O r;have Ra:=O s;clear t r s;have RA:=ac m a;have Q:=Z p a;have R:=Z ad a;clear m p aa ad;clear a;refine d _ _ Q.out λ_=>?_
     clear d;refine G ?_;refine ai rfl (λk d=>?_);rw[if_pos ag];refine jS 23 _ _ rfl D j rfl rfl 23 _ R.out (by rw[M];rfl) (by rw[M];simp) Ra (d _ _ ((jR _ _ _ _ (aw a1)).trans Q) λ_=>?_);clear d;have x:(u.setRow D j).heap[D]?=T (ii j 23 (0,0)):=jT _ _ _ _ _ _ R.out;have y:jd w w (u.setRow D j):=jU RA S9 _;generalize u.setRow D j=z at x y⊢;have Ry:=O x;have Rn:=O y;clear x y;refine G ?_;refine jC ?_
     go_wp2_with fail
     go_ret;have h:=Ry.out;rw[Ro]at h;have S:=l9 h (dL _ _);refine⟨D,rfl,?_,Rn⟩;exact S
    refine ai rfl (λk d=>?_);go_simp;have a:=af B (ii aI 23);have f:=jm B (ii aI 23);obtain⟨x4,l⟩:=J (B.alloc (ii aI 23));rw[<-l]at a f⊢;obtain⟨D,i⟩:=J B.heap.size;rw[<-i]at f⊢;have P:=O i;clear i;have H:=ac Qp a;have C:=Z K a;have a2:=O (eY al a);have a3:=O (eY au a);have WF:=Z UR a;have SB:=O f;have S9:ja (w.heap.size<=D):=O (by rw[P];exact Qp.size);have a1:ja (b<D):=O (by rw[P];exact(jy.1 K).1);clear f l a;clear Qp K al au UR;refine d _ _ C.out λ_=>?_
    clear d;refine G ?_;refine ai rfl (λk d=>?_);go_simp;refine(pP gl ((aB c).take 4) (nums.map vI) _ _ _ _ _ _ x4 a2 a3 WF.out (by rw[ji];exact jn (mz (j7 _ _) hn) L)).mono ?_;rintro e x5 ⟨vc,rfl,F,a⟩;obtain⟨pc,bd,rfl⟩:=F.form;have m:=ac H a;have p:=Z C a;have ad:=Z SB a;clear H C a2 a3 WF SB;have aa:=O F;clear a F;refine d _ _ p.out λ_=>?_
    clear d;refine G ?_;refine ai rfl (λk d=>?_);go_simp;refine(kQ n YN ((aB c).take 4++nums.map vI) _ x5 aa QV (HT.below m).num (HT.below m).start).mono ?_;rintro e u ⟨rfl,a⟩;have r:((cP n ((aB c).take 4++nums.map vI)).map v8).toArray.size=32:=by rw[jz,ji,dL]
    have s:=dB (cP n ((aB c).take 4++nums.map vI));obtain⟨j,t⟩:=J (((cP n ((aB c).take 4++nums.map vI)).map v8).toArray);rw[<-t]at r s⊢;have Ro:=O t;have M:=O r;have Ra:=O s;clear t r s;have RA:=ac m a;have Q:=Z p a;have R:=Z ad a;clear m p ad aa;clear a;refine d _ _ Q.out λ_=>?_
    clear d;refine G ?_;refine ai rfl (λk d=>?_);rw[if_pos ag];refine jS 23 _ _ rfl D j rfl rfl 23 _ R.out (by rw[M];rfl) (by rw[M];simp) Ra (d _ _ ((jR _ _ _ _ (aw a1)).trans Q) λ_=>?_);clear d;have x:(u.setRow D j).heap[D]?=T (ii j 23 (0,0)):=jT _ _ _ _ _ _ R.out;have y:jd w w (u.setRow D j):=jU RA S9 _;generalize u.setRow D j=z at x y⊢;have Ry:=O x;have Rn:=O y;clear x y;refine G ?_;refine jC ?_
    go_wp2_with fail
    go_ret;have h:=Ry.out;rw[Ro]at h;have S:=l9 h (dL _ _);refine⟨D,rfl,?_,Rn⟩;exact S
   refine ai rfl (λk d=>?_);go_simp;have a:=af x2 (ii aI 23);have f:=jm x2 (ii aI 23);obtain⟨B,l⟩:=J (x2.alloc (ii aI 23));rw[<-l]at a f⊢;obtain⟨D,i⟩:=J x2.heap.size;rw[<-i]at f⊢;have P:=O i;clear i;have Qp:=ac Qk a;have K:=Z Ss a;have al:=O (eY a4 a);have au:=O (eY bc a);have Tn:=O f;have S9:ja (w.heap.size<=D):=O (by rw[P];exact Qk.size);have a1:ja (b<D):=O (by rw[P];exact(jy.1 Ss).1);clear f l a;clear Qk Ss a4 bc;refine d _ _ K.out λ_=>?_
   clear d;refine G ?_;refine ai rfl (λk d=>?_);go_simp;have a:=af B (ii #[ih (T ⟨E,0,ic⟩) 4 o,ih V nums.length X] 109);have f:=jm B (ii #[ih (T ⟨E,0,ic⟩) 4 o,ih V nums.length X] 109);obtain⟨x4,l⟩:=J (B.alloc (ii #[ih (T ⟨E,0,ic⟩) 4 o,ih V nums.length X] 109));rw[<-l]at a f⊢;obtain⟨gl,i⟩:=J B.heap.size;rw[<-i]at f⊢;have bf:=O i;clear i;have H:=ac Qp a;have C:=Z K a;have a2:=O (eY al a);have a3:=O (eY au a);have SB:=Z Tn a;clear Qp K al au Tn;have WF:=O f;clear f;clear l a;refine d _ _ C.out λ_=>?_
   clear d;refine G ?_;refine ai rfl (λk d=>?_);go_simp;refine(pP gl ((aB c).take 4) (nums.map vI) _ _ _ _ _ _ x4 a2 a3 WF.out (by rw[ji];exact jn (mz (j7 _ _) hn) L)).mono ?_;rintro e x5 ⟨vc,rfl,F,a⟩;obtain⟨pc,bd,rfl⟩:=F.form;have m:=ac H a;have p:=Z C a;have ad:=Z SB a;clear H C a2 a3 SB WF;have aa:=O F;clear a F;refine d _ _ p.out λ_=>?_
   clear d;refine G ?_;refine ai rfl (λk d=>?_);go_simp;refine(kQ n YN ((aB c).take 4++nums.map vI) _ x5 aa QV (HT.below m).num (HT.below m).start).mono ?_;rintro e u ⟨rfl,a⟩;have r:((cP n ((aB c).take 4++nums.map vI)).map v8).toArray.size=32:=by rw[jz,ji,dL]
   have s:=dB (cP n ((aB c).take 4++nums.map vI));obtain⟨j,t⟩:=J (((cP n ((aB c).take 4++nums.map vI)).map v8).toArray);rw[<-t]at r s⊢;have Ro:=O t;have M:=O r;have Ra:=O s;clear t r s;have RA:=ac m a;have Q:=Z p a;have R:=Z ad a;clear m p ad aa;clear a;refine d _ _ Q.out λ_=>?_
   clear d;refine G ?_;refine ai rfl (λk d=>?_);rw[if_pos ag];refine jS 23 _ _ rfl D j rfl rfl 23 _ R.out (by rw[M];rfl) (by rw[M];simp) Ra (d _ _ ((jR _ _ _ _ (aw a1)).trans Q) λ_=>?_);clear d;have x:(u.setRow D j).heap[D]?=T (ii j 23 (0,0)):=jT _ _ _ _ _ _ R.out;have y:jd w w (u.setRow D j):=jU RA S9 _;generalize u.setRow D j=z at x y⊢;have Ry:=O x;have Rn:=O y;clear x y;refine G ?_;refine jC ?_
   go_wp2_with fail
   go_ret;have h:=Ry.out;rw[Ro]at h;have S:=l9 h (dL _ _);refine⟨D,rfl,?_,Rn⟩;exact S
  refine ai rfl (λk d=>?_);go_simp;have a:=af x1 (ii aI 23);have f:=jm x1 (ii aI 23);obtain⟨x2,l⟩:=J (x1.alloc (ii aI 23));rw[<-l]at a f⊢;obtain⟨D,i⟩:=J x1.heap.size;rw[<-i]at f⊢;have P:=O i;clear i;have Qk:=ac Qj a;have Ss:=Z Wn a;have Ua:=O (pg Tt a);have a4:=O (eY bb a);have TB:=O f;have S9:ja (w.heap.size<=D):=O (by rw[P];exact Qj.size);have a1:ja (b<D):=O (by rw[P];exact(jy.1 Wn).1);clear f l a;clear Qj Wn Tt bb;refine d _ _ Ss.out λ_=>?_
  clear d;refine G ?_;refine ai rfl (λk d=>?_);go_simp;refine(pV nums _ x2 Ua Y).mono ?_;rintro e B ⟨bg,rfl,U,a⟩;obtain⟨V,X,rfl⟩:=aO U;have a5:=lX (D:=(·<B.heap.size)) U (λg i=>(U.lt g i).2);have Qp:=ac Qk a;have K:=Z Ss a;have al:=O (eY a4 a);have Tn:=Z TB a;clear Qk Ss Ua a4 TB;have au:=O a5;clear a U a5;refine d _ _ K.out λ_=>?_
  clear d;refine G ?_;refine ai rfl (λk d=>?_);go_simp;have a:=af B (ii #[ih (T ⟨E,0,ic⟩) 4 o,ih V nums.length X] 109);have f:=jm B (ii #[ih (T ⟨E,0,ic⟩) 4 o,ih V nums.length X] 109);obtain⟨x4,l⟩:=J (B.alloc (ii #[ih (T ⟨E,0,ic⟩) 4 o,ih V nums.length X] 109));rw[<-l]at a f⊢;obtain⟨gl,i⟩:=J B.heap.size;rw[<-i]at f⊢;have bf:=O i;clear i;have H:=ac Qp a;have C:=Z K a;have a2:=O (eY al a);have SB:=Z Tn a;have a3:=O (eY au a);clear Qp K al Tn au;have WF:=O f;clear f;clear l a;refine d _ _ C.out λ_=>?_
  clear d;refine G ?_;refine ai rfl (λk d=>?_);go_simp;refine(pP gl ((aB c).take 4) (nums.map vI) _ _ _ _ _ _ x4 a2 a3 WF.out (by rw[ji];exact jn (mz (j7 _ _) hn) L)).mono ?_;rintro e x5 ⟨vc,rfl,F,a⟩;obtain⟨pc,bd,rfl⟩:=F.form;have m:=ac H a;have p:=Z C a;have ad:=Z SB a;clear H C a2 SB a3 WF;have aa:=O F;clear a F;refine d _ _ p.out λ_=>?_
  clear d;refine G ?_;refine ai rfl (λk d=>?_);go_simp;refine(kQ n YN ((aB c).take 4++nums.map vI) _ x5 aa QV (HT.below m).num (HT.below m).start).mono ?_;rintro e u ⟨rfl,a⟩;have r:((cP n ((aB c).take 4++nums.map vI)).map v8).toArray.size=32:=by rw[jz,ji,dL]
  have s:=dB (cP n ((aB c).take 4++nums.map vI));obtain⟨j,t⟩:=J (((cP n ((aB c).take 4++nums.map vI)).map v8).toArray);rw[<-t]at r s⊢;have Ro:=O t;have M:=O r;have Ra:=O s;clear t r s;have RA:=ac m a;have Q:=Z p a;have R:=Z ad a;clear m p ad aa;clear a;refine d _ _ Q.out λ_=>?_
  clear d;refine G ?_;refine ai rfl (λk d=>?_);rw[if_pos ag];refine jS 23 _ _ rfl D j rfl rfl 23 _ R.out (by rw[M];rfl) (by rw[M];simp) Ra (d _ _ ((jR _ _ _ _ (aw a1)).trans Q) λ_=>?_);clear d;have x:(u.setRow D j).heap[D]?=T (ii j 23 (0,0)):=jT _ _ _ _ _ _ R.out;have y:jd w w (u.setRow D j):=jU RA S9 _;generalize u.setRow D j=z at x y⊢;have Ry:=O x;have Rn:=O y;clear x y;refine G ?_;refine jC ?_
  go_wp2_with fail
  go_ret;have h:=Ry.out;rw[Ro]at h;have S:=l9 h (dL _ _);refine⟨D,rfl,?_,Rn⟩;exact S
 refine ai rfl (λk d=>?_);go_simp;have a:=af x0 (ii aI 23);have f:=jm x0 (ii aI 23);obtain⟨x1,l⟩:=J (x0.alloc (ii aI 23));rw[<-l]at a f⊢;obtain⟨D,i⟩:=J x0.heap.size;rw[<-i]at f⊢;have P:=O i;clear i;have Qj:=ac Qm a;have Wn:=Z Vu a;have QD:=O (QB.below a);have Tt:=O (pg Uc a);have YD:=O f;have S9:ja (w.heap.size<=D):=O (by rw[P];exact Qm.size);have a1:ja (b<D):=O (by rw[P];exact(jy.1 Vu).1);clear f l a;clear Qm Vu QB Uc;refine d _ _ Wn.out λ_=>?_
 clear d;refine G ?_;refine ai rfl (λk d=>?_);go_simp;rw[Tr];refine(nL c q x1 QD l1 l2 l3 l4).mono ?_;rintro e x2 ⟨v,rfl,ba,a⟩;obtain⟨E,o,rfl,Sz⟩:∃g o,v=ih (T ⟨g,0,ic⟩) 11 o/\11<=o:=by
  obtain⟨us,ho,-⟩:=ba;obtain⟨g,c,h1,h2,-⟩:=sO ho L;exact⟨g,c,h1,h2⟩
 have bh:∀W,(Instr.sliceAt 109 (ih (T ⟨E,0,ic⟩) 11 o) ic (T (I N 4)) ic).run je W=.ok (ih (T ⟨E,0,ic⟩) 4 o) W:=λW=>tz 109 118 4 underlying109 tT E 0 11 o 4 Y W
 have Qk:=ac Qj a;have Ss:=Z Wn a;have Ua:=O (pg Tt a);have TB:=Z YD a;clear Qj Wn QD Tt YD;clear a;have a4:=O (ba.val 4 L).2;clear ba;rw[<-Tr];refine d _ _ Ss.out λ_=>?_
 clear d;refine G ?_;refine aS ?_;refine ai rfl (λk d=>?_);go_simp;refine(pV nums _ x2 Ua Y).mono ?_;rintro e B ⟨bg,rfl,U,a⟩;obtain⟨V,X,rfl⟩:=aO U;have a5:=lX (D:=(·<B.heap.size)) U (λg i=>(U.lt g i).2);have Qp:=ac Qk a;have K:=Z Ss a;have Tn:=Z TB a;have al:=O (eY a4 a);clear Qk Ss Ua TB a4;have au:=O a5;clear a U a5;refine d _ _ K.out λ_=>?_
 clear d;refine G ?_;refine ai rfl (λk d=>?_);go_simp;have a:=af B (ii #[ih (T ⟨E,0,ic⟩) 4 o,ih V nums.length X] 109);have f:=jm B (ii #[ih (T ⟨E,0,ic⟩) 4 o,ih V nums.length X] 109);obtain⟨x4,l⟩:=J (B.alloc (ii #[ih (T ⟨E,0,ic⟩) 4 o,ih V nums.length X] 109));rw[<-l]at a f⊢;obtain⟨gl,i⟩:=J B.heap.size;rw[<-i]at f⊢;have bf:=O i;clear i;have H:=ac Qp a;have C:=Z K a;have SB:=Z Tn a;have a2:=O (eY al a);have a3:=O (eY au a);clear Qp K Tn al au;have WF:=O f;clear f;clear l a;refine d _ _ C.out λ_=>?_
 clear d;refine G ?_;refine ai rfl (λk d=>?_);go_simp;refine(pP gl ((aB c).take 4) (nums.map vI) _ _ _ _ _ _ x4 a2 a3 WF.out (by rw[ji];exact jn (mz (j7 _ _) hn) L)).mono ?_;rintro e x5 ⟨vc,rfl,F,a⟩;obtain⟨pc,bd,rfl⟩:=F.form;have m:=ac H a;have p:=Z C a;have ad:=Z SB a;clear H C SB a2 a3 WF;have aa:=O F;clear a F;refine d _ _ p.out λ_=>?_
 clear d;refine G ?_;refine ai rfl (λk d=>?_);go_simp;refine(kQ n YN ((aB c).take 4++nums.map vI) _ x5 aa QV (HT.below m).num (HT.below m).start).mono ?_;rintro e u ⟨rfl,a⟩;have r:((cP n ((aB c).take 4++nums.map vI)).map v8).toArray.size=32:=by rw[jz,ji,dL]
 have s:=dB (cP n ((aB c).take 4++nums.map vI));obtain⟨j,t⟩:=J (((cP n ((aB c).take 4++nums.map vI)).map v8).toArray);rw[<-t]at r s⊢;have Ro:=O t;have M:=O r;have Ra:=O s;clear t r s;have RA:=ac m a;have Q:=Z p a;have R:=Z ad a;clear m p ad aa;clear a;refine d _ _ Q.out λ_=>?_
 clear d;refine G ?_;refine ai rfl (λk d=>?_);rw[if_pos ag];refine jS 23 _ _ rfl D j rfl rfl 23 _ R.out (by rw[M];rfl) (by rw[M];simp) Ra (d _ _ ((jR _ _ _ _ (aw a1)).trans Q) λ_=>?_);clear d;have x:(u.setRow D j).heap[D]?=T (ii j 23 (0,0)):=jT _ _ _ _ _ _ R.out;have y:jd w w (u.setRow D j):=jU RA S9 _;generalize u.setRow D j=z at x y⊢;have Ry:=O x;have Rn:=O y;clear x y;refine G ?_;refine jC ?_
 go_wp2_with fail
 go_ret;have h:=Ry.out;rw[Ro]at h;have S:=l9 h (dL _ _);refine⟨D,rfl,?_,Rn⟩;exact S
theorem Aq(b:LBy):b.length<=(enc (vT b)).length:=by
 rw[vT,enc,if_neg L,if_pos rfl];simp only[jt,jq,ng];omega
theorem nW{l:List Val}{x:Val}(h:x∈l):(enc x).length<=(enc (vL l)).length:=by
 rw[gQ];have:=vQ h;simp only[jt,jq];omega
theorem dC.bodies{c:Cmt}(h:dC (aB c)):(∀b∈c.box,b.body.length<=800000)/\(∀b∈c.wel,b.body.length<=800000):=by
 have g:=h.len;refine⟨λb a=>?_,λb a=>?_⟩
 ·have d:(enc (vL (c.box.map Bx.val))).length<=(enc (vL (aB c))).length:=nW (by unfold aB;simp)
  have e:(enc b.val).length<=(enc (vL (c.box.map Bx.val))).length:=nW (jk.2 ⟨b,a,rfl⟩);have f:(enc (vT b.body)).length<=(enc b.val).length:=nW ar;have:=Aq b.body;omega
 have d:(enc (vL (c.wel.map Wl.val))).length<=(enc (vL (aB c))).length:=nW (by unfold aB;simp);have e:(enc b.val).length<=(enc (vL (c.wel.map Wl.val))).length:=nW (jk.2 ⟨b,a,rfl⟩);have f:(enc (vT b.body)).length<=(enc b.val).length:=nW ar;have:=Aq b.body;omega
theorem tP(c:Cmt):(fl c/\ff c=0)\/(¬fl c/\ff c=220):=by
 by_cases h:fl c
 ·exact .inl ⟨h,rX h⟩
 exact .inr ⟨h,ef h⟩
theorem Be(c:Cmt)(q:CQ)(w:jb)(f:ay (·<w.heap.size) w c q)(a:dC (aB c)):
 jg je 18 #[jf (ah c q).toArray] w λe w'=>e=jh (I N (ff c))/\jd w w w':=
 CE c q w f a.lens.1 a.lens.2.1 a.lens.2.2.1 a.lens.2.2.2 (λb d=>by have:=a.bodies.1 b d;omega) (λb d=>by have:=a.bodies.2 b d;omega)
def AR(c:Cmt)(w:jb)(e:Ending)(w':jb):Prop:=
 (fl c->∃v,e=jh (jr #[v,I N 0])/\w'.ownsRow w 5 1 v (enc (vL (aB c))).length ((enc (vL (aB c))).map v8))/\(¬fl c->e=jh (jr #[ih ic 0 0,I N 220]))/\jd w w w'
theorem Fx(c:Cmt)(q:CQ)(w:jb)(e:ay (·<w.heap.size) w c q)(a:dC (aB c)):
 jg je 13 #[jf (ah c q).toArray] w (AR c w):=by
 have g:(je.info? 37).map (·.size)=T (ah c q).toArray.size:=by rw[jz,dT c q e.plen e.clen];exact fa
 have h:=λW i=>Be c q W i a
 have j:=λW i=>nL c q W i a.lens.1 a.lens.2.1 a.lens.2.2.1 a.lens.2.2.2
 have hk:=jm w (ii (ah c q).toArray 37);have d:=af w (ii (ah c q).toArray 37);have f:=e.below d;obtain⟨k,p⟩:=J ((ah c q).toArray);rw[<-p]at hk d f g h j⊢;obtain⟨M,l⟩:=J (w.alloc (ii k 37));obtain⟨b,m⟩:=J w.heap.size;rw[<-l]at hk d f;rw[<-m]at hk;have P:=O l;have Q:=O m;have n:=O hk;have r:=O d;have o:=O f;have u:=O g;have x:=O h;have R:=O j;have y:=O a;have z:=O (tP c);obtain⟨U,s⟩:=J (ff c);rw[<-s]at x z;clear g h j hk d f p l m e a s
 go_enter func13,ntmps13
 go_upto_region 1 with fail
 rw[<-P,<-Q];refine oi ?_;refine oj rfl 37 _ rfl b rfl 37 k (0,0) _ n.out qV rfl u ?_
 go_wp2_with fail
 refine(x M o).mono ?_;rintro e S ⟨rfl,a⟩;have j:=Z n a;have l:=ac r a;have m:=O (ay.below o a);clear n r o;clear a
 rcases z.out with⟨f,rfl⟩|⟨f,rfl⟩
 ·have o:=O f
  clear f
  go_wp2_with (refine oj rfl 37 _ rfl b rfl 37 k (0,0) _ j.out qV rfl u ?_)
  refine(R S m).mono ?_;rintro e B ⟨v,rfl,g,a⟩;have r:=O g;have V:=Z j a;have C:=ac l a;have X:=O (ay.below m a);clear j l m;clear a g;obtain⟨D,nv,E,rfl⟩:∃p n s,v=ih p n s:=by obtain⟨us,g,-⟩:=r.out;obtain⟨p,s,h⟩:=aO g;exact⟨p,_,s,h⟩
  obtain⟨rfl,t⟩:=r.val 11 (jl _);have F:=O t;clear t
  go_wp2_with fail
  refine(kg D 11 E B).mono ?_;rintro e t ⟨rfl,a⟩;have H:ja (ao (·<t.heap.size) t (vL (aB c)) (ih D 11 E)):=O (ao.mono (λb (d:b<B.heap.size)=>jF d a.size) _ _ (ao.keep (λb d=>a.block b d) _ _ (by have h:=F.out;rw[jH (by rw[sC];omega)]at h;exact h)));have K:=ac C a;clear C;clear a F r
  go_wp2_with fail
  refine(wj (vL (aB c)) _ 3 t rfl y.wf H (aU y.len)).mono ?_;rintro e F ⟨vb,rfl,g,a⟩;have r:=O (oV g (jn (jl _) K.size));have C:=ac K a;clear a g H
  go_wp2_with fail
  go_ret2;exact⟨λ_=>⟨_,rfl,r⟩,λh=>absurd o h,C⟩
 have o:=O f;clear f
 go_wp2_with fail
 go_ret2;exact⟨λh=>absurd h o,λ_=>rfl,l⟩
theorem IF{l:List Mem}{d:Int}(e:ky l)(h:cr l d=true):∃m,l[iY l d]?=T m/\l.find? (λm=>m.dev==d)=T m:=by
 obtain⟨m,b⟩:∃m,l.find? (λm=>m.dev==d)=T m:=by
  cases hf:l.find? (λm=>m.dev==d)with
  |some m=>exact⟨m,rfl⟩
  |none=>
   exfalso
   unfold cr at h;obtain⟨x,a,c⟩:=ms.1 h;exact absurd c (by have:=sq.1 hf x a;simpa using this)
 refine⟨m,?_,b⟩;have g:=List.mem_of_find?_eq_some b;have f:m.dev=d:=by have:=List.find?_some b;simpa using this
 obtain⟨i,a,he⟩:=qz g;have j:iY l d=i:=by
  refine yg d l i Y (λt k=>?_) (λt n c=>?_)
  ·have:=e t i k a
   rw[eu _ a,he,f]at this;exact this
  have:=uL e n c;rw[eu _ a,he,f]at this;exact this
 rw[j,jL a,he]
theorem Di(g:Grp)(vm vt S:jc)(a:Int)(l:List Chg)(w:jb)(h:bQ w g vm vt)(q:ky g.mem)(U:g.mem.length<=1000000)(v:EC.At w S l)(i:cr g.mem a=false->l≠[]):
 jg je 29 #[jf (aA g vm vt).toArray,I N a,S] w λe w'=>e=jh (I N (dt g a l))/\jd w w w':=by
 have x:=kI (vm:=vm) (vt:=vt) h.llen;have s:=λW hW=>uM g vm vt a W hW q U h.llen
 have y:=cV.new w (vm:=vm) (vt:=vt) h.llen;have hk:=y.blk;have f:=af w (ii (aA g vm vt).toArray 29);have j:=y.at.2.2.1;obtain⟨z,B,rfl,TR,-⟩:=h.mem.form;obtain⟨pl,cl,rfl,Sz,-⟩:=v.form;have k:=h.mem.below f;have m:=v.below f;obtain⟨C,D⟩:=J ((aA g (ih z g.mem.length B) vt).toArray);rw[<-D]at x s hk f j k m⊢;obtain⟨x0,c⟩:=J (w.alloc (ii C 29));obtain⟨b,E⟩:=J w.heap.size;rw[<-c]at hk f j k m;rw[<-E]at hk j;obtain⟨n,F⟩:=J l.length;obtain⟨t,u⟩:=J g.mem.length;rw[<-F]at m Sz⊢;rw[<-u]at j k TR U s;have HX:=O c;have SE:=O E;have H:=O hk;have V:=O f;have K:=O k;have X:=O m;have QH:=O x;have M:=O s;have SX:=O i;have ad:=O q;have HN:=O F;have ZA:=O u;have Sf:=O (λh=>IF (d:=a) q h);obtain⟨P,o⟩:=J (cr g.mem a);obtain⟨p,Q⟩:=J (iY g.mem a);rw[<-o,<-Q]at M;rw[<-o]at SX;rw[<-Q,<-o]at Sf;have aa:=O o;have Z4:ja (C[34]?=T (ih z t B)):=O (by rw[D,u];simpa using(kF (vm:=ih z g.mem.length B) (vt:=vt) h.llen).2.2.1);obtain⟨r,R⟩:=J (dt g a l);rw[<-R];have HR:=O R;clear x s y hk f k m D c E F u o Q h q v i j R
 go_enter func29,ntmps29
 go_upto_region 1 with fail
 rw[<-HX,<-SE];refine oi ?_;refine oj rfl 29 _ rfl b rfl 29 C (0,0) _ H.out j3 rfl QH ?_
 go_wp2_with fail
 refine(M x0 K).mono ?_;rintro e s ⟨rfl,f⟩;have y:=Z H f;have D:=O (K.below f);have E:=O (X.below f);have u:=ac V f;clear f M H K X V
 cases P with
 |true=>
  obtain⟨m,k,v⟩:=Sf rfl;have F:p<t:=by rw[ZA];exact(j5.1 k).1
  obtain⟨q,o,rfl,f⟩:=(D.cells).2.2 Y;have H:=cell_of y Z4;have x:s.cell? ⟨q,o+p*3+2,ic⟩=T (I N m.ver):=f p m k 2 _ rfl;have j:r=m.ver:=by rw[HR];unfold dt;rw[v]
  have K:=aj ((p:Int)<(t:Int));have M:=aj (p<t);rw[<-j]at x;clear f k v j
  go_wp2_with fail
  go_ret;exact⟨rfl,u⟩
 |false=>
  have i:=SX rfl;obtain⟨x,k,c⟩:∃x k,l=x::k:=by
   rcases l with _|⟨x,r⟩
   ·exact absurd rfl i
   exact⟨x,r,rfl⟩
  have F:0<n:=by rw[HN,c];simp
  obtain⟨q,o,rfl,f⟩:=(E.cells).2.2 F;have H:s.cell? ⟨q,o+3,ic⟩=T (I N x.v):=by
   have h:=f 0 x (by rw[c];rfl) 3 _ rfl;rw[Nat.zero_mul,Nat.add_zero]at h;exact h
  have v:g.mem.find? (λm=>m.dev==a)=ic:=by
   rw[sq];intro m P;have h:=aa.out;unfold cr at h;have:=lr.1 h.symm m P
   simpa using this
  have j:r=x.v:=by rw[HR];unfold dt;rw[v,c]
  rw[<-j]at H;clear f c v i j
  go_wp2_with fail
  go_ret;exact⟨rfl,u⟩
theorem Hz(a c b d:Int)(f:Int)(g:Option jv)(i j:Nat)(w:jb):jg je 23 #[jf #[I N a,I N c,I N f,ih g i j],jf #[I N b,I N d,I N 0,ih ic 0 0]] w λe w'=>e=jh (.bool ((a==b)&&(c==d)))/\jd w w w':=by
 have h:=(af w (ii #[I N a,I N c,I N f,ih g i j] 74)).trans ((af (w.alloc (ii #[I N a,I N c,I N f,ih g i j] 74)) (ii #[I N b,I N d,I N 0,ih ic 0 0] 74)).mono (af w _).size);have l:=O h;clear h
 by_cases h:a=b
 ·have k:(a==b)=true:=by simpa using h
  rw[k,Bool.true_and];clear h
  go_enter func23,ntmps23
  go_wp2_with fail
  go_ret;exact⟨rfl,l⟩
 have k:(a==b)=false:=by simpa using h
 rw[k,Bool.false_and];clear h
 go_enter func23,ntmps23
 go_wp2_with fail
 go_ret;exact⟨rfl,l⟩
theorem wC{D:Nat->Prop}(l:List Bx)(r:List (Int×Int))(v aa:jc)(w:jb)(h:∃Q,ap D w v 4 l.length (cG Bx.cells l Q)/\bR D w (l.map Bx.body) Q)(a:EB0.At w aa r)(hl:l.length<=1000000)(hr:r.length<=1000000):
 jg je 25 #[v,aa,.func (.func 23) #[] #[]] w λe w'=>e=jh (.bool (decide (l.map (λb:Bx=>(b.lev,b.node))=r.map (λx:Int×Int=>x))))/\jd w w w':=by
 obtain⟨V,f⟩:=J (decide (l.map (λb:Bx=>(b.lev,b.node))=r.map (λx:Int×Int=>x)));rw[<-f];have X:=O f;obtain⟨p,c,g⟩:∃p c,v=ih p l.length c:=by obtain⟨Q,h,-⟩:=h;exact h.form
 obtain⟨q,d,rfl,hd,-⟩:=a.form;obtain⟨n,i⟩:=J l.length;obtain⟨m,k⟩:=J r.length;have HU:=O h;have HV:=O a;have Sw:=O g;rw[g];have HN:=O i;have HM:=O k;rw[<-i]at hl⊢;rw[<-k]at hr hd HV⊢;have EG:∀args w,(callFunc 23 args).run je w=.ok (.enter 23 args) w:=λ_ _=>rfl
 clear h a i k f g
 by_cases F:n=m
 ·have a4:((n:Int)!=(m:Int))=false:=by simp[F]
  have a5:((n:Int)==(m:Int))=true:=by simp[F]
  have ZA:=O F;clear F
  go_enter func25,ntmps25
  go_wp2_with fail
  go_loopw [17] (λi wr=>∃k:Nat,i=I N k/\k<=n/\ja ((l.take k).map (λb:Bx=>(b.lev,b.node))=(r.take k).map (λx:Int×Int=>x))/\ja (jd w w wr)) (λi _=>n-(jo i).toNat)
  case atStart=>exact⟨0,rfl,jQ _,O ar,O (jw _ _)⟩
  obtain⟨k,rfl,hk,HG,a⟩:=hrel
  by_cases ba:k<n
  ·have bb:=aj ((k:Int)<(n:Int))
   have bc:=aj (k<n);have YG:k<m:=aw ZA;have bn:=aj ((k:Int)<(m:Int));have bo:=aj (k<m);obtain⟨x,R,ad⟩:=dE (l:=l) (j:=k) (by rw[<-HN];exact ba);obtain⟨y,E,al⟩:=dE (l:=r) (j:=k) (by rw[<-HM];exact YG);obtain⟨Q,au,a1⟩:=HU.out;obtain⟨bq,a2,Yh⟩:=a1.at (i:=k) (b:=x.body) (by rw[jB,R];rfl);obtain⟨g,o,c',hq,H⟩:=mC au (λ_ _=>rfl) R a2;rw[Sw]at hq;injection hq with e1 e2 e3
   subst e1;subst e3;obtain⟨t,u,rfl⟩:=Yh.form;obtain⟨B,a3⟩:=J x.body.length;rw[<-a3]at H;obtain⟨S,U,rfl,K⟩:=(HV.cells).2.2 Y;have bd:=O ad;have bf:=O al;have bg:=O R;have bh:=O E;obtain⟨f,s,C,xb⟩:=x;obtain⟨M,P⟩:=y;have z:=af wr (ii #[I N f,I N s,I N C,ih t B u] 74);have Sx:=af (wr.alloc (ii #[I N f,I N s,I N C,ih t B u] 74)) (ii #[I N P,I N M,I N 0,ih ic 0 0] 74);have a0:wr.cell? ⟨g,o+k*4,ic⟩=T (I N f):=cell_below (H 0 _ rfl) a;have bk:wr.cell? ⟨g,o+k*4+1,ic⟩=T (I N s):=cell_below (H 1 _ rfl) a;have bl:wr.cell? ⟨g,o+k*4+2,ic⟩=T (I N C):=cell_below (H 2 _ rfl) a;have bm:wr.cell? ⟨g,o+k*4+3,ic⟩=T (ih t B u):=cell_below (H 3 _ rfl) a;have b0:(wr.alloc (ii #[I N f,I N s,I N C,ih t B u] 74)).cell? ⟨S,U+k*4,ic⟩=T (I N P):=cell_below (cell_below (K k _ E 0 _ rfl) a) z;have b1:(wr.alloc (ii #[I N f,I N s,I N C,ih t B u] 74)).cell? ⟨S,U+k*4+1,ic⟩=T (I N M):=cell_below (cell_below (K k _ E 1 _ rfl) a) z;have b2:(wr.alloc (ii #[I N f,I N s,I N C,ih t B u] 74)).cell? ⟨S,U+k*4+2,ic⟩=T (I N 0):=cell_below (cell_below (K k _ E 2 _ rfl) a) z;have b3:(wr.alloc (ii #[I N f,I N s,I N C,ih t B u] 74)).cell? ⟨S,U+k*4+3,ic⟩=T (ih ic 0 0):=cell_below (cell_below (K k _ E 3 _ rfl) a) z;have HC:=O (λW=>Hz f s P M C t B u W);have W:=O (z.trans (Sx.mono z.size));clear H au a1 a2 Yh K R E ad al z Sx e2 a3
   go_wp2_with fail
   refine(HC _).mono ?_;rintro e w1 ⟨rfl,z⟩;have K:=O (a.trans ((W.trans (z.mono W.size)).mono a.size));clear z HC W a0 bk bl bm b0 b1 b2 b3
   by_cases E:((f==P)&&(s==M))=true
   ·rw[E]
    have z:ja ((l.take (k+1)).map (λb:Bx=>(b.lev,b.node))=(r.take (k+1)).map (λx:Int×Int=>x)):=O (by
     rw[bd,bf,jG,jG,HG]
     congr 1
     simp only[qg,List.map_nil];simp at E;simp[E])
    clear E
    go_wp2_with fail
    exact⟨⟨k+1,by go_num,by omega,z,K⟩,by simp only[jo];omega⟩
   have R:((f==P)&&(s==M))=false:=by simpa using E
   rw[R];obtain rfl:V=false:=by
    rw[X,decide_eq_false_iff_not];intro e;have H:=congrArg (λz=>z[k]?) e;simp only[jB,bg.out,bh.out,qB,Option.some.injEq]at H
    apply E
    try simp at H
    simp[H]
   clear E R
   go_wp2_with fail
   go_ret;exact⟨rfl,K⟩
  have bb:=ak ((k:Int)<(n:Int));have bc:=ak (k<n);obtain rfl:k=n:=Y;obtain rfl:V=true:=by
   rw[X,decide_eq_true_iff];have h:=HG.out;rw[jH (l:=l) (by rw[<-HN];exact jl _),jH (l:=r) (by rw[<-HM,<-ZA];exact jl _)]at h;exact h
  go_wp2_with fail
  go_ret;exact⟨rfl,a⟩
 have a4:((n:Int)!=(m:Int))=true:=by simp;omega
 have a5:((n:Int)==(m:Int))=false:=by simp;omega
 obtain rfl:V=false:=by
  rw[X,decide_eq_false_iff_not];intro e;have:=congrArg qE e;rw[ji,ji,<-HN,<-HM]at this;exact F this
 clear F
 go_enter func25,ntmps25
 go_wp2_with fail
 go_ret;exact⟨rfl,jw _ _⟩
theorem NX(a b h c:Int)(i j k:Int)(d:Option jv)(f g:Nat)(w:jb):jg je 24 #[jf #[I N a,I N b,ih d f g],jf #[I N h,I N c,I N i,I N j,I N k]] w λe w'=>e=jh (.bool (a==c))/\jd w w w':=by
 have l:=(af w (ii #[I N a,I N b,ih d f g] 76)).trans ((af (w.alloc (ii #[I N a,I N b,ih d f g] 76)) (ii #[I N h,I N c,I N i,I N j,I N k] 49)).mono (af w _).size);have m:=O l;clear l
 go_enter func24,ntmps24
 go_wp2_with fail
 go_ret;exact⟨rfl,m⟩
theorem Cn{D:Nat->Prop}(l:List Wl)(r:List Chg)(v aa:jc)(w:jb)(h:∃Q,ap D w v 3 l.length (cG Wl.cells l Q)/\bR D w (l.map Wl.body) Q)(a:EC.At w aa r)(hl:l.length<=1000000)(hr:r.length<=1000000):
 jg je 26 #[v,aa,.func (.func 24) #[] #[]] w λe w'=>e=jh (.bool (decide (l.map (Wl.dev)=r.map (Chg.d))))/\jd w w w':=by
 obtain⟨S,f⟩:=J (decide (l.map (Wl.dev)=r.map (Chg.d)));rw[<-f];have U:=O f;obtain⟨p,c,g⟩:∃p c,v=ih p l.length c:=by obtain⟨Q,h,-⟩:=h;exact h.form
 obtain⟨q,d,rfl,hd,-⟩:=a.form;obtain⟨n,i⟩:=J l.length;obtain⟨m,k⟩:=J r.length;have HU:=O h;have HV:=O a;have Sw:=O g;rw[g];have V:=O i;have X:=O k;rw[<-i]at hl⊢;rw[<-k]at hr hd HV⊢;have EG:∀args w,(callFunc 24 args).run je w=.ok (.enter 24 args) w:=λ_ _=>rfl
 clear h a i k f g
 by_cases E:n=m
 ·have a4:((n:Int)!=(m:Int))=false:=by simp[E]
  have a5:((n:Int)==(m:Int))=true:=by simp[E]
  have ZA:=O E;clear E
  go_enter func26,ntmps26
  go_wp2_with fail
  go_loopw [17] (λi wr=>∃k:Nat,i=I N k/\k<=n/\ja ((l.take k).map (Wl.dev)=(r.take k).map (Chg.d))/\ja (jd w w wr)) (λi _=>n-(jo i).toNat)
  case atStart=>exact⟨0,rfl,jQ _,O ar,O (jw _ _)⟩
  obtain⟨k,rfl,hk,HG,a⟩:=hrel
  by_cases ba:k<n
  ·have bb:=aj ((k:Int)<(n:Int))
   have bc:=aj (k<n);have YG:k<m:=aw ZA;have bm:=aj ((k:Int)<(m:Int));have bn:=aj (k<m);obtain⟨x,R,ad⟩:=dE (l:=l) (j:=k) (by rw[<-V];exact ba);obtain⟨y,C,al⟩:=dE (l:=r) (j:=k) (by rw[<-X];exact YG);obtain⟨Q,au,a1⟩:=HU.out;obtain⟨bo,a2,Yh⟩:=a1.at (i:=k) (b:=x.body) (by rw[jB,R];rfl);obtain⟨g,o,c',hq,H⟩:=mC au (λ_ _=>rfl) R a2;rw[Sw]at hq;injection hq with e1 e2 e3
   subst e1;subst e3;obtain⟨s,t,rfl⟩:=Yh.form;obtain⟨u,a3⟩:=J x.body.length;rw[<-a3]at H;obtain⟨K,M,rfl,F⟩:=(HV.cells).2.2 Y;have bd:=O ad;have bf:=O al;have bg:=O R;have bh:=O C;obtain⟨f,B,xb⟩:=x;obtain⟨yk,P,yp,yv,yc⟩:=y;have z:=af wr (ii #[I N f,I N B,ih s u t] 76);have Sx:=af (wr.alloc (ii #[I N f,I N B,ih s u t] 76)) (ii #[I N yk,I N P,I N yp,I N yv,I N yc] 49);have a0:wr.cell? ⟨g,o+k*3,ic⟩=T (I N f):=cell_below (H 0 _ rfl) a;have bk:wr.cell? ⟨g,o+k*3+1,ic⟩=T (I N B):=cell_below (H 1 _ rfl) a;have bl:wr.cell? ⟨g,o+k*3+2,ic⟩=T (ih s u t):=cell_below (H 2 _ rfl) a;have b0:(wr.alloc (ii #[I N f,I N B,ih s u t] 76)).cell? ⟨K,M+k*5,ic⟩=T (I N yk):=cell_below (cell_below (F k _ C 0 _ rfl) a) z;have b1:(wr.alloc (ii #[I N f,I N B,ih s u t] 76)).cell? ⟨K,M+k*5+1,ic⟩=T (I N P):=cell_below (cell_below (F k _ C 1 _ rfl) a) z;have b2:(wr.alloc (ii #[I N f,I N B,ih s u t] 76)).cell? ⟨K,M+k*5+2,ic⟩=T (I N yp):=cell_below (cell_below (F k _ C 2 _ rfl) a) z;have b3:(wr.alloc (ii #[I N f,I N B,ih s u t] 76)).cell? ⟨K,M+k*5+3,ic⟩=T (I N yv):=cell_below (cell_below (F k _ C 3 _ rfl) a) z;have b4:(wr.alloc (ii #[I N f,I N B,ih s u t] 76)).cell? ⟨K,M+k*5+4,ic⟩=T (I N yc):=cell_below (cell_below (F k _ C 4 _ rfl) a) z;have HC:=O (λW=>NX f B yk P yp yv yc s u t W);have W:=O (z.trans (Sx.mono z.size));clear H au a1 a2 Yh F R C ad al z Sx e2 a3
   go_wp2_with fail
   refine(HC _).mono ?_;rintro e w1 ⟨rfl,z⟩;have H:=O (a.trans ((W.trans (z.mono W.size)).mono a.size));clear z HC W a0 bk bl b0 b1 b2 b3 b4
   by_cases C:(f==P)=true
   ·rw[C]
    have z:ja ((l.take (k+1)).map (Wl.dev)=(r.take (k+1)).map (Chg.d)):=O (by
     rw[bd,bf,jG,jG,HG]
     congr 1
     simp only[qg,List.map_nil];simp at C;simp[C])
    clear C
    go_wp2_with fail
    exact⟨⟨k+1,by go_num,by omega,z,H⟩,by simp only[jo];omega⟩
   have R:(f==P)=false:=by simpa using C
   rw[R];obtain rfl:S=false:=by
    rw[U,decide_eq_false_iff_not];intro e;have F:=congrArg (λz=>z[k]?) e;simp only[jB,bg.out,bh.out,qB,Option.some.injEq]at F
    apply C
    try simp at F
    simp[F]
   clear C R
   go_wp2_with fail
   go_ret;exact⟨rfl,H⟩
  have bb:=ak ((k:Int)<(n:Int));have bc:=ak (k<n);obtain rfl:k=n:=Y;obtain rfl:S=true:=by
   rw[U,decide_eq_true_iff];have h:=HG.out;rw[jH (l:=l) (by rw[<-V];exact jl _),jH (l:=r) (by rw[<-X,<-ZA];exact jl _)]at h;exact h
  go_wp2_with fail
  go_ret;exact⟨rfl,a⟩
 have a4:((n:Int)!=(m:Int))=true:=by simp;omega
 have a5:((n:Int)==(m:Int))=false:=by simp;omega
 obtain rfl:S=false:=by
  rw[U,decide_eq_false_iff_not];intro e;have:=congrArg qE e;rw[ji,ji,<-V,<-X]at this;exact E this
 clear E
 go_enter func26,ntmps26
 go_wp2_with fail
 go_ret;exact⟨rfl,jw _ _⟩
def eL(l:List Chg)(m:Mem):Bool:=l.any λx=>x.d==m.dev
theorem KP(d:Int)(b:Nat)(f g:Int)(x:Chg)(w:jb)(c:w.heap[b]?=T (ii #[I N d,I N f,I N g] 45 (0,0))):
 jg je 35 #[jf x.cells.toArray,jj (T ⟨b,0,ic⟩)] w λe w'=>e=jh (.bool (x.d==d))/\jd w w w':=by
 obtain⟨h,j,k,l,m⟩:=x;unfold Chg.cells;have a:=af w (ii #[I N h,I N j,I N k,I N l,I N m] 49);have o:=cell_of (i:=0) (av c a) rfl;have n:=O a;clear a c
 go_enter func35,ntmps35
 go_wp2_with fail
 go_ret;exact⟨rfl,n⟩
theorem K7(d:Int)(a b:Nat)(c e:Int)(f:a<b):fB EC 35 #[jj (T ⟨a,0,ic⟩)] b (λW=>W.heap[a]?=T (ii #[I N d,I N c,I N e] 45 (0,0))) (λx=>x.d==d) where
 enter _ _:=rfl
 keep w w' hn h hB:=(hB.block a f).trans h
 call x w hn h:=KP d a c e x w h
theorem JK(c:Cmt)(q:CQ)(b:Nat)(m:Mem)(w:jb)(r:cI w b c q)(h:EC.At w q.vc c.chg)(s:c.chg.length<=1000000):
 jg je 33 #[jf m.cells.toArray,jj (T ⟨b,0,ic⟩)] w λe w'=>e=jh (.bool (eL c.chg m))/\jd w w w':=by
 obtain⟨md,a,d⟩:=m;unfold Mem.cells;have f:=af w (ii #[I N md,I N a,I N d] 45);have g:=jm w (ii #[I N md,I N a,I N d] 45);obtain⟨t,i⟩:=J (w.alloc (ii #[I N md,I N a,I N d] 45));obtain⟨y,j⟩:=J w.heap.size;rw[<-i]at f g;rw[<-j]at g;have k:=h.below f;have l:=(r.below f).at.2.2.2.1;obtain⟨p,D,u,-,-⟩:=h.form;rw[u]at l k;have o:=O (EI (K7 md y t.heap.size a d (jy.1 g).1) c.chg _ t k g (jl _) s);have v:=O f;have z:=O i;have B:=O j;have C:ja ((c.chg.any λx=>x.d==md)=eL c.chg ⟨md,a,d⟩):=O rfl;obtain⟨n,x⟩:=J c.chg.length;rw[<-x]at l o;clear r h s f g i j k u x
 go_enter func33,ntmps33
 go_upto_region 1 with fail
 rw[<-z,<-B]
 go_wp2_with fail
 refine(o).mono ?_;rintro e h ⟨rfl,f⟩;have g:=ac v f;clear f o v l
 go_wp2_with fail
 go_ret;exact⟨iI C,g⟩
theorem MA(c:Cmt)(q:CQ)(b:Nat)(a:jb)(d:cI a b c q)(e:EC.At a q.vc c.chg)(f:c.chg.length<=1000000):
 fB EM 33 #[jj (T ⟨b,0,ic⟩)] a.heap.size (λW=>jd a a W) (eL c.chg) where
 enter _ _:=rfl
 keep w w' hn h hB:=h.trans hB
 call x w hn h:=JK c q b x w (d.below h) (e.below h) f
theorem Bu:∀(xs:List jc) (k i:Nat) (cs:Array jc),k+i+xs.length<=cs.size->((xs.zipIdx i).foldl (λcs x=>cs.setIfInBounds (k+x.2) x.1) cs).toList=cs.toList.take (k+i)++xs++cs.toList.drop (k+i+xs.length)
 |[],k,i,cs,h=>by simp
 |x::xs,k,i,cs,h=>by
  rw[jt]at h;have hk:k+i<cs.toList.length:=by rw[qN];omega
  rw[j9,List.foldl_cons,Bu xs k (i+1) _ (by rw[Array.size_setIfInBounds];omega),qO,<-ql,List.take_add_one,List.take_set_of_le (jl _),List.getElem?_set_self hk,List.drop_set_of_lt Y,jt];simp only[Option.toList_some,qk,List.singleton_append,qi,qL];rw[show k+i+1+xs.length=k+i+(xs.length+1) by omega]
theorem Dt(X a:Array jc)(k n:Nat)(h:X.size=n)(d:k+n<=a.size):Array.foldl (λcs x=>cs.setIfInBounds (k+x.2) x.1) a X.zipIdx 0 n=(a.toList.take k++X.toList++a.toList.drop (k+n)).toArray:=by
 have b:X.zipIdx.size=n:=by simp[h]
 have c:Array.foldl (λcs (x:jc×Nat)=>cs.setIfInBounds (k+x.2) x.1) a X.zipIdx 0 n=X.zipIdx.toList.foldl (λcs x=>cs.setIfInBounds (k+x.2) x.1) a:=by
  rw[Array.foldl_toList,b]
 rw[c,Array.toList_zipIdx]
 apply qP
 rw[Bu _ _ _ _ (by rw[qN];omega)];simp[h]
theorem H7(f e:Int)(a:Array jc)(b:a.size=32)(w:jb):
 (Instr.build 29 #[(0,I N f),(1,I N e),(2,jf a)]).run je w=.ok (jf (#[I N f,I N e]++a++ #[ih ic 0 0,ih ic 0 0])) w:=by
 unfold Instr.build;go_simp;rw[Dt a _ 2 32 b ar];obtain⟨l⟩:=a;simp
theorem ME(w:jb):(Instr.build 29 #[]).run je w=.ok (jf (aA ⟨0,0,jY 32 0#8,[],[]⟩ (ih ic 0 0) (ih ic 0 0)).toArray) w:=by
 unfold Instr.build;go_simp
 rfl
theorem aT.ints{w w':jb}{v:jc}{t:List (Int×Int)}(h:aT w v t)(a:∀(g o:Nat) (x:Int),w.cell? ⟨g,o,ic⟩=T (I N x)->w'.cell? ⟨g,o,ic⟩=T (I N x)):aT w' v t:=by
 obtain⟨p,c,f,i,k,l,m⟩:=h;refine⟨p,c,f,i,k,λn=>?_,m⟩;obtain⟨g,o,e,b⟩:=l n;exact⟨g,o,e,λj d=>⟨a _ _ _ (b j d).1,a _ _ _ (b j d).2⟩⟩
theorem se{w w':jb}{b i:Nat}{X l:Array jc}{t:ju}(m:w.heap[b]?=T (ii X t (0,0)))(q:w'.heap[b]?=T (ii l t (0,0)))(r:∀j,j≠i->l[j]?=X[j]?){p:Option jv}{n c:Nat}(j:X[i]?=T (ih p n c))
 (hk:∀k,k<w.heap.size->k≠b->w'.heap[k]?=w.heap[k]?):∀(g o:Nat) (x:Int),w.cell? ⟨g,o,ic⟩=T (I N x)->w'.cell? ⟨g,o,ic⟩=T (I N x):=λg o x d=>by
 by_cases e:g=b
 ·subst e
  unfold kw at d⊢;rw[m]at d;rw[q];simp only at d⊢;have f:X[o]?=T (I N x):=by simpa using d
  have k:o≠i:=λe=>by rw[e,j]at f;injection f with h;cases h
  have:=(r o k).trans f
  simpa using this
 rw[<-d];exact bE (a:=⟨g,o,ic⟩) (hk g (eR d) e)
theorem kr(g:Grp)(a b:jc)(h:g.last.length=32):(aA g a b).toArray[34]?=T a/\(aA g a b).toArray[35]?=T b/\(aA g a b).toArray.size=36:=by
 have c:=kF (vm:=a) (vt:=b) h;exact⟨by simpa using c.2.2.1,by simpa using c.2.2.2,by rw[jz,tw h]⟩
theorem AE(g:Grp)(a b x:jc)(h:g.last.length=32):(aA g a b).toArray.setIfInBounds 34 x=(aA g x b).toArray:=by
 apply qP
 rw[qO];unfold aA;have c:(g.last.map v8).length=32:=by rw[ji];exact h
 show List.set (_ ::_ ::(g.last.map v8++[a,b])) 34 x=_;rw[qm,qm,sv _ _ Y,c]
 rfl
theorem Ag(g:Grp)(a b x:jc)(h:g.last.length=32):(aA g a b).toArray.setIfInBounds 35 x=(aA g a x).toArray:=by
 apply qP
 rw[qO];unfold aA;have c:(g.last.map v8).length=32:=by rw[ji];exact h
 show List.set (_ ::_ ::(g.last.map v8++[a,b])) 35 x=_;rw[qm,qm,sv _ _ Y,c]
 rfl
theorem JS(g:Grp)(a c b:jc)(h:g.last.length=32)(j:Nat)(d:j≠34):(aA g c b).toArray[j]?=(aA g a b).toArray[j]?:=by
 rw[<-AE g a b c h,sx (Ne.symm d)]
theorem OA(g:Grp)(a b c:jc)(h:g.last.length=32)(j:Nat)(d:j≠35):(aA g a c).toArray[j]?=(aA g a b).toArray[j]?:=by
 rw[<-Ag g a b c h,sx (Ne.symm d)]
theorem iG{w:jb}{b i:Nat}{cs:Array jc}{t:ju}(v:jc)(h:w.heap[b]?=T (ii cs t (0,0))):(w.setCell ⟨b,i,ic⟩ v).heap[b]?=T (ii (cs.setIfInBounds i v) t (0,0)):=by
 show(w.heap.modify b _)[b]?=_;rw[qJ];simp[h]
theorem fu{w:jb}{b i k:Nat}(v:jc)(h:k≠b):(w.setCell ⟨b,i,ic⟩ v).heap[k]?=w.heap[k]?:=tx _ _ _ _ h
theorem lZ{w:jb}{b o n:Nat}{cs:Array jc}{t:ju}(h:w.heap[b]?=T (ii cs t (0,0)))(a:o+n<=cs.size):w.there b o n:=by
 intro j c;refine⟨?_,by simp[qI,h]⟩;rw[cell_of h (Array.getElem?_eq_getElem (show o+j<cs.size by omega))]
 rfl
theorem LK{w:jb}{b o:Nat}{cs:Array jc}{t:ju}(h:w.heap[b]?=T (ii cs t (0,0))):w.frozen? ⟨b,o,ic⟩=false:=by simp[qI,h]
def eF(l:List Mem)(a:List Chg)(ep:Int):List Mem:=(l.filter λm=> !eL a m)++(a.filter λx=> !(x.k==2)).map λx=>⟨x.d,ep,x.v⟩
theorem nZ{g:Grp}(h:co g):(g.mem.map Mem.dev).Nodup:=by
 rw[h.dev];exact(mi g.tree).imp λh=>Int.ne_of_lt h
theorem Ee{l:List Mem}{c:List Chg}{ep:Int}(f:(l.map Mem.dev).Nodup)(g:(c.map Chg.d).Nodup):((eF l c ep).map Mem.dev).Nodup:=by
 unfold eF;rw[jG,qF];refine⟨f.sublist (qh.map _),?_,?_⟩
 ·rw[jX]
  exact g.sublist (qh.map _)
 intro a h b i e;obtain⟨m,j,rfl⟩:=jk.1 h;obtain⟨y,k,rfl⟩:=jk.1 i;obtain⟨x,n,rfl⟩:=jk.1 k;have d:=(jO.1 j).2;have o:eL c m=true:=by
  unfold eL;exact ms.2 ⟨x,(jO.1 n).1,by simpa using e.symm⟩
 rw[o]at d
 cases d
theorem Pv(l:List Mem)(a b:List Chg)(x:Chg)(ep:Int):(l.filter λm=> !eL a m)++((b++[x]).filter λx=> !(x.k==2)).map (λx=>(⟨x.d,ep,x.v⟩:Mem))=
 ((l.filter λm=> !eL a m)++(b.filter λx=> !(x.k==2)).map (λx=>(⟨x.d,ep,x.v⟩:Mem)))++(if x.k=2 then []else [⟨x.d,ep,x.v⟩]):=by
 rw[List.filter_append,jG,qk]
 congr 1
 by_cases h:x.k=2
 ·simp[h]
 simp[h]
noncomputable def iX(p r s:Int)(msg:LBy):Bool:=by classical exact decide (kH p r s msg)
theorem wU{p r s:Int}{msg:LBy}:iX p r s msg=true↔kH p r s msg:=by unfold iX;simp
def onB(g:Grp)(c:Cmt):Bool:=(c.folder==g.folder)&&(c.epoch==g.epoch+1)&&decide (c.parent=g.last)
noncomputable def gK(g:Grp)(c:Cmt):Bool:=decide (c.box.map (λb:Bx=>(b.lev,b.node))=dh g c.author c.chg)&&decide (c.wel.map Wl.dev=(dk c.author c.chg).map Chg.d)
noncomputable def dc(g:Grp)(c:Cmt):Int:=
 if eJ g=false then 1 else if ff c≠0 then 220 else if onB g c=false then 220 else if cD g c.author c.chg≠0 then cD g c.author c.chg else if gK g c=false then 220
 else if iX (dt g c.author c.chg) c.r c.s (dm c)=false then 222 else et (aJ g.tree c.chg) c.author c.path
noncomputable def bX(g:Grp)(c:Cmt):Grp:=⟨g.folder,c.epoch,idC c,ee (eF g.mem c.chg c.epoch),im (aJ g.tree c.chg) c.author c.path⟩
def eD:Grp:=⟨0,0,jY 32 0#8,[],[]⟩
structure df(M R:Nat)(t e:ju)(sz:Nat)(X:jc->Array jc)(w0 wr:jb)(n:Nat)(a:jc)(xs:List jc):Prop where
 box:wr.heap[R]?=T (ii (X a) t (0,0))
 own:wr.ownsRow M e sz a n xs
 but:aD R M w0 wr
 sz':M<=wr.heap.size
theorem df.later{M R:Nat}{t e:ju}{sz:Nat}{X:jc->Array jc}{w0 wr b:jb}{n:Nat}{c:jc}{xs:List jc}(h:df M R t e sz X w0 wr n c xs)(d:R<M)(a:jd wr wr b):df M R t e sz X w0 b n c xs:=
 ⟨(a.block R (jF d h.sz')).trans h.box,de h.own a,h.but.trans (aD.of_below (a.mono h.sz')) (jl _),jn h.sz' a.size⟩
theorem lC{M:Nat}{e:ju}{sz n:Nat}{w w':jb}{v:jc}{xs:List jc}(h:w.ownsRow M e sz v n xs)(hk:∀k,M<=k->w'.heap[k]?=w.heap[k]?):w'.ownsRow M e sz v n xs:=by
 refine⟨h.1,?_⟩
 rcases h.2 with a|⟨g,b,c,d,a,f,i⟩
 ·exact .inl a
 exact .inr ⟨g,b,c,d,a,(hk g a).trans f,i⟩
theorem ln(w:jb)(a:jv)(v:jc):(w.setCell a v).heap.size=w.heap.size:=by simp[uy]
theorem df.push{M R i:Nat}{t e:ju}{sz:Nat}{X:jc->Array jc}{w0 f d:jb}{n m:Nat}{c b:jc}{xs g:List jc}(h:df M R t e sz X w0 f n c xs)(j:R<M)(a:aW M e sz f d c b m g)(l:(X c).setIfInBounds i b=X b):
 df M R t e sz X w0 (d.setCell ⟨R,i,ic⟩ b) m b g:=by
 have o:d.heap[R]?=T (ii (X c) t (0,0)):=eh h.box a.grown (bW h.own (.inr j));refine⟨?_,lC a.own (λk hk=>fu _ Y),?_,?_⟩
 ·rw[<-l];exact iG b o
 ·refine h.but.trans ⟨a.grown.os,a.grown.tape,a.grown.output,by rw[ln];exact a.grown.size,λk hk p=>(fu _ p).trans (a.grown.block k (jF hk h.sz') (λe=>?_))⟩ (jl _)
  have:=(h.own.lt k e.symm).1;omega
 rw[ln];exact jn h.sz' a.grown.size
theorem df.first{M R i:Nat}{t e:ju}{sz:Nat}{X:jc->Array jc}{w0 a:jb}{n:Nat}{b v:jc}{xs:List jc}(c:a.heap[R]?=T (ii (X b) t (0,0)))(d:a.ownsRow M e sz v n xs)(f:jd M w0 a)(g:M<=a.heap.size)(l:R<M)(h:(X b).setIfInBounds i v=X v):
 df M R t e sz X w0 (a.setCell ⟨R,i,ic⟩ v) n v xs:=by
 refine⟨?_,lC d (λk hk=>fu _ Y),?_,by rw[ln];exact g⟩
 ·rw[<-h];exact iG v c
 exact(aD.of_below f).trans ⟨rfl,rfl,rfl,qQ (ln _ _ _).symm,λk hk j=>fu _ j⟩ (jl _)
theorem Il{w:jb}{o:Oper}{a:Act}{K:Act->jb->Prop}{e:Exit->Act->jb->Prop}(s x:Operand)
 (f:o.op=.call {callee:=.builtin .append,args:=#[s,x],argTypes:=#[24,24]})
 (B:Nat) (v:jc) (n:Nat) (xs:List jc) (g:a.eval s=v) (i:w.ownsRow B 45 3 v n xs) (b:jc) (m:Nat) (c:List jc) (j:a.eval x=b) (k:bZ w b 3 m c) (l:∀b∈c,b.oneCell'=true)
 (E:n+m<=4000000) (p:B<=w.heap.size) (h:∀d w',aW B 45 3 w w' v d (n+m) (xs++c)->K (a.put o.dst d) w'):o.wp je a w K e:=by
 obtain⟨q,r,t,u,y⟩:=lE zT;exact lT s x 24 f B 45 q _ 3 24 underlying24 r t u y rfl L v n xs g i b m c j k l (by unfold km;omega) Y p
  λd w' z C D=>h d w' (lD z C D)
theorem Iv(l:List Mem)(a:List Chg)(ep:Int){x:Chg}{i:Nat}(h:a.take (i+1)=a.take i++[x]):((l.filter λm=> !eL a m)++((a.take (i+1)).filter λx=> !(x.k==2)).map λx=>(⟨x.d,ep,x.v⟩:Mem))=
 ((l.filter λm=> !eL a m)++((a.take i).filter λx=> !(x.k==2)).map λx=>(⟨x.d,ep,x.v⟩:Mem))++(if x.k=2 then []else [⟨x.d,ep,x.v⟩]):=by rw[h];exact Pv l a (a.take i) x ep
theorem GI{n:Int}(h:bS n=0):aM n:=by
 rcases Classical.em (aM n)with a|a
 ·exact a
 rw[iw a]at h;exact absurd h L
theorem yH(z:Int×Int):∀l,z∈dA z l
 |[]=>by simp[dA]
 |x::r=>by
  unfold dA
  split
  ·exact jA ..
  exact jE _ (yH z r)
theorem ta{z e:Int×Int}:∀{l},e∈l->e∈dA z l
 |[],h=>by cases h
 |x::r,h=>by
  unfold dA
  split
  ·exact jE _ h
  rcases js.1 h with rfl|h
  ·exact jA ..
  exact jE _ (ta h)
theorem vF{d x:Int}(a:0<=d)(b:d<512)(c:512<=x)(h:Und (512+d) x):x=512+d:=by
 obtain⟨k,hk,rfl⟩:=Gs a b h
 rcases k with _|k
 ·simp
 have e:=(oB a b hk).2 0 (Nat.succ_pos k);have f:(512+d)/2^(k+1)<=(512+d)/2:=by
  rw[Int.pow_succ,Int.mul_comm,<-Int.ediv_ediv_of_nonneg L];exact qX _ Y
 omega
theorem KI{t:List (Int×Int)}{d:Int}{e:Int×Int}(he:e∈t)(a:¬Und (512+d) e.1):e∈cU t d:=by
 unfold cU;exact jO.2 ⟨he,by rw[Bw a];rfl⟩
theorem LH{t:List (Int×Int)}{d:Int}(c:0<=d)(g:d<512){e:Int×Int}(i:mn t e.1)(j:¬Und (512+d) e.1):mn (cU t d) e.1:=by
 obtain⟨f,k,a,b⟩:=i;refine⟨f,KI k (λh=>j ?_),a,b⟩;rw[<-vF c g a h];exact b
theorem wY{t:List (Int×Int)}{d:Int}(h:Good t)(a:0<=d)(b:d<512):Good (cU t d):=by
 refine⟨oI h.1 d,λe he=>?_⟩;obtain⟨c,f⟩:=Ex he;obtain⟨g,i,j,k⟩:=h.2 e c;exact⟨g,i,j,LH a b k f⟩
theorem B6{s t:List (Int×Int)}{a:Int}(h:mn s a)(b:∀e∈s,e∈t):mn t a:=by
 obtain⟨f,c,h⟩:=h;exact⟨f,b f c,h⟩
theorem J9{t:List (Int×Int)}{d x:Int}(h:Good t)(a:0<=d)(b:d<512)(c:aM x):Good (dA (512+d,x) (cU t d)):=by
 refine⟨sY (oI h.1 d) (oK (oq Y)),λe he=>?_⟩
 rcases nG he with rfl|he
 ·refine⟨?_,?_,c,(512+d,x),yH _ _,?_,oq ?_⟩<;>show _ <=_ <;>omega
 obtain⟨g,i,j,k⟩:=(wY h a b).2 e he;exact⟨g,i,j,B6 k (λf l=>ta l)⟩
theorem Ed{t:List (Int×Int)}{d:Int}{l:List Int}{e:Int×Int}(he:e∈cU t d):∀k,e∈dO t d l k
 |0=>he
 |k+1=>ta (Ed he k)
theorem CP{t:List (Int×Int)}{d:Int}{l:List Int}{j:Nat}:∀{k},j<k->((512+d)/2^j,l.getD j 0)∈dO t d l k
 |0,h=>absurd h (Nat.not_lt_zero _)
 |k+1,h=>by
  unfold dO
  rcases qx (qy h)with a|rfl
  ·exact ta (CP a)
  exact yH _ _
theorem FH{t:List (Int×Int)}{d:Int}{l:List Int}(h:Good t)(a:0<=d)(b:d<512)(q:l.length=10)(c:fW l):Good (dO t d l 10):=by
 refine⟨yR h.1 a b (jl 10),λe he=>?_⟩;have g:(512+d,l.getD 0 0)∈dO t d l 10:=by
  have:=CP (t:=t) (d:=d) (l:=l) (j:=0) (k:=10) L
  simpa using this
 rcases yb he with he|⟨j,r,rfl⟩
 ·obtain⟨i,m,n,o⟩:=(wY h a b).2 e he
  exact⟨i,m,n,B6 o (λf p=>Ed p 10)⟩
 have f:=BH (k:=j) a b;exact⟨(oB a b Y).1,f.2,GI (c j Y),_,g,by show 512<=512+d;omega,yC a b Y⟩
theorem mem_iff(t:List (Int×Int))(d:Int):d∈aV t↔0<=d/\d<512/\(ofF t (512+d)).isSome=true:=by
 rw[mA,zC]
theorem uj{f:Int->Option Int}{m:Int}:∀{h n:Nat},m∈cJ f h n->(f m).isSome=true
 |0,n,a=>by
  unfold cJ at a
  split at a
  ·rw[lw.1 a];assumption
  cases a
 |h+1,n,a=>by
  unfold cJ at a
  split at a
  ·rw[lw.1 a];assumption
  rcases jI.1 a with a|a
  ·exact uj a
  exact uj a
theorem G0{t:List (Int×Int)}{x m:Int}(h:m∈dU t x):(ofF t m).isSome=true:=by
 unfold dU at h
 split at h
 ·exact uj h
 cases h
theorem DJ{t:List (Int×Int)}{d:Int}(c:cN t=0)(h:d∈aV t)(b:Bool):cS t d b=0:=by
 obtain⟨e,f,a⟩:=(mem_iff _ _).1 h;unfold cS;rw[if_pos c,if_neg];rintro(h|h|⟨-,h⟩)
 ·omega
 ·omega
 rw[h]at a;cases a
theorem Ia{t:List (Int×Int)}{d:Int}(g:0<=d)(h:d<512)(x:Int):x∈aV (cU t d)↔x≠d/\x∈aV t:=by
 rw[mem_iff,mem_iff,zb]
 constructor
 ·rintro⟨a,b,c⟩
  split at c
  ·cases c
  rename_i f;refine⟨λe=>f ?_,a,b,c⟩;rw[e];exact rG (oq Y)
 rintro⟨e,a,b,c⟩;refine⟨a,b,?_⟩;rw[if_neg]
 ·exact c
 intro f;have:=vF g h Y ((wy _ _).1 f);omega
theorem Fb{g:Grp}(h:co g)(d:Int):cr g.mem d=true↔d∈aV g.tree:=by
 rw[<-h.dev];unfold cr;rw[ms]
 constructor
 ·rintro⟨m,a,e⟩
  exact jk.2 ⟨m,a,by simpa using e⟩
 intro h;obtain⟨m,a,e⟩:=jk.1 h;exact⟨m,a,by simpa using e⟩
theorem sT{t:List (Int×Int)}{d:Int}(h:d∈aV t):0<=d/\d<512:=by
 have:=(mA t d).1 h;exact⟨this.1,this.2.1⟩
structure Dw(t:List (Int×Int))(l:List Chg):Prop where
 each:∀x∈l,pT x
 once:(l.map Chg.d).Nodup
 mem:∀x∈l,(x.d∈aV t↔x.k≠1)
theorem Ca{t:List (Int×Int)}{d:Int}(a:0<=d)(b:d<512)(x:Int):x∈aV (cU t d)↔x≠d/\x∈aV t:=Ia a b x
theorem GE{t:List (Int×Int)}{d v:Int}(b:0<=d)(c:d<512)(x:Int):x∈aV (dA (512+d,v) (cU t d))↔x=d\/x∈aV t:=by
 rw[mem_iff];have e:=sy (z:=(512+d,v)) (oK (t:=t) (oq Y)) (512+x);rw[e]
 by_cases h:x=d
 ·subst h
  simp[b,c]
 rw[if_neg (by show ¬512+x=512+d;omega)];have f:=Ca (t:=t) b c x;rw[mem_iff]at f;rw[f]
 constructor
 ·exact λh=>.inr h.2
 rintro(a|a)
 ·exact absurd a h
 exact⟨h,a⟩
theorem Lh{t:List (Int×Int)}{x:Chg}(h:Good t)(j:pT x)(k:x.d∈aV t↔x.k≠1):Good (eH t x)/\∀d,d∈aV (eH t x)↔(d=x.d/\x.k≠2)\/(d≠x.d/\d∈aV t):=by
 have f:=nR h;obtain⟨⟨b,c⟩,hk⟩:=j
 by_cases a:x.k=2
 ·have g:x.d∈aV t:=k.2 Y
  have e:eH t x=cU t x.d:=by unfold eH ma;rw[if_pos a,if_pos (DJ f g true)]
  rw[e];refine⟨wY h b c,λd=>?_⟩;rw[Ca b c]
  constructor
  ·exact λh=>.inr h
  rintro(⟨-,h⟩|h)
  ·exact absurd a h
  exact h
 have g:aM x.p:=by
  rcases hk with⟨-,h,-⟩|⟨h,-⟩|⟨-,h,-⟩
  ·exact h
  ·exact absurd h a
  exact h
 have l:cS t x.d false=0:=by
  unfold cS;rw[if_pos f,if_neg (by rintro(h|h|⟨h,-⟩);omega;omega;cases h)]
 have m:eT t x.d x.p=0:=by unfold eT;rw[if_pos l,if_pos (fw g)]
 have e:eH t x=dA (512+x.d,x.p) (cU t x.d):=by unfold eH ig;rw[if_neg a,if_pos m]
 rw[e];refine⟨J9 h b c g,λd=>?_⟩;rw[GE b c]
 by_cases i:d=x.d
 ·simp[i,a]
 simp[i]
theorem LL(t:List (Int×Int))(x:Chg)(l:List Chg):aJ t (x::l)=aJ (eH t x) l:=rfl
theorem lO:∀(l:List Chg) (t:List (Int×Int)),Good t->Dw t l->Good (aJ t l)/\∀d,d∈aV (aJ t l)↔(∃x∈l,x.d=d/\x.k≠2)\/((∀x∈l,x.d≠d)/\d∈aV t)
 |[],t,h,b=>⟨h,λd=>by simp[aJ]⟩
 |x::l,t,h,b=>by
  obtain⟨m,g⟩:=Lh h (b.each x (jA ..)) (b.mem x (jA ..));have i:=q9.1 (show(x.d::l.map Chg.d).Nodup from b.once);have j:∀y∈l,y.d≠x.d:=λy a e=>i.1 (by rw[<-e];exact wi a)
  obtain⟨n,o⟩:=lO l _ m ⟨λy a=>b.each y (jE _ a),i.2,λy a=>by
   rw[g,<-b.mem y (jE _ a)];have:=j y a;simp[this]⟩
  refine⟨n,λd=>?_⟩;rw[LL,o,g]
  constructor
  ·rintro(⟨y,a,e,k⟩|⟨c,⟨e,k⟩|⟨p,f⟩⟩)
   ·exact .inl ⟨y,jE _ a,e,k⟩
   ·exact .inl ⟨x,jA ..,e.symm,k⟩
   refine .inr ⟨λy a=>?_,f⟩
   rcases js.1 a with rfl|a
   ·exact λe=>p e.symm
   exact c y a
  rintro(⟨y,a,e,k⟩|⟨c,f⟩)
  ·rcases js.1 a with rfl|a
   ·refine .inr ⟨λz p=>?_,.inl ⟨e.symm,k⟩⟩
    rw[<-e];exact j z p
   exact .inl ⟨y,a,e,k⟩
  exact .inr ⟨λy a=>c y (jE _ a),.inr ⟨λe=>c x (jA ..) e.symm,f⟩⟩
theorem pD{g:Grp}{a:Int}{l:List Chg}(c:co g)(b:dG l)(d:eV g a l):Dw g.tree l:=by
 refine⟨b.each,b.once,λx e=>?_⟩;rw[<-Fb c,(d.each x e).1];simp
theorem uE{g:Grp}{a:Int}{l:List Chg}(b:co g)(f:dG l)(c:eV g a l):a∈aV (aJ g.tree l):=by
 rw[(lO l _ (iP b.tree) (pD b f c)).2]
 rcases Int.lt_or_le 0 g.epoch with h|h
 ·have d:cr g.mem a=true:=by rw[c.own];simpa using h
  exact .inr ⟨λx e=>(c.each x e).2 d,(Fb b a).1 d⟩
 have d:g.epoch=0:=by have:=b.ep.1;omega
 obtain⟨x,r,rfl,e⟩:=c.first d;have hk:x.k=1:=by
  have:=(c.each x (jA ..)).1;rw[(b.zero d).1]at this
  simpa [cr]using this
 exact .inl ⟨x,jA ..,e,by omega⟩
theorem Fa{t:List (Int×Int)}{d:Int}{l:List Int}(a:0<=d)(b:d<512){k:Nat}:∀m,k<m->m<=10->ofF (dO t d l m) ((512+d)/2^k)=T (l.getD k 0)
 |0,h,_=>absurd h Y
 |m+1,h,c=>by
  rw[rM a b Y]
  by_cases e:k=m
  ·rw[if_pos (by rw[e]),e]
  rw[if_neg,Fa a b m Y Y];have:=(oB a b (k:=m) Y).2 k Y;omega
theorem Ea{t:List (Int×Int)}{d:Int}{l:List Int}(a:0<=d)(b:d<512){y:Int}(c:¬Und (512+d) y):∀m,m<=10->ofF (dO t d l m) y=ofF t y
 |0,_=>by
  unfold dO;rw[zb,if_neg (λh=>c ((wy _ _).1 h))]
 |m+1,f=>by
  rw[rM a b Y,if_neg,Ea a b c m Y];exact λe=>c (by rw[e];exact yC a b Y)
theorem K9{t:List (Int×Int)}{d:Int}{l:List Int}(c:d∈aV t):aV (dO t d l 10)=aV t:=by
 obtain⟨a,b⟩:=sT c;refine tn (mi _) (mi _) (λx=>?_);rw[mem_iff,mem_iff]
 by_cases f:Und (512+d) (512+x)
 ·by_cases h:0<=x
  ·have e:512+x=512+d:=vF a b Y f
   have i:x=d:=Y;subst i;have g:=Fa (t:=t) (l:=l) a b (k:=0) 10 Y Y;simp only[Int.pow_zero,Int.ediv_one]at g;rw[g];have j:=(mem_iff t x).1 c;simp[j]
  simp[h]
 rw[Ea a b f 10 Y]
theorem O6{l:List Chg}(h:(l.map Chg.d).Nodup):((eX l).map Chg.d).Pairwise (·<·):=by
 have d:(eX l).Perm l:=jK _ _;have a:(eX l).Pairwise λx y=>decide (x.d<=y.d)=true:=wq (λa b c e f=>by simp at*;omega) (λa b=>by simp;omega) l
 have b:((eX l).map Chg.d).Nodup:=(d.map _).nodup_iff.2 h;have c:((eX l).map Chg.d).Pairwise (·<=·):=lm.2 (a.imp λh=>by simpa using h);exact(c.and b).imp λh=>by have:=h.1;have:=h.2;omega
theorem Ki{l:List Mem}(h:(l.map Mem.dev).Nodup):((ee l).map Mem.dev).Pairwise (·<·):=by
 have d:(ee l).Perm l:=jK _ _;have a:(ee l).Pairwise λx y=>decide (x.dev<=y.dev)=true:=wq (λa b c e f=>by simp at*;omega) (λa b=>by simp;omega) l
 have b:((ee l).map Mem.dev).Nodup:=(d.map _).nodup_iff.2 h;have c:((ee l).map Mem.dev).Pairwise (·<=·):=lm.2 (a.imp λh=>by simpa using h);exact(c.and b).imp λh=>by have:=h.1;have:=h.2;omega
theorem pF{l:List Mem}{c:List Chg}{ep:Int}(m:Mem):m∈eF l c ep↔(m∈l/\∀x∈c,x.d≠m.dev)\/∃x∈c,x.k≠2/\m=⟨x.d,ep,x.v⟩:=by
 unfold eF;rw[jI,jO,jk]
 constructor
 ·rintro(⟨b,a⟩|⟨x,b,a⟩)
  ·refine .inl ⟨b,λx d e=>?_⟩
   have:eL c m=true:=by unfold eL;exact ms.2 ⟨x,d,by simpa using e⟩
   rw[this]at a;cases a
  obtain⟨e,f⟩:=jO.1 b;exact .inr ⟨x,e,by simpa using f,a.symm⟩
 rintro(⟨b,a⟩|⟨x,b,a,e⟩)
 ·refine .inl ⟨b,?_⟩
  have:eL c m=false:=by
   unfold eL;rw[lr];intro x d
   simpa using a x d
  rw[this];rfl
 exact .inr ⟨x,jO.2 ⟨b,by simpa using a⟩,e.symm⟩
structure fS(g:Grp)(c:Cmt):Prop where
 val:co g
 chk:fl c
 fol:c.folder=g.folder
 ep:c.epoch=g.epoch+1
 par:c.parent=g.last
 form:dG c.chg
 poss:eV g c.author c.chg
 box:c.box.map (λb:Bx=>(b.lev,b.node))=dI (aJ g.tree c.chg) c.author
 wel:c.wel.map Wl.dev=(dk c.author c.chg).map Chg.d
 ver:kH (dt g c.author c.chg) c.r c.s (dm c)
 ren:et (aJ g.tree c.chg) c.author c.path=0
theorem rH{g:Grp}{a:Int}{l:List Chg}(h:cD g a l=0):dh g a l=dI (aJ g.tree l) a:=by unfold dh;rw[if_pos h]
theorem sG{g:Grp}:eJ g=true↔co g:=by unfold eJ;simp
theorem Nk{c:Cmt}:ff c=0↔fl c:=by
 constructor
 ·intro h
  exact Classical.byContradiction λa=>by rw[ef a]at h;cases h
 exact rX
theorem zy{g:Grp}{c:Cmt}:dc g c=0↔fS g c:=by
 unfold dc
 constructor
 ·intro h
  by_cases i:eJ g=false
  ·rw[if_pos i]at h;cases h
  rw[if_neg i]at h
  by_cases j:ff c≠0
  ·rw[if_pos j]at h;cases h
  rw[if_neg j]at h
  by_cases b:onB g c=false
  ·rw[if_pos b]at h;cases h
  rw[if_neg b]at h
  by_cases a:cD g c.author c.chg≠0
  ·rw[if_pos a]at h;exact absurd h a
  rw[if_neg a]at h
  by_cases d:gK g c=false
  ·rw[if_pos d]at h;cases h
  rw[if_neg d]at h
  by_cases k:iX (dt g c.author c.chg) c.r c.s (dm c)=false
  ·rw[if_pos k]at h;cases h
  rw[if_neg k]at h;have m:eJ g=true:=by simpa using i
  have e:onB g c=true:=by simpa using b
  have l:cD g c.author c.chg=0:=Classical.byContradiction a;have f:gK g c=true:=by simpa using d
  have n:iX (dt g c.author c.chg) c.r c.s (dm c)=true:=by simpa using k
  unfold onB at e;unfold gK at f;simp only[lv,beq_iff_eq,decide_eq_true_eq]at e f;obtain⟨-,o,p⟩:=mf.1 l;exact⟨sG.1 m,Nk.1 (Classical.byContradiction j),e.1.1,e.1.2,e.2,o,p,by rw[<-rH l];exact f.1,f.2,wU.1 n,h⟩
 intro h;have a:cD g c.author c.chg=0:=mf.2 ⟨h.val,h.form,h.poss⟩;have b:onB g c=true:=by unfold onB;simp[h.fol,h.ep,h.par]
 have d:gK g c=true:=by unfold gK;rw[rH a];simp[h.box,h.wel]
 rw[if_neg (by rw[sG.2 h.val];decide),if_neg (by rw[rX h.chk];decide),if_neg (by rw[b];decide),if_neg (by rw[a];decide),if_neg (by rw[d];decide),if_neg (by rw[wU.2 h.ver];decide)];exact h.ren
theorem En{g:Grp}{a:Int}{l:List Chg}{p:List Int}(b:co g)(c:dG l)(d:eV g a l)(h:p.length=10)(i:∀x∈p,aM x):et (aJ g.tree l) a p=0/\fW p:=by
 have e:fW p:=λj f=>by rw[eu _ f];exact fw (i _ (qv f))
 have k:=(lO l _ (iP b.tree) (pD b c d)).1;refine⟨?_,e⟩;unfold et;rw[if_pos (DJ (nR k) (uE b c d) true),if_pos ⟨h,e⟩]
theorem vq{g:Grp}{c:Cmt}(h:fS g c):co (bX g c):=by
 have o:=pD h.val h.form h.poss;obtain⟨p,q⟩:=lO c.chg _ (iP h.val.tree) o;have k:=uE h.val h.form h.poss;obtain⟨r,s⟩:=sT k;have t:=(En h.val h.form h.poss h.chk.plen h.chk.path).2;have l:(bX g c).tree=dO (aJ g.tree c.chg) c.author c.path 10:=by
  show im _ _ _ =_;unfold im;rw[if_pos h.ren]
 have u:=Ee (ep:=c.epoch) (nZ h.val) h.form.once;have n:(ee (eF g.mem c.chg c.epoch)).Perm (eF g.mem c.chg c.epoch):=jK _ _;refine⟨h.val.fol,⟨by have:=h.chk.ep;show 0<=c.epoch;omega,h.chk.ep.2⟩,?_,λe=>?_,?_,λm j=>?_⟩
 ·rw[l];exact nR (FH p r s h.chk.plen t)
 ·have:=h.chk.ep.1
  have a:c.epoch=0:=e;omega
 ·rw[l,K9 k]
  refine tn (Ki u) (mi _) (λd=>?_);show d∈List.map Mem.dev (ee (eF g.mem c.chg c.epoch))↔_;rw[(n.map Mem.dev).mem_iff,q]
  constructor
  ·intro a
   obtain⟨m,j,rfl⟩:=jk.1 a
   rcases(pF m).1 j with⟨f,i⟩|⟨x,f,i,rfl⟩
   ·refine .inr ⟨i,?_⟩
    rw[<-h.val.dev];exact wi f
   exact .inl ⟨x,f,rfl,i⟩
  rintro(⟨x,f,rfl,i⟩|⟨f,i⟩)
  ·exact jk.2 ⟨_,(pF _).2 (.inr ⟨x,f,i,rfl⟩),rfl⟩
  rw[<-h.val.dev]at i;obtain⟨m,j,rfl⟩:=jk.1 i;exact jk.2 ⟨m,(pF m).2 (.inl ⟨j,f⟩),rfl⟩
 show 1<=m.since/\m.since<=c.epoch/\_;have v:=h.ep;have w:=h.chk.ep.1
 rcases(pF m).1 (n.mem_iff.1 j)with⟨f,-⟩|⟨x,f,i,rfl⟩
 ·obtain⟨a,b,d⟩:=h.val.ok m f
  exact⟨a,by omega,d⟩
 refine⟨by show 1<=c.epoch;omega,by show c.epoch<=c.epoch;omega,?_⟩;obtain⟨-,hk⟩:=h.form.each x f
 rcases hk with⟨-,-,hk,-⟩|⟨hk,-⟩|⟨-,-,hk,-⟩
 ·exact hk
 ·exact absurd hk i
 exact hk
theorem AZ{α:Type}{x:α}{i:Nat}:∀{l:List α} {k:Nat},(x,i)∈l.zipIdx k->k<=i/\i<k+l.length/\x∈l
 |[],k,h=>by simp at h
 |y::l,k,h=>by
  rw[j9]at h
  rcases js.1 h with h|h
  ·injection h with a b
   subst a b;exact⟨jl _,by simp,jA ..⟩
  obtain⟨a,b,c⟩:=AZ h;exact⟨by omega,by rw[jt];omega,jE _ c⟩
theorem C9{t:List (Int×Int)}(f:Good t){a:Int}(g:0<=a)(j:a<512){k n:Int}(h:(k,n)∈dI t a):(1<=k/\k<=9)/\(1<=n/\n<1024)/\(ofF t n).isSome=true/\aM ((ofF t n).getD 0):=by
 unfold dI eB at h;obtain⟨⟨s,i⟩,l,o⟩:=List.mem_flatMap.1 h;obtain⟨w,p,-⟩:=AZ l;rw[wZ g j]at p;obtain⟨m,q,e⟩:=jk.1 o;injection e with r u
 subst r u;have c:=G0 q;obtain⟨v,d⟩:=qs.1 c;have b:=f.2 _ (mF d);refine⟨⟨by show(1:Int)<=(i:Int);omega,by show(i:Int)<=9;omega⟩,⟨b.1,by have:=b.2.1;show m<1024;have:m<=1023:=b.2.1;omega⟩,c,?_⟩;rw[d];exact b.2.2.1
theorem Mq(t:List (Int×Int))(x:Int):(dU t x).length<=2^hgt x.toNat:=by
 unfold dU
 split
 ·exact pj _ _ _
 simp
theorem MI(t:List (Int×Int)):∀(l:List Int) (k:Nat),(eB t l k).length<=(l.map λs=>2^hgt s.toNat).sum:=by
 intro l
 induction l with
 |nil=>intro k;simp[eB]
 |cons y l a=>
  intro k;have h:=a (k+1);unfold eB at h⊢;rw[j9,qj,jq,ji,qg,List.sum_cons];have b:(dU t (y,k).1).length<=2^hgt y.toNat:=Mq t y;omega
theorem GL:∀n:Fin 512,((lN n.val).map λs=>2^hgt s).sum=511:=by decide+kernel
theorem zY(t:List (Int×Int)){a:Int}(b:0<=a)(c:a<512):(dI t a).length<=511:=by
 unfold dI;refine jn (MI _ _ _) ?_;have e:((gA a).map λs=>2^hgt s.toNat)=(lN a.toNat).map λs=>2^hgt s:=by
  unfold gA;rw[jX]
  rfl
 rw[e];have:=GL ⟨a.toNat,by omega⟩;exact qQ this
theorem Bz(a n b P:Nat)(c:1%P=1)(h:a^b%P=1):a^(n%b)%P=a^n%P:=by
 have e:a^n=(a^b)^(n/b)*a^(n%b):=by rw[<-Nat.pow_mul,<-qn,qH]
 have d:(a^b)^(n/b)%P=1:=by rw[Nat.pow_mod,h,Nat.one_pow,c]
 rw[e,Nat.mul_mod,d,Nat.one_mul,Nat.mod_mod]
theorem Mc(a k e x b P:Nat)(c:1%P=1)(h:a^b%P=1):a^((k+e*x%b)%b)%P=(a^k%P)*((a^x%P)^e%P)%P:=by
 rw[Bz a _ b P c h,qn,Nat.mul_mod,Bz a (e*x) b P c h,<-Nat.pow_mod,<-Nat.pow_mul,mb x e]
theorem KD:1%PN=1:=by decide
theorem OS{n:Int}{m:Nat}(h:n.toNat=m)(a:aM n):m^QN%PN=1:=by rw[<-h];exact a.2.2
theorem NV(x:Nat)(msg:LBy):kH (aG 4 x:Nat) (kJ x msg:Nat) (k8 x msg:Nat) msg:=by
 refine⟨mT (a:=4) kY x,mT (a:=4) kY _,⟨by omega,?_⟩,?_⟩
 ·have h:k8 x msg<QN:=qG _ L
  have b:QN=2305843009213688669:=rfl;omega
 simp only[Int.toNat_natCast];unfold k8;generalize pZ (kJ x msg) (aG 4 x) msg=e;unfold kJ;generalize rQ x msg=k;unfold aG;exact Mc 4 k e x QN PN KD (OS rfl kY)
def mH:ByteArray:=⟨#[98,111,120]⟩
def mN:ByteArray:=⟨#[119,101,108,99,111,109,101]⟩
def sa:ByteArray:=⟨#[99,111,109,109,105,116,32,98,111,100,121]⟩
def dj:LBy:=jY 32 0#8
def dp(a:LBy):List Int:=(ow 10).map λi=>((aG 4 (lK (bU a i)):Nat):Int)
def yq(t:List (Int×Int))(n:Int):Nat:=((ofF t n).getD 0).toNat
def mk0(g:Grp)(a:Int)(b:List Chg)(c:LBy):Cmt:=⟨g.folder,g.epoch+1,g.last,a,b,dp c,[],[],dj,0,0⟩
noncomputable def dZ(g:Grp)(a:Int)(b:List Chg)(c seed:LBy)(x:Int×Int):Bx:=
 ⟨x.2,x.1,(aG 4 (kv (eM seed mH [x.1,x.2])):Nat),ge (yq (aJ g.tree b) x.2) (eM seed mH [x.1,x.2]) (mp (mk0 g a b c) mH [x.1,x.2]) (bU c x.1.toNat)⟩
def fF(g:Grp)(a init:LBy):LBy:=rE (if g.epoch=0 then dj else init) (bU a 9)
def fD(g:Grp)(a:Int)(c:List Chg)(b init seed:LBy)(y:Chg):Wl:=
 ⟨y.d,(aG 4 (kv (eM seed mN [y.d])):Nat),ge y.p.toNat (eM seed mN [y.d]) (mp (mk0 g a c b) mN [y.d]) (fF g b init)⟩
noncomputable def mk1(g:Grp)(a:Int)(b:List Chg)(c init seed:LBy):Cmt:=
 ⟨g.folder,g.epoch+1,g.last,a,b,dp c,(dI (aJ g.tree b) a).map (dZ g a b c seed),(dk a b).map (fD g a b c init seed),dj,0,0⟩
noncomputable def mk2(g:Grp)(a:Int)(c:List Chg)(b init seed:LBy):Cmt:=
 {mk1 g a c b init seed with confirm:=pL (fF g b init) (cP sa ((aB (mk1 g a c b init seed)).take 8))}
noncomputable def mkC(g:Grp)(a:Int)(x:Nat)(b:List Chg)(c init seed:LBy):Cmt:=
 {mk2 g a b c init seed with r:=(kJ x (dm (mk2 g a b c init seed)):Nat),s:=(k8 x (dm (mk2 g a b c init seed)):Nat)}
theorem I5(c:Cmt)(r s:Int):dm {c with r:=r,s:=s}=dm c:=by obtain⟨a,b,c,d,e,f,g,h,i,j,k⟩:=c;rfl
theorem Nr(g:Grp)(a:Int)(x:Nat)(b:List Chg)(c init seed:LBy):dm (mkC g a x b c init seed)=dm (mk2 g a b c init seed):=by unfold mkC;exact I5 _ _ _
theorem Ir(c:Cmt)(k:LBy)(r s:Int)(h:k.length=32):({({c with confirm:=k}:Cmt)with r:=r,s:=s}:Cmt).confirm.length=32:=h
theorem Hk(g:Grp)(a:Int)(x:Nat)(b:List Chg)(c init seed:LBy):(mkC g a x b c init seed).chg=b/\(mkC g a x b c init seed).parent=g.last/\(mkC g a x b c init seed).box=(dI (aJ g.tree b) a).map (dZ g a b c seed)/\
 (mkC g a x b c init seed).wel=(dk a b).map (fD g a b c init seed)/\(mkC g a x b c init seed).confirm.length=32/\(mkC g a x b c init seed).path=dp c:=
 ⟨rfl,rfl,rfl,rfl,by unfold mkC mk2;exact Ir _ _ _ _ (oX _ _),rfl⟩
theorem AJ{b:LBy}:∀p∈dp b,aM p:=λp c=>by
 obtain⟨i,-,rfl⟩:=jk.1 c;exact mT (a:=4) kY _
theorem iO(a:LBy):(dp a).length=10:=by simp[dp]
theorem EY{a:Int}{l:List Chg}{y:Chg}:y∈dk a l↔y∈l/\y.k≠2/\y.d≠a:=by
 unfold dk eX;rw[(jK _ _).mem_iff,jO];simp[kL]
theorem zX(a:Int)(l:List Chg):(dk a l).length<=l.length:=by
 unfold dk eX;rw[(jK _ _).length_eq];exact qC _ _
theorem lL(p seed hd b):(ge p seed hd b).length=b.length+16:=OK _ _ _ _
theorem kz(g leaf init):(fF g leaf init).length=32:=uu _ _
theorem Hr{l:List Int}(h:l.Pairwise (·<·)){i:Nat}(b:0<i)(a:i<l.length):l.getD (i-1) 0<l.getD i 0:=by
 rw[eu _ Y,eu _ a];exact(pz.1 h) (i-1) i Y a Y
theorem zn{g:Grp}{a:Int}{x:Nat}{c:List Chg}{d init seed:LBy}(p:cD g a c=0)(z:g.epoch<1099511627776)(hk:dt g a c=(aG 4 x:Nat))(q:d.length=32):fS g (mkC g a x c d init seed):=by
 obtain⟨h,f,j⟩:=mf.1 p;have r:=(lO c _ (iP h.tree) (pD h f j)).1;have s:=uE h f j;obtain⟨l,m⟩:=sT s;have o:((dk a c).map (fD g a c d init seed)).map Wl.dev=(dk a c).map Chg.d:=by rw[jX];rfl
 have t:((dk a c).map Chg.d).Pairwise (·<·):=O6 (f.once.sublist (qh.map _));refine⟨h,?_,rfl,rfl,rfl,f,j,?_,o,?_,?_⟩
 ·refine⟨h.fol,⟨by have:=h.ep.1;show 1<=g.epoch+1;omega,by show g.epoch+1<=_;omega⟩,⟨l,m⟩,f,iO d,?_,?_,AJ,?_,?_,?_⟩
  ·show((dI (aJ g.tree c) a).map _).length<=1024
   rw[ji];have:=zY (aJ g.tree c) l m;omega
  ·show((dk a c).map _).length<=512
   rw[ji];have:=zX a c;have:=f.len;omega
  ·intro b e
   obtain⟨⟨k,n⟩,i,rfl⟩:=jk.1 e;obtain⟨⟨u,v⟩,⟨w,y⟩,-,-⟩:=C9 r l m i;refine⟨w,y,u,v,mT (a:=4) kY _,?_,?_⟩
   ·show 16<=(ge _ _ _ _).length
    rw[lL];omega
   show(ge _ _ _ _).length<=65552;rw[lL,en d q];omega
  ·intro b e
   obtain⟨y,i,rfl⟩:=jk.1 e;have k:=(f.each y (EY.1 i).1).1;refine⟨k,mT (a:=4) kY _,?_,?_⟩
   ·show 16<=(ge _ _ _ _).length
    rw[lL];omega
   show(ge _ _ _ _).length<=65552;rw[lL,kz];omega
  intro i b k;have e:(mkC g a x c d init seed).wel.map Wl.dev=(dk a c).map Chg.d:=o;rw[e];refine Hr t b ?_;rw[<-e,ji];exact k
 ·show((dI (aJ g.tree c) a).map (dZ g a c d seed)).map _ =_
  rw[jX];exact(qw (λy _=>rfl)).trans (List.map_id _)
 ·show kH (dt g a c) _ _ _
  rw[hk,Nr];exact NV x _
 exact(En h f j (iO d) AJ).1
def IR(x:Int):Prop:=-9223372036854775808<=x/\x<9223372036854775808
theorem IR.of{x:Int}(h:I64 x):IR x:=by
 have:=bounds_i64 h;unfold IR;omega
structure dx(c:Cmt):Prop where
 ints:IR c.folder/\IR c.epoch/\IR c.author/\IR c.r/\IR c.s
 plen:c.parent.length=32
 clen:c.confirm.length=32
 chg:c.chg.length<=64/\∀x∈c.chg,IR x.k/\IR x.d/\IR x.p/\IR x.v/\IR x.c
 path:c.path.length<=12/\∀x∈c.path,IR x
 box:c.box.length<=1024/\∀b∈c.box,IR b.node/\IR b.lev/\IR b.u/\b.body.length<=200
 wel:c.wel.length<=512/\∀b∈c.wel,IR b.dev/\IR b.u/\b.body.length<=200
theorem bV{f:Nat}{n:Int}(h:IR n):wfV f (vI n):=by unfold vI;cases f<;>rw[wfV]<;>exact .inl ⟨rfl,h.1,h.2,rfl,rfl⟩
theorem tR(b:LBy):(ofB b).size=b.length:=by rw[<-eA,ng]
theorem nE{f:Nat}{b:LBy}(h:b.length<=1000000):wfV f (vT b):=by unfold vT;cases f<;>rw[wfV]<;>exact .inr (.inl ⟨rfl,rfl,by rw[tR];omega,rfl⟩)
theorem fM{f:Nat}{l:List Val}(h:∀x∈l,wfV f x)(a:l.length<=1000000):wfV (f+1) (vL l):=by unfold vL;rw[wfV];exact .inr (.inr ⟨rfl,rfl,rfl,by omega,h⟩)
theorem dN{n:Int}(h:IR n):(enc (vI n)).length<=11:=by
 unfold vI;rw[enc,if_pos rfl,jt];have:=kp _ (o7 n h.1 h.2);omega
theorem ra{b:LBy}(h:b.length<=1000000):(enc (vT b)).length<=11+b.length:=by
 unfold vT;rw[enc,if_neg L,if_pos rfl,jt,jq,ng,tR];have:=kp b.length Y;omega
theorem iK{l:List Val}(h:l.length<=1000000):(enc (vL l)).length<=11+(encs l).length:=by
 rw[gQ,jt,jq];have:=kp l.length Y;omega
theorem mR{m:Nat}:∀{l:List Val},(∀x∈l,(enc x).length<=m)->(encs l).length<=l.length*m
 |[],_=>by simp[encs]
 |x::l,h=>by
  rw[encs,jq,jt];have b:=h x (jA ..);have c:=mR (l:=l) λy a=>h y (jE _ a)
  rw[Nat.succ_mul];omega
theorem m8(x:Val)(l:List Val):encs (x::l)=enc x++encs l:=by rw[encs]
theorem If{x:Chg}(h:IR x.k/\IR x.d/\IR x.p/\IR x.v/\IR x.c)(f:Nat):wfV (f+1) x.val/\(enc x.val).length<=66:=by
 obtain⟨a,b,c,d,e⟩:=h;refine⟨fM (λy g=>?_) ar,?_⟩
 ·simp only[js,ki,or_false]at g
  rcases g with rfl|rfl|rfl|rfl|rfl
  ·exact bV a
  ·exact bV b
  ·exact bV c
  ·exact bV d
  exact bV e
 refine jn (iK ar) ?_;have:=dN a;have:=dN b;have:=dN c;have:=dN d;have:=dN e;simp only[m8,jq,encs,jM];omega
theorem GV{x:Bx}(h:IR x.node/\IR x.lev/\IR x.u/\x.body.length<=200)(f:Nat):wfV (f+1) x.val/\(enc x.val).length<=300:=by
 obtain⟨a,b,c,d⟩:=h;refine⟨fM (λy e=>?_) ar,?_⟩
 ·simp only[js,ki,or_false]at e
  rcases e with rfl|rfl|rfl|rfl
  ·exact bV a
  ·exact bV b
  ·exact bV c
  exact nE Y
 refine jn (iK ar) ?_;have:=dN a;have:=dN b;have:=dN c;have:=ra (b:=x.body) Y;simp only[m8,jq,encs,jM];omega
theorem Ng{x:Wl}(h:IR x.dev/\IR x.u/\x.body.length<=200)(f:Nat):wfV (f+1) x.val/\(enc x.val).length<=300:=by
 obtain⟨a,b,d⟩:=h;refine⟨fM (λy c=>?_) ar,?_⟩
 ·simp only[js,ki,or_false]at c
  rcases c with rfl|rfl|rfl
  ·exact bV a
  ·exact bV b
  exact nE Y
 refine jn (iK ar) ?_;have:=dN a;have:=dN b;have:=ra (b:=x.body) Y;simp only[m8,jq,encs,jM];omega
theorem dx.encOk{c:Cmt}(h:dx c):dC (aB c):=by
 obtain⟨e,f,g,i,j⟩:=h.ints;have k:∀x∈c.chg.map Chg.val,wfV 14 x/\(enc x).length<=66:=λx a=>by
  obtain⟨y,d,rfl⟩:=jk.1 a;exact If (h.chg.2 y d) 13
 have m:∀x∈c.path.map vI,wfV 14 x/\(enc x).length<=11:=λx a=>by
  obtain⟨y,d,rfl⟩:=jk.1 a;exact⟨bV (h.path.2 y d),dN (h.path.2 y d)⟩
 have n:∀x∈c.box.map Bx.val,wfV 14 x/\(enc x).length<=300:=λx a=>by
  obtain⟨y,d,rfl⟩:=jk.1 a;exact GV (h.box.2 y d) 13
 have o:∀x∈c.wel.map Wl.val,wfV 14 x/\(enc x).length<=300:=λx a=>by
  obtain⟨y,d,rfl⟩:=jk.1 a;exact Ng (h.wel.2 y d) 13
 have d:(c.chg.map Chg.val).length<=64:=by rw[ji];exact h.chg.1
 have p:(c.path.map vI).length<=12:=by rw[ji];exact h.path.1
 have q:(c.box.map Bx.val).length<=1024:=by rw[ji];exact h.box.1
 have r:(c.wel.map Wl.val).length<=512:=by rw[ji];exact h.wel.1
 have s:=iK (l:=c.chg.map Chg.val) Y;have t:=iK (l:=c.path.map vI) Y;have u:=iK (l:=c.box.map Bx.val) Y;have v:=iK (l:=c.wel.map Wl.val) Y;have w:=jn (mR λx a=>(k x a).2) (jW 66 d);have y:=jn (mR λx a=>(m x a).2) (jW 11 p);have z:=jn (mR λx a=>(n x a).2) (jW 300 q);have B:=jn (mR λx a=>(o x a).2) (jW 300 r);have C:=ra (b:=c.parent) (by rw[h.plen];decide);have D:=ra (b:=c.confirm) (by rw[h.clen];decide);have E:=dN e;have F:=dN f;have H:=dN g;have K:=dN i;have M:=dN j;have P:=h.plen;have Q:=h.clen;refine⟨fM (λx a=>?_) (by simp[aB]),?_⟩
 ·unfold aB at a
  simp only[js,ki,or_false]at a
  rcases a with rfl|rfl|rfl|rfl|rfl|rfl|rfl|rfl|rfl|rfl|rfl
  ·exact bV e
  ·exact bV f
  ·exact nE Y
  ·exact bV g
  ·exact fM (λx a=>(k x a).1) Y
  ·exact fM (λx a=>(m x a).1) Y
  ·exact fM (λx a=>(n x a).1) Y
  ·exact fM (λx a=>(o x a).1) Y
  ·exact nE Y
  ·exact bV i
  exact bV j
 refine jn (iK (by simp[aB])) ?_;unfold aB;simp only[m8,jq,encs,jM];omega
theorem AN{c:Cmt}{nums:List Int}(d:IR c.folder)(f:IR c.epoch)(g:IR c.author)(k:c.parent.length=32)(h:∀x∈nums,IR x)(l:nums.length<=2):dC ((aB c).take 4++nums.map vI):=by
 have e:(aB c).take 4=[vI c.folder,vI c.epoch,vT c.parent,vI c.author]:=rfl;have m:=ra (b:=c.parent) (by rw[k];decide);have n:=dN d;have o:=dN f;have p:=dN g;have i:∀x∈nums.map vI,wfV 15 x/\(enc x).length<=11:=λx a=>by
  obtain⟨y,j,rfl⟩:=jk.1 a;exact⟨bV (h y j),dN (h y j)⟩
 have j:(nums.map vI).length<=2:=by rw[ji];exact l
 have q:=jn (mR λx a=>(i x a).2) (jW 11 j);rw[e];refine⟨fM (λx a=>?_) (by rw[jq];simp only[jt,jM];omega),?_⟩
 ·rw[jI]at a
  rcases a with a|a
  ·simp only[js,ki,or_false]at a
   rcases a with rfl|rfl|rfl|rfl
   ·exact bV d
   ·exact bV f
   ·exact nE Y
   exact bV g
  exact(i x a).1
 refine jn (iK (by rw[jq];simp only[jt,jM];omega)) ?_;rw[o5,jq];simp only[m8,jq,encs,jM];omega
theorem DG{s:ByteArray}{nums:List Int}(f:s.size<=1000)(b:∀x∈nums,IR x)(e:nums.length<=2):yy s nums:=by
 have c:∀x∈nums.map vI,wfV 15 x/\(enc x).length<=11:=λx a=>by
  obtain⟨y,d,rfl⟩:=jk.1 a;exact⟨bV (b y d),dN (b y d)⟩
 have d:(nums.map vI).length<=2:=by rw[ji];exact e
 have g:=jn (mR λx a=>(c x a).2) (jW 11 d);have h:(enc (.mk 2 0 s [])).length<=11+s.size:=by
  rw[enc,if_neg L,if_pos rfl,jt,jq,eA];have:=kp s.size Y;omega
 refine⟨fM (λx a=>?_) (by rw[jt];omega),?_,by omega⟩
 ·rcases js.1 a with rfl|a
  ·rw[wfV];exact .inr (.inl ⟨rfl,rfl,by omega,rfl⟩)
  exact(c x a).1
 unfold iD;refine jn (iK (by rw[jt];omega)) ?_;rw[m8,jq];omega
theorem kZ{x:Int}(h:aM x):IR x:=⟨by have:=h.1;omega,by have:=h.2.1;omega⟩
theorem D4{g:Grp}{a:Int}{x:Nat}{f:List Chg}{i init seed:LBy}(l:cD g a f=0)(t:g.epoch<1099511627776)(hk:dt g a f=(aG 4 x:Nat))(m:i.length=32)(u:g.last.length=32):dx (mkC g a x f i init seed):=by
 have h:=zn (seed:=seed) (init:=init) l t hk m;obtain⟨n,v,w,z,B,M⟩:=Hk g a x f i init seed;have j:∀b∈(mkC g a x f i init seed).box,b.body.length<=200:=λb j=>by
  rw[w]at j;obtain⟨y,-,rfl⟩:=jk.1 j;unfold dZ;show(ge _ _ _ _).length<=200;rw[lL,en i m];omega
 have C:∀b∈(mkC g a x f i init seed).wel,b.body.length<=200:=λb j=>by
  rw[z]at j;obtain⟨y,-,rfl⟩:=jk.1 j;unfold fD;show(ge _ _ _ _).length<=200;rw[lL,kz];omega
 generalize mkC g a x f i init seed=c at*;obtain⟨P,o,q⟩:=mf.1 l;have D:∀x∈f,IR x.k/\IR x.d/\IR x.p/\IR x.v/\IR x.c:=λy E=>by
  obtain⟨⟨p,r⟩,hk⟩:=o.each y E;have k:IR y.d:=⟨by omega,by omega⟩
  rcases hk with⟨a,b,c,d⟩|⟨a,b,c,d,e⟩|⟨a,b,c,d,e⟩
  ·exact⟨by rw[a];exact⟨by omega,by omega⟩,k,kZ b,kZ c,by rw[d];exact⟨by omega,by omega⟩⟩
  ·exact⟨by rw[a];exact⟨by omega,by omega⟩,k,by rw[b];exact⟨by omega,by omega⟩,by rw[c];exact⟨by omega,by omega⟩,⟨by omega,by omega⟩⟩
  exact⟨by rw[a];exact⟨by omega,by omega⟩,k,kZ b,kZ c,⟨by omega,by omega⟩⟩
 have Q:=h.chk.ep;have k:=h.chk.fol;have r:=h.chk.aut;have F:=h.ver.2.1;have s:=h.ver.2.2.1;refine⟨⟨⟨by have:=k.1;omega,by have:=k.2;omega⟩,⟨by omega,by omega⟩,⟨by have:=r.1;omega,by have:=r.2;omega⟩,kZ F,⟨by have:=s.1;omega,by have:=s.2;omega⟩⟩,by rw[v];exact u,B,⟨by rw[n];exact o.len,by rw[n];exact D⟩,⟨by have:=h.chk.plen;omega,λp q=>kZ (h.chk.path p q)⟩,⟨h.chk.blen,λb d=>?_⟩,⟨h.chk.wlen,λb d=>?_⟩⟩
 ·obtain⟨H,K,R,S,e⟩:=h.chk.box b d
  exact⟨⟨by omega,by omega⟩,⟨by omega,by omega⟩,kZ e.1,j b d⟩
 obtain⟨⟨H,K⟩,e⟩:=h.chk.wel b d;exact⟨⟨by omega,by omega⟩,kZ e.1,C b d⟩
def nx(k:Int):List Val->Option (Val×List Val)
 |[]=>ic
 |x::l=>if x.k=k then T (x,l)else ic
def rI(l:List Val):Option (Int×List Val):=(nx 1 l).map λr=>(r.1.n,r.2)
def rT(l:List Val):Option (ByteArray×List Val):=(nx 2 l).map λr=>(r.1.s,r.2)
def rD(l:List Val):Option (LBy×List Val):=(rT l).bind λr=>if r.1.size=32 then T (aK r.1,r.2)else ic
def rW(l:List Val):Option ((Int×LBy)×List Val):=(rI l).bind λa=>(rT a.2).map λb=>((a.1,aK b.1),b.2)
def rL(l:List Val):Option (List Val×List Val):=(nx 3 l).map λr=>(r.1.l,r.2)
def gU(l:List Val):Option Chg:=
 (rI l).bind λa=>(rI a.2).bind λb=>(rI b.2).bind λc=>(rI c.2).bind λd=>(rI d.2).map λe=>⟨a.1,b.1,c.1,d.1,e.1⟩
def rBx(l:List Val):Option Bx:=(rI l).bind λa=>(rI a.2).bind λb=>(rW b.2).map λc=>⟨a.1,b.1,c.1.1,c.1.2⟩
def rWl(l:List Val):Option Wl:=(rI l).bind λa=>(rW a.2).map λc=>⟨a.1,c.1.1,c.1.2⟩
def bL{α:Type}(f:List Val->Option α):List Val->Option (List α)
 |[]=>T []
 |v::l=>if v.k=3 then(f v.l).bind λa=>(bL f l).map (a::·)else ic
def cR:List Val->Option (List Int)
 |[]=>T []
 |v::l=>if v.k=1 then(cR l).map (v.n::·)else ic
def gC(v:Val):Option Cmt:=
 (rI v.l).bind λa=>(rI a.2).bind λb=>(rD b.2).bind λp=>(rI p.2).bind λau=>(rL au.2).bind λc=>(bL gU c.1).bind λh=>
 (rL c.2).bind λd=>(cR d.1).bind λi=>(rL d.2).bind λe=>(bL rBx e.1).bind λbox=>(rL e.2).bind λf=>(bL rWl f.1).bind λwel=>
 (rD f.2).bind λg=>(rI g.2).bind λr=>(rI r.2).map λs=>⟨a.1,b.1,p.1,au.1,h,i,box,wel,g.1,r.1,s.1⟩
def gO:List PanicEntry:=[{v:=.iface 41 (I N 10),recovered:=false}]
theorem oP(r:jc)(w:jb):jg je 125 #[r,.bool true] w λe w'=>e=jh (jr #[])/\w=w':=by
 go_enter func125,ntmps125
 go_wp2
 go_end0
 exact⟨rfl,rfl⟩
theorem nM(r:jc)(w:jb):jg je 125 #[r,.bool false] w λe w'=>e=.panicked gO/\w=w':=by
 go_enter func125,ntmps125
 go_wp2
 exact⟨rfl,rfl,rfl⟩
theorem Hl{P:nn}(t e:ju)(b:P.underlying t=T (.slice e))(i:∀w,(sizeOf e).run P w=.ok 1 w)(p:Option jv)(n c l:Nat)(k:l<=n)(m:n<=c)(j:p=ic->c=0):
 ∃d,(∀W,(Instr.sliceAt t (ih p n c) (T (I N (l:Int))) ic ic).run P W=.ok (ih d (n-l) (c-l)) W)/\(d=ic->p=ic)/\(0<n-l->∀g o,p=T ⟨g,o,ic⟩->d=T ⟨g,o+l,ic⟩):=by
 have he:P.elem t=e:=by simp[Program.elem,b]
 rcases p with _|a
 ·obtain rfl:=j rfl
  obtain rfl:n=0:=Y;obtain rfl:l=0:=Y;refine⟨ic,λW=>?_,λ_=>rfl,λh=>absurd h Y⟩;rw[qW W t _ _ _ _ (by rw[he];exact b),run_slice_l W t _ 0 0 (by rw[he];exact b) .i64 _ Y Y,he];simp[i,Result.andThen,sliced]
 refine⟨T (if c=l then a else a.add l),λW=>?_,λh=>(by cases h),λh g o f=>?_⟩
 ·rw[qW W t _ _ _ _ (by rw[he];exact b),run_slice_l W t _ n c (by rw[he];exact b) .i64 _ Y Y,he]
  simp[i,Result.andThen,sliced]
  by_cases h:c=l
  ·simp[h]
  rw[if_neg Y,if_neg h]
 injection f with f
 subst f;rw[if_neg Y];simp[Addr.add]
theorem Kt{P:nn}(t e:ju)(a:P.underlying t=T (.slice e))(b:∀w,(sizeOf e).run P w=.ok 1 w)(p:Option jv)(n c l:Nat)(d:l<=c)(W:jb):
 (Instr.sliceAt t (ih p n c) ic (T (I N (l:Int))) (T (I N (l:Int)))).run P W=.ok (ih p l l) W:=by
 have he:P.elem t=e:=by simp[Program.elem,a]
 rw[qW W t _ _ _ _ (by rw[he];exact a),run_slice_hm W t _ n c (by rw[he];exact a) .i64 .i64 _ _ Y Y Y,he]
 cases p<;>simp[b,Result.andThen,sliced,Addr.add]
theorem zQ:∀w,(sizeOf 5).run je w=.ok 1 w:=λw=>by go_simp
def RdC(w:jb)(R:Nat)(l:LBy):Prop:=∃(p:Option jv) (c:Nat),w.heap[R]?=T (ii #[ih p l.length c] 206 (0,0))/\ap (·<R) w (ih p l.length c) 1 l.length (l.map v8)
theorem RdC.but{w w':jb}{R:Nat}{l:LBy}(h:RdC w R l)(hk:∀k,k<w.heap.size->w'.heap[k]?=w.heap[k]?):RdC w' R l:=by
 obtain⟨p,c,a,b⟩:=h;have d:R<w.heap.size:=(jy.1 a).1;exact⟨p,c,(hk R d).trans a,b.keep (λg (e:g<R)=>hk g Y)⟩
theorem RdC.lt{w:jb}{R:Nat}{l:LBy}(h:RdC w R l):R<w.heap.size:=by
 obtain⟨p,c,a,-⟩:=h;exact(jy.1 a).1
theorem ap.takeB{D:Nat->Prop}{w:jb}{p:Option jv}{a c n:Nat}{l:LBy}(h:ap D w (ih p a c) 1 a (l.map v8))(v:n<=a):ap D w (ih p n n) 1 n ((l.take n).map v8):=by
 obtain⟨d,x,y,e,z,f,i⟩:=h;injection e with k B m
 subst k;subst m;have q:l.length=a:=by simpa using d
 refine⟨by simp[q];omega,p,n,rfl,jl _,λr=>by have:=f r;omega,λC=>?_⟩;obtain⟨g,o,ep,s,t⟩:=i Y;refine⟨g,o,ep,s,λj u b=>t j u ?_⟩;rw[List.map_take,List.getElem?_take]at b
 split at b
 ·exact b
 cases b
theorem ap.dropB{D:Nat->Prop}{w:jb}{p b:Option jv}{a c n:Nat}{l:LBy}(h:ap D w (ih p a c) 1 a (l.map v8))(B:n<=a)(f:b=ic->p=ic)(i:0<a-n->∀g o,p=T ⟨g,o,ic⟩->b=T ⟨g,o+n,ic⟩):ap D w (ih b (a-n) (c-n)) 1 (a-n) ((l.drop n).map v8):=by
 obtain⟨k,C,E,e,F,m,q⟩:=h;injection e with r H s
 subst r;subst s;have t:l.length=a:=by simpa using k
 refine⟨by simp[t],b,c-n,rfl,by omega,λu=>by have:=m (f u);omega,λv=>?_⟩;obtain⟨g,o,ep,x,y⟩:=q Y;refine⟨g,o+n,i v g o ep,x,λj z d=>?_⟩;rw[ql];exact y (n+j) z (by rw[List.map_drop,List.getElem?_drop]at d;exact d)
theorem nh{w:jb}{b i k:Nat}(v:jc)(h:k≠b):(w.setCell ⟨b,i,ic⟩ v).heap[k]?=w.heap[k]?:=tx _ _ _ _ h
theorem Nh{w:jb}{b i:Nat}{cs:Array jc}{t:ju}(v:jc)(h:w.heap[b]?=T (ii cs t (0,0))):(w.setCell ⟨b,i,ic⟩ v).heap[b]?=T (ii (cs.setIfInBounds i v) t (0,0)):=by
 show(w.heap.modify b _)[b]?=_;rw[qJ];simp[h]
theorem sd(w:jb)(a:jv)(v:jc):(w.setCell a v).heap.size=w.heap.size:=by simp[uy]
theorem L1(w:jb)(R i:Nat)(v:jc):aD R w.heap.size w (w.setCell ⟨R,i,ic⟩ v):=⟨rfl,rfl,rfl,qQ (sd _ _ _).symm,λk _ a=>nh v a⟩
theorem vv(R n:Nat)(l:LBy)(w:jb)(h:RdC w R l)(d:n<=l.length)(v:l.length<=1000000):
 jg je 180 #[jj (T ⟨R,0,ic⟩),I N (n:Int)] w λe w'=>∃p,e=jh (ih p n n)/\ap (·<R) w' (ih p n n) 1 n ((l.take n).map v8)/\RdC w' R (l.drop n)/\aD R w.heap.size w w':=by
 obtain⟨p,c,b,f⟩:=h;obtain⟨r,H,K,e,g,j,k⟩:=id f;injection e with x m y
 subst x;subst y;obtain⟨a,o⟩:=J l.length;rw[<-o]at b f r g k d v;have z:n<=c:=Y;obtain⟨q,M,s,t⟩:=Hl 59 5 underlying59 zQ p a c n d g j;have P:=Kt 59 5 underlying59 zQ p a c n z;have Q:=aj ((n:Int)<=(a:Int));have S:=aj (n<=a);have U:w.cell? ⟨R,0,ic⟩=T (ih p a c):=cell_of b rfl;obtain⟨-,V,-,-⟩:=bH (i:=0) (ih q (a-n) (c-n)) b ar;have B:=O b;have u:=O f;have C:=O o;have W:=O j;have X:=O k;have D:=O s;have E:=O t;have F:=O (oP (jj (T ⟨R,0,ic⟩)) w);clear b f r g j k s t o
 go_enter func180,ntmps180
 go_wp2_with fail
 refine F.mono ?_;rintro e w' ⟨rfl,rfl⟩
 go_wp2_with fail
 go_ret;have b:=Nh (i:=0) (ih q (a-n) (c-n)) B;have m:(l.drop n).length=a-n:=by rw[List.length_drop,C]
 refine⟨p,rfl,(u.takeB d).keep (λg (f:g<R)=>nh _ Y),⟨q,c-n,by rw[m];exact b,?_⟩,L1 _ _ _ _⟩;rw[m];exact(u.dropB d D E).keep (λg (f:g<R)=>nh _ Y)
theorem CI(R n:Nat)(l:LBy)(w:jb)(h:RdC w R l)(f:l.length<n)(j:n<=1000000):
 jg je 180 #[jj (T ⟨R,0,ic⟩),I N (n:Int)] w λe w'=>e=.panicked gO/\w=w':=by
 obtain⟨p,c,a,g⟩:=h;obtain⟨b,d⟩:=J l.length;rw[<-d]at a f;have k:=ak ((n:Int)<=(b:Int));have m:=ak (n<=b);have o:w.cell? ⟨R,0,ic⟩=T (ih p b c):=cell_of a rfl;have i:=O (nM (jj (T ⟨R,0,ic⟩)) w);clear a g d
 go_enter func180,ntmps180
 go_wp2_with fail
 refine i.mono ?_;rintro e w' ⟨rfl,rfl⟩;exact⟨rfl,rfl,rfl⟩
theorem Et{f i:Nat}{b:BitVec 8}{l:LBy}(h:¬((i=0\/b≠0#8)/\(i<9\/b.toNat<=1))):bP f i (b::l)=ic:=by
 cases f<;>simp only[bP,if_neg h]
theorem uI{f i:Nat}{b:BitVec 8}{l:LBy}(h:(i=0\/b≠0#8)/\(i<9\/b.toNat<=1))(a:b.toNat<128):bP f i (b::l)=T (b.toNat,l):=by
 cases f<;>simp only[bP,if_pos h,if_pos a]
theorem Eh{f i:Nat}{b:BitVec 8}{l:LBy}(h:(i=0\/b≠0#8)/\(i<9\/b.toNat<=1))(a:¬b.toNat<128):bP (f+1) i (b::l)=(bP f (i+1) l).map λr=>(b.toNat%128+128*r.1,r.2):=by
 simp only[bP,if_pos h,if_neg a]
theorem JP(k:Nat)(hk:k<256):bits .and .u8 (k:Int) 127=((k%128:Nat):Int):=by
 have h:∀j:Fin 256,bits .and .u8 ((j.val:Nat):Int) 127=((j.val%128:Nat):Int):=by decide+kernel
 exact h ⟨k,hk⟩
theorem zk(a k i r:Nat):a+2^(7*i)*(k%128+128*r)=a+2^(7*i)*(k%128)+2^(7*(i+1))*r:=by
 have e:2^(7*(i+1))=2^(7*i)*128:=by rw[show 7*(i+1)=7*i+7 by omega,qn]
 rw[e,Nat.mul_add,Nat.mul_assoc,ql]
theorem Ba(a k i:Nat)(h:a<2^(7*i)):a+2^(7*i)*(k%128)<2^(7*(i+1)):=by
 have e:2^(7*(i+1))=2^(7*i)*128:=by rw[show 7*(i+1)=7*i+7 by omega,qn]
 have b:2^(7*i)*(k%128)<=2^(7*i)*127:=qS _ Y;rw[e];omega
theorem tO(a k i:Nat)(h:a<2^(7*i))(hk:k<256)(b:i<9\/k<=1)(j:i<=9):
 bits .or .u64 (a:Int) (kl.wrap (kl.wrap (bits .and .u8 (k:Int) 127)*2^(7*i)))=((a+2^(7*i)*(k%128):Nat):Int):=by
 have c:2^(7*i)*(k%128)<2^64:=by
  rcases b with b|b
  ·have e:2^(7*i)*(k%128)<=2^(7*i)*127:=qS _ Y
   have d:2^(7*i)<=2^56:=p6 Y Y;have:2^(7*i)*127<=2^56*127:=jW _ d;have:(2:Nat)^56*127<2^64:=by decide
   omega
  have e:2^(7*i)*(k%128)<=2^(7*i)*1:=qS _ Y;have d:2^(7*i)<=2^63:=p6 Y Y;have:(2:Nat)^63<2^64:=by decide
  omega
 have d:a<2^64:=jF h (p6 Y Y);have e:kl.wrap (bits .and .u8 (k:Int) 127)=((k%128:Nat):Int):=by rw[JP k hk,wt];omega
 have f:(((k%128:Nat):Int)*2^(7*i))=((2^(7*i)*(k%128):Nat):Int):=by rw[Int.natCast_mul,Int.natCast_pow,Int.mul_comm];rfl
 have g:kl.wrap ((2^(7*i)*(k%128):Nat):Int)=((2^(7*i)*(k%128):Nat):Int):=by
  generalize 2^(7*i)*(k%128)=m at c;rw[wt];omega
 rw[e,f,g,bits_or_u64_nat _ _ d c,Nat.or_comm,<-Nat.two_pow_add_eq_or_of_lt h,Nat.add_comm]
theorem AS(a k:Nat)(h:a<2^(7*0))(hk:k<256):bits .or .u64 (a:Int) (kl.wrap (kl.wrap (bits .and .u8 (k:Int) 127)))=((a+2^(7*0)*(k%128):Nat):Int):=by
 have b:=tO a k 0 h hk (.inl Y) Y;rw[show((2:Int)^(7*0))=1 from rfl,Int.mul_one]at b;exact b
def IK(R:Nat)(w:jb)(o:Option (Nat×LBy))(e:Ending)(w':jb):Prop:=
 aD R w.heap.size w w'/\match o with
  |some r=>e=jh (I .u64 (r.1:Int))/\RdC w' R r.2
  |none=>e=.panicked gO
theorem CH(R:Nat)(l:LBy)(w:jb)(h:RdC w R l)(a:l.length<=1000000):
 jg je 182 #[jj (T ⟨R,0,ic⟩)] w (IK R w (bP 9 0 l)):=by
 have YV:ja (l.length<=1000000):=O a;obtain⟨o,d⟩:=J (bP 9 0 l);rw[<-d];have HO:=O d;have HR:=O h;clear h a d
 go_enter func182,ntmps182
 go_wp2_with fail
 go_loopw [2,3] (λc b wr=>∃(a i:Nat) (f:LBy),c=I .u64 a/\b=I N i/\i<=9/\ja (a<2^(7*i))/\ja (o=(bP (9-i) i f).map λr=>(a+2^(7*i)*r.1,r.2))/\ja (RdC wr R f)/\ja (aD R w.heap.size w wr)/\ja (f.length<=1000000)) (λ_ b _=>9-(jo b).toNat)
 case atStart=>exact⟨0,0,l,rfl,rfl,by omega,O ar,O (by rw[HO];simp),HR,O (aD.refl _ _ _),YV⟩
 obtain⟨a,i,f,rfl,rfl,P,s,n,aa,Q,S⟩:=hrel
 rcases f with _|⟨b,f⟩
 ·have d:o=ic:=by rw[n];cases 9-i<;>rfl
  have t:=O d;clear d
  go_wp2_with fail
  refine(CI R 1 [] wr aa ar Y).mono ?_;rintro e w' ⟨rfl,rfl⟩;exact⟨rfl,Q,by rw[t]⟩
 go_wp2_with fail
 refine(vv R 1 (b::f) wr aa ar S).mono ?_;rintro e F ⟨p,rfl,hs,j,m⟩;obtain⟨-,p',c',e,-,-,H⟩:=hs;injection e with e1 q v
 subst e1;obtain⟨g,o1,rfl,-,H⟩:=H L;have d0:F.cell? ⟨g,o1,ic⟩=T (I .u8 (b.toNat:Int)):=H 0 _ rfl;obtain⟨k,hk⟩:=J b.toNat;have z:k<256:=by rw[hk];exact b.isLt
 rw[<-hk]at d0;have c:=O hk;replace j:RdC F R f:=j;have B:=O j;have u:=O (Q.trans m Q.size);have C:=O (oP (jj (T ⟨R,0,ic⟩)) F);have ad:=O (nM (jj (T ⟨R,0,ic⟩)) F);clear j m H hk q v;have v:k=0↔b=0#8:=by rw[c];exact⟨λh=>q5 (by simpa using h),λh=>by rw[h];rfl⟩
 by_cases h0:i=0
 ·subst h0
  have j:ja ((0=0\/b≠0#8)/\(0<9\/k<=1)):=O ⟨.inl rfl,.inl Y⟩;clear v
  by_cases x:k<128
  ·have K:=aj ((k:Int)<128)
   have M:=aj (k<128);have d:o=T (a+2^(7*0)*k,f):=by rw[n,uI (by rw[<-c];exact j) (by rw[<-c];exact x),<-c];rfl
   have t:=O d;have m:=O (AS a k s z);have q:k%128=k:=Y;have D:=O q;clear d q
   go_wp2_with fail
   refine C.mono ?_;rintro e y ⟨rfl,rfl⟩
   go_wp2_with fail
   go_ret;exact⟨u,by rw[t];exact⟨mV (by rw[m,D]),B⟩⟩
  have K:=ak ((k:Int)<128);have M:=ak (k<128);have au:0<9:=by have:=j.2;omega
  have m:=O (AS a k s z);have U:ja (o=(bP (9-(0+1)) (0+1) f).map λr=>(a+2^(7*0)*(k%128)+2^(7*(0+1))*r.1,r.2)):=O (by
   have V:9-0=(9-(0+1))+1:=Y;rw[n,V,Eh (by rw[<-c];exact j) (by rw[<-c];exact x),<-c,wx]
   congr 1
   funext r
   simp only[Function.comp_apply,Prod.mk.injEq,and_true];exact zk a k 0 r.1)
  have W:ja (a+2^(7*0)*(k%128)<2^(7*(0+1))):=O (Ba a k 0 s)
  go_wp2_with fail
  refine C.mono ?_;rintro e y ⟨rfl,rfl⟩
  go_wp2_with fail
  refine⟨⟨_,1,f,congrArg (jP .u64) m,by rfl,by omega,W,U,B,u,O (by have:=S.out;simp at this;omega)⟩,?_⟩;simp only[jo];omega
 have t0:((i:Int)==0)=false:=by simp;omega
 by_cases al:k=0
 ·have t1:((k:Int)!=0)=false:=by simp;omega
  have X:ja (o=ic):=O (by rw[n,Et (by rw[<-c];have:=v.1 al;intro h;rcases h.1 with h|h;exact h0 h;exact h this)];rfl);clear v
  go_wp2_with fail
  refine ad.mono ?_;rintro e y ⟨rfl,rfl⟩;exact⟨rfl,u,by rw[X]⟩
 have t1:((k:Int)!=0)=true:=by simp;omega
 have E:b≠0#8:=λh=>al (v.2 h)
 by_cases h9:i<9
 ·have t2:=aj ((i:Int)<9)
  have a1:=aj (i<9);have j:ja ((i=0\/b≠0#8)/\(i<9\/k<=1)):=O ⟨.inr E,.inl h9⟩;clear v E
  by_cases x:k<128
  ·have K:=aj ((k:Int)<128)
   have M:=aj (k<128);have d:o=T (a+2^(7*i)*k,f):=by rw[n,uI (by rw[<-c];exact j) (by rw[<-c];exact x),<-c];rfl
   have t:=O d;have m:=O (tO a k i s z (aU j.2) P);have q:k%128=k:=Y;have D:=O q;clear d q
   go_wp2_with fail
   refine C.mono ?_;rintro e y ⟨rfl,rfl⟩
   go_wp2_with fail
   go_ret;exact⟨u,by rw[t];exact⟨mV (by rw[m,D]),B⟩⟩
  have K:=ak ((k:Int)<128);have M:=ak (k<128);have au:i<9:=by have:=j.2;omega
  have m:=O (tO a k i s z Y P);have U:ja (o=(bP (9-(i+1)) (i+1) f).map λr=>(a+2^(7*i)*(k%128)+2^(7*(i+1))*r.1,r.2)):=O (by
   have V:9-i=(9-(i+1))+1:=Y;rw[n,V,Eh (by rw[<-c];exact j) (by rw[<-c];exact x),<-c,wx]
   congr 1
   funext r
   simp only[Function.comp_apply,Prod.mk.injEq,and_true];exact zk a k i r.1)
  have W:ja (a+2^(7*i)*(k%128)<2^(7*(i+1))):=O (Ba a k i s)
  go_wp2_with fail
  refine C.mono ?_;rintro e y ⟨rfl,rfl⟩
  go_wp2_with fail
  refine⟨⟨_,i+1,f,congrArg (jP .u64) m,by go_num,by omega,W,U,B,u,O (by have:=S.out;simp at this;omega)⟩,?_⟩;simp only[jo];omega
 have t2:=ak ((i:Int)<9);have a1:=ak (i<9)
 by_cases r:k<=1
 ·have U:=aj ((k:Int)<=1)
  have V:=aj (k<=1);have j:ja ((i=0\/b≠0#8)/\(i<9\/k<=1)):=O ⟨.inr E,.inr r⟩;clear v E
  by_cases x:k<128
  ·have K:=aj ((k:Int)<128)
   have M:=aj (k<128);have d:o=T (a+2^(7*i)*k,f):=by rw[n,uI (by rw[<-c];exact j) (by rw[<-c];exact x),<-c];rfl
   have t:=O d;have m:=O (tO a k i s z (aU j.2) P);have q:k%128=k:=Y;have D:=O q;clear d q
   go_wp2_with fail
   refine C.mono ?_;rintro e y ⟨rfl,rfl⟩
   go_wp2_with fail
   go_ret;exact⟨u,by rw[t];exact⟨mV (by rw[m,D]),B⟩⟩
  omega
 have U:=ak ((k:Int)<=1);have V:=ak (k<=1);have X:ja (o=ic):=O (by rw[n,Et (by rw[<-c];intro h;rcases h.2 with h|h;exact h9 h;exact r h)];rfl);clear v E
 go_wp2_with fail
 refine ad.mono ?_;rintro e y ⟨rfl,rfl⟩;exact⟨rfl,u,by rw[X]⟩
theorem RdC.cell{w:jb}{R:Nat}{l:LBy}(h:RdC w R l):∃p c,w.cell? ⟨R,0,ic⟩=T (ih p l.length c):=by
 obtain⟨p,c,a,-⟩:=h;exact⟨p,c,cell_of a rfl⟩
def FB(R:Nat)(w:jb)(o:Option (Nat×LBy))(e:Ending)(w':jb):Prop:=
 aD R w.heap.size w w'/\match o with
  |some r=>e=jh (I N (r.1:Int))/\RdC w' R r.2/\r.1<=r.2.length
  |none=>e=.panicked gO
theorem rF:∀(f i:Nat) (l:LBy) (r:Nat×LBy),bP f i l=T r->r.2.length<=l.length
 |f,i,[],r,h=>by cases f<;>simp[bP]at h
 |0,i,b::l,r,h=>by
  simp only[bP]at h
  split at h
  ·split at h
   ·injection h with h;rw[<-h];simp
   cases h
  cases h
 |f+1,i,b::l,r,h=>by
  simp only[bP]at h
  split at h
  ·split at h
   ·injection h with h;rw[<-h];simp
   cases hh:bP f (i+1) l with
   |none=>rw[hh]at h;cases h
   |some q=>
    rw[hh]at h;injection h with h
    rw[<-h];have:=rF f (i+1) l q hh;simp;omega
  cases h
theorem EV(R:Nat)(l:LBy)(w:jb)(h:RdC w R l)(k:l.length<=1000000):
 jg je 183 #[jj (T ⟨R,0,ic⟩)] w (FB R w (dX l)):=by
 have d:=O (CH R l w h k);have f:=O (rF 9 0 l);obtain⟨o,a⟩:=J (bP 9 0 l);have b:dX l=o.bind λr=>if r.1<=r.2.length then T r else ic:=by rw[a];rfl
 rw[b];rw[<-a]at d f;clear b a h
 go_enter func183,ntmps183
 go_wp2_with fail
 refine d.mono ?_;rintro e m ⟨g,n⟩
 rcases o with _|r
 ·obtain rfl:e=.panicked gO:=n
  exact⟨rfl,g,rfl⟩
 obtain⟨a,r⟩:=r;obtain⟨rfl,h⟩:=n;have s:r.length<=1000000:=jn (f _ rfl) k;have q:=O g;have u:=O h;have v:=O (oP (jj (T ⟨R,0,ic⟩)) m);have x:=O (nM (jj (T ⟨R,0,ic⟩)) m);obtain⟨p,c,y⟩:=h.cell;obtain⟨b,i⟩:=J r.length;rw[<-i]at y s;have j:=O i;clear g h i d f
 by_cases d:a<=b
 ·have t:=aj ((a:Int)<=(b:Int))
  have g:=aj (a<=b);have f:ja ((T (a,r)).bind (λr=>if r.1<=r.2.length then T r else ic)=T (a,r)):=O (by rw[w9,if_pos (by rw[<-j];exact d)])
  go_wp2_with fail
  refine v.mono ?_;rintro e h ⟨rfl,rfl⟩
  go_wp2_with fail
  go_ret;refine⟨q,?_⟩;rw[f];refine⟨mV ?_,u,by rw[<-j];exact d⟩
  rfl
 have t:=ak ((a:Int)<=(b:Int));have g:=ak (a<=b);have f:ja ((T (a,r)).bind (λr=>if r.1<=r.2.length then T r else ic)=ic):=O (by rw[w9,if_neg (by rw[<-j];exact d)])
 go_wp2_with fail
 refine x.mono ?_;rintro e h ⟨rfl,rfl⟩;exact⟨rfl,q,by rw[f]⟩
theorem Fv(m:Nat)(h:m<18446744073709551616):(j0 64 (m:Int)).toNat=m:=by
 rw[BitVec.ofInt_natCast,BitVec.toNat_ofNat];exact Nat.mod_eq_of_lt Y
theorem ML(m:Nat)(h:m<9223372036854775808):bits .xor .i64 (m:Int) 0=(m:Int):=by
 show o4.wrap ((j0 64 (m:Int)^^^j0 64 0).toNat:Int)=_;have e:(j0 64 0).toNat=0:=by decide+kernel
 rw[xa,Fv m Y,e,Nat.xor_zero,qu];omega
theorem Jl(m:Nat)(h:m<9223372036854775808):bits .xor .i64 (m:Int) (-1)= -(m:Int)-1:=by
 show o4.wrap ((j0 64 (m:Int)^^^j0 64 (-1)).toNat:Int)=_;have e:(j0 64 (-1)).toNat=18446744073709551615:=by decide
 have b:m^^^18446744073709551615=18446744073709551615-m:=by
  have a:=xor_ones64 m Y;rw[show(18446744073709551615:Int)=((18446744073709551615:Nat):Int)from rfl,bits_xor_u64_nat m 18446744073709551615 Y Y]at a;exact Int.ofNat.inj a
 rw[xa,Fv m Y,e,b,qu];omega
theorem Mr(a:Nat)(c:a<18446744073709551616)(w:jb):jg je 181 #[I .u64 (a:Int)] w λe w'=>e=jh (I N (fK a))/\w=w':=by
 go_enter func181,ntmps181
 go_wp2
 go_ret;refine⟨mV ?_,rfl⟩;have d:bits .and .u64 (a:Int) 1=((a%2:Nat):Int):=by
  have h:=bits_and_u64_nat a 1 c Y;rw[Nat.and_one_is_mod]at h;exact h
 have f:(a:Int)/2=((a/2:Nat):Int):=Y;rw[d,f];unfold fK
 by_cases h:a%2=0
 ·rw[if_pos h,h]
  have b:wrap64 (-wrap64 ((0:Nat):Int))=0:=by decide+kernel
  rw[b];exact ML _ Y
 have g:a%2=1:=Y;rw[if_neg h,g];have b:wrap64 (-wrap64 ((1:Nat):Int))= -1:=by decide+kernel
 rw[b];exact Jl _ Y
theorem put_defers(a:Act)(d:Option Tmp)(v:jc):(Act.put a d v).defers=a.defers:=by cases d<;>rfl
end Go.Proofs.YthpmekcffpppkaaGreatDoor
