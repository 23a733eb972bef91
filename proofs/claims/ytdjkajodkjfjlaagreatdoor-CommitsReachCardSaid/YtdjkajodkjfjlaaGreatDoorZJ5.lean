/- Contracts of functions that the law reaches, part 5 of 7; no condition. -/
import Derived.WalkLawsBesides
import Derived.Test.YtdjkajodkjfjlaaGreatDoorTie
import Derived.LaidMore
import Derived.Stop.LaidErr
import Derived.Deep.SlicePairs
import Derived.Test.YtdjkajodkjfjlaaGreatDoorZJ4
namespace Go.Proofs.YtdjkajodkjfjlaaGreatDoor
set_option maxHeartbeats 64000000
set_option maxRecDepth 100000
set_option linter.unusedVariables false
set_option linter.unusedSimpArgs false
set_option linter.unusedSectionVars false
open Go.RowKit
open Go.Proofs.Tryz
open Go.Value renaming int->I
open Go.IntKind renaming i64->N
open _root_ renaming Int->T,rfl->A,Nat->ja,List->jc,if_pos->jm,if_neg->jn,Option->jr,Array->jA,absurd->jD,congrArg->jK,Bool->jV,decide_eq_true->qm,of_decide_eq_true->qF
open _root_.Option renaming some->jb,none->jd,bind_some->jW,map_some->j8,some->qf,map_map->xd,map_eq_some_iff->xw
open Go renaming Value->je,World->ji,Calls->jt,TypeId->ju,wpList_plain->jI,maxLen->jN,DataW->jO,wp_store_row->jQ,Addr->jR,setRow_heap->jS,below_setRow->jU,setRow_other->j1,wp_region_lit->kw,MemPlace->lm,Operand->p6,Ending->qa,Program->ql,bodyPost_ret_by->qG,wpList_load_row->q8,run_sliceAt_slice->q9
open Go.Obj renaming cells->jf
open _root_.Bool renaming true->jg,false->jl,and_eq_true->tx
open Go.Value renaming slice->jh,agg->jp,pointer->jH,tuple->jL,string->qn
open Go.RowKit renaming Hid->jj,Below->jo
open Go.Proofs.Tryz renaming prog->jk
open Go.Proofs renaming intOf->jq
open Go.Ending renaming returned->js
open _root_.List renaming length_map->jv,length_append->jw,mem_map->jC,mem_cons_self->jE,mem_cons->jF,mem_cons_of_mem->jJ,length_cons->jM,range->jP,mem_append->jX,mem_singleton->jZ,map_cons->j5,size_toArray->j7,set_cons_succ->j9,replicate->lr,length_nil->mb,mem_nil_iff->mz,map_append->mF,set_append_right->mT,getElem?_map->oi,map_map->oo,take_length->pz,length_take_le->qc,take_of_length_le->qd,getElem?_eq_getElem->qe,set->qg,take_append_drop->qi,drop_eq_getElem_cons->qk,any_eq_true->qs,find?_eq_none->qt,getElem?_eq_some_iff->qu,zipIdx_cons->qv,append_assoc->qx,mem_filter->qz,filter_append->qA,not_mem_nil->qC,length->qH,cons_append->qI,filter_sublist->qJ,nodup_cons->qK,mergeSort_perm->qL,getElem?_take->qM,length_take->qQ,map->qS,find?_append->qT,getD->qW,mem_range->qX,getElem?_eq_none->qY,getElem_toArray->qZ,getElem_cons_zero->q4,getElem_cons_succ->q5,getElem_of_mem->sg,take_add_one->sh,mem_map_of_mem->tb,mem_flatMap->uy,flatMap_cons->wi,length_filter_le->wt,map_congr_left->wx,getElem?_drop->w9,flatMap_def->xm,getD_eq_getElem?_getD->xo,pairwise_singleton->xq,ext_getElem?->xx,drop_drop->xz
open _root_.Nat renaming le_trans->jy,le_refl->jz,lt_of_lt_of_le->jT,zero_le->j4,mul_le_mul_right->j6,pow_le_pow_right->km,le_of_eq->lw,two_pow_pos->ms,pow_add->m0,mul_le_mul_left->nn,add_mul->n0,one_mul->ow,mul_comm->o4,add_le_add->qb,mul_assoc->qh,pow_succ->qj,add_assoc->qw,eq_zero_or_pos->qD,le_div_iff_mul_le->qV,div_add_mod->wq,one_le_two_pow->xp,div_div_eq_div_mul->xr
open Go.World renaming alloc_heap_new->jB,frozen?->sv,setCell->sx,ownsRow_nil->xj,cell?_spot->xy
open Go.RowKit.Below renaming refl->jG,heap_setCell->sq
open _root_.Array renaming getElem?_eq_some_iff->jY,toList_setIfInBounds->oj,ext'->ol,length_toList->qo,getElem?_setIfInBounds_ne->qy,getElem?_modify->sn
open _root_.Int renaming toNat_natCast->j0,natCast_mul->qN,natCast_pow->qO,eq_ofNat_of_zero_le->xt
open Go.Proofs.Tryz renaming underlying3->j3,underlying29->kl,underlying63->q6,underlying43->ri,underlying47->rn,underlying161->rv
open Go.Value renaming oneCell'->kn,int->qB,bool->qU
open Go.NoPanic renaming normal->lo
open _root_.BitVec renaming ofInt->nz,ofNat->qE,eq_of_toNat_eq->qP,toNat_ofNat->xf,toNat_xor->xh
open Go.IntKind renaming u64->pa,wrap_u64->xa,i64->xg,wrap_i64->xi
variable{E:BitVec 8}{W d:T}{H α:Type}{x:Val}{y:aD}{r:aI}{m:af}{cs o:jA je}{M R f h i:ja}{D:ja->Prop}{t:jc (T×T)}{z:jc T}{a:jc Val}{b:jc ak}{c xs:jc je}{j:je}{X:je->jA je}{p w w' w0:ji}{e:ju}
theorem fy(h:aw (·<w.heap.size) w x j)(d:jo w w p):aw (·<p.heap.size) p x j:=
 aw.mono (λb (a:b<w.heap.size)=>jT a d.size) _ _ (aw.keep (λb a=>d.block b a) _ _ h)
theorem rm(h:cV w j z)(a:jo w w p):cV p j z:=by
 obtain⟨w',c,b,d,f⟩:=h;refine⟨w',c,b,d,λi=>?_⟩;obtain⟨g,o,e,k⟩:=f i;exact⟨g,o,e,λv m=>aB (k v m) a⟩
def grp:jc Val->jc je->jc (jc je)
 |x::xs,a::b=>eS x a::grp xs b
 |_,_=>[]
theorem rz:∀(l:jc Val) (a:jc je),(grp l a).flatten=bU l a
 |[],a=>by cases a<;>simp[grp,bU]
 |x::l,[]=>by simp[grp,bU]
 |x::l,b::a=>by simp[grp,bU,rz l a]
theorem y8:∀(l:jc Val) (a:jc je),a.length=l.length->(grp l a).length=l.length
 |[],a,h=>by cases a<;>simp[grp]
 |x::l,[],h=>by simp at h
 |x::l,b::a,h=>by simp[grp,y8 l a (ah h)]
theorem wv:∀{l:jc Val} {a:jc je},aC D w l a->∀e∈grp l a,∀b∈e,b.oneCell'=jg
 |[],a,h,e,he,b,d=>by cases a<;>simp[grp]at he
 |x::l,a,h,e,he,b,d=>by
  rw[aC]at h;obtain⟨v,i,rfl,f,g⟩:=h;simp only[grp,jF]at he
  rcases he with rfl|he
  ·obtain⟨p,c,rfl⟩:=f.form
   simp only[eS,jF,mz,or_false]at d
   rcases d with rfl|rfl|rfl|rfl<;>rfl
  exact wv g e he b d
theorem rR(s:ja)(a c:jc Val)(k l:jr jR)(m n o p:ja)(w:ji)(C:aw (·<w.heap.size) w (vL a) (jh k m n))(D:aw (·<w.heap.size) w (vL c) (jh l o p))
 (t:w.heap[s]?=jb (jf #[jh k m n,jh l o p] 107 (0,0))) (E:a.length+c.length<=1000000):
 jt jk 117 #[jh (jb ⟨s,0,jd⟩) 2 2] w λe w'=>∃v,e=js v/\aw (·<w'.heap.size) w' (vL (a++c)) v/\jo w w w':=by
 obtain⟨d,u,j⟩:=C.slice;obtain⟨f,x,q⟩:=D.slice;replace j:aC (·<w.heap.size) w a d:=j;replace q:aC (·<w.heap.size) w c f:=q;replace u:ay (·<w.heap.size) w (jh k m n) 4 a.length (bU a d):=u;replace x:ay (·<w.heap.size) w (jh l o p) 4 c.length (bU c f):=x;have y:=y8 _ _ j.len;have z:=y8 _ _ q.len;have F:rb w (jh k m n) (grp a d):=by unfold rb;rw[y,rz];exact u.row
 have H:rb w (jh l o p) (grp c f):=by unfold rb;rw[z,rz];exact x.row
 have B:[grp a d,grp c f].flatten=grp a d++grp c f:=by simp
 have K:∀e∈[grp a d,grp c f].flatten,∀r∈e,r.oneCell'=jg:=by
  intro e he r b;rw[B]at he
  rcases jX.1 he with h|h
  ·exact wv j e h r b
  exact wv q e h r b
 refine(Og s 2 107 [jh k m n,jh l o p] [grp a d,grp c f] A A (by rw[B,jw,y,z];exact E) w t (λi b=>by match i,b with|0,_=>exact F|1,_=>exact H) G K).mono ?_;rintro e w' ⟨M,rfl,i,h⟩;refine⟨M,A,?_,h⟩;rw[B,jw,y,z,List.flatten_append,rz,rz,<-oH _ _ _ _ j.len,<-jw]at i;rw[vL,aw];refine⟨d++f,ay.of_own i (λg t=>(i.lt g t).2),aC.append ?_ ?_⟩
 ·exact aC.mono (λb (g:b<w.heap.size)=>jT g h.size) _ _ (aC.keep (λb g=>h.block b g) _ _ j)
 exact aC.mono (λb (g:b<w.heap.size)=>jT g h.size) _ _ (aC.keep (λb g=>h.block b g) _ _ q)
theorem MJ{C:Act}{B:Oper}{x:p6}(e:o.size=73)(b:B.op=.load 63 x)(g:C.eval x=jH (jb ⟨f,0,jd⟩))(i:w.heap[f]?=jb (jf o 63 (0,0))):
 (execOp C.eval B).run jk w=.ok (.value (jp o)) w:=by
 have h:=rx (P:=jk) B C 63 x b f 0 g o.toList _ (tW (t:=63) (l:=o.toList) (ah i)) q6 A (by rw[qo,e];exact fN)
 simpa using h
def nf(c:aD)(a:ByteArray)(nums:jc T):af:=de a ((aJ c).take 4++nums.map vI)
theorem Cj(c:aD)(q:CQ)(n:ByteArray)(nums:jc T)(v:je)(w:ji)(j:n.size<=1000)(a:aF (·<w.heap.size) w c q)(hI:cV w v nums)(hn:nums.length<=1000)
 (hl:c.chg.length<=1000000/\c.path.length<=1000000/\c.box.length<=1000000/\c.wel.length<=1000000) (k:eu ((aJ c).take 4++nums.map vI)) (l:da w):
 jt jk 48 #[jp (av c q).toArray,qn n,v] w λe w'=>∃D,e=js (jh (jb ⟨D,0,jd⟩) 32 32)/\aP w' (jh (jb ⟨D,0,jd⟩) 32 32) (nf c n nums)/\jo w w w':=by
 obtain⟨l1,l2,l3,l4⟩:=hl;have m:=O a;have Sg:=O k;have HT:=O l;have ba:=O j;have o:=O hI;obtain⟨pv,cv,rfl,-,-⟩:=hI;obtain⟨RZ,d⟩:=J ((av c q).toArray);rw[<-d];have UO:=O d;have p:RZ.size=73:=by rw[d,j7,fa c q a.plen a.clen]
 have Uk:=O p;have S:=jB w (jf RZ 63);have f:=ai w (jf RZ 63);obtain⟨W1,g⟩:=J (w.alloc (jf RZ 63));obtain⟨b,h⟩:=J w.heap.size;rw[<-g]at f S;rw[<-h]at S;have i:=O f;have r:=O S;have s:=O g;have Ww:=O h;clear f g h S d p a k l j
 go_enter func48,ntmps48
 go_upto_region 1 with fail
 rw[<-s,<-Ww];clear s;have RG:jj (jo w w W1.drew):=O (i.trans ((bz W1).mono i.size));have Ye:jj (W1.drew.heap[b]?=jb (jf RZ 63 (0,0))):=O r;have R2:jj (aF (·<W1.drew.heap.size) W1.drew c q):=O (m.below RG);have Vx:jj (cV W1.drew (jh pv nums.length cv) nums):=O (rm o RG);clear i r m o;refine wp_region_noPanic ?_;refine bY (λa=>a.heap[b]?=jb (jf RZ 63 (0,0))) (.t 0 (.t 1 (.t 4 (.w 2 9 (.t 3 (.w 5 9 (.w 6 9 (.w 7 9 (.w 8 9 (.o 9 (.o 10 .done)) (.o 8 (.o 10 .done))) (.o 7 (.o 8 (.o 10 .done)))) (.o 6 (.o 7 (.o 8 (.o 10 .done))))) (.o 5 (.o 6 (.o 7 (.o 8 (.o 10 .done))))))) (.o 2 (.t 3 (.o 5 (.o 6 (.o 7 (.o 8 (.o 10 .done))))))))))) ag ag ag G (λ_ _ _ _ h=>h) Ye ?_;generalize W1.drew=x0 at RG Ye R2 Vx⊢;refine bi ?_
 (refine aE (v:=jp RZ) A aj (λa d=>MJ Uk A A d) (L ?_))
 refine bi ?_;refine gM ?_ ?_
 ·refine ar A (λk d=>?_)
  go_simp;rw[UO];refine(oX c q x0 R2 l1 l2 l3 l4).mono ?_;rintro e x1 ⟨v,rfl,a5,a⟩;obtain⟨E,o,rfl,SQ⟩:∃g o,v=jh (jb ⟨g,0,jd⟩) 11 o/\11<=o:=by
   obtain⟨us,ho,-⟩:=a5;obtain⟨g,c,h1,h2,-⟩:=tF ho G;exact⟨g,c,h1,h2⟩
  have bh:∀W,(Instr.sliceAt 107 (jh (jb ⟨E,0,jd⟩) 11 o) jd (jb (I N 4)) jd).run jk W=.ok (jh (jb ⟨E,0,jd⟩) 4 o) W:=λW=>uj 107 128 4 underlying107 uK E 0 11 o 4 Y W
  have RD:=ac RG a;have YY:=Z Ye a;have UQ:=O (rm Vx a);clear RG Ye R2 Vx;clear a;have bb:=O (a5.val 4 G).2;clear a5;rw[<-UO];refine d _ _ YY.out λ_=>?_
  clear d;refine L ?_;refine bi ?_;refine gM ?_ ?_
  ·refine ar A (λk d=>?_)
   go_simp;refine(rX nums _ x1 UQ Y).mono ?_;rintro e x2 ⟨bg,rfl,U,a⟩;obtain⟨V,X,rfl⟩:=a8 U;have a4:=mU (D:=(·<x2.heap.size)) U (λg i=>(U.lt g i).2);have RE:=ac RD a;have TU:=Z YY a;have a3:=O (fy bb a);clear RD YY UQ bb;have bc:=O a4;clear a U a4;refine d _ _ TU.out λ_=>?_
   clear d;refine L ?_;refine gM ?_ ?_
   ·refine ar A (λk d=>?_)
    go_simp;have a:=ai x2 (jf #[jh (jb ⟨E,0,jd⟩) 4 o,jh V nums.length X] 107);have f:=jB x2 (jf #[jh (jb ⟨E,0,jd⟩) 4 o,jh V nums.length X] 107);obtain⟨B,l⟩:=J (x2.alloc (jf #[jh (jb ⟨E,0,jd⟩) 4 o,jh V nums.length X] 107));rw[<-l]at a f⊢;obtain⟨gl,i⟩:=J x2.heap.size;rw[<-i]at f⊢;have bf:=O i;clear i;have RI:=ac RE a;have K:=Z TU a;have ad:=O (fy a3 a);have al:=O (fy bc a);clear RE TU a3 bc;have Wn:=O f;clear f;clear l a;refine d _ _ K.out λ_=>?_
    clear d;refine L ?_;refine gM ?_ ?_
    ·refine ar A (λk d=>?_)
     go_simp;refine(rR gl ((aJ c).take 4) (nums.map vI) _ _ _ _ _ _ B ad al Wn.out (by rw[jv];exact jy (qb (qc _ _) hn) G)).mono ?_;rintro e x4 ⟨vc,rfl,F,a⟩;obtain⟨pc,bd,rfl⟩:=F.form;have H:=ac RI a;have C:=Z K a;clear RI K ad al Wn;have a1:=O F;clear a F;refine d _ _ C.out λ_=>?_
     clear d;refine L ?_;refine gM ?_ ?_
     ·refine ar A (λk d=>?_)
      go_simp;refine(lL n ba ((aJ c).take 4++nums.map vI) _ x4 a1 Sg (HT.below H).num (HT.below H).start).mono ?_;rintro e x5 ⟨rfl,a⟩;have r:((de n ((aJ c).take 4++nums.map vI)).map v8).toArray.size=32:=by rw[j7,jv,et]
      have s:=ee (de n ((aJ c).take 4++nums.map vI));obtain⟨j,t⟩:=J (((de n ((aJ c).take 4++nums.map vI)).map v8).toArray);rw[<-t]at r s⊢;have SO:=O t;have M:=O r;have SE:=O s;clear t r s;have m:=ac H a;have p:=Z C a;clear H C a1;clear a;refine d _ _ p.out λ_=>?_
      clear d;refine L ?_;refine ar A (λk d=>?_);go_simp;have a:=ai x5 (jf aT 23);have f:=jB x5 (jf aT 23);obtain⟨u,l⟩:=J (x5.alloc (jf aT 23));rw[<-l]at a f⊢;obtain⟨D,i⟩:=J x5.heap.size;rw[<-i]at f⊢;have P:=O i;clear i;have SI:=ac m a;have Q:=Z p a;have R:=O f;have Uf:jj (w.heap.size<=D):=O (by rw[P];exact m.size);have au:jj (b<D):=O (by rw[P];exact(jY.1 p).1);clear f l a;clear m p;refine d _ _ Q.out λ_=>?_
      clear d;refine L ?_;refine ar A (λk d=>?_);rw[jm aj];refine jQ 23 _ _ A D j A A 23 _ R.out (by rw[M];rfl) (by rw[M];simp) SE (d _ _ ((j1 _ _ _ _ (aA au)).trans Q) λ_=>?_);clear d;have x:(u.setRow D j).heap[D]?=jb (jf j 23 (0,0)):=jS _ _ _ _ _ _ R.out;have y:jo w w (u.setRow D j):=jU SI Uf _;generalize u.setRow D j=z at x y⊢;have Tn:=O x;have SX:=O y;clear x y;refine L ?_;refine lo ?_
      go_wp2_with fail
      go_ret;have h:=Tn.out;rw[SO]at h;have S:=mY h (et _ _);refine⟨D,A,?_,SX⟩;exact S
     refine ar A (λk d=>?_);go_simp;have a:=ai x4 (jf aT 23);have f:=jB x4 (jf aT 23);obtain⟨x5,l⟩:=J (x4.alloc (jf aT 23));rw[<-l]at a f⊢;obtain⟨D,i⟩:=J x4.heap.size;rw[<-i]at f⊢;have P:=O i;clear i;have m:=ac H a;have p:=Z C a;have aa:=O (fy a1 a);have ZN:=O f;have Uf:jj (w.heap.size<=D):=O (by rw[P];exact H.size);have au:jj (b<D):=O (by rw[P];exact(jY.1 C).1);clear f l a;clear H C a1;refine d _ _ p.out λ_=>?_
     clear d;refine L ?_;refine ar A (λk d=>?_);go_simp;refine(lL n ba ((aJ c).take 4++nums.map vI) _ x5 aa Sg (HT.below m).num (HT.below m).start).mono ?_;rintro e u ⟨rfl,a⟩;have r:((de n ((aJ c).take 4++nums.map vI)).map v8).toArray.size=32:=by rw[j7,jv,et]
     have s:=ee (de n ((aJ c).take 4++nums.map vI));obtain⟨j,t⟩:=J (((de n ((aJ c).take 4++nums.map vI)).map v8).toArray);rw[<-t]at r s⊢;have SO:=O t;have M:=O r;have SE:=O s;clear t r s;have SI:=ac m a;have Q:=Z p a;have R:=Z ZN a;clear m p aa ZN;clear a;refine d _ _ Q.out λ_=>?_
     clear d;refine L ?_;refine ar A (λk d=>?_);rw[jm aj];refine jQ 23 _ _ A D j A A 23 _ R.out (by rw[M];rfl) (by rw[M];simp) SE (d _ _ ((j1 _ _ _ _ (aA au)).trans Q) λ_=>?_);clear d;have x:(u.setRow D j).heap[D]?=jb (jf j 23 (0,0)):=jS _ _ _ _ _ _ R.out;have y:jo w w (u.setRow D j):=jU SI Uf _;generalize u.setRow D j=z at x y⊢;have Tn:=O x;have SX:=O y;clear x y;refine L ?_;refine lo ?_
     go_wp2_with fail
     go_ret;have h:=Tn.out;rw[SO]at h;have S:=mY h (et _ _);refine⟨D,A,?_,SX⟩;exact S
    refine ar A (λk d=>?_);go_simp;have a:=ai B (jf aT 23);have f:=jB B (jf aT 23);obtain⟨x4,l⟩:=J (B.alloc (jf aT 23));rw[<-l]at a f⊢;obtain⟨D,i⟩:=J B.heap.size;rw[<-i]at f⊢;have P:=O i;clear i;have H:=ac RI a;have C:=Z K a;have a1:=O (fy ad a);have a2:=O (fy al a);have Zh:=Z Wn a;have T1:=O f;have Uf:jj (w.heap.size<=D):=O (by rw[P];exact RI.size);have au:jj (b<D):=O (by rw[P];exact(jY.1 K).1);clear f l a;clear RI K ad al Wn;refine d _ _ C.out λ_=>?_
    clear d;refine L ?_;refine ar A (λk d=>?_);go_simp;refine(rR gl ((aJ c).take 4) (nums.map vI) _ _ _ _ _ _ x4 a1 a2 Zh.out (by rw[jv];exact jy (qb (qc _ _) hn) G)).mono ?_;rintro e x5 ⟨vc,rfl,F,a⟩;obtain⟨pc,bd,rfl⟩:=F.form;have m:=ac H a;have p:=Z C a;have ZN:=Z T1 a;clear H C a1 a2 Zh T1;have aa:=O F;clear a F;refine d _ _ p.out λ_=>?_
    clear d;refine L ?_;refine ar A (λk d=>?_);go_simp;refine(lL n ba ((aJ c).take 4++nums.map vI) _ x5 aa Sg (HT.below m).num (HT.below m).start).mono ?_;rintro e u ⟨rfl,a⟩;have r:((de n ((aJ c).take 4++nums.map vI)).map v8).toArray.size=32:=by rw[j7,jv,et]
    have s:=ee (de n ((aJ c).take 4++nums.map vI));obtain⟨j,t⟩:=J (((de n ((aJ c).take 4++nums.map vI)).map v8).toArray);rw[<-t]at r s⊢;have SO:=O t;have M:=O r;have SE:=O s;clear t r s;have SI:=ac m a;have Q:=Z p a;have R:=Z ZN a;clear m p ZN aa;clear a;refine d _ _ Q.out λ_=>?_
    clear d;refine L ?_;refine ar A (λk d=>?_);rw[jm aj];refine jQ 23 _ _ A D j A A 23 _ R.out (by rw[M];rfl) (by rw[M];simp) SE (d _ _ ((j1 _ _ _ _ (aA au)).trans Q) λ_=>?_);clear d;have x:(u.setRow D j).heap[D]?=jb (jf j 23 (0,0)):=jS _ _ _ _ _ _ R.out;have y:jo w w (u.setRow D j):=jU SI Uf _;generalize u.setRow D j=z at x y⊢;have Tn:=O x;have SX:=O y;clear x y;refine L ?_;refine lo ?_
    go_wp2_with fail
    go_ret;have h:=Tn.out;rw[SO]at h;have S:=mY h (et _ _);refine⟨D,A,?_,SX⟩;exact S
   refine ar A (λk d=>?_);go_simp;have a:=ai x2 (jf aT 23);have f:=jB x2 (jf aT 23);obtain⟨B,l⟩:=J (x2.alloc (jf aT 23));rw[<-l]at a f⊢;obtain⟨D,i⟩:=J x2.heap.size;rw[<-i]at f⊢;have P:=O i;clear i;have RI:=ac RE a;have K:=Z TU a;have ad:=O (fy a3 a);have al:=O (fy bc a);have UL:=O f;have Uf:jj (w.heap.size<=D):=O (by rw[P];exact RE.size);have au:jj (b<D):=O (by rw[P];exact(jY.1 TU).1);clear f l a;clear RE TU a3 bc;refine d _ _ K.out λ_=>?_
   clear d;refine L ?_;refine ar A (λk d=>?_);go_simp;have a:=ai B (jf #[jh (jb ⟨E,0,jd⟩) 4 o,jh V nums.length X] 107);have f:=jB B (jf #[jh (jb ⟨E,0,jd⟩) 4 o,jh V nums.length X] 107);obtain⟨x4,l⟩:=J (B.alloc (jf #[jh (jb ⟨E,0,jd⟩) 4 o,jh V nums.length X] 107));rw[<-l]at a f⊢;obtain⟨gl,i⟩:=J B.heap.size;rw[<-i]at f⊢;have bf:=O i;clear i;have H:=ac RI a;have C:=Z K a;have a1:=O (fy ad a);have a2:=O (fy al a);have T1:=Z UL a;clear RI K ad al UL;have Zh:=O f;clear f;clear l a;refine d _ _ C.out λ_=>?_
   clear d;refine L ?_;refine ar A (λk d=>?_);go_simp;refine(rR gl ((aJ c).take 4) (nums.map vI) _ _ _ _ _ _ x4 a1 a2 Zh.out (by rw[jv];exact jy (qb (qc _ _) hn) G)).mono ?_;rintro e x5 ⟨vc,rfl,F,a⟩;obtain⟨pc,bd,rfl⟩:=F.form;have m:=ac H a;have p:=Z C a;have ZN:=Z T1 a;clear H C a1 a2 T1 Zh;have aa:=O F;clear a F;refine d _ _ p.out λ_=>?_
   clear d;refine L ?_;refine ar A (λk d=>?_);go_simp;refine(lL n ba ((aJ c).take 4++nums.map vI) _ x5 aa Sg (HT.below m).num (HT.below m).start).mono ?_;rintro e u ⟨rfl,a⟩;have r:((de n ((aJ c).take 4++nums.map vI)).map v8).toArray.size=32:=by rw[j7,jv,et]
   have s:=ee (de n ((aJ c).take 4++nums.map vI));obtain⟨j,t⟩:=J (((de n ((aJ c).take 4++nums.map vI)).map v8).toArray);rw[<-t]at r s⊢;have SO:=O t;have M:=O r;have SE:=O s;clear t r s;have SI:=ac m a;have Q:=Z p a;have R:=Z ZN a;clear m p ZN aa;clear a;refine d _ _ Q.out λ_=>?_
   clear d;refine L ?_;refine ar A (λk d=>?_);rw[jm aj];refine jQ 23 _ _ A D j A A 23 _ R.out (by rw[M];rfl) (by rw[M];simp) SE (d _ _ ((j1 _ _ _ _ (aA au)).trans Q) λ_=>?_);clear d;have x:(u.setRow D j).heap[D]?=jb (jf j 23 (0,0)):=jS _ _ _ _ _ _ R.out;have y:jo w w (u.setRow D j):=jU SI Uf _;generalize u.setRow D j=z at x y⊢;have Tn:=O x;have SX:=O y;clear x y;refine L ?_;refine lo ?_
   go_wp2_with fail
   go_ret;have h:=Tn.out;rw[SO]at h;have S:=mY h (et _ _);refine⟨D,A,?_,SX⟩;exact S
  refine ar A (λk d=>?_);go_simp;have a:=ai x1 (jf aT 23);have f:=jB x1 (jf aT 23);obtain⟨x2,l⟩:=J (x1.alloc (jf aT 23));rw[<-l]at a f⊢;obtain⟨D,i⟩:=J x1.heap.size;rw[<-i]at f⊢;have P:=O i;clear i;have RE:=ac RD a;have TU:=Z YY a;have Vv:=O (rm UQ a);have a3:=O (fy bb a);have UY:=O f;have Uf:jj (w.heap.size<=D):=O (by rw[P];exact RD.size);have au:jj (b<D):=O (by rw[P];exact(jY.1 YY).1);clear f l a;clear RD YY UQ bb;refine d _ _ TU.out λ_=>?_
  clear d;refine L ?_;refine ar A (λk d=>?_);go_simp;refine(rX nums _ x2 Vv Y).mono ?_;rintro e B ⟨bg,rfl,U,a⟩;obtain⟨V,X,rfl⟩:=a8 U;have a4:=mU (D:=(·<B.heap.size)) U (λg i=>(U.lt g i).2);have RI:=ac RE a;have K:=Z TU a;have ad:=O (fy a3 a);have UL:=Z UY a;clear RE TU Vv a3 UY;have al:=O a4;clear a U a4;refine d _ _ K.out λ_=>?_
  clear d;refine L ?_;refine ar A (λk d=>?_);go_simp;have a:=ai B (jf #[jh (jb ⟨E,0,jd⟩) 4 o,jh V nums.length X] 107);have f:=jB B (jf #[jh (jb ⟨E,0,jd⟩) 4 o,jh V nums.length X] 107);obtain⟨x4,l⟩:=J (B.alloc (jf #[jh (jb ⟨E,0,jd⟩) 4 o,jh V nums.length X] 107));rw[<-l]at a f⊢;obtain⟨gl,i⟩:=J B.heap.size;rw[<-i]at f⊢;have bf:=O i;clear i;have H:=ac RI a;have C:=Z K a;have a1:=O (fy ad a);have T1:=Z UL a;have a2:=O (fy al a);clear RI K ad UL al;have Zh:=O f;clear f;clear l a;refine d _ _ C.out λ_=>?_
  clear d;refine L ?_;refine ar A (λk d=>?_);go_simp;refine(rR gl ((aJ c).take 4) (nums.map vI) _ _ _ _ _ _ x4 a1 a2 Zh.out (by rw[jv];exact jy (qb (qc _ _) hn) G)).mono ?_;rintro e x5 ⟨vc,rfl,F,a⟩;obtain⟨pc,bd,rfl⟩:=F.form;have m:=ac H a;have p:=Z C a;have ZN:=Z T1 a;clear H C a1 T1 a2 Zh;have aa:=O F;clear a F;refine d _ _ p.out λ_=>?_
  clear d;refine L ?_;refine ar A (λk d=>?_);go_simp;refine(lL n ba ((aJ c).take 4++nums.map vI) _ x5 aa Sg (HT.below m).num (HT.below m).start).mono ?_;rintro e u ⟨rfl,a⟩;have r:((de n ((aJ c).take 4++nums.map vI)).map v8).toArray.size=32:=by rw[j7,jv,et]
  have s:=ee (de n ((aJ c).take 4++nums.map vI));obtain⟨j,t⟩:=J (((de n ((aJ c).take 4++nums.map vI)).map v8).toArray);rw[<-t]at r s⊢;have SO:=O t;have M:=O r;have SE:=O s;clear t r s;have SI:=ac m a;have Q:=Z p a;have R:=Z ZN a;clear m p ZN aa;clear a;refine d _ _ Q.out λ_=>?_
  clear d;refine L ?_;refine ar A (λk d=>?_);rw[jm aj];refine jQ 23 _ _ A D j A A 23 _ R.out (by rw[M];rfl) (by rw[M];simp) SE (d _ _ ((j1 _ _ _ _ (aA au)).trans Q) λ_=>?_);clear d;have x:(u.setRow D j).heap[D]?=jb (jf j 23 (0,0)):=jS _ _ _ _ _ _ R.out;have y:jo w w (u.setRow D j):=jU SI Uf _;generalize u.setRow D j=z at x y⊢;have Tn:=O x;have SX:=O y;clear x y;refine L ?_;refine lo ?_
  go_wp2_with fail
  go_ret;have h:=Tn.out;rw[SO]at h;have S:=mY h (et _ _);refine⟨D,A,?_,SX⟩;exact S
 refine ar A (λk d=>?_);go_simp;have a:=ai x0 (jf aT 23);have f:=jB x0 (jf aT 23);obtain⟨x1,l⟩:=J (x0.alloc (jf aT 23));rw[<-l]at a f⊢;obtain⟨D,i⟩:=J x0.heap.size;rw[<-i]at f⊢;have P:=O i;clear i;have RD:=ac RG a;have YY:=Z Ye a;have R0:=O (R2.below a);have UQ:=O (rm Vx a);have Z5:=O f;have Uf:jj (w.heap.size<=D):=O (by rw[P];exact RG.size);have au:jj (b<D):=O (by rw[P];exact(jY.1 Ye).1);clear f l a;clear RG Ye R2 Vx;refine d _ _ YY.out λ_=>?_
 clear d;refine L ?_;refine ar A (λk d=>?_);go_simp;rw[UO];refine(oX c q x1 R0 l1 l2 l3 l4).mono ?_;rintro e x2 ⟨v,rfl,a5,a⟩;obtain⟨E,o,rfl,SQ⟩:∃g o,v=jh (jb ⟨g,0,jd⟩) 11 o/\11<=o:=by
  obtain⟨us,ho,-⟩:=a5;obtain⟨g,c,h1,h2,-⟩:=tF ho G;exact⟨g,c,h1,h2⟩
 have bh:∀W,(Instr.sliceAt 107 (jh (jb ⟨E,0,jd⟩) 11 o) jd (jb (I N 4)) jd).run jk W=.ok (jh (jb ⟨E,0,jd⟩) 4 o) W:=λW=>uj 107 128 4 underlying107 uK E 0 11 o 4 Y W
 have RE:=ac RD a;have TU:=Z YY a;have Vv:=O (rm UQ a);have UY:=Z Z5 a;clear RD YY R0 UQ Z5;clear a;have a3:=O (a5.val 4 G).2;clear a5;rw[<-UO];refine d _ _ TU.out λ_=>?_
 clear d;refine L ?_;refine bi ?_;refine ar A (λk d=>?_);go_simp;refine(rX nums _ x2 Vv Y).mono ?_;rintro e B ⟨bg,rfl,U,a⟩;obtain⟨V,X,rfl⟩:=a8 U;have a4:=mU (D:=(·<B.heap.size)) U (λg i=>(U.lt g i).2);have RI:=ac RE a;have K:=Z TU a;have UL:=Z UY a;have ad:=O (fy a3 a);clear RE TU Vv UY a3;have al:=O a4;clear a U a4;refine d _ _ K.out λ_=>?_
 clear d;refine L ?_;refine ar A (λk d=>?_);go_simp;have a:=ai B (jf #[jh (jb ⟨E,0,jd⟩) 4 o,jh V nums.length X] 107);have f:=jB B (jf #[jh (jb ⟨E,0,jd⟩) 4 o,jh V nums.length X] 107);obtain⟨x4,l⟩:=J (B.alloc (jf #[jh (jb ⟨E,0,jd⟩) 4 o,jh V nums.length X] 107));rw[<-l]at a f⊢;obtain⟨gl,i⟩:=J B.heap.size;rw[<-i]at f⊢;have bf:=O i;clear i;have H:=ac RI a;have C:=Z K a;have T1:=Z UL a;have a1:=O (fy ad a);have a2:=O (fy al a);clear RI K UL ad al;have Zh:=O f;clear f;clear l a;refine d _ _ C.out λ_=>?_
 clear d;refine L ?_;refine ar A (λk d=>?_);go_simp;refine(rR gl ((aJ c).take 4) (nums.map vI) _ _ _ _ _ _ x4 a1 a2 Zh.out (by rw[jv];exact jy (qb (qc _ _) hn) G)).mono ?_;rintro e x5 ⟨vc,rfl,F,a⟩;obtain⟨pc,bd,rfl⟩:=F.form;have m:=ac H a;have p:=Z C a;have ZN:=Z T1 a;clear H C T1 a1 a2 Zh;have aa:=O F;clear a F;refine d _ _ p.out λ_=>?_
 clear d;refine L ?_;refine ar A (λk d=>?_);go_simp;refine(lL n ba ((aJ c).take 4++nums.map vI) _ x5 aa Sg (HT.below m).num (HT.below m).start).mono ?_;rintro e u ⟨rfl,a⟩;have r:((de n ((aJ c).take 4++nums.map vI)).map v8).toArray.size=32:=by rw[j7,jv,et]
 have s:=ee (de n ((aJ c).take 4++nums.map vI));obtain⟨j,t⟩:=J (((de n ((aJ c).take 4++nums.map vI)).map v8).toArray);rw[<-t]at r s⊢;have SO:=O t;have M:=O r;have SE:=O s;clear t r s;have SI:=ac m a;have Q:=Z p a;have R:=Z ZN a;clear m p ZN aa;clear a;refine d _ _ Q.out λ_=>?_
 clear d;refine L ?_;refine ar A (λk d=>?_);rw[jm aj];refine jQ 23 _ _ A D j A A 23 _ R.out (by rw[M];rfl) (by rw[M];simp) SE (d _ _ ((j1 _ _ _ _ (aA au)).trans Q) λ_=>?_);clear d;have x:(u.setRow D j).heap[D]?=jb (jf j 23 (0,0)):=jS _ _ _ _ _ _ R.out;have y:jo w w (u.setRow D j):=jU SI Uf _;generalize u.setRow D j=z at x y⊢;have Tn:=O x;have SX:=O y;clear x y;refine L ?_;refine lo ?_
 go_wp2_with fail
 go_ret;have h:=Tn.out;rw[SO]at h;have S:=mY h (et _ _);refine⟨D,A,?_,SX⟩;exact S
theorem Bh(b:af):b.length<=(enc (vT b)).length:=by
 rw[vT,enc,jn G,jm A];simp only[jM,jw,oI];omega
theorem pf(h:x∈a):(enc x).length<=(enc (vL a)).length:=by
 rw[iC];have:=wV h;simp only[jM,jw];omega
theorem eu.bodies(h:eu (aJ y)):(∀b∈y.box,b.body.length<=800000)/\(∀b∈y.wel,b.body.length<=800000):=by
 have g:=h.len;refine⟨λb a=>?_,λb a=>?_⟩
 ·have d:(enc (vL (y.box.map Bx.val))).length<=(enc (vL (aJ y))).length:=pf (by unfold aJ;simp)
  have e:(enc b.val).length<=(enc (vL (y.box.map Bx.val))).length:=pf (jC.2 ⟨b,a,A⟩);have f:(enc (vT b.body)).length<=(enc b.val).length:=pf ax;have:=Bh b.body;omega
 have d:(enc (vL (y.wel.map Wl.val))).length<=(enc (vL (aJ y))).length:=pf (by unfold aJ;simp);have e:(enc b.val).length<=(enc (vL (y.wel.map Wl.val))).length:=pf (jC.2 ⟨b,a,A⟩);have f:(enc (vT b.body)).length<=(enc b.val).length:=pf ax;have:=Bh b.body;omega
theorem zI(c:aD):(fK c/\fD c=0)\/(¬fK c/\fD c=220):=by
 by_cases h:fK c
 ·exact .inl ⟨h,sR h⟩
 exact .inr ⟨h,eO h⟩
theorem B3(c:aD)(q:CQ)(w:ji)(f:aF (·<w.heap.size) w c q)(a:eu (aJ c)):
 jt jk 25 #[jp (av c q).toArray] w λe w'=>e=js (I N (fD c))/\jo w w w':=
 Dt c q w f a.lens.1 a.lens.2.1 a.lens.2.2.1 a.lens.2.2.2 (λb d=>by have:=a.bodies.1 b d;omega) (λb d=>by have:=a.bodies.2 b d;omega)
def BH(c:aD)(w:ji)(e:qa)(w':ji):Prop:=
 (fK c->∃v,e=js (jL #[v,I N 0])/\w'.ownsRow w 5 1 v (enc (vL (aJ c))).length ((enc (vL (aJ c))).map v8))/\(¬fK c->e=js (jL #[jh jd 0 0,I N 220]))/\jo w w w'
theorem Gw(c:aD)(q:CQ)(w:ji)(e:aF (·<w.heap.size) w c q)(a:eu (aJ c)):
 jt jk 20 #[jp (av c q).toArray] w (BH c w):=by
 have g:(jk.info? 63).map (·.size)=jb (av c q).toArray.size:=by rw[j7,fa c q e.plen e.clen];exact fN
 have h:=λW i=>B3 c q W i a
 have j:=λW i=>oX c q W i a.lens.1 a.lens.2.1 a.lens.2.2.1 a.lens.2.2.2
 have hk:=jB w (jf (av c q).toArray 63);have d:=ai w (jf (av c q).toArray 63);have f:=e.below d;obtain⟨k,p⟩:=J ((av c q).toArray);rw[<-p]at hk d f g h j⊢;obtain⟨M,l⟩:=J (w.alloc (jf k 63));obtain⟨b,m⟩:=J w.heap.size;rw[<-l]at hk d f;rw[<-m]at hk;have P:=O l;have Q:=O m;have n:=O hk;have r:=O d;have o:=O f;have u:=O g;have x:=O h;have R:=O j;have y:=O a;have z:=O (zI c);obtain⟨U,s⟩:=J (fD c);rw[<-s]at x z;clear g h j hk d f p l m e a s
 go_enter func20,ntmps20
 go_upto_region 1 with fail
 rw[<-P,<-Q];refine kw ?_;refine q8 A 63 _ A b A 63 k (0,0) _ n.out q6 A u ?_
 go_wp2_with fail
 refine(x M o).mono ?_;rintro e S ⟨rfl,a⟩;have j:=Z n a;have l:=ac r a;have m:=O (aF.below o a);clear n r o;clear a
 rcases z.out with⟨f,rfl⟩|⟨f,rfl⟩
 ·have o:=O f
  clear f
  go_wp2_with (refine q8 A 63 _ A b A 63 k (0,0) _ j.out q6 A u ?_)
  refine(R S m).mono ?_;rintro e B ⟨v,rfl,g,a⟩;have r:=O g;have V:=Z j a;have C:=ac l a;have X:=O (aF.below m a);clear j l m;clear a g;obtain⟨D,nv,E,rfl⟩:∃p n s,v=jh p n s:=by obtain⟨us,g,-⟩:=r.out;obtain⟨p,s,h⟩:=a8 g;exact⟨p,_,s,h⟩
  obtain⟨rfl,t⟩:=r.val 11 (jz _);have F:=O t;clear t
  go_wp2_with fail
  refine(kP D 11 E B).mono ?_;rintro e t ⟨rfl,a⟩;have H:jj (aw (·<t.heap.size) t (vL (aJ c)) (jh D 11 E)):=O (aw.mono (λb (d:b<B.heap.size)=>jT d a.size) _ _ (aw.keep (λb d=>a.block b d) _ _ (by have h:=F.out;rw[qd (by rw[ts];omega)]at h;exact h)));have K:=ac C a;clear C;clear a F r
  go_wp2_with fail
  refine(yi (vL (aJ c)) _ 3 t A y.wf H (bL y.len)).mono ?_;rintro e F ⟨vb,rfl,g,a⟩;have r:=O (pZ g (jy (jz _) K.size));have C:=ac K a;clear a g H
  go_wp2_with fail
  go_ret2;exact⟨λ_=>⟨_,A,r⟩,λh=>jD o h,C⟩
 have o:=O f;clear f
 go_wp2_with fail
 go_ret2;exact⟨λh=>jD h o,λ_=>rfl,l⟩
theorem JQ{l:jc aK}(e:k6 l)(h:cN l d=jg):∃m,l[kL l d]?=jb m/\l.find? (λm=>m.dev==d)=jb m:=by
 obtain⟨m,b⟩:∃m,l.find? (λm=>m.dev==d)=jb m:=by
  cases hf:l.find? (λm=>m.dev==d)with
  |some m=>exact⟨m,A⟩
  |none=>
   exfalso
   unfold cN at h;obtain⟨x,a,c⟩:=qs.1 h;exact jD c (by have:=qt.1 hf x a;simpa using this)
 refine⟨m,?_,b⟩;have g:=List.mem_of_find?_eq_some b;have f:m.dev=d:=by have:=List.find?_some b;simpa using this
 obtain⟨i,a,he⟩:=sg g;have j:kL l d=i:=by
  refine y6 d l i Y (λt k=>?_) (λt n c=>?_)
  ·have:=e t i k a
   rw[eE _ a,he,f]at this;exact this
  have:=vS e n c;rw[eE _ a,he,f]at this;exact this
 rw[j,qe a,he]
theorem Ek(g:aI)(vm vt S:je)(a:T)(l:jc ak)(w:ji)(h:cr w g vm vt)(q:k6 g.mem)(U:g.mem.length<=1000000)(v:EC.At w S l)(i:cN g.mem a=jl->l≠[]):
 jt jk 42 #[jp (aG g vm vt).toArray,I N a,S] w λe w'=>e=js (I N (dO g a l))/\jo w w w':=by
 have x:=lC (vm:=vm) (vt:=vt) h.llen;have s:=λW hW=>vU g vm vt a W hW q U h.llen
 have y:=dh.new w (vm:=vm) (vt:=vt) h.llen;have hk:=y.blk;have f:=ai w (jf (aG g vm vt).toArray 29);have j:=y.at.2.2.1;obtain⟨z,B,rfl,UE,-⟩:=h.mem.form;obtain⟨pl,cl,rfl,SQ,-⟩:=v.form;have k:=h.mem.below f;have m:=v.below f;obtain⟨C,D⟩:=J ((aG g (jh z g.mem.length B) vt).toArray);rw[<-D]at x s hk f j k m⊢;obtain⟨x0,c⟩:=J (w.alloc (jf C 29));obtain⟨b,E⟩:=J w.heap.size;rw[<-c]at hk f j k m;rw[<-E]at hk j;obtain⟨n,F⟩:=J l.length;obtain⟨t,u⟩:=J g.mem.length;rw[<-F]at m SQ⊢;rw[<-u]at j k UE U s;have HX:=O c;have TJ:=O E;have H:=O hk;have V:=O f;have K:=O k;have X:=O m;have Sb:=O x;have M:=O s;have Uv:=O i;have al:=O q;have HN:=O F;have Yc:=O u;have TK:=O (λh=>JQ (d:=a) q h);obtain⟨P,o⟩:=J (cN g.mem a);obtain⟨p,Q⟩:=J (kL g.mem a);rw[<-o,<-Q]at M;rw[<-o]at Uv;rw[<-Q,<-o]at TK;have aa:=O o;have ad:jj (C[34]?=jb (jh z t B)):=O (by rw[D,u];simpa using(mi (vm:=jh z g.mem.length B) (vt:=vt) h.llen).2.2.1);obtain⟨r,R⟩:=J (dO g a l);rw[<-R];have HR:=O R;clear x s y hk f k m D c E F u o Q h q v i j R
 go_enter func42,ntmps42
 go_upto_region 1 with fail
 rw[<-HX,<-TJ];refine kw ?_;refine q8 A 29 _ A b A 29 C (0,0) _ H.out kl A Sb ?_
 go_wp2_with fail
 refine(M x0 K).mono ?_;rintro e s ⟨rfl,f⟩;have y:=Z H f;have D:=O (K.below f);have E:=O (X.below f);have u:=ac V f;clear f M H K X V
 cases P with
 |true=>
  obtain⟨m,k,v⟩:=TK A;have F:p<t:=by rw[Yc];exact(qu.1 k).1
  obtain⟨q,o,rfl,f⟩:=(D.cells).2.2 Y;have H:=ae y ad;have x:s.cell? ⟨q,o+p*3+2,jd⟩=jb (I N m.ver):=f p m k 2 _ A;have j:r=m.ver:=by rw[HR];unfold dO;rw[v]
  have K:=ao ((p:T)<(t:T));have M:=ao (p<t);rw[<-j]at x;clear f k v j
  go_wp2_with fail
  go_ret;exact⟨A,u⟩
 |false=>
  have i:=Uv A;obtain⟨x,k,c⟩:∃x k,l=x::k:=by
   rcases l with _|⟨x,r⟩
   ·exact jD A i
   exact⟨x,r,A⟩
  have F:0<n:=by rw[HN,c];simp
  obtain⟨q,o,rfl,f⟩:=(E.cells).2.2 F;have H:s.cell? ⟨q,o+3,jd⟩=jb (I N x.v):=by
   have h:=f 0 x (by rw[c];rfl) 3 _ A;rw[Nat.zero_mul,Nat.add_zero]at h;exact h
  have v:g.mem.find? (λm=>m.dev==a)=jd:=by
   rw[qt];intro m P;have h:=aa.out;unfold cN at h;have:=List.any_eq_false.1 h.symm m P
   simpa using this
  have j:r=x.v:=by rw[HR];unfold dO;rw[v,c]
  rw[<-j]at H;clear f c v i j
  go_wp2_with fail
  go_ret;exact⟨A,u⟩
theorem I9(a c b d:T)(f:T)(g:jr jR)(i j:ja)(w:ji):jt jk 55 #[jp #[I N a,I N c,I N f,jh g i j],jp #[I N b,I N d,I N 0,jh jd 0 0]] w λe w'=>e=js (.bool ((a==b)&&(c==d)))/\jo w w w':=by
 have h:=(ai w (jf #[I N a,I N c,I N f,jh g i j] 54)).trans ((ai (w.alloc (jf #[I N a,I N c,I N f,jh g i j] 54)) (jf #[I N b,I N d,I N 0,jh jd 0 0] 54)).mono (ai w _).size);have l:=O h;clear h
 by_cases h:a=b
 ·have k:(a==b)=jg:=ah h
  rw[k,Bool.true_and];clear h
  go_enter func55,ntmps55
  go_wp2_with fail
  go_ret;exact⟨A,l⟩
 have k:(a==b)=jl:=ah h;rw[k,Bool.false_and];clear h
 go_enter func55,ntmps55
 go_wp2_with fail
 go_ret;exact⟨A,l⟩
theorem yy(l:jc Bx)(r:jc (T×T))(v aa:je)(w:ji)(h:∃Q,ay D w v 4 l.length (dm Bx.cells l Q)/\cD D w (l.map Bx.body) Q)(a:EB0.At w aa r)(hl:l.length<=1000000)(hr:r.length<=1000000):
 jt jk 57 #[v,aa,.func (.func 55) #[] #[]] w λe w'=>e=js (.bool (decide (l.map (λb:Bx=>(b.lev,b.node))=r.map (λx:T×T=>x))))/\jo w w w':=by
 obtain⟨V,f⟩:=J (decide (l.map (λb:Bx=>(b.lev,b.node))=r.map (λx:T×T=>x)));rw[<-f];have X:=O f;obtain⟨p,c,g⟩:∃p c,v=jh p l.length c:=by obtain⟨Q,h,-⟩:=h;exact h.form
 obtain⟨q,d,rfl,hd,-⟩:=a.form;obtain⟨n,i⟩:=J l.length;obtain⟨m,k⟩:=J r.length;have HU:=O h;have HV:=O a;have TY:=O g;rw[g];have HN:=O i;have HM:=O k;rw[<-i]at hl⊢;rw[<-k]at hr hd HV⊢;have EG:∀args w,(callFunc 55 args).run jk w=.ok (.enter 55 args) w:=λ_ _=>rfl
 clear h a i k f g
 by_cases F:n=m
 ·have a4:((n:T)!=(m:T))=jl:=by simp[F]
  have a5:((n:T)==(m:T))=jg:=by simp[F]
  have Yc:=O F;clear F
  go_enter func57,ntmps57
  go_wp2_with fail
  go_loopw [17] (λi wr=>∃k:ja,i=I N k/\k<=n/\jj ((l.take k).map (λb:Bx=>(b.lev,b.node))=(r.take k).map (λx:T×T=>x))/\jj (jo w w wr)) (λi _=>n-(jq i).toNat)
  case atStart=>exact⟨0,A,j4 _,O ax,O (jG _ _)⟩
  obtain⟨k,rfl,hk,HG,a⟩:=hrel
  by_cases ba:k<n
  ·have bb:=ao ((k:T)<(n:T))
   have bc:=ao (k<n);have Z8:k<m:=aA Yc;have bn:=ao ((k:T)<(m:T));have bo:=ao (k<m);obtain⟨x,R,ad⟩:=dF (l:=l) (j:=k) (by rw[<-HN];exact ba);obtain⟨y,E,al⟩:=dF (l:=r) (j:=k) (by rw[<-HM];exact Z8);obtain⟨Q,au,a1⟩:=HU.out;obtain⟨bq,a2,ZJ⟩:=a1.at (i:=k) (b:=x.body) (by rw[oi,R];rfl);obtain⟨g,o,c',hq,H⟩:=rO au (λ_ _=>rfl) R a2;rw[TY]at hq;injection hq with e1 e2 e3
   subst e1;subst e3;obtain⟨t,u,rfl⟩:=ZJ.form;obtain⟨B,a3⟩:=J x.body.length;rw[<-a3]at H;obtain⟨S,U,rfl,K⟩:=(HV.cells).2.2 Y;have bd:=O ad;have bf:=O al;have bg:=O R;have bh:=O E;obtain⟨f,s,C,xb⟩:=x;obtain⟨M,P⟩:=y;have z:=ai wr (jf #[I N f,I N s,I N C,jh t B u] 54);have TZ:=ai (wr.alloc (jf #[I N f,I N s,I N C,jh t B u] 54)) (jf #[I N P,I N M,I N 0,jh jd 0 0] 54);have a0:wr.cell? ⟨g,o+k*4,jd⟩=jb (I N f):=aB (H 0 _ A) a;have bk:wr.cell? ⟨g,o+k*4+1,jd⟩=jb (I N s):=aB (H 1 _ A) a;have bl:wr.cell? ⟨g,o+k*4+2,jd⟩=jb (I N C):=aB (H 2 _ A) a;have bm:wr.cell? ⟨g,o+k*4+3,jd⟩=jb (jh t B u):=aB (H 3 _ A) a;have b0:(wr.alloc (jf #[I N f,I N s,I N C,jh t B u] 54)).cell? ⟨S,U+k*4,jd⟩=jb (I N P):=aB (aB (K k _ E 0 _ A) a) z;have b1:(wr.alloc (jf #[I N f,I N s,I N C,jh t B u] 54)).cell? ⟨S,U+k*4+1,jd⟩=jb (I N M):=aB (aB (K k _ E 1 _ A) a) z;have b2:(wr.alloc (jf #[I N f,I N s,I N C,jh t B u] 54)).cell? ⟨S,U+k*4+2,jd⟩=jb (I N 0):=aB (aB (K k _ E 2 _ A) a) z;have b3:(wr.alloc (jf #[I N f,I N s,I N C,jh t B u] 54)).cell? ⟨S,U+k*4+3,jd⟩=jb (jh jd 0 0):=aB (aB (K k _ E 3 _ A) a) z;have HC:=O (λW=>I9 f s P M C t B u W);have W:=O (z.trans (TZ.mono z.size));clear H au a1 a2 ZJ K R E ad al z TZ e2 a3
   go_wp2_with fail
   refine(HC _).mono ?_;rintro e w1 ⟨rfl,z⟩;have K:=O (a.trans ((W.trans (z.mono W.size)).mono a.size));clear z HC W a0 bk bl bm b0 b1 b2 b3
   by_cases E:((f==P)&&(s==M))=jg
   ·rw[E]
    have z:jj ((l.take (k+1)).map (λb:Bx=>(b.lev,b.node))=(r.take (k+1)).map (λx:T×T=>x)):=O (by
     rw[bd,bf,mF,mF,HG]
     congr 1
     simp only[j5,List.map_nil];simp at E;simp[E])
    clear E
    go_wp2_with fail
    exact⟨⟨k+1,by go_num,by omega,z,K⟩,by simp only[jq];omega⟩
   have R:((f==P)&&(s==M))=jl:=ah E;rw[R];obtain rfl:V=jl:=by
    rw[X,decide_eq_false_iff_not];intro e;have H:=jK (λz=>z[k]?) e;simp only[oi,bg.out,bh.out,j8,qf.injEq]at H
    apply E
    try simp at H
    simp[H]
   clear E R
   go_wp2_with fail
   go_ret;exact⟨A,K⟩
  have bb:=ap ((k:T)<(n:T));have bc:=ap (k<n);obtain rfl:k=n:=Y;obtain rfl:V=jg:=by
   rw[X,decide_eq_true_iff];have h:=HG.out;rw[qd (l:=l) (by rw[<-HN];exact jz _),qd (l:=r) (by rw[<-HM,<-Yc];exact jz _)]at h;exact h
  go_wp2_with fail
  go_ret;exact⟨A,a⟩
 have a4:((n:T)!=(m:T))=jg:=by simp;omega
 have a5:((n:T)==(m:T))=jl:=by simp;omega
 obtain rfl:V=jl:=by
  rw[X,decide_eq_false_iff_not];intro e;have:=jK qH e;rw[jv,jv,<-HN,<-HM]at this;exact F this
 clear F
 go_enter func57,ntmps57
 go_wp2_with fail
 go_ret;exact⟨A,jG _ _⟩
theorem Px(a b h c:T)(i j k:T)(d:jr jR)(f g:ja)(w:ji):jt jk 56 #[jp #[I N a,I N b,jh d f g],jp #[I N h,I N c,I N i,I N j,I N k]] w λe w'=>e=js (.bool (a==c))/\jo w w w':=by
 have l:=(ai w (jf #[I N a,I N b,jh d f g] 104)).trans ((ai (w.alloc (jf #[I N a,I N b,jh d f g] 104)) (jf #[I N h,I N c,I N i,I N j,I N k] 47)).mono (ai w _).size);have m:=O l;clear l
 go_enter func56,ntmps56
 go_wp2_with fail
 go_ret;exact⟨A,m⟩
theorem Da(l:jc Wl)(r:jc ak)(v aa:je)(w:ji)(h:∃Q,ay D w v 3 l.length (dm Wl.cells l Q)/\cD D w (l.map Wl.body) Q)(a:EC.At w aa r)(hl:l.length<=1000000)(hr:r.length<=1000000):
 jt jk 58 #[v,aa,.func (.func 56) #[] #[]] w λe w'=>e=js (.bool (decide (l.map (Wl.dev)=r.map (ak.d))))/\jo w w w':=by
 obtain⟨S,f⟩:=J (decide (l.map (Wl.dev)=r.map (ak.d)));rw[<-f];have U:=O f;obtain⟨p,c,g⟩:∃p c,v=jh p l.length c:=by obtain⟨Q,h,-⟩:=h;exact h.form
 obtain⟨q,d,rfl,hd,-⟩:=a.form;obtain⟨n,i⟩:=J l.length;obtain⟨m,k⟩:=J r.length;have HU:=O h;have HV:=O a;have TY:=O g;rw[g];have V:=O i;have X:=O k;rw[<-i]at hl⊢;rw[<-k]at hr hd HV⊢;have EG:∀args w,(callFunc 56 args).run jk w=.ok (.enter 56 args) w:=λ_ _=>rfl
 clear h a i k f g
 by_cases E:n=m
 ·have a4:((n:T)!=(m:T))=jl:=by simp[E]
  have a5:((n:T)==(m:T))=jg:=by simp[E]
  have Yc:=O E;clear E
  go_enter func58,ntmps58
  go_wp2_with fail
  go_loopw [17] (λi wr=>∃k:ja,i=I N k/\k<=n/\jj ((l.take k).map (Wl.dev)=(r.take k).map (ak.d))/\jj (jo w w wr)) (λi _=>n-(jq i).toNat)
  case atStart=>exact⟨0,A,j4 _,O ax,O (jG _ _)⟩
  obtain⟨k,rfl,hk,HG,a⟩:=hrel
  by_cases ba:k<n
  ·have bb:=ao ((k:T)<(n:T))
   have bc:=ao (k<n);have Z8:k<m:=aA Yc;have bm:=ao ((k:T)<(m:T));have bn:=ao (k<m);obtain⟨x,R,ad⟩:=dF (l:=l) (j:=k) (by rw[<-V];exact ba);obtain⟨y,C,al⟩:=dF (l:=r) (j:=k) (by rw[<-X];exact Z8);obtain⟨Q,au,a1⟩:=HU.out;obtain⟨bo,a2,ZJ⟩:=a1.at (i:=k) (b:=x.body) (by rw[oi,R];rfl);obtain⟨g,o,c',hq,H⟩:=rO au (λ_ _=>rfl) R a2;rw[TY]at hq;injection hq with e1 e2 e3
   subst e1;subst e3;obtain⟨s,t,rfl⟩:=ZJ.form;obtain⟨u,a3⟩:=J x.body.length;rw[<-a3]at H;obtain⟨K,M,rfl,F⟩:=(HV.cells).2.2 Y;have bd:=O ad;have bf:=O al;have bg:=O R;have bh:=O C;obtain⟨f,B,xb⟩:=x;obtain⟨yk,P,yp,yv,yc⟩:=y;have z:=ai wr (jf #[I N f,I N B,jh s u t] 104);have TZ:=ai (wr.alloc (jf #[I N f,I N B,jh s u t] 104)) (jf #[I N yk,I N P,I N yp,I N yv,I N yc] 47);have a0:wr.cell? ⟨g,o+k*3,jd⟩=jb (I N f):=aB (H 0 _ A) a;have bk:wr.cell? ⟨g,o+k*3+1,jd⟩=jb (I N B):=aB (H 1 _ A) a;have bl:wr.cell? ⟨g,o+k*3+2,jd⟩=jb (jh s u t):=aB (H 2 _ A) a;have b0:(wr.alloc (jf #[I N f,I N B,jh s u t] 104)).cell? ⟨K,M+k*5,jd⟩=jb (I N yk):=aB (aB (F k _ C 0 _ A) a) z;have b1:(wr.alloc (jf #[I N f,I N B,jh s u t] 104)).cell? ⟨K,M+k*5+1,jd⟩=jb (I N P):=aB (aB (F k _ C 1 _ A) a) z;have b2:(wr.alloc (jf #[I N f,I N B,jh s u t] 104)).cell? ⟨K,M+k*5+2,jd⟩=jb (I N yp):=aB (aB (F k _ C 2 _ A) a) z;have b3:(wr.alloc (jf #[I N f,I N B,jh s u t] 104)).cell? ⟨K,M+k*5+3,jd⟩=jb (I N yv):=aB (aB (F k _ C 3 _ A) a) z;have b4:(wr.alloc (jf #[I N f,I N B,jh s u t] 104)).cell? ⟨K,M+k*5+4,jd⟩=jb (I N yc):=aB (aB (F k _ C 4 _ A) a) z;have HC:=O (λW=>Px f B yk P yp yv yc s u t W);have W:=O (z.trans (TZ.mono z.size));clear H au a1 a2 ZJ F R C ad al z TZ e2 a3
   go_wp2_with fail
   refine(HC _).mono ?_;rintro e w1 ⟨rfl,z⟩;have H:=O (a.trans ((W.trans (z.mono W.size)).mono a.size));clear z HC W a0 bk bl b0 b1 b2 b3 b4
   by_cases C:(f==P)=jg
   ·rw[C]
    have z:jj ((l.take (k+1)).map (Wl.dev)=(r.take (k+1)).map (ak.d)):=O (by
     rw[bd,bf,mF,mF,HG]
     congr 1
     simp only[j5,List.map_nil];simp at C;simp[C])
    clear C
    go_wp2_with fail
    exact⟨⟨k+1,by go_num,by omega,z,H⟩,by simp only[jq];omega⟩
   have R:(f==P)=jl:=ah C;rw[R];obtain rfl:S=jl:=by
    rw[U,decide_eq_false_iff_not];intro e;have F:=jK (λz=>z[k]?) e;simp only[oi,bg.out,bh.out,j8,qf.injEq]at F
    apply C
    try simp at F
    simp[F]
   clear C R
   go_wp2_with fail
   go_ret;exact⟨A,H⟩
  have bb:=ap ((k:T)<(n:T));have bc:=ap (k<n);obtain rfl:k=n:=Y;obtain rfl:S=jg:=by
   rw[U,decide_eq_true_iff];have h:=HG.out;rw[qd (l:=l) (by rw[<-V];exact jz _),qd (l:=r) (by rw[<-X,<-Yc];exact jz _)]at h;exact h
  go_wp2_with fail
  go_ret;exact⟨A,a⟩
 have a4:((n:T)!=(m:T))=jg:=by simp;omega
 have a5:((n:T)==(m:T))=jl:=by simp;omega
 obtain rfl:S=jl:=by
  rw[U,decide_eq_false_iff_not];intro e;have:=jK qH e;rw[jv,jv,<-V,<-X]at this;exact E this
 clear E
 go_enter func58,ntmps58
 go_wp2_with fail
 go_ret;exact⟨A,jG _ _⟩
def gH(l:jc ak)(m:aK):jV:=l.any λx=>x.d==m.dev
theorem Md(d:T)(b:ja)(f g:T)(x:ak)(w:ji)(c:w.heap[b]?=jb (jf #[I N d,I N f,I N g] 43 (0,0))):
 jt jk 63 #[jp x.cells.toArray,jH (jb ⟨b,0,jd⟩)] w λe w'=>e=js (.bool (x.d==d))/\jo w w w':=by
 obtain⟨h,j,k,l,m⟩:=x;unfold ak.cells;have a:=ai w (jf #[I N h,I N j,I N k,I N l,I N m] 47);have o:=ae (i:=0) (az c a) A;have n:=O a;clear a c
 go_enter func63,ntmps63
 go_wp2_with fail
 go_ret;exact⟨A,n⟩
theorem Mq(d:T)(a b:ja)(c e:T)(f:a<b):fW EC 63 #[jH (jb ⟨a,0,jd⟩)] b (λW=>W.heap[a]?=jb (jf #[I N d,I N c,I N e] 43 (0,0))) (λx=>x.d==d) where
 enter _ _:=A
 keep w w' hn h hB:=(hB.block a f).trans h
 call x w hn h:=Md d a c e x w h
theorem K7(c:aD)(q:CQ)(b:ja)(m:aK)(w:ji)(r:cZ w b c q)(h:EC.At w q.vc c.chg)(s:c.chg.length<=1000000):
 jt jk 61 #[jp m.cells.toArray,jH (jb ⟨b,0,jd⟩)] w λe w'=>e=js (.bool (gH c.chg m))/\jo w w w':=by
 obtain⟨md,a,d⟩:=m;unfold aK.cells;have f:=ai w (jf #[I N md,I N a,I N d] 43);have g:=jB w (jf #[I N md,I N a,I N d] 43);obtain⟨t,i⟩:=J (w.alloc (jf #[I N md,I N a,I N d] 43));obtain⟨y,j⟩:=J w.heap.size;rw[<-i]at f g;rw[<-j]at g;have k:=h.below f;have l:=(r.below f).at.2.2.2.1;obtain⟨p,D,u,-,-⟩:=h.form;rw[u]at l k;have o:=O (FU (Mq md y t.heap.size a d (jY.1 g).1) c.chg _ t k g (jz _) s);have v:=O f;have z:=O i;have B:=O j;have C:jj ((c.chg.any λx=>x.d==md)=gH c.chg ⟨md,a,d⟩):=O A;obtain⟨n,x⟩:=J c.chg.length;rw[<-x]at l o;clear r h s f g i j k u x
 go_enter func61,ntmps61
 go_upto_region 1 with fail
 rw[<-z,<-B]
 go_wp2_with fail
 refine(o).mono ?_;rintro e h ⟨rfl,f⟩;have g:=ac v f;clear f o v l
 go_wp2_with fail
 go_ret;exact⟨ku C,g⟩
theorem N4(c:aD)(q:CQ)(b:ja)(a:ji)(d:cZ a b c q)(e:EC.At a q.vc c.chg)(f:c.chg.length<=1000000):
 fW EM 61 #[jH (jb ⟨b,0,jd⟩)] a.heap.size (λW=>jo a a W) (gH c.chg) where
 enter _ _:=A
 keep w w' hn h hB:=h.trans hB
 call x w hn h:=K7 c q b x w (d.below h) (e.below h) f
theorem Cg:∀(xs:jc je) (k i:ja) (cs:jA je),k+i+xs.length<=cs.size->((xs.zipIdx i).foldl (λcs x=>cs.setIfInBounds (k+x.2) x.1) cs).toList=cs.toList.take (k+i)++xs++cs.toList.drop (k+i+xs.length)
 |[],k,i,cs,h=>by simp
 |x::xs,k,i,cs,h=>by
  rw[jM]at h;have hk:k+i<cs.toList.length:=by rw[qo];omega
  rw[qv,List.foldl_cons,Cg xs k (i+1) _ (by rw[Array.size_setIfInBounds];omega),oj,<-qw,sh,List.take_set_of_le (jz _),List.getElem?_set_self hk,List.drop_set_of_lt Y,jM];simp only[Option.toList_some,qx,List.singleton_append,qI,List.nil_append];rw[show k+i+1+xs.length=k+i+(xs.length+1) by omega]
theorem Ez(X a:jA je)(k n:ja)(h:X.size=n)(d:k+n<=a.size):Array.foldl (λcs x=>cs.setIfInBounds (k+x.2) x.1) a X.zipIdx 0 n=(a.toList.take k++X.toList++a.toList.drop (k+n)).toArray:=by
 have b:X.zipIdx.size=n:=by simp[h]
 have c:Array.foldl (λcs (x:je×ja)=>cs.setIfInBounds (k+x.2) x.1) a X.zipIdx 0 n=X.zipIdx.toList.foldl (λcs x=>cs.setIfInBounds (k+x.2) x.1) a:=by
  rw[Array.foldl_toList,b]
 rw[c,Array.toList_zipIdx]
 apply ol
 rw[Cg _ _ _ _ (by rw[qo];omega)];simp[h]
theorem Jj(f e:T)(a:jA je)(b:a.size=32)(w:ji):
 (Instr.build 29 #[(0,I N f),(1,I N e),(2,jp a)]).run jk w=.ok (jp (#[I N f,I N e]++a++ #[jh jd 0 0,jh jd 0 0])) w:=by
 unfold Instr.build;go_simp;rw[Ez a _ 2 32 b ax];obtain⟨l⟩:=a;simp
theorem N8(w:ji):(Instr.build 29 #[]).run jk w=.ok (jp (aG ⟨0,0,lr 32 0#8,[],[]⟩ (jh jd 0 0) (jh jd 0 0)).toArray) w:=by
 unfold Instr.build;go_simp
 rfl
theorem bp.ints{v:je}(h:bp w v t)(a:∀(g o:ja) (x:T),w.cell? ⟨g,o,jd⟩=jb (I N x)->w'.cell? ⟨g,o,jd⟩=jb (I N x)):bp w' v t:=by
 obtain⟨p,c,f,i,k,l,m⟩:=h;refine⟨p,c,f,i,k,λn=>?_,m⟩;obtain⟨g,o,e,b⟩:=l n;exact⟨g,o,e,λj d=>⟨a _ _ _ (b j d).1,a _ _ _ (b j d).2⟩⟩
theorem tc{b:ja}{X l:jA je}{t:ju}(m:w.heap[b]?=jb (jf X t (0,0)))(q:w'.heap[b]?=jb (jf l t (0,0)))(r:∀j,j≠i->l[j]?=X[j]?){p:jr jR}{n c:ja}(j:X[i]?=jb (jh p n c))
 (hk:∀k,k<w.heap.size->k≠b->w'.heap[k]?=w.heap[k]?):∀(g o:ja) (x:T),w.cell? ⟨g,o,jd⟩=jb (I N x)->w'.cell? ⟨g,o,jd⟩=jb (I N x):=λg o x d=>by
 by_cases e:g=b
 ·subst e
  unfold World.cell? at d⊢;rw[m]at d;rw[q];simp only at d⊢;have f:X[o]?=jb (I N x):=ah d;have k:o≠i:=λe=>by rw[e,j]at f;injection f with h;cases h
  have:=(r o k).trans f
  simpa using this
 rw[<-d];exact bX (a:=⟨g,o,jd⟩) (hk g (fb d) e)
theorem kV(g:aI)(a b:je)(h:g.last.length=32):(aG g a b).toArray[34]?=jb a/\(aG g a b).toArray[35]?=jb b/\(aG g a b).toArray.size=36:=by
 have c:=mi (vm:=a) (vt:=b) h;exact⟨by simpa using c.2.2.1,by simpa using c.2.2.2,by rw[j7,zq h]⟩
theorem Bw(g:aI)(a b x:je)(h:g.last.length=32):(aG g a b).toArray.setIfInBounds 34 x=(aG g x b).toArray:=by
 apply ol
 rw[oj];unfold aG;have c:(g.last.map v8).length=32:=by rw[jv];exact h
 show qg (_ ::_ ::(g.last.map v8++[a,b])) 34 x=_;rw[j9,j9,mT _ _ Y,c]
 rfl
theorem A5(g:aI)(a b x:je)(h:g.last.length=32):(aG g a b).toArray.setIfInBounds 35 x=(aG g a x).toArray:=by
 apply ol
 rw[oj];unfold aG;have c:(g.last.map v8).length=32:=by rw[jv];exact h
 show qg (_ ::_ ::(g.last.map v8++[a,b])) 35 x=_;rw[j9,j9,mT _ _ Y,c]
 rfl
theorem Le(g:aI)(a c b:je)(h:g.last.length=32)(j:ja)(d:j≠34):(aG g c b).toArray[j]?=(aG g a b).toArray[j]?:=by
 rw[<-Bw g a b c h,qy (Ne.symm d)]
theorem Qf(g:aI)(a b c:je)(h:g.last.length=32)(j:ja)(d:j≠35):(aG g a c).toArray[j]?=(aG g a b).toArray[j]?:=by
 rw[<-A5 g a b c h,qy (Ne.symm d)]
theorem mS{b:ja}{t:ju}(v:je)(h:w.heap[b]?=jb (jf cs t (0,0))):(w.setCell ⟨b,i,jd⟩ v).heap[b]?=jb (jf (cs.setIfInBounds i v) t (0,0)):=by
 show(w.heap.modify b _)[b]?=_;rw[sn];simp[h]
theorem fR(v:je)(k:h≠f):(w.setCell ⟨f,i,jd⟩ v).heap[h]?=w.heap[h]?:=sq _ _ _ _ k
theorem mW{b o n:ja}{t:ju}(h:w.heap[b]?=jb (jf cs t (0,0)))(a:o+n<=cs.size):w.there b o n:=by
 intro j c;refine⟨?_,by simp[sv,h]⟩;rw[ae h (Array.getElem?_eq_getElem (show o+j<cs.size by omega))]
 rfl
theorem M6{b o:ja}{t:ju}(h:w.heap[b]?=jb (jf cs t (0,0))):w.frozen? ⟨b,o,jd⟩=jl:=by simp[sv,h]
def iB(l:jc aK)(a:jc ak)(ep:T):jc aK:=(l.filter λm=> !gH a m)++(a.filter λx=> !(x.k==2)).map λx=>⟨x.d,ep,x.v⟩
theorem Pd(h:co r):(r.mem.map aK.dev).Nodup:=by
 rw[h.dev];exact(sX r.tree).imp λh=>Int.ne_of_lt h
theorem PX{l:jc aK}{c:jc ak}{ep:T}(f:(l.map aK.dev).Nodup)(g:(c.map ak.d).Nodup):((iB l c ep).map aK.dev).Nodup:=by
 unfold iB;rw[mF,List.nodup_append];refine⟨f.sublist (qJ.map _),?_,?_⟩
 ·rw[oo]
  exact g.sublist (qJ.map _)
 intro a h b i e;obtain⟨m,j,rfl⟩:=jC.1 h;obtain⟨y,k,rfl⟩:=jC.1 i;obtain⟨x,n,rfl⟩:=jC.1 k;have d:=(qz.1 j).2;have o:gH c m=jg:=by
  unfold gH;exact qs.2 ⟨x,(qz.1 n).1,by simpa using e.symm⟩
 rw[o]at d
 cases d
theorem Q6(l:jc aK)(a b:jc ak)(x:ak)(ep:T):(l.filter λm=> !gH a m)++((b++[x]).filter λx=> !(x.k==2)).map (λx=>(⟨x.d,ep,x.v⟩:aK))=
 ((l.filter λm=> !gH a m)++(b.filter λx=> !(x.k==2)).map (λx=>(⟨x.d,ep,x.v⟩:aK)))++(if x.k=2 then []else [⟨x.d,ep,x.v⟩]):=by
 rw[qA,mF,qx]
 congr 1
 by_cases h:x.k=2
 ·simp[h]
 simp[h]
noncomputable def kK(p r s:T)(msg:af):jV:=by classical exact decide (lB p r s msg)
theorem yR{s:T}:kK d W s m=jg↔lB d W s m:=by unfold kK;simp
def onB(g:aI)(c:aD):jV:=(c.folder==g.folder)&&(c.epoch==g.epoch+1)&&decide (c.parent=g.last)
noncomputable def iu(g:aI)(c:aD):jV:=decide (c.box.map (λb:Bx=>(b.lev,b.node))=dj g c.author c.chg)&&decide (c.wel.map Wl.dev=(dD c.author c.chg).map ak.d)
noncomputable def eY(g:aI)(c:aD):T:=
 if fg g=jl then 1 else if fD c≠0 then 220 else if onB g c=jl then 220 else if cK g c.author c.chg≠0 then cK g c.author c.chg else if iu g c=jl then 220
 else if kK (dO g c.author c.chg) c.r c.s (dJ c)=jl then 222 else eT (aV g.tree c.chg) c.author c.path
noncomputable def dV(g:aI)(c:aD):aI:=⟨g.folder,c.epoch,idC c,io (iB g.mem c.chg c.epoch),lx (aV g.tree c.chg) c.author c.path⟩
def fh:aI:=⟨0,0,lr 32 0#8,[],[]⟩
structure dy(M R:ja)(t e:ju)(sz:ja)(X:je->jA je)(w0 wr:ji)(n:ja)(a:je)(xs:jc je):Prop where
 box:wr.heap[R]?=jb (jf (X a) t (0,0))
 own:wr.ownsRow M e sz a n xs
 but:aM R M w0 wr
 sz':M<=wr.heap.size
theorem dy.later{u:ju}{P:ji}{F:ja}(sz:dy f i e u h X w p F j c)(d:i<f)(a:jo p p P):dy f i e u h X w P F j c:=
 ⟨(a.block i (jT d sz.sz')).trans sz.box,dx sz.own a,sz.but.trans (aM.of_below (a.mono sz.sz')) (jz _),jy sz.sz' a.size⟩
theorem mh{sz n:ja}{v:je}(h:w.ownsRow M e sz v n xs)(hk:∀k,M<=k->w'.heap[k]?=w.heap[k]?):w'.ownsRow M e sz v n xs:=by
 refine⟨h.1,?_⟩
 rcases h.2 with a|⟨g,b,c,d,a,f,i⟩
 ·exact .inl a
 exact .inr ⟨g,b,c,d,a,(hk g a).trans f,i⟩
theorem lY(w:ji)(a:jR)(v:je):(w.setCell a v).heap.size=w.heap.size:=by simp[sx]
theorem dy.push{t:ju}{sz:ja}{f d:ji}{n m:ja}{c b:je}{g:jc je}(h:dy M R t e sz X w0 f n c xs)(j:R<M)(a:bS M e sz f d c b m g)(l:(X c).setIfInBounds i b=X b):
 dy M R t e sz X w0 (d.setCell ⟨R,i,jd⟩ b) m b g:=by
 have o:d.heap[R]?=jb (jf (X c) t (0,0)):=eP h.box a.grown (cJ h.own (.inr j));refine⟨?_,mh a.own (λk hk=>fR _ Y),?_,?_⟩
 ·rw[<-l];exact mS b o
 ·refine h.but.trans ⟨a.grown.os,a.grown.tape,a.grown.output,by rw[lY];exact a.grown.size,λk hk p=>(fR _ p).trans (a.grown.block k (jT hk h.sz') (λe=>?_))⟩ (jz _)
  have:=(h.own.lt k e.symm).1;omega
 rw[lY];exact jy h.sz' a.grown.size
theorem dy.first{t:ju}{sz:ja}{a:ji}{n:ja}{b v:je}(c:a.heap[R]?=jb (jf (X b) t (0,0)))(d:a.ownsRow M e sz v n xs)(f:jo M w0 a)(g:M<=a.heap.size)(l:R<M)(h:(X b).setIfInBounds i v=X v):
 dy M R t e sz X w0 (a.setCell ⟨R,i,jd⟩ v) n v xs:=by
 refine⟨?_,mh d (λk hk=>fR _ Y),?_,by rw[lY];exact g⟩
 ·rw[<-h];exact mS v c
 exact(aM.of_below f).trans ⟨A,A,A,lw (lY _ _ _).symm,λk hk j=>fR _ j⟩ (jz _)
theorem Jw{w:ji}{B:Oper}{C:Act}{K:Act->ji->Prop}{g:Exit->Act->ji->Prop}(s x:p6)
 (f:B.op=.call {callee:=.builtin .append,args:=#[s,x],argTypes:=#[24,24]})
 (o:ja) (v:je) (n:ja) (xs:jc je) (e:C.eval s=v) (i:w.ownsRow o 43 3 v n xs) (b:je) (m:ja) (c:jc je) (j:C.eval x=b) (k:cO w b 3 m c) (l:∀b∈c,b.oneCell'=jg)
 (E:n+m<=4000000) (p:o<=w.heap.size) (h:∀d w',bS o 43 3 w w' v d (n+m) (xs++c)->K (C.put B.dst d) w'):B.wp jk C w K g:=by
 obtain⟨q,r,t,u,y⟩:=mm AI;exact mN s x 24 f o 43 q _ 3 24 underlying24 r t u y A G v n xs e i b m c j k l (by unfold jN;omega) Y p
  λd w' z a D=>h d w' (mj z a D)
theorem JF(l:jc aK)(a:jc ak)(ep:T){x:ak}{i:ja}(h:a.take (i+1)=a.take i++[x]):((l.filter λm=> !gH a m)++((a.take (i+1)).filter λx=> !(x.k==2)).map λx=>(⟨x.d,ep,x.v⟩:aK))=
 ((l.filter λm=> !gH a m)++((a.take i).filter λx=> !(x.k==2)).map λx=>(⟨x.d,ep,x.v⟩:aK))++(if x.k=2 then []else [⟨x.d,ep,x.v⟩]):=by rw[h];exact Q6 l a (a.take i) x ep
theorem Ft(z:T×T):∀l,z∈dW z l
 |[]=>by simp[dW]
 |x::r=>by
  unfold dW
  split
  ·exact jE ..
  exact jJ _ (Ft z r)
theorem D9{U e:T×T}:∀{l},e∈l->e∈dW U l
 |[],h=>by cases h
 |x::r,h=>by
  unfold dW
  split
  ·exact jJ _ h
  rcases jF.1 h with rfl|h
  ·exact jE ..
  exact jJ _ (D9 h)
theorem wL(a:0<=d)(b:d<512)(c:512<=W)(h:Und (512+d) W):W=512+d:=by
 obtain⟨k,hk,rfl⟩:=Hs a b h
 rcases k with _|k
 ·simp
 have e:=(uM a b hk).2 0 (Nat.succ_pos k);have f:(512+d)/2^(k+1)<=(512+d)/2:=by
  rw[Int.pow_succ,Int.mul_comm,<-Int.ediv_ediv_of_nonneg G];exact Int.ediv_le_self _ Y
 omega
theorem L5{U:T×T}(he:U∈t)(a:¬Und (512+d) U.1):U∈dk t d:=by
 unfold dk;exact qz.2 ⟨he,by rw[tl a];rfl⟩
theorem M0(c:0<=d)(g:d<512){e:T×T}(i:iR t e.1)(j:¬Und (512+d) e.1):iR (dk t d) e.1:=by
 obtain⟨f,k,a,b⟩:=i;refine⟨f,L5 k (λh=>j ?_),a,b⟩;rw[<-wL c g a h];exact b
theorem Ef(h:eA t)(a:0<=d)(b:d<512):eA (dk t d):=by
 refine⟨pK h.1 d,λe he=>?_⟩;obtain⟨c,f⟩:=FM he;obtain⟨g,i,j,k⟩:=h.2 e c;exact⟨g,i,j,M0 a b k f⟩
theorem LJ{s:jc (T×T)}(h:iR t d)(b:∀e∈t,e∈s):iR s d:=by
 obtain⟨f,c,h⟩:=h;exact⟨f,b f c,h⟩
theorem Lw(h:eA t)(a:0<=d)(b:d<512)(c:aW W):eA (dW (512+d,W) (dk t d)):=by
 refine⟨tQ (pK h.1 d) (oF (mK Y)),λe he=>?_⟩
 rcases oS he with rfl|he
 ·refine⟨?_,?_,c,(512+d,W),Ft _ _,?_,mK ?_⟩<;>show _ <=_ <;>omega
 obtain⟨g,i,j,k⟩:=(Ef h a b).2 e he;exact⟨g,i,j,LJ k (λf l=>D9 l)⟩
theorem mem_iff(t:jc (T×T))(d:T):d∈aY t↔0<=d/\d<512/\(aN t (512+d)).isSome=jg:=by
 rw[ly,sK]
theorem vq{f:T->jr T}:∀{h n:ja},d∈cg f h n->(f d).isSome=jg
 |0,n,a=>by
  unfold cg at a
  split at a
  ·rw[jZ.1 a];assumption
  cases a
 |h+1,n,a=>by
  unfold cg at a
  split at a
  ·rw[jZ.1 a];assumption
  rcases jX.1 a with a|a
  ·exact vq a
  exact vq a
theorem Iy(h:W∈dM t d):(aN t W).isSome=jg:=by
 unfold dM at h
 split at h
 ·exact vq h
 cases h
theorem za(c:bW t=0)(h:d∈aY t)(b:jV):dc t d b=0:=by
 obtain⟨e,f,a⟩:=(mem_iff _ _).1 h;unfold dc;rw[jm c,jn];rintro(h|h|⟨-,h⟩)
 ·omega
 ·omega
 rw[h]at a;cases a
theorem Jk(g:0<=d)(h:d<512)(x:T):x∈aY (dk t d)↔x≠d/\x∈aY t:=by
 rw[mem_iff,mem_iff,uJ]
 constructor
 ·rintro⟨a,b,c⟩
  split at c
  ·cases c
  rename_i f;refine⟨λe=>f ?_,a,b,c⟩;rw[e];exact kO (mK Y)
 rintro⟨e,a,b,c⟩;refine⟨a,b,?_⟩;rw[jn]
 ·exact c
 intro f;have:=wL g h Y ((tG _ _).1 f);omega
theorem zE(h:co r)(d:T):cN r.mem d=jg↔d∈aY r.tree:=by
 rw[<-h.dev];unfold cN;rw[qs]
 constructor
 ·rintro⟨m,a,e⟩
  exact jC.2 ⟨m,a,by simpa using e⟩
 intro h;obtain⟨m,a,e⟩:=jC.1 h;exact⟨m,a,by simpa using e⟩
theorem MX(h:d∈aY t):0<=d/\d<512:=by
 have:=(ly t d).1 h;exact⟨this.1,this.2.1⟩
structure pk(t:jc (T×T))(l:jc ak):Prop where
 each:∀x∈l,lH x
 once:(l.map ak.d).Nodup
 mem:∀x∈l,(x.d∈aY t↔x.k≠1)
theorem CX(a:0<=d)(b:d<512)(x:T):x∈aY (dk t d)↔x≠d/\x∈aY t:=Jk a b x
theorem Ib(b:0<=d)(c:d<512)(x:T):x∈aY (dW (512+d,W) (dk t d))↔x=d\/x∈aY t:=by
 rw[mem_iff];have e:=rp (z:=(512+d,W)) (oF (t:=t) (mK Y)) (512+x);rw[e]
 by_cases h:x=d
 ·subst h
  simp[b,c]
 rw[jn (by show ¬512+x=512+d;omega)];have f:=CX (t:=t) b c x;rw[mem_iff]at f;rw[f]
 constructor
 ·exact λh=>.inr h.2
 rintro(a|a)
 ·exact jD a h
 exact⟨h,a⟩
theorem Du{M:ak}(h:eA t)(j:lH M)(k:M.d∈aY t↔M.k≠1):eA (dP t M)/\∀d,d∈aY (dP t M)↔(d=M.d/\M.k≠2)\/(d≠M.d/\d∈aY t):=by
 have f:=nE h;obtain⟨⟨b,c⟩,hk⟩:=j
 by_cases a:M.k=2
 ·have g:M.d∈aY t:=k.2 Y
  have e:dP t M=dk t M.d:=by unfold dP l8;rw[jm a,jm (za f g jg)]
  rw[e];refine⟨Ef h b c,λd=>?_⟩;rw[CX b c]
  constructor
  ·exact λh=>.inr h
  rintro(⟨-,h⟩|h)
  ·exact jD a h
  exact h
 have g:aW M.p:=by
  rcases hk with⟨-,h,-⟩|⟨h,-⟩|⟨-,h,-⟩
  ·exact h
  ·exact jD h a
  exact h
 have l:dc t M.d jl=0:=by
  unfold dc;rw[jm f,jn (by rintro(h|h|⟨h,-⟩);omega;omega;cases h)]
 have m:eX t M.d M.p=0:=by unfold eX;rw[jm l,jm (eG g)]
 have e:dP t M=dW (512+M.d,M.p) (dk t M.d):=by unfold dP ia;rw[jn a,jm m]
 rw[e];refine⟨Lw h b c g,λd=>?_⟩;rw[Ib b c]
 by_cases i:d=M.d
 ·simp[i,a]
 simp[i]
theorem yJ(t:jc (T×T))(x:ak)(l:jc ak):aV t (x::l)=aV (dP t x) l:=A
theorem kJ:∀(l:jc ak) (t:jc (T×T)),eA t->pk t l->eA (aV t l)/\∀d,d∈aY (aV t l)↔(∃x∈l,x.d=d/\x.k≠2)\/((∀x∈l,x.d≠d)/\d∈aY t)
 |[],t,h,b=>⟨h,λd=>by simp[aV]⟩
 |x::l,t,h,b=>by
  obtain⟨m,g⟩:=Du h (b.each x (jE ..)) (b.mem x (jE ..));have i:=qK.1 (show(x.d::l.map ak.d).Nodup from b.once);have j:∀y∈l,y.d≠x.d:=λy a e=>i.1 (by rw[<-e];exact tb a)
  obtain⟨n,o⟩:=kJ l _ m ⟨λy a=>b.each y (jJ _ a),i.2,λy a=>by
   rw[g,<-b.mem y (jJ _ a)];have:=j y a;simp[this]⟩
  refine⟨n,λd=>?_⟩;rw[yJ,o,g]
  constructor
  ·rintro(⟨y,a,e,k⟩|⟨c,⟨e,k⟩|⟨p,f⟩⟩)
   ·exact .inl ⟨y,jJ _ a,e,k⟩
   ·exact .inl ⟨x,jE ..,e.symm,k⟩
   refine .inr ⟨λy a=>?_,f⟩
   rcases jF.1 a with rfl|a
   ·exact λe=>p e.symm
   exact c y a
  rintro(⟨y,a,e,k⟩|⟨c,f⟩)
  ·rcases jF.1 a with rfl|a
   ·refine .inr ⟨λz p=>?_,.inl ⟨e.symm,k⟩⟩
    rw[<-e];exact j z p
   exact .inl ⟨y,a,e,k⟩
  exact .inr ⟨λy a=>c y (jJ _ a),.inr ⟨λe=>c x (jE ..) e.symm,f⟩⟩
theorem nj{g:aI}{a:T}{l:jc ak}(c:co g)(b:dz l)(d:dQ g a l):pk g.tree l:=by
 refine⟨b.each,b.once,λx e=>?_⟩;rw[<-zE c,(d.each x e).1];simp
theorem Bb(l:co r)(f:dz b)(c:dQ r d b):d∈aY (aV r.tree b):=by
 rw[(kJ b _ (ib l.tree) (nj l f c)).2]
 rcases Int.lt_or_le 0 r.epoch with h|h
 ·have a:cN r.mem d=jg:=by rw[c.own];simpa using h
  exact .inr ⟨λx e=>(c.each x e).2 a,(zE l d).1 a⟩
 have a:r.epoch=0:=by have:=l.ep.1;omega
 obtain⟨x,g,rfl,e⟩:=c.first a;have hk:x.k=1:=by
  have:=(c.each x (jE ..)).1;rw[(l.zero a).1]at this
  simpa [cN]using this
 exact .inl ⟨x,jE ..,e,by omega⟩
theorem QH(h:(b.map ak.d).Nodup):((fx b).map ak.d).Pairwise (·<·):=by
 have d:(fx b).Perm b:=qL _ _;have a:(fx b).Pairwise λx y=>decide (x.d<=y.d)=jg:=List.pairwise_mergeSort (λa l c e f=>by simp at*;omega) (λa l=>by simp;omega) b
 have l:((fx b).map ak.d).Nodup:=(d.map _).nodup_iff.2 h;have c:((fx b).map ak.d).Pairwise (·<=·):=List.pairwise_map.2 (a.imp λh=>by simpa using h);exact(c.and l).imp λh=>by have:=h.1;have:=h.2;omega
structure zm(g:aI)(c:aD):Prop where
 val:co g
 chk:fK c
 fol:c.folder=g.folder
 ep:c.epoch=g.epoch+1
 par:c.parent=g.last
 form:dz c.chg
 poss:dQ g c.author c.chg
 box:c.box.map (λb:Bx=>(b.lev,b.node))=dI (aV g.tree c.chg) c.author
 wel:c.wel.map Wl.dev=(dD c.author c.chg).map ak.d
 ver:lB (dO g c.author c.chg) c.r c.s (dJ c)
 ren:eT (aV g.tree c.chg) c.author c.path=0
theorem lR(h:cK r d b=0):dj r d b=dI (aV r.tree b) d:=by unfold dj;rw[jm h]
theorem yj:fg r=jg↔co r:=by unfold fg;simp
theorem OM:fD y=0↔fK y:=by
 constructor
 ·intro h
  exact Classical.byContradiction λa=>by rw[eO a]at h;cases h
 exact sR
theorem G2:eY r y=0↔zm r y:=by
 unfold eY
 constructor
 ·intro h
  by_cases i:fg r=jl
  ·rw[jm i]at h;cases h
  rw[jn i]at h
  by_cases j:fD y≠0
  ·rw[jm j]at h;cases h
  rw[jn j]at h
  by_cases b:onB r y=jl
  ·rw[jm b]at h;cases h
  rw[jn b]at h
  by_cases a:cK r y.author y.chg≠0
  ·rw[jm a]at h;exact jD h a
  rw[jn a]at h
  by_cases d:iu r y=jl
  ·rw[jm d]at h;cases h
  rw[jn d]at h
  by_cases k:kK (dO r y.author y.chg) y.r y.s (dJ y)=jl
  ·rw[jm k]at h;cases h
  rw[jn k]at h;have m:fg r=jg:=ah i;have e:onB r y=jg:=ah b;have l:cK r y.author y.chg=0:=Classical.byContradiction a;have f:iu r y=jg:=ah d;have n:kK (dO r y.author y.chg) y.r y.s (dJ y)=jg:=ah k;unfold onB at e;unfold iu at f;simp only[tx,beq_iff_eq,decide_eq_true_eq]at e f;obtain⟨-,o,p⟩:=iH.1 l;exact⟨yj.1 m,OM.1 (Classical.byContradiction j),e.1.1,e.1.2,e.2,o,p,by rw[<-lR l];exact f.1,f.2,yR.1 n,h⟩
 intro h;have a:cK r y.author y.chg=0:=iH.2 ⟨h.val,h.form,h.poss⟩;have b:onB r y=jg:=by unfold onB;simp[h.fol,h.ep,h.par]
 have d:iu r y=jg:=by unfold iu;rw[lR a];simp[h.box,h.wel]
 rw[jn (by rw[yj.2 h.val];decide),jn (by rw[sR h.chk];decide),jn (by rw[b];decide),jn (by rw[a];decide),jn (by rw[d];decide),jn (by rw[yR.2 h.ver];decide)];exact h.ren
theorem Qe(l:co r)(c:dz b)(a:dQ r d b)(h:z.length=10)(i:∀x∈z,aW x):eT (aV r.tree b) d z=0/\gY z:=by
 have e:gY z:=λj f=>by rw[eE _ f];exact eG (i _ (List.getElem_mem f))
 have k:=(kJ b _ (ib l.tree) (nj l c a)).1;refine⟨?_,e⟩;unfold eT;rw[jm (za (nE k) (Bb l c a) jg),jm ⟨h,e⟩]
theorem BP{x:H}:∀{l:jc H} {k:ja},(x,f)∈l.zipIdx k->k<=f/\f<k+l.length/\x∈l
 |[],k,h=>by simp at h
 |y::l,k,h=>by
  rw[qv]at h
  rcases jF.1 h with h|h
  ·injection h with a b
   subst a b;exact⟨jz _,by simp,jE ..⟩
  obtain⟨a,b,c⟩:=BP h;exact⟨by omega,by rw[jM];omega,jJ _ c⟩
theorem yS(f:eA t){a:T}(g:0<=a)(j:a<512){k n:T}(h:(k,n)∈dI t a):(1<=k/\k<=9)/\(1<=n/\n<1024)/\(aN t n).isSome=jg/\aW ((aN t n).getD 0):=by
 unfold dI dZ at h;obtain⟨⟨s,i⟩,l,o⟩:=uy.1 h;obtain⟨w,p,-⟩:=BP l;rw[nM g j]at p;obtain⟨m,q,e⟩:=jC.1 o;injection e with r u
 subst r u;have c:=Iy q;obtain⟨v,d⟩:=Option.isSome_iff_exists.1 c;have b:=f.2 _ (nJ d);refine⟨⟨by show(1:T)<=(i:T);omega,by show(i:T)<=9;omega⟩,⟨b.1,by have:=b.2.1;show m<1024;have:m<=1023:=b.2.1;omega⟩,c,?_⟩;rw[d];exact b.2.2.1
theorem NR(t:jc (T×T))(x:T):(dM t x).length<=2^hgt x.toNat:=by
 unfold dM
 split
 ·exact rt _ _ _
 simp
theorem Ob(t:jc (T×T)):∀(l:jc T) (k:ja),(dZ t l k).length<=(l.map λs=>2^hgt s.toNat).sum:=by
 intro l
 induction l with
 |nil=>intro k;simp[dZ]
 |cons y l a=>
  intro k;have h:=a (k+1);unfold dZ at h⊢;rw[qv,wi,jw,jv,j5,List.sum_cons];have b:(dM t (y,k).1).length<=2^hgt y.toNat:=NR t y;omega
theorem Ii:∀n:Fin 512,((gd n.val).map λs=>2^hgt s).sum=511:=by decide+kernel
theorem vD(t:jc (T×T)){a:T}(b:0<=a)(c:a<512):(dI t a).length<=511:=by
 unfold dI;refine jy (Ob _ _ _) ?_;have e:((eI a).map λs=>2^hgt s.toNat)=(gd a.toNat).map λs=>2^hgt s:=by
  unfold eI;rw[oo]
  rfl
 rw[e];have:=Ii ⟨a.toNat,by omega⟩;exact lw this
theorem Ci(a n b P:ja)(c:1%P=1)(h:a^b%P=1):a^(n%b)%P=a^n%P:=by
 have e:a^n=(a^b)^(n/b)*a^(n%b):=by rw[<-Nat.pow_mul,<-m0,wq]
 have d:(a^b)^(n/b)%P=1:=by rw[Nat.pow_mod,h,Nat.one_pow,c]
 rw[e,Nat.mul_mod,d,ow,Nat.mod_mod]
theorem NA(a k e x b P:ja)(c:1%P=1)(h:a^b%P=1):a^((k+e*x%b)%b)%P=(a^k%P)*((a^x%P)^e%P)%P:=by
 rw[Ci a _ b P c h,m0,Nat.mul_mod,Ci a (e*x) b P c h,<-Nat.pow_mod,<-Nat.pow_mul,o4 x e]
theorem LZ:1%PN=1:=by decide
theorem Qw(h:d.toNat=f)(a:aW d):f^QN%PN=1:=by rw[<-h];exact a.2.2
theorem Pw(x:ja)(msg:af):lB (aR 4 x:ja) (lE x msg:ja) (lX x msg:ja) msg:=by
 refine⟨nX (a:=4) lT x,nX (a:=4) lT _,⟨by omega,?_⟩,?_⟩
 ·have h:lX x msg<QN:=Nat.mod_lt _ G
  have b:QN=2305843009213688669:=A;omega
 simp only[j0];unfold lX;generalize r5 (lE x msg) (aR 4 x) msg=e;unfold lE;generalize sN x msg=k;unfold aR;exact NA 4 k e x QN PN LZ (Qw A lT)
def nL:ByteArray:=⟨#[98,111,120]⟩
def nR:ByteArray:=⟨#[119,101,108,99,111,109,101]⟩
def sZ:ByteArray:=⟨#[99,111,109,109,105,116,32,98,111,100,121]⟩
def dC:af:=lr 32 0#8
def dL(a:af):jc T:=(jP 10).map λi=>((aR 4 (mx (cG a i)):ja):T)
def zd(t:jc (T×T))(n:T):ja:=((aN t n).getD 0).toNat
def bG(g:aI)(a:T)(b:jc ak)(c:af):aD:=⟨g.folder,g.epoch+1,g.last,a,b,dL c,[],[],dC,0,0⟩
noncomputable def eN(g:aI)(a:T)(b:jc ak)(c seed:af)(x:T×T):Bx:=
 ⟨x.2,x.1,(aR 4 (kY (fi seed nL [x.1,x.2])):ja),gO (zd (aV g.tree b) x.2) (fi seed nL [x.1,x.2]) (nf (bG g a b c) nL [x.1,x.2]) (cG c x.1.toNat)⟩
def gh(g:aI)(a init:af):af:=sF (if g.epoch=0 then dC else init) (cG a 9)
def fZ(g:aI)(a:T)(c:jc ak)(b init seed:af)(y:ak):Wl:=
 ⟨y.d,(aR 4 (kY (fi seed nR [y.d])):ja),gO y.p.toNat (fi seed nR [y.d]) (nf (bG g a c b) nR [y.d]) (gh g b init)⟩
noncomputable def mk1(g:aI)(a:T)(b:jc ak)(c init seed:af):aD:=
 ⟨g.folder,g.epoch+1,g.last,a,b,dL c,(dI (aV g.tree b) a).map (eN g a b c seed),(dD a b).map (fZ g a b c init seed),dC,0,0⟩
noncomputable def mk2(g:aI)(a:T)(c:jc ak)(b init seed:af):aD:=
 {mk1 g a c b init seed with confirm:=rM (gh g b init) (de sZ ((aJ (mk1 g a c b init seed)).take 8))}
noncomputable def mkC(g:aI)(a:T)(x:ja)(b:jc ak)(c init seed:af):aD:=
 {mk2 g a b c init seed with r:=(lE x (dJ (mk2 g a b c init seed)):ja),s:=(lX x (dJ (mk2 g a b c init seed)):ja)}
theorem Kh(c:aD)(r s:T):dJ {c with r:=r,s:=s}=dJ c:=by obtain⟨a,b,c,d,e,f,g,h,i,j,k⟩:=c;rfl
theorem OW(g:aI)(a:T)(x:ja)(b:jc ak)(c init seed:af):dJ (mkC g a x b c init seed)=dJ (mk2 g a b c init seed):=by unfold mkC;exact Kh _ _ _
theorem JB(c:aD)(k:af)(r s:T)(h:k.length=32):({({c with confirm:=k}:aD)with r:=r,s:=s}:aD).confirm.length=32:=h
theorem IT(g:aI)(a:T)(x:ja)(b:jc ak)(c init seed:af):(mkC g a x b c init seed).chg=b/\(mkC g a x b c init seed).parent=g.last/\(mkC g a x b c init seed).box=(dI (aV g.tree b) a).map (eN g a b c seed)/\
 (mkC g a x b c init seed).wel=(dD a b).map (fZ g a b c init seed)/\(mkC g a x b c init seed).confirm.length=32/\(mkC g a x b c init seed).path=dL c:=
 ⟨rfl,rfl,rfl,rfl,by unfold mkC mk2;exact JB _ _ _ _ (ra _ _),A⟩
theorem Bz:∀p∈dL m,aW p:=λp c=>by
 obtain⟨i,-,rfl⟩:=jC.1 c;exact nX (a:=4) lT _
theorem kD(a:af):(dL a).length=10:=by simp[dL]
theorem Ga{M:ak}:M∈dD d b↔M∈b/\M.k≠2/\M.d≠d:=by
 unfold dD fx;rw[(qL _ _).mem_iff,qz];simp[lG]
theorem AM(a:T)(l:jc ak):(dD a l).length<=l.length:=by
 unfold dD fx;rw[(qL _ _).length_eq];exact wt _ _
theorem mA(p seed hd b):(gO p seed hd b).length=b.length+16:=Qp _ _ _ _
theorem k7(g leaf init):(gh g leaf init).length=32:=vx _ _
theorem I1(h:z.Pairwise (·<·)){i:ja}(b:0<i)(a:i<z.length):z.getD (i-1) 0<z.getD i 0:=by
 rw[eE _ Y,eE _ a];exact(List.pairwise_iff_getElem.1 h) (i-1) i Y a Y
theorem Aa{g:aI}{a:T}{x:ja}{c:jc ak}{d init seed:af}(p:cK g a c=0)(z:g.epoch<1099511627776)(hk:dO g a c=(aR 4 x:ja))(q:d.length=32):zm g (mkC g a x c d init seed):=by
 obtain⟨h,f,j⟩:=iH.1 p;have r:=(kJ c _ (ib h.tree) (nj h f j)).1;have s:=Bb h f j;obtain⟨l,m⟩:=MX s;have o:((dD a c).map (fZ g a c d init seed)).map Wl.dev=(dD a c).map ak.d:=by rw[oo];rfl
 have t:((dD a c).map ak.d).Pairwise (·<·):=QH (f.once.sublist (qJ.map _));refine⟨h,?_,A,A,A,f,j,?_,o,?_,?_⟩
 ·refine⟨h.fol,⟨by have:=h.ep.1;show 1<=g.epoch+1;omega,by show g.epoch+1<=_;omega⟩,⟨l,m⟩,f,kD d,?_,?_,Bz,?_,?_,?_⟩
  ·show((dI (aV g.tree c) a).map _).length<=1024
   rw[jv];have:=vD (aV g.tree c) l m;omega
  ·show((dD a c).map _).length<=512
   rw[jv];have:=AM a c;have:=f.len;omega
  ·intro b e
   obtain⟨⟨k,n⟩,i,rfl⟩:=jC.1 e;obtain⟨⟨u,v⟩,⟨w,y⟩,-,-⟩:=yS r l m i;refine⟨w,y,u,v,nX (a:=4) lT _,?_,?_⟩
   ·show 16<=(gO _ _ _ _).length
    rw[mA];omega
   show(gO _ _ _ _).length<=65552;rw[mA,eQ d q];omega
  ·intro b e
   obtain⟨y,i,rfl⟩:=jC.1 e;have k:=(f.each y (Ga.1 i).1).1;refine⟨k,nX (a:=4) lT _,?_,?_⟩
   ·show 16<=(gO _ _ _ _).length
    rw[mA];omega
   show(gO _ _ _ _).length<=65552;rw[mA,k7];omega
  intro i b k;have e:(mkC g a x c d init seed).wel.map Wl.dev=(dD a c).map ak.d:=o;rw[e];refine I1 t b ?_;rw[<-e,jv];exact k
 ·show((dI (aV g.tree c) a).map (eN g a c d seed)).map _ =_
  rw[oo];exact(wx (λy _=>rfl)).trans (List.map_id _)
 ·show lB (dO g a c) _ _ _
  rw[hk,OW];exact Pw x _
 exact(Qe h f j (kD d) Bz).1
def IR(x:T):Prop:=-9223372036854775808<=x/\x<9223372036854775808
theorem IR.of{x:T}(h:aH x):IR x:=by
 have:=bounds_i64 h;unfold IR;omega
structure ge(c:aD):Prop where
 ints:IR c.folder/\IR c.epoch/\IR c.author/\IR c.r/\IR c.s
 plen:c.parent.length=32
 clen:c.confirm.length=32
 chg:c.chg.length<=64/\∀x∈c.chg,IR x.k/\IR x.d/\IR x.p/\IR x.v/\IR x.c
 path:c.path.length<=12/\∀x∈c.path,IR x
 box:c.box.length<=1024/\∀b∈c.box,IR b.node/\IR b.lev/\IR b.u/\b.body.length<=200
 wel:c.wel.length<=512/\∀b∈c.wel,IR b.dev/\IR b.u/\b.body.length<=200
theorem cH(h:IR d):aU f (vI d):=by unfold vI;cases f<;>rw[aU]<;>exact .inl ⟨A,h.1,h.2,A,A⟩
theorem uH(b:af):(ofB b).size=b.length:=by rw[<-eW,oI]
theorem oR(h:m.length<=1000000):aU f (vT m):=by unfold vT;cases f<;>rw[aU]<;>exact .inr (.inl ⟨A,A,by rw[uH];omega,rfl⟩)
theorem gx(h:∀x∈a,aU f x)(l:a.length<=1000000):aU (f+1) (vL a):=by unfold vL;rw[aU];exact .inr (.inr ⟨A,A,A,by omega,h⟩)
theorem eB(h:IR d):(enc (vI d)).length<=11:=by
 unfold vI;rw[enc,jm A,jM];have:=kT _ (rj d h.1 h.2);omega
theorem r7{b:af}(h:b.length<=1000000):(enc (vT b)).length<=11+b.length:=by
 unfold vT;rw[enc,jn G,jm A,jM,jw,oI,uH];have:=kT b.length Y;omega
theorem ky{l:jc Val}(h:l.length<=1000000):(enc (vL l)).length<=11+(encs l).length:=by
 rw[iC,jM,jw];have:=kT l.length Y;omega
theorem nV{m:ja}:∀{l:jc Val},(∀x∈l,(enc x).length<=m)->(encs l).length<=l.length*m
 |[],_=>by simp[encs]
 |x::l,h=>by
  rw[encs,jw,jM];have b:=h x (jE ..);have c:=nV (l:=l) λy a=>h y (jJ _ a)
  rw[Nat.succ_mul];omega
theorem oC(x:Val)(l:jc Val):encs (x::l)=enc x++encs l:=by rw[encs]
theorem Jr{M:ak}(h:IR M.k/\IR M.d/\IR M.p/\IR M.v/\IR M.c)(f:ja):aU (f+1) M.val/\(enc M.val).length<=66:=by
 obtain⟨a,b,c,d,e⟩:=h;refine⟨gx (λy g=>?_) ax,?_⟩
 ·simp only[jF,mz,or_false]at g
  rcases g with rfl|rfl|rfl|rfl|rfl
  ·exact cH a
  ·exact cH b
  ·exact cH c
  ·exact cH d
  exact cH e
 refine jy (ky ax) ?_;have:=eB a;have:=eB b;have:=eB c;have:=eB d;have:=eB e;simp only[oC,jw,encs,mb];omega
theorem Is{x:Bx}(h:IR x.node/\IR x.lev/\IR x.u/\x.body.length<=200)(f:ja):aU (f+1) x.val/\(enc x.val).length<=300:=by
 obtain⟨a,b,c,d⟩:=h;refine⟨gx (λy e=>?_) ax,?_⟩
 ·simp only[jF,mz,or_false]at e
  rcases e with rfl|rfl|rfl|rfl
  ·exact cH a
  ·exact cH b
  ·exact cH c
  exact oR Y
 refine jy (ky ax) ?_;have:=eB a;have:=eB b;have:=eB c;have:=r7 (b:=x.body) Y;simp only[oC,jw,encs,mb];omega
theorem OI{x:Wl}(h:IR x.dev/\IR x.u/\x.body.length<=200)(f:ja):aU (f+1) x.val/\(enc x.val).length<=300:=by
 obtain⟨a,b,d⟩:=h;refine⟨gx (λy c=>?_) ax,?_⟩
 ·simp only[jF,mz,or_false]at c
  rcases c with rfl|rfl|rfl
  ·exact cH a
  ·exact cH b
  exact oR Y
 refine jy (ky ax) ?_;have:=eB a;have:=eB b;have:=r7 (b:=x.body) Y;simp only[oC,jw,encs,mb];omega
theorem ge.encOk(h:ge y):eu (aJ y):=by
 obtain⟨e,f,g,i,j⟩:=h.ints;have k:∀x∈y.chg.map ak.val,aU 14 x/\(enc x).length<=66:=λx a=>by
  obtain⟨c,d,rfl⟩:=jC.1 a;exact Jr (h.chg.2 c d) 13
 have m:∀x∈y.path.map vI,aU 14 x/\(enc x).length<=11:=λx a=>by
  obtain⟨c,d,rfl⟩:=jC.1 a;exact⟨cH (h.path.2 c d),eB (h.path.2 c d)⟩
 have n:∀x∈y.box.map Bx.val,aU 14 x/\(enc x).length<=300:=λx a=>by
  obtain⟨c,d,rfl⟩:=jC.1 a;exact Is (h.box.2 c d) 13
 have o:∀x∈y.wel.map Wl.val,aU 14 x/\(enc x).length<=300:=λx a=>by
  obtain⟨c,d,rfl⟩:=jC.1 a;exact OI (h.wel.2 c d) 13
 have d:(y.chg.map ak.val).length<=64:=by rw[jv];exact h.chg.1
 have p:(y.path.map vI).length<=12:=by rw[jv];exact h.path.1
 have q:(y.box.map Bx.val).length<=1024:=by rw[jv];exact h.box.1
 have r:(y.wel.map Wl.val).length<=512:=by rw[jv];exact h.wel.1
 have s:=ky (l:=y.chg.map ak.val) Y;have t:=ky (l:=y.path.map vI) Y;have u:=ky (l:=y.box.map Bx.val) Y;have v:=ky (l:=y.wel.map Wl.val) Y;have w:=jy (nV λx a=>(k x a).2) (j6 66 d);have c:=jy (nV λx a=>(m x a).2) (j6 11 p);have z:=jy (nV λx a=>(n x a).2) (j6 300 q);have B:=jy (nV λx a=>(o x a).2) (j6 300 r);have C:=r7 (b:=y.parent) (by rw[h.plen];decide);have D:=r7 (b:=y.confirm) (by rw[h.clen];decide);have E:=eB e;have F:=eB f;have H:=eB g;have K:=eB i;have M:=eB j;have P:=h.plen;have Q:=h.clen;refine⟨gx (λx a=>?_) (by simp[aJ]),?_⟩
 ·unfold aJ at a
  simp only[jF,mz,or_false]at a
  rcases a with rfl|rfl|rfl|rfl|rfl|rfl|rfl|rfl|rfl|rfl|rfl
  ·exact cH e
  ·exact cH f
  ·exact oR Y
  ·exact cH g
  ·exact gx (λx a=>(k x a).1) Y
  ·exact gx (λx a=>(m x a).1) Y
  ·exact gx (λx a=>(n x a).1) Y
  ·exact gx (λx a=>(o x a).1) Y
  ·exact oR Y
  ·exact cH i
  exact cH j
 refine jy (ky (by simp[aJ])) ?_;unfold aJ;simp only[oC,jw,encs,mb];omega
theorem BD{c:aD}{nums:jc T}(d:IR c.folder)(f:IR c.epoch)(g:IR c.author)(k:c.parent.length=32)(h:∀x∈nums,IR x)(l:nums.length<=2):eu ((aJ c).take 4++nums.map vI):=by
 have e:(aJ c).take 4=[vI c.folder,vI c.epoch,vT c.parent,vI c.author]:=A;have m:=r7 (b:=c.parent) (by rw[k];decide);have n:=eB d;have o:=eB f;have p:=eB g;have i:∀x∈nums.map vI,aU 15 x/\(enc x).length<=11:=λx a=>by
  obtain⟨y,j,rfl⟩:=jC.1 a;exact⟨cH (h y j),eB (h y j)⟩
 have j:(nums.map vI).length<=2:=by rw[jv];exact l
 have q:=jy (nV λx a=>(i x a).2) (j6 11 j);rw[e];refine⟨gx (λx a=>?_) (by rw[jw];simp only[jM,mb];omega),?_⟩
 ·rw[jX]at a
  rcases a with a|a
  ·simp only[jF,mz,or_false]at a
   rcases a with rfl|rfl|rfl|rfl
   ·exact cH d
   ·exact cH f
   ·exact oR Y
   exact cH g
  exact(i x a).1
 refine jy (ky (by rw[jw];simp only[jM,mb];omega)) ?_;rw[rf,jw];simp only[oC,jw,encs,mb];omega
theorem EO{s:ByteArray}(f:s.size<=1000)(b:∀x∈z,IR x)(e:z.length<=2):zj s z:=by
 have c:∀x∈z.map vI,aU 15 x/\(enc x).length<=11:=λx a=>by
  obtain⟨y,d,rfl⟩:=jC.1 a;exact⟨cH (b y d),eB (b y d)⟩
 have d:(z.map vI).length<=2:=by rw[jv];exact e
 have g:=jy (nV λx a=>(c x a).2) (j6 11 d);have h:(enc (.mk 2 0 s [])).length<=11+s.size:=by
  rw[enc,jn G,jm A,jM,jw,eW];have:=kT s.size Y;omega
 refine⟨gx (λx a=>?_) (by rw[jM];omega),?_,by omega⟩
 ·rcases jF.1 a with rfl|a
  ·rw[aU];exact .inr (.inl ⟨A,A,by omega,rfl⟩)
  exact(c x a).1
 unfold kp;refine jy (ky (by rw[jM];omega)) ?_;rw[oC,jw];omega
theorem lU(h:aW d):IR d:=⟨by have:=h.1;omega,by have:=h.2.1;omega⟩
theorem Fe{g:aI}{a:T}{x:ja}{f:jc ak}{i init seed:af}(l:cK g a f=0)(t:g.epoch<1099511627776)(hk:dO g a f=(aR 4 x:ja))(m:i.length=32)(u:g.last.length=32):ge (mkC g a x f i init seed):=by
 have h:=Aa (seed:=seed) (init:=init) l t hk m;obtain⟨n,v,w,z,B,M⟩:=IT g a x f i init seed;have j:∀b∈(mkC g a x f i init seed).box,b.body.length<=200:=λb j=>by
  rw[w]at j;obtain⟨y,-,rfl⟩:=jC.1 j;unfold eN;show(gO _ _ _ _).length<=200;rw[mA,eQ i m];omega
 have C:∀b∈(mkC g a x f i init seed).wel,b.body.length<=200:=λb j=>by
  rw[z]at j;obtain⟨y,-,rfl⟩:=jC.1 j;unfold fZ;show(gO _ _ _ _).length<=200;rw[mA,k7];omega
 generalize mkC g a x f i init seed=c at*;obtain⟨P,o,q⟩:=iH.1 l;have D:∀x∈f,IR x.k/\IR x.d/\IR x.p/\IR x.v/\IR x.c:=λy E=>by
  obtain⟨⟨p,r⟩,hk⟩:=o.each y E;have k:IR y.d:=⟨by omega,by omega⟩
  rcases hk with⟨a,b,c,d⟩|⟨a,b,c,d,e⟩|⟨a,b,c,d,e⟩
  ·exact⟨by rw[a];exact⟨by omega,by omega⟩,k,lU b,lU c,by rw[d];exact⟨by omega,by omega⟩⟩
  ·exact⟨by rw[a];exact⟨by omega,by omega⟩,k,by rw[b];exact⟨by omega,by omega⟩,by rw[c];exact⟨by omega,by omega⟩,⟨by omega,by omega⟩⟩
  exact⟨by rw[a];exact⟨by omega,by omega⟩,k,lU b,lU c,⟨by omega,by omega⟩⟩
 have Q:=h.chk.ep;have k:=h.chk.fol;have r:=h.chk.aut;have F:=h.ver.2.1;have s:=h.ver.2.2.1;refine⟨⟨⟨by have:=k.1;omega,by have:=k.2;omega⟩,⟨by omega,by omega⟩,⟨by have:=r.1;omega,by have:=r.2;omega⟩,lU F,⟨by have:=s.1;omega,by have:=s.2;omega⟩⟩,by rw[v];exact u,B,⟨by rw[n];exact o.len,by rw[n];exact D⟩,⟨by have:=h.chk.plen;omega,λp q=>lU (h.chk.path p q)⟩,⟨h.chk.blen,λb d=>?_⟩,⟨h.chk.wlen,λb d=>?_⟩⟩
 ·obtain⟨H,K,R,S,e⟩:=h.chk.box b d
  exact⟨⟨by omega,by omega⟩,⟨by omega,by omega⟩,lU e.1,j b d⟩
 obtain⟨⟨H,K⟩,e⟩:=h.chk.wel b d;exact⟨⟨by omega,by omega⟩,lU e.1,C b d⟩
def nx(k:T):jc Val->jr (Val×jc Val)
 |[]=>jd
 |x::l=>if x.k=k then jb (x,l)else jd
def rI(l:jc Val):jr (T×jc Val):=(nx 1 l).map λr=>(r.1.n,r.2)
def rT(l:jc Val):jr (ByteArray×jc Val):=(nx 2 l).map λr=>(r.1.s,r.2)
def rD(l:jc Val):jr (af×jc Val):=(rT l).bind λr=>if r.1.size=32 then jb (aX r.1,r.2)else jd
def rW(l:jc Val):jr ((T×af)×jc Val):=(rI l).bind λa=>(rT a.2).map λb=>((a.1,aX b.1),b.2)
def rL(l:jc Val):jr (jc Val×jc Val):=(nx 3 l).map λr=>(r.1.l,r.2)
def iG(l:jc Val):jr ak:=
 (rI l).bind λa=>(rI a.2).bind λb=>(rI b.2).bind λc=>(rI c.2).bind λd=>(rI d.2).map λe=>⟨a.1,b.1,c.1,d.1,e.1⟩
def rBx(l:jc Val):jr Bx:=(rI l).bind λa=>(rI a.2).bind λb=>(rW b.2).map λc=>⟨a.1,b.1,c.1.1,c.1.2⟩
def rWl(l:jc Val):jr Wl:=(rI l).bind λa=>(rW a.2).map λc=>⟨a.1,c.1.1,c.1.2⟩
def cB{α:Type}(f:jc Val->jr α):jc Val->jr (jc α)
 |[]=>jb []
 |v::l=>if v.k=3 then(f v.l).bind λa=>(cB f l).map (a::·)else jd
def dl:jc Val->jr (jc T)
 |[]=>jb []
 |v::l=>if v.k=1 then(dl l).map (v.n::·)else jd
def ie(v:Val):jr aD:=
 (rI v.l).bind λa=>(rI a.2).bind λb=>(rD b.2).bind λp=>(rI p.2).bind λau=>(rL au.2).bind λc=>(cB iG c.1).bind λh=>
 (rL c.2).bind λd=>(dl d.1).bind λi=>(rL d.2).bind λe=>(cB rBx e.1).bind λbox=>(rL e.2).bind λf=>(cB rWl f.1).bind λwel=>
 (rD f.2).bind λg=>(rI g.2).bind λr=>(rI r.2).map λs=>⟨a.1,b.1,p.1,au.1,h,i,box,wel,g.1,r.1,s.1⟩
def iz:jc PanicEntry:=[{v:=.iface 36 (I N 10),recovered:=jl}]
theorem pS(r:je)(w:ji):jt jk 144 #[r,.bool jg] w λe w'=>e=js (jL #[])/\w=w':=by
 go_enter func144,ntmps144
 go_wp2
 go_end0
 exact⟨A,A⟩
theorem oY(r:je)(w:ji):jt jk 144 #[r,.bool jl] w λe w'=>e=.panicked iz/\w=w':=by
 go_enter func144,ntmps144
 go_wp2
 exact⟨A,A,A⟩
theorem IU{R:ql}(t e:ju)(b:R.underlying t=jb (.slice e))(i:∀w,(sizeOf e).run R w=.ok 1 w)(p:jr jR)(n c l:ja)(k:l<=n)(m:n<=c)(j:p=jd->c=0):
 ∃d,(∀W,(Instr.sliceAt t (jh p n c) (jb (I N (l:T))) jd jd).run R W=.ok (jh d (n-l) (c-l)) W)/\(d=jd->p=jd)/\(0<n-l->∀g o,p=jb ⟨g,o,jd⟩->d=jb ⟨g,o+l,jd⟩):=by
 have he:R.elem t=e:=by simp[Program.elem,b]
 rcases p with _|a
 ·obtain rfl:=j A
  obtain rfl:n=0:=Y;obtain rfl:l=0:=Y;refine⟨jd,λW=>?_,λ_=>rfl,λh=>jD h Y⟩;rw[q9 W t _ _ _ _ (by rw[he];exact b),run_slice_l W t _ 0 0 (by rw[he];exact b) .i64 _ Y Y,he];simp[i,Result.andThen,sliced]
 refine⟨jb (if c=l then a else a.add l),λW=>?_,λh=>(by cases h),λh g o f=>?_⟩
 ·rw[q9 W t _ _ _ _ (by rw[he];exact b),run_slice_l W t _ n c (by rw[he];exact b) .i64 _ Y Y,he]
  simp[i,Result.andThen,sliced]
  by_cases h:c=l
  ·simp[h]
  rw[jn Y,jn h]
 injection f with f
 subst f;rw[jn Y];simp[Addr.add]
theorem LS{R:ql}(t e:ju)(a:R.underlying t=jb (.slice e))(b:∀w,(sizeOf e).run R w=.ok 1 w)(p:jr jR)(n c l:ja)(d:l<=c)(W:ji):
 (Instr.sliceAt t (jh p n c) jd (jb (I N (l:T))) (jb (I N (l:T)))).run R W=.ok (jh p l l) W:=by
 have he:R.elem t=e:=by simp[Program.elem,a]
 rw[q9 W t _ _ _ _ (by rw[he];exact a),run_slice_hm W t _ n c (by rw[he];exact a) .i64 .i64 _ _ Y Y Y,he]
 cases p<;>simp[b,Result.andThen,sliced,Addr.add]
theorem AE:∀w,(sizeOf 5).run jk w=.ok 1 w:=λw=>by go_simp
def RdC(w:ji)(R:ja)(l:af):Prop:=∃(p:jr jR) (c:ja),w.heap[R]?=jb (jf #[jh p l.length c] 214 (0,0))/\ay (·<R) w (jh p l.length c) 1 l.length (l.map v8)
theorem RdC.but{l:af}(h:RdC w R l)(hk:∀k,k<w.heap.size->w'.heap[k]?=w.heap[k]?):RdC w' R l:=by
 obtain⟨p,c,a,b⟩:=h;have d:R<w.heap.size:=(jY.1 a).1;exact⟨p,c,(hk R d).trans a,b.keep (λg (e:g<R)=>hk g Y)⟩
theorem RdC.lt(h:RdC w f m):f<w.heap.size:=by
 obtain⟨p,c,a,-⟩:=h;exact(jY.1 a).1
theorem ay.takeB{p:jr jR}(n:ay D w (jh p f i) 1 f (m.map v8))(v:h<=f):ay D w (jh p h h) 1 h ((m.take h).map v8):=by
 obtain⟨d,x,y,e,z,a,c⟩:=n;injection e with k B l
 subst k;subst l;have q:m.length=f:=ah d;refine⟨by simp[q];omega,p,h,rfl,jz _,λr=>by have:=a r;omega,λC=>?_⟩;obtain⟨g,o,ep,s,t⟩:=c Y;refine⟨g,o,ep,s,λj u b=>t j u ?_⟩;rw[List.map_take,qM]at b
 split at b
 ·exact b
 cases b
theorem ay.dropB{p b:jr jR}(n:ay D w (jh p f i) 1 f (m.map v8))(B:h<=f)(a:b=jd->p=jd)(c:0<f-h->∀g o,p=jb ⟨g,o,jd⟩->b=jb ⟨g,o+h,jd⟩):ay D w (jh b (f-h) (i-h)) 1 (f-h) ((m.drop h).map v8):=by
 obtain⟨k,C,E,e,F,l,q⟩:=n;injection e with r H s
 subst r;subst s;have t:m.length=f:=ah k;refine⟨by simp[t],b,i-h,A,by omega,λu=>by have:=l (a u);omega,λv=>?_⟩;obtain⟨g,o,ep,x,y⟩:=q Y;refine⟨g,o+h,c v g o ep,x,λj z d=>?_⟩;rw[qw];exact y (h+j) z (by rw[List.map_drop,w9]at d;exact d)
theorem oJ(v:je)(k:h≠f):(w.setCell ⟨f,i,jd⟩ v).heap[h]?=w.heap[h]?:=sq _ _ _ _ k
theorem OJ{b:ja}{t:ju}(v:je)(h:w.heap[b]?=jb (jf cs t (0,0))):(w.setCell ⟨b,i,jd⟩ v).heap[b]?=jb (jf (cs.setIfInBounds i v) t (0,0)):=by
 show(w.heap.modify b _)[b]?=_;rw[sn];simp[h]
theorem ta(w:ji)(a:jR)(v:je):(w.setCell a v).heap.size=w.heap.size:=by simp[sx]
theorem Ns(w:ji)(R i:ja)(v:je):aM R w.heap.size w (w.setCell ⟨R,i,jd⟩ v):=⟨A,A,A,lw (ta _ _ _).symm,λk _ a=>oJ v a⟩
theorem wC(R n:ja)(l:af)(w:ji)(h:RdC w R l)(d:n<=l.length)(v:l.length<=1000000):
 jt jk 199 #[jH (jb ⟨R,0,jd⟩),I N (n:T)] w λe w'=>∃p,e=js (jh p n n)/\ay (·<R) w' (jh p n n) 1 n ((l.take n).map v8)/\RdC w' R (l.drop n)/\aM R w.heap.size w w':=by
 obtain⟨p,c,b,f⟩:=h;obtain⟨r,H,K,e,g,j,k⟩:=id f;injection e with x m y
 subst x;subst y;obtain⟨a,o⟩:=J l.length;rw[<-o]at b f r g k d v;have z:n<=c:=Y;obtain⟨q,M,s,t⟩:=IU 50 5 underlying50 AE p a c n d g j;have P:=LS 50 5 underlying50 AE p a c n z;have Q:=ao ((n:T)<=(a:T));have S:=ao (n<=a);have U:w.cell? ⟨R,0,jd⟩=jb (jh p a c):=ae b A;obtain⟨-,V,-,-⟩:=cE (i:=0) (jh q (a-n) (c-n)) b ax;have B:=O b;have u:=O f;have C:=O o;have W:=O j;have X:=O k;have D:=O s;have E:=O t;have F:=O (pS (jH (jb ⟨R,0,jd⟩)) w);clear b f r g j k s t o
 go_enter func199,ntmps199
 go_wp2_with fail
 refine F.mono ?_;rintro e w' ⟨rfl,rfl⟩
 go_wp2_with fail
 go_ret;have b:=OJ (i:=0) (jh q (a-n) (c-n)) B;have m:(l.drop n).length=a-n:=by rw[List.length_drop,C]
 refine⟨p,A,(u.takeB d).keep (λg (f:g<R)=>oJ _ Y),⟨q,c-n,by rw[m];exact b,?_⟩,Ns _ _ _ _⟩;rw[m];exact(u.dropB d D E).keep (λg (f:g<R)=>oJ _ Y)
theorem Dx(R n:ja)(l:af)(w:ji)(h:RdC w R l)(f:l.length<n)(j:n<=1000000):
 jt jk 199 #[jH (jb ⟨R,0,jd⟩),I N (n:T)] w λe w'=>e=.panicked iz/\w=w':=by
 obtain⟨p,c,a,g⟩:=h;obtain⟨b,d⟩:=J l.length;rw[<-d]at a f;have k:=ap ((n:T)<=(b:T));have m:=ap (n<=b);have o:w.cell? ⟨R,0,jd⟩=jb (jh p b c):=ae a A;have i:=O (oY (jH (jb ⟨R,0,jd⟩)) w);clear a g d
 go_enter func199,ntmps199
 go_wp2_with fail
 refine i.mono ?_;rintro e w' ⟨rfl,rfl⟩;exact⟨A,A,A⟩
theorem FI(h:¬((i=0\/E≠0#8)/\(i<9\/E.toNat<=1))):cC f i (E::m)=jd:=by
 cases f<;>simp only[cC,jn h]
theorem vP(h:(i=0\/E≠0#8)/\(i<9\/E.toNat<=1))(a:E.toNat<128):cC f i (E::m)=jb (E.toNat,m):=by
 cases f<;>simp only[cC,jm h,jm a]
theorem Fw(h:(i=0\/E≠0#8)/\(i<9\/E.toNat<=1))(a:¬E.toNat<128):cC (f+1) i (E::m)=(cC f (i+1) m).map λr=>(E.toNat%128+128*r.1,r.2):=by
 simp only[cC,jm h,jn a]
theorem Lb(k:ja)(hk:k<256):bits .and .u8 (k:T) 127=((k%128:ja):T):=by
 have h:∀j:Fin 256,bits .and .u8 ((j.val:ja):T) 127=((j.val%128:ja):T):=by decide+kernel
 exact h ⟨k,hk⟩
theorem zX(a k i r:ja):a+2^(7*i)*(k%128+128*r)=a+2^(7*i)*(k%128)+2^(7*(i+1))*r:=by
 have e:2^(7*(i+1))=2^(7*i)*128:=by rw[show 7*(i+1)=7*i+7 by omega,m0]
 rw[e,Nat.mul_add,qh,qw]
theorem BW(a k i:ja)(h:a<2^(7*i)):a+2^(7*i)*(k%128)<2^(7*(i+1)):=by
 have e:2^(7*(i+1))=2^(7*i)*128:=by rw[show 7*(i+1)=7*i+7 by omega,m0]
 have b:2^(7*i)*(k%128)<=2^(7*i)*127:=nn _ Y;rw[e];omega
theorem uG(a k i:ja)(h:a<2^(7*i))(hk:k<256)(b:i<9\/k<=1)(j:i<=9):
 bits .or .u64 (a:T) (pa.wrap (pa.wrap (bits .and .u8 (k:T) 127)*2^(7*i)))=((a+2^(7*i)*(k%128):ja):T):=by
 have c:2^(7*i)*(k%128)<2^64:=by
  rcases b with b|b
  ·have e:2^(7*i)*(k%128)<=2^(7*i)*127:=nn _ Y
   have d:2^(7*i)<=2^56:=km Y Y;have:2^(7*i)*127<=2^56*127:=j6 _ d;have:(2:ja)^56*127<2^64:=by decide
   omega
  have e:2^(7*i)*(k%128)<=2^(7*i)*1:=nn _ Y;have d:2^(7*i)<=2^63:=km Y Y;have:(2:ja)^63<2^64:=by decide
  omega
 have d:a<2^64:=jT h (km Y Y);have e:pa.wrap (bits .and .u8 (k:T) 127)=((k%128:ja):T):=by rw[Lb k hk,xa];omega
 have f:(((k%128:ja):T)*2^(7*i))=((2^(7*i)*(k%128):ja):T):=by rw[qN,qO,Int.mul_comm];rfl
 have g:pa.wrap ((2^(7*i)*(k%128):ja):T)=((2^(7*i)*(k%128):ja):T):=by
  generalize 2^(7*i)*(k%128)=m at c;rw[xa];omega
 rw[e,f,g,bits_or_u64_nat _ _ d c,Nat.or_comm,<-Nat.two_pow_add_eq_or_of_lt h,Nat.add_comm]
theorem BI(a k:ja)(h:a<2^(7*0))(hk:k<256):bits .or .u64 (a:T) (pa.wrap (pa.wrap (bits .and .u8 (k:T) 127)))=((a+2^(7*0)*(k%128):ja):T):=by
 have b:=uG a k 0 h hk (.inl Y) Y;rw[show((2:T)^(7*0))=1 from A,Int.mul_one]at b;exact b
def JX(R:ja)(w:ji)(o:jr (ja×af))(e:qa)(w':ji):Prop:=
 aM R w.heap.size w w'/\match o with
  |some r=>e=js (I .u64 (r.1:T))/\RdC w' R r.2
  |none=>e=.panicked iz
theorem Dw(R:ja)(l:af)(w:ji)(h:RdC w R l)(a:l.length<=1000000):
 jt jk 201 #[jH (jb ⟨R,0,jd⟩)] w (JX R w (cC 9 0 l)):=by
 have au:jj (l.length<=1000000):=O a;obtain⟨o,d⟩:=J (cC 9 0 l);rw[<-d];have HO:=O d;have HR:=O h;clear h a d
 go_enter func201,ntmps201
 go_wp2_with fail
 go_loopw [2,3] (λc b wr=>∃(a i:ja) (f:af),c=I .u64 a/\b=I N i/\i<=9/\jj (a<2^(7*i))/\jj (o=(cC (9-i) i f).map λr=>(a+2^(7*i)*r.1,r.2))/\jj (RdC wr R f)/\jj (aM R w.heap.size w wr)/\jj (f.length<=1000000)) (λ_ b _=>9-(jq b).toNat)
 case atStart=>exact⟨0,0,l,A,A,by omega,O ax,O (by rw[HO];simp),HR,O (aM.refl _ _ _),au⟩
 obtain⟨a,i,f,rfl,rfl,P,s,n,aa,Q,S⟩:=hrel
 rcases f with _|⟨b,f⟩
 ·have d:o=jd:=by rw[n];cases 9-i<;>rfl
  have t:=O d;clear d
  go_wp2_with fail
  refine(Dx R 1 [] wr aa ax Y).mono ?_;rintro e w' ⟨rfl,rfl⟩;exact⟨A,Q,by rw[t]⟩
 go_wp2_with fail
 refine(wC R 1 (b::f) wr aa ax S).mono ?_;rintro e F ⟨p,rfl,hs,j,m⟩;obtain⟨-,p',c',e,-,-,H⟩:=hs;injection e with e1 q v
 subst e1;obtain⟨g,o1,rfl,-,H⟩:=H G;have d0:F.cell? ⟨g,o1,jd⟩=jb (I .u8 (b.toNat:T)):=H 0 _ A;obtain⟨k,hk⟩:=J b.toNat;have z:k<256:=by rw[hk];exact b.isLt
 rw[<-hk]at d0;have c:=O hk;replace j:RdC F R f:=j;have B:=O j;have u:=O (Q.trans m Q.size);have C:=O (pS (jH (jb ⟨R,0,jd⟩)) F);have ad:=O (oY (jH (jb ⟨R,0,jd⟩)) F);clear j m H hk q v;have v:k=0↔b=0#8:=by rw[c];exact⟨λh=>qP (ah h),λh=>by rw[h];rfl⟩
 by_cases h0:i=0
 ·subst h0
  have j:jj ((0=0\/b≠0#8)/\(0<9\/k<=1)):=O ⟨.inl A,.inl Y⟩;clear v
  by_cases x:k<128
  ·have K:=ao ((k:T)<128)
   have M:=ao (k<128);have d:o=jb (a+2^(7*0)*k,f):=by rw[n,vP (by rw[<-c];exact j) (by rw[<-c];exact x),<-c];rfl
   have t:=O d;have m:=O (BI a k s z);have q:k%128=k:=Y;have D:=O q;clear d q
   go_wp2_with fail
   refine C.mono ?_;rintro e y ⟨rfl,rfl⟩
   go_wp2_with fail
   go_ret;exact⟨u,by rw[t];exact⟨nZ (by rw[m,D]),B⟩⟩
  have K:=ap ((k:T)<128);have M:=ap (k<128);have a1:0<9:=by have:=j.2;omega
  have m:=O (BI a k s z);have U:jj (o=(cC (9-(0+1)) (0+1) f).map λr=>(a+2^(7*0)*(k%128)+2^(7*(0+1))*r.1,r.2)):=O (by
   have V:9-0=(9-(0+1))+1:=Y;rw[n,V,Fw (by rw[<-c];exact j) (by rw[<-c];exact x),<-c,xd]
   congr 1
   funext r
   simp only[Function.comp_apply,Prod.mk.injEq,and_true];exact zX a k 0 r.1)
  have W:jj (a+2^(7*0)*(k%128)<2^(7*(0+1))):=O (BW a k 0 s)
  go_wp2_with fail
  refine C.mono ?_;rintro e y ⟨rfl,rfl⟩
  go_wp2_with fail
  refine⟨⟨_,1,f,jK (qB .u64) m,by rfl,by omega,W,U,B,u,O (by have:=S.out;simp at this;omega)⟩,?_⟩;simp only[jq];omega
 have t0:((i:T)==0)=jl:=by simp;omega
 by_cases al:k=0
 ·have t1:((k:T)!=0)=jl:=by simp;omega
  have X:jj (o=jd):=O (by rw[n,FI (by rw[<-c];have:=v.1 al;intro h;rcases h.1 with h|h;exact h0 h;exact h this)];rfl);clear v
  go_wp2_with fail
  refine ad.mono ?_;rintro e y ⟨rfl,rfl⟩;exact⟨A,u,by rw[X]⟩
 have t1:((k:T)!=0)=jg:=by simp;omega
 have E:b≠0#8:=λh=>al (v.2 h)
 by_cases h9:i<9
 ·have t2:=ao ((i:T)<9)
  have a2:=ao (i<9);have j:jj ((i=0\/b≠0#8)/\(i<9\/k<=1)):=O ⟨.inr E,.inl h9⟩;clear v E
  by_cases x:k<128
  ·have K:=ao ((k:T)<128)
   have M:=ao (k<128);have d:o=jb (a+2^(7*i)*k,f):=by rw[n,vP (by rw[<-c];exact j) (by rw[<-c];exact x),<-c];rfl
   have t:=O d;have m:=O (uG a k i s z (bL j.2) P);have q:k%128=k:=Y;have D:=O q;clear d q
   go_wp2_with fail
   refine C.mono ?_;rintro e y ⟨rfl,rfl⟩
   go_wp2_with fail
   go_ret;exact⟨u,by rw[t];exact⟨nZ (by rw[m,D]),B⟩⟩
  have K:=ap ((k:T)<128);have M:=ap (k<128);have a1:i<9:=by have:=j.2;omega
  have m:=O (uG a k i s z Y P);have U:jj (o=(cC (9-(i+1)) (i+1) f).map λr=>(a+2^(7*i)*(k%128)+2^(7*(i+1))*r.1,r.2)):=O (by
   have V:9-i=(9-(i+1))+1:=Y;rw[n,V,Fw (by rw[<-c];exact j) (by rw[<-c];exact x),<-c,xd]
   congr 1
   funext r
   simp only[Function.comp_apply,Prod.mk.injEq,and_true];exact zX a k i r.1)
  have W:jj (a+2^(7*i)*(k%128)<2^(7*(i+1))):=O (BW a k i s)
  go_wp2_with fail
  refine C.mono ?_;rintro e y ⟨rfl,rfl⟩
  go_wp2_with fail
  refine⟨⟨_,i+1,f,jK (qB .u64) m,by go_num,by omega,W,U,B,u,O (by have:=S.out;simp at this;omega)⟩,?_⟩;simp only[jq];omega
 have t2:=ap ((i:T)<9);have a2:=ap (i<9)
 by_cases r:k<=1
 ·have U:=ao ((k:T)<=1)
  have V:=ao (k<=1);have j:jj ((i=0\/b≠0#8)/\(i<9\/k<=1)):=O ⟨.inr E,.inr r⟩;clear v E
  by_cases x:k<128
  ·have K:=ao ((k:T)<128)
   have M:=ao (k<128);have d:o=jb (a+2^(7*i)*k,f):=by rw[n,vP (by rw[<-c];exact j) (by rw[<-c];exact x),<-c];rfl
   have t:=O d;have m:=O (uG a k i s z (bL j.2) P);have q:k%128=k:=Y;have D:=O q;clear d q
   go_wp2_with fail
   refine C.mono ?_;rintro e y ⟨rfl,rfl⟩
   go_wp2_with fail
   go_ret;exact⟨u,by rw[t];exact⟨nZ (by rw[m,D]),B⟩⟩
  omega
 have U:=ap ((k:T)<=1);have V:=ap (k<=1);have X:jj (o=jd):=O (by rw[n,FI (by rw[<-c];intro h;rcases h.2 with h|h;exact h9 h;exact r h)];rfl);clear v E
 go_wp2_with fail
 refine ad.mono ?_;rintro e y ⟨rfl,rfl⟩;exact⟨A,u,by rw[X]⟩
theorem RdC.cell{l:af}(h:RdC w R l):∃p c,w.cell? ⟨R,0,jd⟩=jb (jh p l.length c):=by
 obtain⟨p,c,a,-⟩:=h;exact⟨p,c,ae a A⟩
def GA(R:ja)(w:ji)(o:jr (ja×af))(e:qa)(w':ji):Prop:=
 aM R w.heap.size w w'/\match o with
  |some r=>e=js (I N (r.1:T))/\RdC w' R r.2/\r.1<=r.2.length
  |none=>e=.panicked iz
theorem sG:∀(f i:ja) (l:af) (r:ja×af),cC f i l=jb r->r.2.length<=l.length
 |f,i,[],r,h=>by cases f<;>simp[cC]at h
 |0,i,b::l,r,h=>by
  simp only[cC]at h
  split at h
  ·split at h
   ·injection h with h;rw[<-h];simp
   cases h
  cases h
 |f+1,i,b::l,r,h=>by
  simp only[cC]at h
  split at h
  ·split at h
   ·injection h with h;rw[<-h];simp
   cases hh:cC f (i+1) l with
   |none=>rw[hh]at h;cases h
   |some q=>
    rw[hh]at h;injection h with h
    rw[<-h];have:=sG f (i+1) l q hh;simp;omega
  cases h
theorem F7(R:ja)(l:af)(w:ji)(h:RdC w R l)(k:l.length<=1000000):
 jt jk 202 #[jH (jb ⟨R,0,jd⟩)] w (GA R w (eK l)):=by
 have d:=O (Dw R l w h k);have f:=O (sG 9 0 l);obtain⟨o,a⟩:=J (cC 9 0 l);have b:eK l=o.bind λr=>if r.1<=r.2.length then jb r else jd:=by rw[a];rfl
 rw[b];rw[<-a]at d f;clear b a h
 go_enter func202,ntmps202
 go_wp2_with fail
 refine d.mono ?_;rintro e m ⟨g,n⟩
 rcases o with _|r
 ·obtain rfl:e=.panicked iz:=n
  exact⟨A,g,A⟩
 obtain⟨a,r⟩:=r;obtain⟨rfl,h⟩:=n;have s:r.length<=1000000:=jy (f _ A) k;have q:=O g;have u:=O h;have v:=O (pS (jH (jb ⟨R,0,jd⟩)) m);have x:=O (oY (jH (jb ⟨R,0,jd⟩)) m);obtain⟨p,c,y⟩:=h.cell;obtain⟨b,i⟩:=J r.length;rw[<-i]at y s;have j:=O i;clear g h i d f
 by_cases d:a<=b
 ·have t:=ao ((a:T)<=(b:T))
  have g:=ao (a<=b);have f:jj ((jb (a,r)).bind (λr=>if r.1<=r.2.length then jb r else jd)=jb (a,r)):=O (by rw[jW,jm (by rw[<-j];exact d)])
  go_wp2_with fail
  refine v.mono ?_;rintro e h ⟨rfl,rfl⟩
  go_wp2_with fail
  go_ret;refine⟨q,?_⟩;rw[f];refine⟨nZ ?_,u,by rw[<-j];exact d⟩
  rfl
 have t:=ap ((a:T)<=(b:T));have g:=ap (a<=b);have f:jj ((jb (a,r)).bind (λr=>if r.1<=r.2.length then jb r else jd)=jd):=O (by rw[jW,jn (by rw[<-j];exact d)])
 go_wp2_with fail
 refine x.mono ?_;rintro e h ⟨rfl,rfl⟩;exact⟨A,q,by rw[f]⟩
theorem Gu(m:ja)(h:m<18446744073709551616):(nz 64 (m:T)).toNat=m:=by
 rw[BitVec.ofInt_natCast,xf];exact Nat.mod_eq_of_lt Y
theorem Oe(m:ja)(h:m<9223372036854775808):bits .xor .i64 (m:T) 0=(m:T):=by
 show xg.wrap ((nz 64 (m:T)^^^nz 64 0).toNat:T)=_;have e:(nz 64 0).toNat=0:=by decide+kernel
 rw[xh,Gu m Y,e,Nat.xor_zero,xi];omega
theorem Kx(m:ja)(h:m<9223372036854775808):bits .xor .i64 (m:T) (-1)= -(m:T)-1:=by
 show xg.wrap ((nz 64 (m:T)^^^nz 64 (-1)).toNat:T)=_;have e:(nz 64 (-1)).toNat=18446744073709551615:=by decide
 have b:m^^^18446744073709551615=18446744073709551615-m:=by
  have a:=Ey m Y;rw[show(18446744073709551615:T)=((18446744073709551615:ja):T)from A,bits_xor_u64_nat m 18446744073709551615 Y Y]at a;exact Int.ofNat.inj a
 rw[xh,Gu m Y,e,b,xi];omega
theorem NS(a:ja)(c:a<18446744073709551616)(w:ji):jt jk 200 #[I .u64 (a:T)] w λe w'=>e=js (I N (gt a))/\w=w':=by
 go_enter func200,ntmps200
 go_wp2
 go_ret;refine⟨nZ ?_,A⟩;have d:bits .and .u64 (a:T) 1=((a%2:ja):T):=by
  have h:=bits_and_u64_nat a 1 c Y;rw[Nat.and_one_is_mod]at h;exact h
 have f:(a:T)/2=((a/2:ja):T):=Y;rw[d,f];unfold gt
 by_cases h:a%2=0
 ·rw[jm h,h]
  have b:wrap64 (-wrap64 ((0:ja):T))=0:=by decide+kernel
  rw[b];exact Oe _ Y
 have g:a%2=1:=Y;rw[jn h,g];have b:wrap64 (-wrap64 ((1:ja):T))= -1:=by decide+kernel
 rw[b];exact Kx _ Y
theorem put_defers(a:Act)(d:jr Tmp)(v:je):(Act.put a d v).defers=a.defers:=by cases d<;>rfl
structure Vld(M c:ja)(wr:ji)(l:jc Val)(a:je)(b:jc je):Prop where
 box:wr.heap[c]?=jb (jf #[I N 3,I N 0,qn ⟨#[]⟩,a] 128 (0,0))
 own:wr.ownsRow M 128 4 a l.length (bU l b)
 kids:aC (λg=>M<=g/\g<wr.heap.size/\a.ownBlock≠jb g) wr l b
 sz:M<=wr.heap.size
theorem Vld.start{a:ja}(b:w.heap[a]?=jb (jf #[I N 3,I N 0,qn ⟨#[]⟩,ci] 128 (0,0)))(c:M<=w.heap.size):Vld M a w [] ci []:=
 ⟨b,by simpa [bU]using xj w M 128 4,by rw[aC],c⟩
theorem Eh(n:w.ownsRow f e i j h c)(hk:∀k,f<=k->k<w.heap.size->p.heap[k]?=w.heap[k]?):p.ownsRow f e i j h c:=by
 refine⟨n.1,?_⟩
 rcases n.2 with a|⟨g,xs,d,B,a,b,sz⟩
 ·exact .inl a
 exact .inr ⟨g,xs,d,B,a,(hk g a (jY.1 b).1).trans b,sz⟩
theorem Vld.later(h:Vld f i w a j c)(l:i<f)(M:w.heap.size<=p.heap.size)(hk:∀k,i<=k->k<w.heap.size->p.heap[k]?=w.heap[k]?):Vld f i p a j c:=
 ⟨(hk i (jz _) (jT l h.sz)).trans h.box,Eh h.own (λk g b=>hk k Y b),aC.mono (λg b=>⟨b.1,jT b.2.1 M,b.2.2⟩) a c (aC.keep (λg b=>hk g Y b.2.1) a c h.kids),jy h.sz M⟩
theorem Vld.push{a p i:ji}{l:jc Val}{n:je}(h:Vld M f a l j c)(v:f<M){x:Val}{d:je}
 (s:aw (λg=>M<=g/\g<a.heap.size/\j.ownBlock≠jb g) a x d) (m:bS M 128 4 a p j n (l.length+1) (bU l c++eS x d))
 (t:i.heap[f]?=jb (jf #[I N 3,I N 0,qn ⟨#[]⟩,n] 128 (0,0))) (o:ln f p i):Vld M f i (l++[x]) n (c++[d]):=by
 have u:=h.kids.len;have q:∀g,(M<=g/\g<a.heap.size/\j.ownBlock≠jb g)->i.heap[g]?=a.heap[g]?:=λg b=>
  (o.block g Y).trans (m.grown.block g b.2.1 (λe=>b.2.2 e.symm))
 have r:∀g,(M<=g/\g<a.heap.size/\j.ownBlock≠jb g)->(M<=g/\g<i.heap.size/\n.ownBlock≠jb g):=λg b=>
  ⟨b.1,by rw[o.size];exact jT b.2.1 m.grown.size,m.ne b.2.1 b.2.2⟩
 refine⟨t,?_,aC.append (aC.mono r _ _ (aC.keep q _ _ h.kids)) (aC.one (aw.mono r _ _ (aw.keep q _ _ s))),?_⟩
 ·have e:bU (l++[x]) (c++[d])=bU l c++eS x d:=by
   rw[oH l [x] c [d] u];simp[bU]
  rw[e,jw];exact Eh m.own (λk w _=>o.block k Y)
 rw[o.size];exact jy h.sz m.grown.size
def Dl(R:ja)(w:ji)(o:jr (Val×af))(e:qa)(w':ji):Prop:=
 aM R w.heap.size w w'/\match o with
  |some r=>(∃a,e=js (jp #[I N r.1.k,I N r.1.n,qn r.1.s,a])/\aw (λg=>w.heap.size<=g/\g<w'.heap.size) w' r.1 a)/\RdC w' R r.2
  |none=>e=.panicked iz
theorem F2:∀(f i:ja) (l:af) (r:ja×af),i+f=9->cC f i l=jb r->r.1*2^(7*i)<2^64
 |f,i,[],r,_,h=>by cases f<;>simp[cC]at h
 |0,i,b::l,r,d,h=>by
  obtain rfl:i=9:=Y;simp only[cC]at h
  split at h
  ·rename_i a
   split at h
   ·injection h with h
    rw[<-h];have:b.toNat<=1:=by have:=a.2;omega
    show b.toNat*2^63<2^64;omega
   cases h
  cases h
 |f+1,i,b::l,r,d,h=>by
  simp only[cC]at h
  split at h
  ·split at h
   ·injection h with h
    rw[<-h];have a:2^(7*i)<=2^56:=km Y Y;have c:b.toNat<256:=b.isLt;show b.toNat*2^(7*i)<2^64;have:b.toNat*2^(7*i)<=255*2^56:=Nat.mul_le_mul Y a;have:255*2^56<2^64:=by decide
    omega
   cases hh:cC f (i+1) l with
   |none=>rw[hh]at h;cases h
   |some q=>
    rw[hh]at h;injection h with h
    rw[<-h];have a:=F2 f (i+1) l q Y hh;have e:2^(7*(i+1))=128*2^(7*i):=by rw[show 7*(i+1)=7*i+7 by omega,m0,o4]
    show(b.toNat%128+128*q.1)*2^(7*i)<2^64;rw[e]at a;rw[n0];have c:q.1*(128*2^(7*i))=128*q.1*2^(7*i):=by rw[<-qh,o4 q.1 128]
    rw[c]at a;have n:(b.toNat%128)*2^(7*i)<128*2^(7*i):=Nat.mul_lt_mul_of_pos_right Y (Nat.pos_of_ne_zero ax);have g:2^64=2^(64-7*i-7)*(128*2^(7*i)):=by
     rw[show 128*2^(7*i)=2^(7*i+7) by rw[m0,o4],<-m0]
     congr 1
     omega
    have j:128*q.1*2^(7*i)=q.1*(128*2^(7*i)):=c.symm;rw[j]at a⊢;rw[g]at a⊢;have k:q.1<2^(64-7*i-7):=Nat.lt_of_mul_lt_mul_right a;have m:(q.1+1)*(128*2^(7*i))<=2^(64-7*i-7)*(128*2^(7*i)):=j6 _ k;rw[n0,ow]at m;omega
  cases h
theorem AL{l:af}{r:ja×af}(h:cC 9 0 l=jb r):r.1<18446744073709551616:=by
 have:=F2 9 0 l r A h
 simpa using this
noncomputable def lz(b:af):jr aD:=by
 classical exact(dec b).bind λv=>(ie v).bind λc=>if fK c/\enc (vL (aJ c))=b then jb c else jd
@[simp] theorem Rv (n):(vI n).k=1:=A
@[simp] theorem Rx (b):(vT b).k=2:=A
@[simp] theorem Ry (l):(vL l).k=3:=A
@[simp] theorem Rz (n):(vI n).n=n:=A
@[simp] theorem Rs (b):(vT b).s=ofB b:=A
@[simp] theorem Ru (l):(vL l).l=l:=A
theorem pF(n:T)(l:jc Val):rI (vI n::l)=jb (n,l):=by simp[rI,nx]
theorem Bv(b:af)(l:jc Val):rT (vT b::l)=jb (ofB b,l):=by simp[rT,nx]
theorem PY(x l:jc Val):rL (vL x::l)=jb (x,l):=by simp[rL,nx]
theorem CU(b:af)(h:b.length=32)(l:jc Val):rD (vT b::l)=jb (b,l):=by
 rw[rD,Bv,jW,jm (by rw[uH];exact h),oI]
theorem DT(n:T)(b:af)(l:jc Val):rW (vI n::vT b::l)=jb ((n,b),l):=by
 rw[rW,pF,jW,Bv,j8,oI]
theorem Nj(x:ak):iG x.val.l=jb x:=by
 show iG [vI x.k,vI x.d,vI x.p,vI x.v,vI x.c]=jb x;simp only[iG,pF,jW,j8]
theorem JD(x:Bx):rBx x.val.l=jb x:=by
 show rBx [vI x.node,vI x.lev,vI x.u,vT x.body]=jb x;simp only[rBx,pF,DT,jW,j8]
theorem NC(x:Wl):rWl x.val.l=jb x:=by
 show rWl [vI x.dev,vI x.u,vT x.body]=jb x;simp only[rWl,pF,DT,jW,j8]
theorem uB(f:jc Val->jr H)(g:H->Val)(hk:∀x,(g x).k=3)(a:∀x,f (g x).l=jb x):∀l:jc H,cB f (l.map g)=jb l
 |[]=>rfl
 |x::l=>by
  rw[j5,cB,jm (hk x),a x,jW,uB f g hk a l,j8]
theorem Co:∀l:jc T,dl (l.map vI)=jb l
 |[]=>rfl
 |x::l=>by rw[j5,dl,jm (show(vI x).k=1 from A),Co l,j8];rfl
theorem NN(c:aD)(a:c.parent.length=32)(b:c.confirm.length=32):ie (vL (aJ c))=jb c:=by
 have e:(vL (aJ c)).l=[vI c.folder,vI c.epoch,vT c.parent,vI c.author,vL (c.chg.map ak.val),vL (c.path.map vI),vL (c.box.map Bx.val),vL (c.wel.map Wl.val),vT c.confirm,vI c.r,vI c.s]:=A;simp only[ie,e,pF,PY,jW,j8,CU _ a,CU _ b,uB iG ak.val (λ_=>rfl) Nj,uB rBx Bx.val (λ_=>rfl) JD,
  uB rWl Wl.val (λ_=>rfl) NC,Co]
theorem Kv(c:aD)(a:c.parent.length=32)(b:c.confirm.length=32)(d:eu (aJ c))(e:fK c):lz (enc (vL (aJ c)))=jb c:=by
 unfold lz;rw[NZ _ d.wf,jW,NN c a b,jW,jm ⟨e,A⟩]
theorem lS{r:Val×jc Val}(h:nx d a=jb r):a=r.1::r.2/\r.1.k=d:=by
 rcases a with _|⟨x,a⟩
 ·cases h
 rw[nx]at h
 split at h
 ·injection h with h;rw[<-h];exact⟨A,by assumption⟩
 cases h
theorem Di(h:aU f x)(hk:x.k=1):x=vI x.n/\IR x.n:=by
 obtain⟨k,n,s,l⟩:=x;obtain rfl:k=1:=hk
 cases f<;>rw[aU]at h<;>rcases h with⟨-,a,b,rfl,rfl⟩|⟨e,-⟩|⟨e,-⟩<;>first|exact⟨A,a,b⟩|exact jD e G
theorem Ks(h:aU f x)(hk:x.k=2):x=vT (aX x.s)/\x.s.size<4611686018427387904:=by
 obtain⟨k,n,s,l⟩:=x;obtain rfl:k=2:=hk
 cases f<;>rw[aU]at h<;>rcases h with⟨e,-⟩|⟨-,rfl,a,rfl⟩|⟨e,-⟩<;>first|exact⟨by rw[vT];show Val.mk 2 0 s []=Val.mk 2 0 (ofB (aX s)) [];rw[yU],a⟩|exact jD e G
theorem pj(h:aU f x)(hk:x.k=3):∃g,f=g+1/\x=vL x.l/\x.l.length<4611686018427387904/\∀y∈x.l,aU g y:=by
 obtain⟨k,n,s,l⟩:=x;obtain rfl:k=3:=hk
 rcases f with _|f
 ·rw[aU]at h;rcases h with⟨e,-⟩|⟨e,-⟩|⟨-,-,-,-,e⟩<;>first|exact jD e G|exact e.elim
 rw[aU]at h
 rcases h with⟨e,-⟩|⟨e,-⟩|⟨-,rfl,rfl,a,b⟩
 ·exact jD e G
 ·exact jD e G
 exact⟨f,A,A,a,b⟩
theorem gD{r:T×jc Val}(h:rI a=jb r)(l:∀x∈a,aU f x):a=vI r.1::r.2/\IR r.1:=by
 unfold rI at h
 cases h1:nx 1 a with
 |none=>rw[h1]at h;cases h
 |some q=>
  rw[h1]at h;injection h with h
  obtain⟨e,b⟩:=lS h1;have:=Di (l q.1 (by rw[e];exact jE ..)) b;rw[<-h];exact⟨by rw[e];exact jK (·::q.2) this.1,this.2⟩
theorem BS{l:jc Val}{r:ByteArray×jc Val}(h:rT l=jb r)(a:∀x∈l,aU f x):l=vT (aX r.1)::r.2:=by
 unfold rT at h
 cases h1:nx 2 l with
 |none=>rw[h1]at h;cases h
 |some q=>
  rw[h1]at h;injection h with h
  obtain⟨e,b⟩:=lS h1;have:=Ks (a q.1 (by rw[e];exact jE ..)) b;rw[<-h,e];exact jK (·::q.2) this.1
theorem um{r:jc Val×jc Val}(h:rL a=jb r)(l:∀x∈a,aU (f+1) x):a=vL r.1::r.2/\∀x∈r.1,aU f x:=by
 unfold rL at h
 cases h1:nx 3 a with
 |none=>rw[h1]at h;cases h
 |some q=>
  rw[h1]at h;injection h with h
  obtain⟨e,b⟩:=lS h1;obtain⟨g,i,c,-,d⟩:=pj (l q.1 (by rw[e];exact jE ..)) b;obtain rfl:f=g:=Y;rw[<-h];exact⟨by rw[e];exact jK (·::q.2) c,d⟩
theorem C9{r:af×jc Val}(h:rD a=jb r)(l:∀x∈a,aU f x):a=vT r.1::r.2/\r.1.length=32:=by
 unfold rD at h
 cases h1:rT a with
 |none=>rw[h1]at h;cases h
 |some q=>
  rw[h1,jW]at h
  split at h
  ·injection h with h
   rw[<-h];exact⟨BS h1 l,by rw[eW];assumption⟩
  cases h
theorem Er{r:(T×af)×jc Val}(h:rW a=jb r)(l:∀x∈a,aU f x):a=vI r.1.1::vT r.1.2::r.2/\IR r.1.1:=by
 unfold rW at h
 cases h1:rI a with
 |none=>rw[h1]at h;cases h
 |some q=>
  rw[h1,jW]at h;obtain⟨e,b⟩:=gD h1 l
  cases h2:rT q.2 with
  |none=>rw[h2]at h;cases h
  |some p=>
   rw[h2,j8]at h;injection h with h
   have c:=BS h2 (f:=f) (λx d=>l x (by rw[e];exact jJ _ d));rw[<-h];exact⟨by rw[e,c],b⟩
theorem ft{r:jc Val}(l:∀x∈a,aU f x)(e:a=x::r):∀x∈r,aU f x:=λy b=>l y (by rw[e];exact jJ _ b)
theorem dt{V:Type}{o:jr H}{f:H->jr V}{b:V}(h:o.bind f=jb b):∃a,o=jb a/\f a=jb b:=by
 rcases o with _|a
 ·cases h
 exact⟨a,A,h⟩
theorem fL{V:Type}{o:jr H}{f:H->V}{b:V}(h:o.map f=jb b):∃a,o=jb a/\f a=b:=by
 rcases o with _|a
 ·cases h
 exact⟨a,A,by injection h⟩
theorem Kk{M:ak}(h:iG a=jb M)(i:∀x∈a,aU f x):∃r,a=M.val.l++r/\aU (f+1) M.val:=by
 obtain⟨l,t,h⟩:=dt h;obtain⟨b,u,h⟩:=dt h;obtain⟨d,v,h⟩:=dt h;obtain⟨e,w,h⟩:=dt h;obtain⟨g,y,h⟩:=fL h;subst h;obtain⟨j,z⟩:=gD t i;have k:=ft i j;obtain⟨m,B⟩:=gD u k;have n:=ft k m;obtain⟨o,C⟩:=gD v n;have p:=ft n o;obtain⟨q,D⟩:=gD w p;have E:=ft p q;obtain⟨F,H⟩:=gD y E;refine⟨g.2,by rw[j,m,o,q,F];rfl,gx (λx s=>?_) ax⟩;simp only[jF,qC,or_false]at s
 rcases s with rfl|rfl|rfl|rfl|rfl
 ·exact cH z
 ·exact cH B
 ·exact cH C
 ·exact cH D
 exact cH H
theorem OU{c:Bx}(h:rBx a=jb c)(e:∀x∈a,aU f x):∃r,a=c.val.l++r/\aU (f+1) c.val:=by
 obtain⟨l,o,h⟩:=dt h;obtain⟨b,p,h⟩:=dt h;obtain⟨d,q,h⟩:=fL h;subst h;obtain⟨g,s⟩:=gD o e;have i:=ft e g;obtain⟨j,t⟩:=gD p i;have k:=ft i j;obtain⟨m,u⟩:=Er q k;refine⟨d.2,by rw[g,j,m];rfl,gx (λx n=>?_) ax⟩;simp only[jF,qC,or_false]at n
 rcases n with rfl|rfl|rfl|rfl
 ·exact cH s
 ·exact cH t
 ·exact cH u
 exact k _ (by rw[m];simp)
theorem Ir{c:Wl}(h:rWl a=jb c)(b:∀x∈a,aU f x):∃r,a=c.val.l++r/\aU (f+1) c.val:=by
 obtain⟨l,k,h⟩:=dt h;obtain⟨d,m,h⟩:=fL h;subst h;obtain⟨e,n⟩:=gD k b;have g:=ft b e;obtain⟨i,o⟩:=Er m g;refine⟨d.2,by rw[e,i];rfl,gx (λx j=>?_) ax⟩;simp only[jF,qC,or_false]at j
 rcases j with rfl|rfl|rfl
 ·exact cH n
 ·exact cH o
 exact g _ (by rw[i];simp)
theorem Mj:∀(b a:ja),a<=b->(bV a).length<=(bV b).length:=by
 intro b
 induction b using Nat.strongRecOn with
 |ind b d=>
  intro a e
  by_cases c:a<128
  ·rw[kF c];exact P2 b
  have f:¬b<128:=Y;rw[oh c,oh f];simp only[jM];have:=d (b/128) Y (a/128) (Nat.div_le_div_right e);omega
theorem GD(a b:jc Val):(encs a).length<=(encs (a++b)).length:=by rw[rf,jw];omega
theorem F6(a b:jc Val):(enc (vL a)).length<=(enc (vL (a++b))).length:=by
 rw[iC,iC];have c:=Mj (a++b).length a.length ax;have d:=GD a b;simp only[jM,jw]at*;omega
theorem sO{r:jc Val->jr α}{g:α->Val}(e:∀x,g x=vL (g x).l)(i:∀l c,r l=jb c->(∀x∈l,aU f x)->∃t,l=(g c).l++t/\aU (f+1) (g c)):
 ∀(l:jc Val) (c:jc α),cB r l=jb c->(∀x∈l,aU (f+1) x)->c.length=l.length/\(encs (c.map g)).length<=(encs l).length/\∀x∈c.map g,aU (f+1) x
 |[],c,h,d=>by
  rw[cB]at h;injection h with h
  subst h;exact⟨A,jz _,λx b=>by cases b⟩
 |v::l,c,h,d=>by
  rw[cB]at h
  split at h
  ·rename_i hk
   obtain⟨a,j,h⟩:=dt h;obtain⟨k,m,h⟩:=fL h;subst h;obtain⟨n,z,o⟩:=sO e i l k m (λx b=>d x (jJ _ b));obtain⟨q,B,p,-,s⟩:=pj (d v (jE ..)) hk;obtain rfl:f=q:=Y;obtain⟨t,u,w⟩:=i v.l a j s;refine⟨by simp[n],?_,λx b=>?_⟩
   ·have y:=F6 (g a).l t
    rw[<-u,<-p,<-e a]at y;simp only[j5,encs,jw];omega
   rw[j5]at b
   rcases jF.1 b with rfl|b
   ·exact w
   exact o x b
  cases h
theorem DO:∀(l:jc Val) (p:jc T),dl l=jb p->(∀x∈l,aU f x)->l=p.map vI
 |[],p,h,a=>by
  rw[dl]at h;injection h with h
  subst h
  rfl
 |v::l,p,h,a=>by
  rw[dl]at h
  split at h
  ·rename_i hk
   obtain⟨q,b,h⟩:=fL h;subst h;have e:=DO l q b (λx c=>a x (jJ _ c));have c:=(Di (a v (jE ..)) hk).1;rw[j5,<-e];exact jK (·::l) c
  cases h
theorem sJ{b:jc Val}(c:a.length=b.length)(d:(encs a).length<=(encs b).length):(enc (vL a)).length<=(enc (vL b)).length:=by
 rw[iC,iC,c];simp only[jM,jw];omega
theorem PF{v:Val}{c:aD}(h:ie v=jb c)(hv:aU (f+1+1+1) v)(hk:v.k=3):
 (enc (vL (aJ c))).length<=(enc v).length/\aU (f+1+1+1) (vL (aJ c))/\c.parent.length=32/\c.confirm.length=32:=by
 obtain⟨g,eg,ad,hl,d⟩:=pj hv hk;obtain rfl:g=f+1+1:=Y;obtain⟨a,h1,h⟩:=dt h;obtain⟨b,h2,h⟩:=dt h;obtain⟨p,h3,h⟩:=dt h;obtain⟨au,h4,h⟩:=dt h;obtain⟨i,h5,h⟩:=dt h;obtain⟨C,o,h⟩:=dt h;obtain⟨m,h7,h⟩:=dt h;obtain⟨al,h8,h⟩:=dt h;obtain⟨j,h9,h⟩:=dt h;obtain⟨box,a2,h⟩:=dt h;obtain⟨k,a3,h⟩:=dt h;obtain⟨wel,a4,h⟩:=dt h;obtain⟨q,a5,h⟩:=dt h;obtain⟨r,ba,h⟩:=dt h;obtain⟨s,bb,h⟩:=fL h;subst h;obtain⟨D,i1⟩:=gD h1 d;have E:=ft d D;obtain⟨F,i2⟩:=gD h2 E;have t:=ft E F;obtain⟨u,i3⟩:=C9 h3 t;have H:=ft t u;obtain⟨K,i4⟩:=gD h4 H;have M:=ft H K;obtain⟨P,i5⟩:=um h5 M;have Q:=ft M P;obtain⟨R,i7⟩:=um h7 Q;have S:=ft Q R;obtain⟨U,i9⟩:=um h9 S;have V:=ft S U;obtain⟨W,bc⟩:=um a3 V;have w:=ft V W;obtain⟨y,bd⟩:=C9 a5 w;have X:=ft w y;obtain⟨aa,bf⟩:=gD ba X;have bg:=ft X aa;obtain⟨bh,bk⟩:=gD bb bg;obtain⟨a1,bl,bm⟩:=sO (g:=ak.val) (λ_=>rfl) (λl c e d=>Kk e d) i.1 C o i5;obtain⟨b1,b2,b3⟩:=sO (g:=Bx.val) (λ_=>rfl) (λl c e d=>OU e d) j.1 box a2 i9;obtain⟨c1,c2,c3⟩:=sO (g:=Wl.val) (λ_=>rfl) (λl c e d=>Ir e d) k.1 wel a4 bc;have ep:=DO m.1 al h8 i7;have l:v.l=[vI a.1,vI b.1,vT p.1,vI au.1,vL i.1,vL m.1,vL j.1,vL k.1,vT q.1,vI r.1,vI s.1]++s.2:=by
  rw[D,F,u,K,P,R,U,W,y,aa,bh];rfl
 have m1:vL i.1∈v.l:=by rw[l];simp
 have m2:vL m.1∈v.l:=by rw[l];simp
 have m3:vL j.1∈v.l:=by rw[l];simp
 have m4:vL k.1∈v.l:=by rw[l];simp
 have l1:=sJ (a:=C.map ak.val) (b:=i.1) (ah a1) bl;have l2:=sJ (a:=box.map Bx.val) (b:=j.1) (ah b1) b2;have l3:=sJ (a:=wel.map Wl.val) (b:=k.1) (ah c1) c2;have z:∀{n:jc Val} {B:jc Val},n.length=B.length->(∀x∈n,aU (f+1) x)->vL B∈v.l->aU (f+1+1) (vL n):=by
  intro n B bn e hm;obtain⟨g,eg,-,o,-⟩:=pj (d _ hm) A;unfold vL;rw[aU];exact .inr (.inr ⟨A,A,A,by rw[bn];exact o,e⟩)
 refine⟨?_,?_,i3,bd⟩
 ·have k1:=F6 [vI a.1,vI b.1,vT p.1,vI au.1,vL i.1,vL m.1,vL j.1,vL k.1,vT q.1,vI r.1,vI s.1] s.2
  rw[<-l,<-ad]at k1;refine jy (sJ (b:=[vI a.1,vI b.1,vT p.1,vI au.1,vL i.1,vL m.1,vL j.1,vL k.1,vT q.1,vI r.1,vI s.1]) A ?_) k1;simp only[aJ,encs,jw,mb];rw[<-ep];omega
 unfold vL;rw[aU];refine .inr (.inr ⟨A,A,A,by simp[aJ],λx e=>?_⟩);simp only[aJ,jF,qC,or_false]at e
 rcases e with rfl|rfl|rfl|rfl|rfl|rfl|rfl|rfl|rfl|rfl|rfl
 ·exact cH i1
 ·exact cH i2
 ·exact t _ (by rw[u];simp)
 ·exact cH i4
 ·exact z (ah a1) (λx e=>bm x e) m1
 ·rw[<-ep];exact d _ m2
 ·exact z (ah b1) (λx e=>b3 x e) m3
 ·exact z (ah c1) (λx e=>c3 x e) m4
 ·exact w _ (by rw[y];simp)
 ·exact cH bf
 exact cH bk
theorem wj:∀(f i:ja) (l:af) (r:ja×af),i+f=9->cC f i l=jb r->l=bV r.1++r.2/\(0<i->0<r.1)
 |f,i,[],r,_,h=>by cases f<;>simp[cC]at h
 |0,i,b::l,r,d,h=>by
  simp only[cC]at h
  split at h
  ·rename_i c
   split at h
   ·injection h with h
    rw[<-h];refine⟨?_,λe=>?_⟩
    ·rw[kF (by assumption)];simp
    have:b≠0#8:=c.1.resolve_left Y
    rcases qD b.toNat with a|a
    ·exact jD (qP a) this
    exact a
   cases h
  cases h
 |f+1,i,b::l,r,d,h=>by
  simp only[cC]at h
  split at h
  ·rename_i c
   split at h
   ·injection h with h
    rw[<-h];refine⟨?_,λe=>?_⟩
    ·rw[kF (by assumption)];simp
    have:b≠0#8:=c.1.resolve_left Y
    rcases qD b.toNat with a|a
    ·exact jD (qP a) this
    exact a
   rename_i j;obtain⟨q,a,h⟩:=fL h;subst h;obtain⟨e,g⟩:=wj f (i+1) l q Y a;have k:=g Y;have m:b.toNat<256:=b.isLt;refine⟨?_,λ_=>by show 0<b.toNat%128+128*q.1;omega⟩;show b::l=bV (b.toNat%128+128*q.1)++q.2;rw[oh Y,show(b.toNat%128+128*q.1)/128=q.1 by omega,show(b.toNat%128+128*q.1)%128+128=b.toNat by omega];rw[show qE 8 b.toNat=b from by simp,e]
   rfl
  cases h
theorem Fl{r:ja×af}(h:eK m=jb r):m=bV r.1++r.2/\r.1<=r.2.length:=by
 unfold eK at h;obtain⟨q,a,h⟩:=dt h
 split at h
 ·injection h with h;subst h
  exact⟨(wj 9 0 m q A a).1,by assumption⟩
 cases h
theorem CY{g:af->jr (Val×af)}{W:Val->Prop}:∀(n:ja) (a:ja),(∀l r,l.length<=a->g l=jb r->l=enc r.1++r.2/\W r.1)->∀(l:af) (q:jc Val×af),l.length<=a->ei g n l=jb q->l=encs q.1++q.2/\q.1.length=n/\∀x∈q.1,W x
 |0,a,c,l,q,d,h=>by
  rw[ei]at h;injection h with h
  subst h;exact⟨A,A,λx b=>by cases b⟩
 |n+1,a,c,l,q,d,h=>by
  rw[ei]at h;obtain⟨r,f,h⟩:=dt h;obtain⟨p,i,h⟩:=fL h;subst h;obtain⟨e,j⟩:=c l r d f;obtain⟨k,m,o⟩:=CY n a c r.2 p (by rw[e,jw]at d;omega) i;refine⟨by rw[e,k];simp[encs],by simp[m],λx b=>?_⟩
  rcases jF.1 b with rfl|b
  ·exact j
  exact o x b
theorem QD(a:ja):fw (gt a)=a:=by
 unfold fw gt
 by_cases h:a%2=0
 ·rw[jm h,jm Y];omega
 rw[jn h,jn Y];omega
theorem MK(h:f<18446744073709551616):IR (gt f):=by
 unfold gt IR
 split<;>omega
theorem Bc:∀(f:ja) (l:af) (r:Val×af),l.length<=1000000->cM f l=jb r->l=enc r.1++r.2/\aU f r.1
 |f,[],r,_,h=>by rw[show cM f []=jd by cases f<;>rfl]at h;cases h
 |f,b::l,r,c,h=>by
  by_cases g:b=1#8
  ·subst g
   rw[show cM f (1#8::l)=(cC 9 0 l).map λr=>(.mk 1 (gt r.1) emS [],r.2) by cases f<;>rfl]at h;obtain⟨q,a,h⟩:=fL h;subst h;have e:=(wj 9 0 l q A a).1;refine⟨?_,cH (MK (AL a))⟩;show 1#8::l=enc (.mk 1 (gt q.1) emS [])++q.2;rw[enc,jm A,QD,e]
   rfl
  by_cases a:b=2#8
  ·subst a
   rw[show cM f (2#8::l)=(eK l).map λr=>(.mk 2 0 (ofB (r.2.take r.1)) [],r.2.drop r.1) by cases f<;>rfl]at h;obtain⟨q,d,h⟩:=fL h;subst h;obtain⟨e,k⟩:=Fl d;have m:(ofB (q.2.take q.1)).size=q.1:=by rw[uH,qQ];omega
   have i:q.2.length<=l.length:=by rw[e,jw];omega
   have j:l.length<=1000000:=by simp at c;omega
   refine⟨?_,?_⟩
   ·show 2#8::l=enc (.mk 2 0 (ofB (q.2.take q.1)) [])++q.2.drop q.1
    rw[enc,jn G,jm A,m,oI,qI,qx,qi];exact jK _ e
   show aU f (vT (q.2.take q.1));exact oR (by rw[qQ];omega)
  by_cases d:b=3#8
  ·subst d
   cases f with
   |zero=>rw[show cM 0 (3#8::l)=jd from A]at h;cases h
   |succ f=>
    rw[show cM (f+1) (3#8::l)=(eK l).bind λr=>(ei (cM f) r.1 r.2).map λq=>(.mk 3 0 emS q.1,q.2)from A]at h;obtain⟨q,m,h⟩:=dt h;obtain⟨p,n,h⟩:=fL h;subst h;obtain⟨e,k⟩:=Fl m;have j:l.length<=1000000:=by simp at c;omega
    have i:q.2.length<=1000000:=by rw[e,jw]at j;omega
    obtain⟨o,s,t⟩:=CY (W:=aU f) q.1 1000000 (λl r c h=>Bc f l r c h) q.2 p i n;refine⟨?_,?_⟩
    ·show 3#8::l=enc (vL p.1)++p.2
     rw[iC,qI,qx,s,<-o,<-e]
    show aU (f+1) (vL p.1);exact gx t Y
  rw[show cM f (b::l)=jd by cases f<;>simp only[cM,jn g,jn a,jn d]]at h;cases h
theorem Az(a:m.length<=1000000)(h:dec m=jb x):m=enc x/\aU 16 x:=by
 unfold dec at h;obtain⟨r,b,h⟩:=dt h
 split at h
 ·rename_i c
  injection h with h
  obtain⟨e,d⟩:=Bc 16 m r a b;rw[c,List.append_nil]at e;rw[<-h];exact⟨e,d⟩
 cases h
theorem Pu(p:m.length<=800000)(h:dec m=jb x)(g:ie x=jb y):eu (aJ y)/\y.parent.length=32/\y.confirm.length=32:=by
 obtain⟨e,d⟩:=Az Y h;have hk:x.k=3:=by
  obtain⟨a,l,-⟩:=dt g;obtain⟨q,o,-⟩:=fL l;obtain⟨i,-⟩:=lS o;obtain⟨k,n,s,j⟩:=x;rw[aU]at d
  rcases d with⟨-,-,-,-,b⟩|⟨-,-,-,b⟩|⟨b,-⟩
  ·rw[show j=q.1::q.2 from i]at b;cases b
  ·rw[show j=q.1::q.2 from i]at b;cases b
  exact b
 obtain⟨a,b,i,j⟩:=PF (f:=13) g d hk;exact⟨⟨b,by rw[<-e]at a;omega⟩,i,j⟩

def dA(l:jc aK)(d:T):jr aK:=l.find? λm=>m.dev==d
def gr(l:jc ak)(d:T):jr ak:=l.find? λx=>x.d==d
theorem Cv(f:H->T)(d:T):∀(l:jc H),(l.map f).Nodup->∀m,(l.find? λm=>f m==d)=jb m↔m∈l/\f m=d
 |[],_,m=>by simp
 |x::l,h,m=>by
  rw[j5,qK]at h;rw[List.find?_cons]
  by_cases e:f x=d
  ·simp only[e,BEq.rfl,qf.injEq]
   constructor
   ·rintro rfl;exact⟨jE ..,e⟩
   rintro⟨b,a⟩
   rcases jF.1 b with rfl|c
   ·rfl
   exact jD (jC.2 ⟨m,c,by rw[a,e]⟩) h.1
  rw[beq_eq_false_iff_ne.2 e,Cv f d l h.2 m]
  constructor
  ·rintro⟨b,a⟩;exact⟨jJ _ b,a⟩
  rintro⟨b,a⟩
  rcases jF.1 b with rfl|c
  ·exact jD a e
  exact⟨c,a⟩
theorem CP(h:(b.map ak.d).Nodup)(d:T)(x:ak):gr b d=jb x↔x∈b/\x.d=d:=Cv ak.d d b h x
theorem vY{S:jc aK}:(dA S d).isSome=cN S d:=by
 unfold dA cN;rw[Bool.eq_iff_iff,List.find?_isSome,qs]
theorem cI{C:Act}{B:Oper}{x:p6}{t:ju}{d:TypeDesc}(g:jk.underlying e=jb d)(i:d.isRow=jg)(j:(jk.info? e).map (·.size)=jb o.size)(k:B.op=.load e x)(m:C.eval x=jH (jb ⟨f,0,jd⟩))(n:w.heap[f]?=jb (jf o t (0,0))):
 (execOp C.eval B).run jk w=.ok (.value (jp o)) w:=by
 have h:=rx (P:=jk) B C e x k f 0 m o.toList _ (tW (t:=t) (l:=o.toList) (ah n)) g i (by rw[qo];exact j)
 simpa using h
theorem o9{P:ql}{fn:Func}{p q j:Tmp}{c f:ju}(h:fn.results= #[.cell p c,.cell q f,.tmp j])(tmps:jA je)(w:ji)(g k:ja)(t m:ju)(cs i:jA je)(fr n:ja×ja)(d l:TypeDesc)
 (o:tmps.getD p undef=jH (jb ⟨g,0,jd⟩)) (r:tmps.getD q undef=jH (jb ⟨k,0,jd⟩)) (s:w.heap[g]?=jb (jf cs t fr)) (u:w.heap[k]?=jb (jf i m n))
 (x:P.underlying c=jb d) (y:(match d with| .struct _ | .array _ _=>jg|_=>jl)=jg) (z:(P.info? c).map (·.size)=jb cs.size)
 (B:P.underlying f=jb l) (C:(match l with| .struct _ | .array _ _=>jg|_=>jl)=jg) (D:(P.info? f).map (·.size)=jb i.size):
 (results fn tmps).run P w=.ok (jL #[jp cs,jp i,tmps.getD j undef]) w:=by
 have e:(results fn tmps).run P w=((asAddr (tmps.getD p undef)).run P w).andThen λa E=>((loadVar c a).run P E).andThen λv F=>((asAddr (tmps.getD q undef)).run P F).andThen λb H=>((loadVar f b).run P H).andThen λK M=>.ok (jL #[v,K,tmps.getD j undef]) M:=by
  simp only[results,h];simp[Sem.run_bind,Result.andThen]
 rw[e,o];simp only[asAddr,Sem.run_pure,Result.andThen_ok,run_loadVar_row w g t c cs fr d s x y z,r,run_loadVar_row w k m f i n l u B C D]
def eR:aD:=⟨0,0,dC,0,[],[],[],[],dC,0,0⟩
def fX:CQ:=⟨jh jd 0 0,jh jd 0 0,jh jd 0 0,jh jd 0 0⟩
theorem dT:dC.length=32:=by simp[dC]
theorem JA(f e a:T)(b:jA je)(d:b.size=32)(p:jr jR)(n c:ja)(w:ji):
 (Instr.build 63 #[(0,I N f),(1,I N e),(2,jp b),(3,I N a),(4,jh p n c)]).run jk w=.ok (jp (#[I N f,I N e]++b++ #[I N a,jh p n c,jh jd 0 0,jh jd 0 0,jh jd 0 0]++(dC.map v8).toArray++ #[I N 0,I N 0])) w:=by
 unfold Instr.build;go_simp;rw[Ez b _ 2 32 d ax];obtain⟨l⟩:=b;simp[zeroCells63];have g:l.length=32:=d;rw[jn Y,jn Y,mT _ _ Y,mT _ _ Y,g]
 rfl
theorem Fq(c:aD)(a b d e x:je)(f:c.parent.length=32):(av c ⟨a,b,d,e⟩).toArray.setIfInBounds 36 x=(av c ⟨a,x,d,e⟩).toArray:=by
 apply ol
 rw[oj];unfold av;have g:(c.parent.map v8).length=32:=by rw[jv];exact f
 show qg (_ ::_ ::(c.parent.map v8++_)) 36 x=_;rw[j9,j9,mT _ _ Y,g]
 rfl
theorem vW(c:aD)(a b d e x:je)(f:c.parent.length=32):(av c ⟨a,b,d,e⟩).toArray.setIfInBounds 37 x=(av c ⟨a,b,x,e⟩).toArray:=by
 apply ol
 rw[oj];unfold av;have g:(c.parent.map v8).length=32:=by rw[jv];exact f
 show qg (_ ::_ ::(c.parent.map v8++_)) 37 x=_;rw[j9,j9,mT _ _ Y,g]
 rfl
theorem wP(c:aD)(a b d e x:je)(f:c.parent.length=32):(av c ⟨a,b,d,e⟩).toArray.setIfInBounds 38 x=(av c ⟨a,b,d,x⟩).toArray:=by
 apply ol
 rw[oj];unfold av;have g:(c.parent.map v8).length=32:=by rw[jv];exact f
 show qg (_ ::_ ::(c.parent.map v8++_)) 38 x=_;rw[j9,j9,mT _ _ Y,g]
 rfl
theorem PS:(jk.info? 3).map (λi=>(i.zero,i.size,i.bytes))=jb (jb (I N 0),1,8):=by kernel_rfl
theorem QG:(jk.info? 104).map (λi=>(i.zero,i.size,i.bytes))=jb (jb (jp #[I N 0,I N 0,jh jd 0 0]),3,40):=by kernel_rfl
theorem FZ{w:ji}{B:Oper}{C:Act}{K:Act->ji->Prop}{g:Exit->Act->ji->Prop}(s x:p6)
 (f:B.op=.call {callee:=.builtin .append,args:=#[s,x],argTypes:=#[58,58]})
 (o:ja) (v:je) (n:ja) (xs:jc je) (e:C.eval s=v) (i:w.ownsRow o 3 1 v n xs) (b:je) (m:ja) (c:jc je) (j:C.eval x=b) (k:cO w b 1 m c) (l:∀b∈c,b.oneCell'=jg)
 (E:n+m<=4000000) (p:o<=w.heap.size) (h:∀d w',bS o 3 1 w w' v d (n+m) (xs++c)->K (C.put B.dst d) w'):B.wp jk C w K g:=by
 obtain⟨q,r,t,u,y⟩:=mm PS;exact mN s x 58 f o 3 q _ 1 8 underlying58 r t u y A G v n xs e i b m c j k l (by unfold jN;omega) Y p
  λd w' z a D=>h d w' (mj z a D)
theorem Ca{w:ji}{B:Oper}{C:Act}{K:Act->ji->Prop}{g:Exit->Act->ji->Prop}(s x:p6)
 (f:B.op=.call {callee:=.builtin .append,args:=#[s,x],argTypes:=#[35,35]})
 (o:ja) (v:je) (n:ja) (xs:jc je) (e:C.eval s=v) (i:w.ownsRow o 54 4 v n xs) (b:je) (m:ja) (c:jc je) (j:C.eval x=b) (k:cO w b 4 m c) (l:∀b∈c,b.oneCell'=jg)
 (E:n+m<=2900000) (p:o<=w.heap.size) (h:∀d w',bS o 54 4 w w' v d (n+m) (xs++c)->K (C.put B.dst d) w'):B.wp jk C w K g:=by
 obtain⟨q,r,t,u,y⟩:=mm FK;exact mN s x 35 f o 54 q _ 4 48 underlying35 r t u y A G v n xs e i b m c j k l (by unfold jN;omega) Y p
  λd w' z a D=>h d w' (mj z a D)
theorem Bq{w:ji}{B:Oper}{C:Act}{K:Act->ji->Prop}{g:Exit->Act->ji->Prop}(s x:p6)
 (f:B.op=.call {callee:=.builtin .append,args:=#[s,x],argTypes:=#[59,59]})
 (o:ja) (v:je) (n:ja) (xs:jc je) (e:C.eval s=v) (i:w.ownsRow o 104 3 v n xs) (b:je) (m:ja) (c:jc je) (j:C.eval x=b) (k:cO w b 3 m c) (l:∀b∈c,b.oneCell'=jg)
 (E:n+m<=2900000) (p:o<=w.heap.size) (h:∀d w',bS o 104 3 w w' v d (n+m) (xs++c)->K (C.put B.dst d) w'):B.wp jk C w K g:=by
 obtain⟨q,r,t,u,y⟩:=mm QG;exact mN s x 59 f o 104 q _ 3 40 underlying59 r t u y A G v n xs e i b m c j k l (by unfold jN;omega) Y p
  λd w' z a D=>h d w' (mj z a D)
theorem iK(n:w.ownsRow f e i j h c)(hk:∀k,f<=k->k<w.heap.size->p.heap[k]?=w.heap[k]?):p.ownsRow f e i j h c:=by
 refine⟨n.1,?_⟩
 rcases n.2 with a|⟨g,xs,d,B,a,b,sz⟩
 ·exact .inl a
 exact .inr ⟨g,xs,d,B,a,(hk g a (jY.1 b).1).trans b,sz⟩
theorem F5(n:w.ownsRow f e i j h c)(p:0<h):∃g xs d,j=jh (jb ⟨g,0,jd⟩) h xs/\h<=xs/\f<=g/\w.heap[g]?=jb (jf d e (0,0))/\∀(v:ja) b,c[v]?=jb b->d[v]?=jb b:=by
 rcases n.2 with⟨rfl,q⟩|⟨g,B,sz,rfl,k,l,m,r,s,o⟩
 ·omega
 refine⟨g,B,sz,A,m,k,l,λv b a=>?_⟩;rw[<-o,qM]at a
 split at a
 ·simpa using a
 cases a
theorem nh(c:aD)(d e f g:jr jR)(h i j k l m n o:ja):(av c ⟨jh d h l,jh e i m,jh f j n,jh g k o⟩).toArray.all (·.oneCell')=jg:=by
 rw[Array.all_eq_true_iff_forall_mem];intro b a;simp only[av,List.mem_toArray,jF,jX,mz,or_false]at a
 rcases a with rfl|rfl|a|rfl|rfl|rfl|rfl|rfl|a|rfl|rfl
 ·rfl
 ·rfl
 ·exact g8 _ b a
 ·rfl
 ·rfl
 ·rfl
 ·rfl
 ·rfl
 ·exact g8 _ b a
 ·rfl
 rfl
theorem Ny(a:af)(i:ja)(b:i<10):(dL a).take (i+1)=(dL a).take i++[((aR 4 (mx (cG a i)):ja):T)]:=by
 rw[List.take_succ_eq_append_getElem (by rw[kD];exact b)];simp[dL]
theorem Mt(w:ji):(Instr.build 64 #[]).run jk w=.ok (jp (dC.map v8).toArray) w:=by
 unfold Instr.build;go_simp
 rfl
theorem Km{v:je}{b j:ja}{X d:jA je}(h:bp w v t)(f:w.heap[b]?=jb (jf X e (0,0)))(g:w'.heap[b]?=jb (jf d e (0,0)))(hk:∀k,k<w.heap.size->k≠b->w'.heap[k]?=w.heap[k]?)
 (k:∀i,i≠j->d[i]?=X[i]?) (a:∃p n c,X[j]?=jb (jh p n c)):bp w' v t:=by
 obtain⟨p,n,c,a⟩:=a;exact h.ints (tc f g k a hk)
theorem J2(c:aD)(a b d f e:je)(g:c.parent.length=32)(j:ja)(h:j≠37):(av c ⟨a,b,f,e⟩).toArray[j]?=(av c ⟨a,b,d,e⟩).toArray[j]?:=by
 rw[<-vW c a b d e f g,qy (Ne.symm h)]
theorem Hh(c:aD)(a b d e f:je)(g:c.parent.length=32)(j:ja)(h:j≠38):(av c ⟨a,b,d,f⟩).toArray[j]?=(av c ⟨a,b,d,e⟩).toArray[j]?:=by
 rw[<-wP c a b d e f g,qy (Ne.symm h)]
theorem lQ(c:aD)(a b d e:je)(f:c.parent.length=32)(g:c.confirm.length=32):(av c ⟨a,b,d,e⟩).toArray[36]?=jb b/\(av c ⟨a,b,d,e⟩).toArray[37]?=jb d/\(av c ⟨a,b,d,e⟩).toArray[38]?=jb e/\(av c ⟨a,b,d,e⟩).toArray.size=73:=by
 have h:=fk c ⟨a,b,d,e⟩ f g;exact⟨by simpa using h.2.2.2.2.1,by simpa using h.2.2.2.2.2.1,by simpa using h.2.2.2.2.2.2.1,by rw[j7,fa _ _ f g]⟩
structure cP{α:Type}(M R:ja)(t e:ju)(k:ja)(f:α->je->jc je)(body:α->af)(X:je->jA je)(w0 wr:ji)(n:ja)(a:je)(l:jc α)(b:jc je):Prop where
 row:dy M R t e k X w0 wr n a (dm f l b)
 kids:cD (λg=>M<=g/\g<wr.heap.size/\a.ownBlock≠jb g) wr (l.map body) b
theorem cP.later{u:ju}{M:H->je->jc je}{body:H->af}{P:ji}{F:ja}{l:jc H}(k:cP f i e u h M body X w p F j l c)(d:i<f)(b:jo p p P):cP f i e u h M body X w P F j l c:=
 ⟨k.row.later d b,(k.kids.keep (λg a=>b.block g a.2.1)).mono λg a=>⟨a.1,jT a.2.1 b.size,a.2.2⟩⟩
theorem cP.push{i:ja}{t:ju}{k:ja}{f:α->je->jc je}{body:α->af}{b j:ji}{n m:ja}{o a p:je}{l:jc α}{x:α}(h:cP M R t e k f body X w0 b n o l c)(u:R<M)
 (v:ay (λg=>M<=g/\g<b.heap.size/\o.ownBlock≠jb g) b p 1 (body x).length ((body x).map v8)) (q:bS M e k b j o a m (dm f l c++f x p)) (w:(X o).setIfInBounds i a=X a):
 cP M R t e k f body X w0 (j.setCell ⟨R,i,jd⟩ a) m a (l++[x]) (c++[p]):=by
 have y:c.length=l.length:=by have:=h.kids.len;rwa [jv]at this
 have z:dm f (l++[x]) (c++[p])=dm f l c++f x p:=by rw[Bp f l [x] c [p] y];simp[dm]
 have B:(j.setCell ⟨R,i,jd⟩ a).heap.size=j.heap.size:=lY _ _ _;have r:∀g,(M<=g/\g<b.heap.size/\o.ownBlock≠jb g)->(j.setCell ⟨R,i,jd⟩ a).heap[g]?=b.heap[g]?:=λg d=>
  (fR _ Y).trans (q.grown.block g d.2.1 (λe=>d.2.2 e.symm))
 have s:∀g,(M<=g/\g<b.heap.size/\o.ownBlock≠jb g)->(M<=g/\g<(j.setCell ⟨R,i,jd⟩ a).heap.size/\a.ownBlock≠jb g):=λg d=>
  ⟨d.1,by rw[B];exact jT d.2.1 q.grown.size,q.ne d.2.1 d.2.2⟩
 refine⟨?_,?_⟩
 ·rw[z];exact h.row.push u q w
 rw[mF];exact cD.snoc (ay.mono (ay.keep v r) s) ((h.kids.keep r).mono s)
theorem cP.start{t:ju}{k:ja}{f:α->je->jc je}{body:α->af}(a:w.heap[R]?=jb (jf (X (jh jd 0 0)) t (0,0)))(b:M<=w.heap.size):cP M R t e k f body X w w 0 (jh jd 0 0) [] []:=
 ⟨⟨a,by simpa [dm]using xj w M e k,aM.refl _ _ _,b⟩,rfl⟩
theorem cP.slice{t:ju}{k:ja}{f:α->je->jc je}{body:α->af}{wr:ji}{n:ja}{c:je}{l:jc α}{a:jc je}(h:cP M R t e k f body X w0 wr n c l a)(i:n=l.length){D:ja->Prop}(d:∀g,M<=g->g<wr.heap.size->D g):
 ∃a,ay D wr c k l.length (dm f l a)/\cD D wr (l.map body) a:=
 ⟨a,ay.of_own (by rw[<-i];exact h.row.own) (λg b=>by have:=h.row.own.lt g b;exact d g this.1 this.2),h.kids.mono λg b=>d g b.1 b.2.1⟩
theorem wU(c:w.heap[f]?=jb (jf o e (0,0)))(d:∀(j:ja) a,(m.map v8)[j]?=jb a->o[i+j]?=jb a)(t:m.length=h):aP w (jh (jb ⟨f,i,jd⟩) h h) m:=by
 subst t;exact ay.bytes (D:=λ_=>True) ⟨by simp,jb ⟨f,i,jd⟩,m.length,A,jz _,(λn=>by cases n),λ_=>⟨f,i,A,trivial,λj a g=>ae c (d j a g)⟩⟩
theorem DJ{W:ji}{b i:ja}{t:ju}{x y:je}(a:W.heap[b]?=jb (jf cs t (0,0))):
 (W.setCells b i [x,y]).heap[b]?=jb (jf ((cs.setIfInBounds i x).setIfInBounds (i+1) y) t (0,0))/\∀k,k≠b->(W.setCells b i [x,y]).heap[k]?=W.heap[k]?:=by
 have e:W.setCells b i [x,y]=(W.setCell ⟨b,i,jd⟩ x).setCell ⟨b,i+1,jd⟩ y:=A;rw[e];exact⟨mS y (mS x a),λk hk=>(fR _ hk).trans (fR _ hk)⟩
noncomputable def mf(g:aI)(a x:T)(b:jc ak):T:=
 if 1099511627776<=g.epoch then 1 else if cK g a b≠0 then cK g a b else if x<1\/2305843009213688669<=x then 50 else if((aR 4 x.toNat:ja):T)≠dO g a b then 221 else 0
def MZ(g:aI)(a x:T)(d:jc ak)(b init seed:af)(c:T)(w:ji)(e:qa)(w':ji):Prop:=
 (c=0->∃q,e=js (jL #[jp (av (mkC g a x.toNat d b init seed) q).toArray,jp ((gh g b init).map v8).toArray,I N 0])/\aF (λk=>w.heap.size<=k/\k<w'.heap.size) w' (mkC g a x.toNat d b init seed) q)/\
 (c≠0->e=js (jL #[jp (av eR fX).toArray,jp (dC.map v8).toArray,I N c]))/\jo w w w'
theorem sa{g o:ja}{a:jA je}{t:ju}(b:w.heap[g]?=jb (jf a t (0,0)))(c:∀(j:ja) v,xs[j]?=jb v->a[o+j]?=jb v):w.rangeAt g o xs:=λj v d=>ae b (c j v d)
theorem Fi(k:af)(hk:k.length=32)(n i j:ja)(c:i<n)(v:je)(h:((cG k i).map v8)[j]?=jb v):(fV (fH k n))[i*32+j]?=jb v:=by
 have d:j<32:=by
  have:=(qu.1 h).1;rw[jv,eQ k hk]at this;exact this
 unfold fV fH;rw[oo,<-xm];have g:∀x∈jP n,((λk=>qS v8 k)∘cG k) x=(cG k x).map v8:=λ_ _=>rfl
 have e:∀(l:jc ja) (i:ja) (x:ja),l[i]?=jb x->((l.map ((λk=>qS v8 k)∘cG k)).flatten)[i*32+j]?=((cG k x).map v8)[j]?:=by
  intro l
  induction l with
  |nil=>intro i x a;simp at a
  |cons y l f=>
   intro i x a;rw[j5,List.flatten_cons];have b:(((λk=>qS v8 k)∘cG k) y).length=32:=by simp[eQ k hk]
   rcases i with _|i
   ·have:y=x:=ah a
    subst this;rw[Nat.zero_mul,Nat.zero_add,List.getElem?_append_left (by rw[b];exact d)]
    rfl
   rw[List.getElem?_append_right (by rw[b];omega),b,show(i+1)*32+j-32=i*32+j by omega];exact f i x (ah a)
 rw[xm];exact(e (jP n) i i (by simp[c])).trans h
theorem Jn(p:jr jR)(n c:ja)(w:ji):jt jk 6 #[jh p n c] w λe w'=>e=js (.bool (decide (n<=10)))/\jo w w w':=by
 by_cases h:n<=10
 ·have b:=ao ((n:T)<=10)
  have a:=O (qm h)
  go_enter func6,ntmps6
  go_wp2_with fail
  go_ret;exact⟨by rw[a];rfl,jG _ _⟩
 have b:=ap ((n:T)<=10);have a:=O (decide_eq_false h)
 go_enter func6,ntmps6
 go_wp2_with fail
 go_ret;exact⟨by rw[a];rfl,jG _ _⟩
theorem Hc(g:aI)(vm vt:je)(w:ji)(h:cr w g vm vt)(l:g.tree.length<=jN):
 jt jk 5 #[jp (aG g vm vt).toArray] w λe w'=>(∃b,e=js (.bool b)/\(b=jg->g.mem.length<=8/\g.tree.length<=80))/\jo w w w':=by
 have a:=dh.new w (vm:=vm) (vt:=vt) h.llen;have b:=ai w (jf (aG g vm vt).toArray 29);have d:=O (Oa g.tree vt _ (h.tree.below b) l);obtain⟨p,c,rfl,-,-⟩:=h.mem.form;obtain⟨m,o,q,rfl⟩:=iW h.tree;obtain⟨-,-,i,r⟩:=a.at;have f:=O b;obtain⟨v,j⟩:=J ((aG g (jh p g.mem.length c) (jh m o q)).toArray);rw[<-j]at i r d f⊢;obtain⟨n,k⟩:=J g.mem.length;rw[<-k]at i⊢;clear a b h j k
 by_cases b:n<=8
 case neg=>
  have j:=ap ((n:T)<=8);clear b
  go_enter func5,ntmps5
  go_wp2_with fail
  go_ret;exact⟨⟨jl,A,λh=>by cases h⟩,f⟩
 have j:=ao ((n:T)<=8);have k:=O b;clear b;obtain⟨s,b⟩:=J (decide (g.tree.length<=80));rw[<-b]at d;have t:=O b;clear b
 go_enter func5,ntmps5
 go_wp2_with fail
 refine d.mono ?_;rintro e x ⟨rfl,b⟩;have u:=ac f b;clear b
 go_wp2_with fail
 go_ret;exact⟨⟨s,A,λa=>⟨k,qF (by rw[<-t];exact a)⟩⟩,u⟩
theorem tB(W:ji)(g j:ja)(cs ds:jA je)(t:ju)(fr:ja×ja)(h:W.heap[g]?=jb (jf cs t fr)):(W.setRow g ds).cell? ⟨g,j,jd⟩=ds[j]?:=by
 have a:=jS W g cs ds t fr h;simp[World.cell?,a]
theorem Cr{p:H->jV}{l:jc H}{x:H}(h:l.find? p=jd)(a:p x=jl):(l++[x]).find? p=jd:=by
 rw[qT,h];simp[a]
theorem Cu{p:H->jV}{l:jc H}{x:H}(h:l.find? p=jd)(a:p x=jg):(l++[x]).find? p=jb x:=by
 rw[qT,h];simp[a]
theorem C2{p:α->jV}{l:jc α}{x:α}{k:ja}(h:(l.take k).find? p=jb x):l.find? p=jb x:=by
 rw[<-qi k l,qT,h];rfl
theorem B9(a:aI)(vm vt:je)(d:T)(w:ji)(h:cr w a vm vt)(z:a.mem.length<=jN):
 jt jk 13 #[jp (aG a vm vt).toArray,I N d] w λe w'=>e=js (jL #[jp ((dA a.mem d).getD bP).cells.toArray,.bool (dA a.mem d).isSome])/\jo w w w':=by
 have m:=dh.new w (vm:=vm) (vt:=vt) h.llen;have b:=ai w (jf (aG a vm vt).toArray 29);have o:=h.mem;obtain⟨p,c,rfl,-,-⟩:=h.mem.form;obtain⟨-,-,f,-⟩:=m.at;have K:=O (o.cells);obtain⟨R,q⟩:=J ((aG a (jh p a.mem.length c) vt).toArray);rw[<-q]at f b⊢;obtain⟨n,i⟩:=J a.mem.length;rw[<-i]at f z K;replace z:n<=9223372036854775807:=z;have M:=O i;obtain⟨r,j⟩:=J (w.alloc (jf R 29));rw[<-j]at f b;have k:=O j;have g:=O b;have u:=O f;clear m b h q i o j f
 go_enter func13,ntmps13
 go_upto_region 1 with fail
 obtain⟨b,i⟩:=J w.heap.size;rw[<-k,<-i];have o:r.heap.size=b+1:=by rw[k,World.size_alloc,i]
 obtain⟨B,j⟩:=J r.heap.size;have m:=g.trans ((ai r (jf #[I N 0,I N 0,I N 0] 43)).mono g.size);have q:=jB r (jf #[I N 0,I N 0,I N 0] 43);have f:=aB u (ai r (jf #[I N 0,I N 0,I N 0] 43));have v:w.heap.size<=B:=by rw[j];exact g.size
 rw[<-j]at q;rw[<-o,<-j];rw[<-i]at f;obtain⟨s,x⟩:=J (r.alloc (jf #[I N 0,I N 0,I N 0] 43));rw[<-x]at m q f⊢;have C:=O m;have t:=O q;have P:=O v;clear j x m q i v k g u o
 go_wp2_with fail
 go_loopw [6] (λi wr=>∃k:ja,i=I N k/\k<=n/\jj (dA (a.mem.take k) d=jd)/\wr=s) (λi _=>n-(jq i).toNat)
 case atStart=>exact⟨0,A,j4 _,O A,A⟩
 obtain⟨k,rfl,hk,D,g⟩:=hrel;rw[g];clear g
 by_cases S:k<n
 ·have U:=ao ((k:T)<(n:T))
  have V:=ao (k<n);obtain⟨-,-,x⟩:=K.out;obtain⟨g,o,rfl,E⟩:=x Y;obtain⟨y,F,H⟩:=dF (l:=a.mem) (j:=k) (by rw[<-M];exact S);have m:=λi W X=>aB (E k y F i W X) C
  have c0:s.cell? ⟨g,o+k*3,jd⟩=jb (I N y.dev):=m 0 _ A;have c1:s.cell? ⟨g,o+k*3+1,jd⟩=jb (I N y.since):=m 1 _ A;have f:s.cell? ⟨g,o+k*3+2,jd⟩=jb (I N y.ver):=m 2 _ A;obtain⟨md,u,v⟩:=y;dsimp only at c0 c1 f;have Q:=O H;clear E H F x m
  by_cases x:md=d
  case neg=>
   have m:(md==d)=jl:=ah x;have E:jj (dA (a.mem.take (k+1)) d=jd):=O (by rw[Q];exact Cr D m);have F:decide (md=d)=jl:=ah x;clear x
   go_wp2_with fail
   exact⟨⟨k+1,by go_num,by omega,E,by trivial⟩,by simp only[jq];omega⟩
  have E:jj (dA a.mem d=jb ⟨md,u,v⟩):=O (C2 (k:=k+1) (by rw[Q];exact Cu D (by simp[x])));subst x;have q:=t.out;have m:=λj=>tB s B j _ #[I N md,I N u,I N v] _ _ t.out
  have r0:=m 0;have r1:=m 1;have r2:=m 2;have F:=O (jU C P #[I N md,I N u,I N v]);clear m
  go_wp2_with (refine jI A λ_ H=>jQ 43 _ _ A B #[I N md,I N u,I N v] A A 43 _ q p8 A (by simp[kn]) (H _ _ ?_))
  refine qG (fq A _ _ B 43 #[I N md,I N u,I N v] (0,0) _ A (jS _ _ _ _ _ _ t.out) ri A p8) A ⟨by rw[E];rfl,F⟩
 have U:=ap ((k:T)<(n:T));have V:=ap (k<n);obtain rfl:k=n:=Y;have E:jj (dA a.mem d=jd):=O (by
  have h:=D.out
  rwa [M,pz]at h)
 have q:=t.out;have m:=λj=>tB s B j _ #[I N 0,I N 0,I N 0] _ _ t.out
 have r0:=m 0;have r1:=m 1;have r2:=m 2;have F:=O (jU C P #[I N 0,I N 0,I N 0]);clear m
 go_wp2_with (refine jI A λ_ H=>jQ 43 _ _ A B #[I N 0,I N 0,I N 0] A A 43 _ q p8 A (by simp[kn]) (H _ _ ?_))
 refine qG (fq A _ _ B 43 #[I N 0,I N 0,I N 0] (0,0) _ A (jS _ _ _ _ _ _ t.out) ri A p8) A ⟨by rw[E];rfl,F⟩
theorem Ev(l:jc ak)(H:je)(d:T)(w:ji)(h:EC.At w H l)(x:l.length<=jN):
 jt jk 14 #[H,I N d] w λe w'=>e=js (jL #[jp ((gr l d).getD rl).cells.toArray,.bool (gr l d).isSome])/\jo w w w':=by
 have b:=h;obtain⟨p,c,rfl,-,-⟩:=h.form;have K:=O (b.cells);obtain⟨n,a⟩:=J l.length;rw[<-a]at x K⊢;replace x:n<=9223372036854775807:=x;have M:=O a;clear h a b
 go_enter func14,ntmps14
 go_upto_region 1 with fail
 obtain⟨B,a⟩:=J w.heap.size;have g:=ai w (jf #[I N 0,I N 0,I N 0,I N 0,I N 0] 47);have b:=jB w (jf #[I N 0,I N 0,I N 0,I N 0,I N 0] 47);have i:w.heap.size<=B:=lw a.symm;rw[<-a]at b⊢;obtain⟨f,j⟩:=J (w.alloc (jf #[I N 0,I N 0,I N 0,I N 0,I N 0] 47));rw[<-j]at g b⊢;have z:=O g;have q:=O b;have P:=O i;clear a j g b i
 go_wp2_with fail
 go_loopw [6] (λi wr=>∃k:ja,i=I N k/\k<=n/\jj (gr (l.take k) d=jd)/\wr=f) (λi _=>n-(jq i).toNat)
 case atStart=>exact⟨0,A,j4 _,O A,A⟩
 obtain⟨k,rfl,hk,C,a⟩:=hrel;rw[a];clear a
 by_cases R:k<n
 ·have S:=ao ((k:T)<(n:T))
  have U:=ao (k<n);obtain⟨-,-,v⟩:=K.out;obtain⟨g,o,rfl,D⟩:=v Y;obtain⟨y,E,F⟩:=dF (l:=l) (j:=k) (by rw[<-M];exact R);have a:=λi V W=>aB (D k y E i V W) z
  have X:f.cell? ⟨g,o+k*5,jd⟩=jb (I N y.k):=a 0 _ A;have c1:f.cell? ⟨g,o+k*5+1,jd⟩=jb (I N y.d):=a 1 _ A;have c2:f.cell? ⟨g,o+k*5+2,jd⟩=jb (I N y.p):=a 2 _ A;have c3:f.cell? ⟨g,o+k*5+3,jd⟩=jb (I N y.v):=a 3 _ A;have c4:f.cell? ⟨g,o+k*5+4,jd⟩=jb (I N y.c):=a 4 _ A;obtain⟨r,m,s,t,u⟩:=y;dsimp only at X c1 c2 c3 c4;have Q:=O F;clear D F E v a
  by_cases v:m=d
  case neg=>
   have a:(m==d)=jl:=ah v;have D:jj (gr (l.take (k+1)) d=jd):=O (by rw[Q];exact Cr C a);have E:decide (m=d)=jl:=ah v;clear v
   go_wp2_with fail
   exact⟨⟨k+1,by go_num,by omega,D,by trivial⟩,by simp only[jq];omega⟩
  have D:jj (gr l d=jb ⟨r,m,s,t,u⟩):=O (C2 (k:=k+1) (by rw[Q];exact Cu C (by simp[v])));subst v;have b:=q.out;have a:=λj=>tB f B j _ #[I N r,I N m,I N s,I N t,I N u] _ _ q.out
  have r0:=a 0;have r1:=a 1;have r2:=a 2;have r3:=a 3;have r4:=a 4;have E:=O (jU z P #[I N r,I N m,I N s,I N t,I N u]);clear a
  go_wp2_with (refine jI A λ_ F=>jQ 47 _ _ A B #[I N r,I N m,I N s,I N t,I N u] A A 47 _ b rJ A (by simp[kn]) (F _ _ ?_))
  refine qG (fq A _ _ B 47 #[I N r,I N m,I N s,I N t,I N u] (0,0) _ A (jS _ _ _ _ _ _ q.out) rn A rJ) A ⟨by rw[D];rfl,E⟩
 have S:=ap ((k:T)<(n:T));have U:=ap (k<n);obtain rfl:k=n:=Y;have D:jj (gr l d=jd):=O (by
  have h:=C.out
  rwa [M,pz]at h)
 have b:=q.out;have a:=λj=>tB f B j _ #[I N 0,I N 0,I N 0,I N 0,I N 0] _ _ q.out
 have r0:=a 0;have r1:=a 1;have r2:=a 2;have r3:=a 3;have r4:=a 4;have E:=O (jU z P #[I N 0,I N 0,I N 0,I N 0,I N 0]);clear a
 go_wp2_with (refine jI A λ_ F=>jQ 47 _ _ A B #[I N 0,I N 0,I N 0,I N 0,I N 0] A A 47 _ b rJ A (by simp[kn]) (F _ _ ?_))
 refine qG (fq A _ _ B 47 #[I N 0,I N 0,I N 0,I N 0,I N 0] (0,0) _ A (jS _ _ _ _ _ _ q.out) rn A rJ) A ⟨by rw[D];rfl,E⟩
theorem BX:∀w:ji,(Instr.alloc 43 jg (jL #[])).run jk w=.ok (jH (jb ⟨w,0,jd⟩)) (w.alloc (jf #[I N 0,I N 0,I N 0] 43)):=λ_=>by kernel_rfl
theorem Fo:∀w:ji,(Instr.alloc 47 jg (jL #[])).run jk w=.ok (jH (jb ⟨w,0,jd⟩)) (w.alloc (jf #[I N 0,I N 0,I N 0,I N 0,I N 0] 47)):=λ_=>by kernel_rfl
theorem aF.folder{q:CQ}(h:aF D w y q)(x:T):aF D w {y with folder:=x} q:=⟨h.chg,h.path,h.box,h.wel,h.plen,h.clen⟩
theorem aF.epoch{q:CQ}(h:aF D w y q)(x:T):aF D w {y with epoch:=x} q:=⟨h.chg,h.path,h.box,h.wel,h.plen,h.clen⟩
theorem aF.parent{c:aD}{q:CQ}(h:aF D w c q)(i:ja)(x:BitVec 8):aF D w {c with parent:=c.parent.set i x} q:=⟨h.chg,h.path,h.box,h.wel,by rw[List.length_set];exact h.plen,h.clen⟩
def cU(n:ja):ja:=10-bitLen n
theorem Qi(n:ja)(b:1<=n)(a:n<1024):1<=bitLen n/\bitLen n<=10:=by
 unfold bitLen;rw[jn Y];have:=(Nat.log2_lt (by omega:n≠0)).2 (show n<2^10 from a);omega
theorem Bo(n:ja)(a:1<=n)(b:n<1024)(w:ji):
 jt jk 38 #[I N n] w λe w'=>e=js (I N (cU n))/\w=w':=by
 have c:=Qi n a b
 go_enter func38,ntmps38
 go_wp2_with fail
 refine(A8 _ Y Y _).mono ?_;rintro e w' ⟨rfl,rfl⟩;simp only[j0]
 go_wp2
 go_ret;exact⟨Nc (by unfold cU;omega),A⟩
theorem LA(n:ja)(a:1<=n)(b:n<1024)(w:ji):
 jt jk 16 #[I N n] w λe w'=>e=js (jL #[I N (cU n),I N 0])/\w=w':=by
 go_enter func16,ntmps16
 go_wp2_with fail
 refine(BJ _ Y Y _).mono ?_;rintro e w' ⟨rfl,rfl⟩
 go_wp2_with fail
 refine(Bo n a b _).mono ?_;rintro e w' ⟨rfl,rfl⟩
 go_wp2
 go_ret2;exact⟨A,A⟩
def eH(n:ja):ja:=n*2^cU n-512
def toN(n:ja):ja:=(n+1)*2^cU n-512
theorem tU(n:ja)(a:1<=n)(b:n<1024):512<=n*2^cU n/\(n+1)*2^cU n<=1024/\cU n<=9:=by
 have h:∀n:Fin 1024,1<=n.val->512<=n.val*2^cU n.val/\(n.val+1)*2^cU n.val<=1024/\cU n.val<=9:=by decide+kernel
 exact h ⟨n,b⟩ a
theorem Je(n k:ja):((n*2^k:ja):T)=(n:T)*2^k:=by
 rw[qN,qO];rfl
theorem OB(n k:ja):(((n+1)*2^k:ja):T)=((n:T)+1)*2^k:=by
 rw[qN,qO];rfl
theorem Dh(a:ja)(h:512<=a)(b:a<=1024):wrap64 (wrap64 (a:T)-512)=((a-512:ja):T):=by
 have e:=tk (a:T) Y Y;rw[e,tk _ Y Y];omega
theorem JJ(n k:ja)(hk:cU n=k)(a:512<=n*2^k)(b:n*2^k<=1024):wrap64 (wrap64 ((n:T)*2^k)-512)=((eH n:ja):T):=by
 unfold eH;rw[<-Je,hk];exact Dh _ a b
theorem QO(n k:ja)(hk:cU n=k)(a:512<=(n+1)*2^k)(b:(n+1)*2^k<=1024):wrap64 (wrap64 (((n:T)+1)*2^k)-512)=((toN n:ja):T):=by
 unfold toN;rw[<-OB,hk];exact Dh _ a b
theorem No(n:ja)(a:1<=n)(b:n<1024)(w:ji):
 jt jk 12 #[I N n] w λe w'=>e=js (jL #[I N (eH n),I N (toN n),I N 0])/\∃q,w'=w.drewN q:=by
 obtain⟨c,d,h⟩:=tU n a b;have f:n*2^cU n<=1024:=by have:n*2^cU n<=(n+1)*2^cU n:=j6 _ Y;omega
 have g:=O (And.intro c (And.intro d f));clear c d f
 go_enter func12,ntmps12
 go_wp2_with fail
 refine(BJ _ Y Y _).mono ?_;rintro e w' ⟨rfl,rfl⟩
 go_wp2_with fail
 refine(Bo n a b _).mono ?_;rintro e w' ⟨rfl,rfl⟩;generalize hk:cU n=k at g h;have c:=O hk;clear hk
 go_wp2
 go_quiet (fail)
 go_wp2
 go_ret3
 obtain⟨d,f,i⟩:=g.out;have j:=JJ n k c d i;have l:=QO n k c (jy d (j6 _ Y)) f;exact⟨by rw[<-j,<-l];rfl,_,rfl⟩
def oG(x y:ja):ja:=x/2^bitLen (x^^^y)
def cF(P:Prop)(e:qa):Prop:=∃b,e=js (.bool b)/\(b=jg->P)
theorem cF.no{P:Prop}:cF P (js (.bool jl)):=⟨jl,A,λh=>by cases h⟩
theorem cF.of{P:Prop}(b:jV)(h:b=jg->P):cF P (js (.bool b)):=⟨b,A,h⟩
theorem Ja(x:T)(w:ji):
 jt jk 89 #[I N x] w λe w'=>e=js (.bool (decide (dH x)))/\w=w':=by
 obtain⟨r,a⟩:=J (decide (dH x));rw[<-a]
 by_cases b:0<=x
 ·have c:=ao (0<=x)
  obtain rfl:r=decide (x<512):=by rw[a];simp[dH,b]
  clear a
  go_enter func89,ntmps89
  go_wp2
  go_ret;exact⟨A,A⟩
 have c:=ap (0<=x);obtain rfl:r=jl:=by rw[a];simp[dH,b]
 clear a
 go_enter func89,ntmps89
 go_wp2
 go_ret;exact⟨A,A⟩
theorem I4(x:ak)(w:ji):
 jt jk 31 #[jp x.cells.toArray] w λe w'=>cF (lH x) e/\jo w w w':=by
 have m:jj (dH x.d->im x=jg->lH x):=O (λa b=>⟨a,mC.1 b⟩);have n:=O (FX (x:=x));have o:=O (Gy (x:=x));have j:=O (AW (x:=x));obtain⟨kb,c⟩:=J (pi x);obtain⟨s,d⟩:=J (oB x);obtain⟨z,f⟩:=J (im x);have u:=O c;have D:=O d;rw[<-c]at n j;rw[<-d]at o j;rw[<-f]at n o j m;obtain⟨P,g⟩:=J (lH x);rw[<-g]at m⊢;clear c d f g;obtain⟨c,q,k,l,g⟩:=x;unfold ak.cells;dsimp only at n o j m⊢;have p:=ai w (jf #[I N c,I N q,I N k,I N l,I N g] 47);have d:=jB w (jf #[I N c,I N q,I N k,I N l,I N g] 47);obtain⟨C,r⟩:=J (w.alloc (jf #[I N c,I N q,I N k,I N l,I N g] 47));obtain⟨B,t⟩:=J w.heap.size;rw[<-r]at p d;rw[<-t]at d;have E:=ae (i:=1) d A;have f:=O d;have h:=O p;have v:=O r;have M:=O t;clear p d r t
 go_enter func31,ntmps31
 go_upto_region 1 with fail
 rw[<-v,<-M];clear v
 go_wp2_with fail
 refine(Ja q C).mono ?_;rintro e R ⟨rfl,rfl⟩
 by_cases d:dH q
 case neg=>
  have y:decide (dH q)=jl:=decide_eq_false d;rw[y];clear d
  go_wp2_with fail
  go_ret;exact⟨cF.no,h⟩
 have y:decide (dH q)=jg:=qm d;rw[y];replace m:=O (m d);clear d y E
 go_upto_region 3 with fail
 go_cut [3] (λv r=>v=.bool kb/\jj (jo C C r))
 case first=>
  have E:=ae (i:=2) f A;have Q:=ae (i:=3) f A;have t:=O (mE k);have F:=O (mE l);have d:jj (kb=(decide (b7 k=0)&&decide (b7 l=0))):=O u;obtain⟨p,H⟩:=J (b7 k);obtain⟨S,K⟩:=J (b7 l);rw[<-H]at t d;rw[<-K]at F d;clear H K
  go_wp2_with fail
  refine(t _).mono ?_;rintro e U ⟨rfl,rfl⟩;clear E
  by_cases b:p=0
  ·subst b
   go_wp2_with fail
   refine(F _).mono ?_;rintro e H ⟨rfl,rfl⟩
   go_wp2_with fail
   go_meet
   exact⟨by rw[d,<-wT];rfl,O (jG _ _)⟩
  have H:(p==0)=jl:=ah b;have K:decide (p=0)=jl:=ah b;obtain rfl:kb=jl:=by rw[d,K];rfl
  clear b
  go_wp2_with fail
  go_meet
  exact⟨A,O (jG _ _)⟩
 obtain⟨rfl,t⟩:=hcut;have d:=O (az f t);have p:=O (h.trans (t.mono h.size));clear f h t;have F:=ae (i:=4) d A
 go_upto_region 4 with fail
 go_cut [4] (λv r=>v=.bool s/\wc=r)
 case first=>
  have f:jj (s=(decide (0<=g)&&decide (g<=1048576))):=O D
  by_cases a:0<=g
  ·have t:decide (0<=g)=jg:=ah a
   have r:jj (s=decide (g<=1048576)):=O (by rw[f,t];rfl)
   go_wp2_with fail
   go_meet
   exact⟨jK qU r.symm,A⟩
  have t:decide (0<=g)=jl:=ah a;obtain rfl:s=jl:=by rw[f,t];rfl
  clear a
  go_wp2_with fail
  go_meet
  exact⟨A,A⟩
 obtain⟨rfl,rfl⟩:=hcut;have K:=ae (i:=0) d A;have E:=ae (i:=2) d A;have Q:=ae (i:=3) d A;clear u D d
 by_cases a:c=1
 ·have t:(c==1)=jg:=ah a
  have d:=n a;clear a n o j
  rcases kb with _|_
  ·clear d
   go_wp2_with fail
   go_ret;exact⟨cF.no,p⟩
  have r:jj (z=(g==0)):=O (by rw[d];rfl);clear d
  go_wp2_with fail
  go_ret;exact⟨cF.of _ (λh=>m (r.trans h)),p⟩
 have t:(c==1)=jl:=ah a
 by_cases b:c=2
 ·have H:(c==2)=jg:=ah b
  have d:=o b;clear a b n o j
  by_cases f:k=0
  ·have v:(k==0)=jg:=ah f
   by_cases u:l=0
   ·have D:(l==0)=jg:=ah u
    have r:jj (z=s):=O (by rw[d,f,u];simp);clear d f u
    go_wp2_with fail
    go_ret;exact⟨cF.of _ (λh=>m (r.trans h)),p⟩
   have D:(l==0)=jl:=ah u;clear d f u
   go_wp2_with fail
   go_ret;exact⟨cF.no,p⟩
  have v:(k==0)=jl:=ah f;clear d f
  go_wp2_with fail
  go_ret;exact⟨cF.no,p⟩
 have H:(c==2)=jl:=ah b
 by_cases f:c=3
 ·have v:(c==3)=jg:=ah f
  have d:=j f;clear a b f n o j
  rcases kb with _|_
  ·clear d
   go_wp2_with fail
   go_ret;exact⟨cF.no,p⟩
  have r:jj (z=s):=O (by rw[d];rfl);clear d
  go_wp2_with fail
  go_ret;exact⟨cF.of _ (λh=>m (r.trans h)),p⟩
 have v:(c==3)=jl:=ah f;clear a b f n o j
 go_wp2_with fail
 go_ret;exact⟨cF.no,p⟩
theorem JV(l:jc ak)(v:je)(w:ji)(h:EC.At w v l)(H:l.length<=1000000):
 jt jk 8 #[v] w λe w'=>cF (dz l) e/\jo w w w':=by
 have q:jj (gJ l->l.length<=64->dz l):=O (λh a=>⟨h.each,h.once,a⟩);obtain⟨P,a⟩:=J (dz l);rw[<-a]at q⊢;clear a;have b:=h;obtain⟨p,c,rfl,-,-⟩:=h.form;have B:=O (b.cells);obtain⟨n,a⟩:=J l.length;rw[<-a]at H B q⊢;have r:=O a;clear h a b
 by_cases a2:64<n
 ·have K:=ao ((64:T)<(n:T))
  go_enter func8,ntmps8
  go_wp2_with fail
  go_ret;exact⟨cF.no,jG _ _⟩
 have K:=ap ((64:T)<(n:T))
 go_enter func8,ntmps8
 go_wp2_with fail
 go_loopw [3] (λi wr=>∃k:ja,i=I N k/\k<=n/\jj (gJ (l.take k))/\jj (jo w w wr)) (λi _=>n-(jq i).toNat)
 case atStart=>exact⟨0,A,j4 _,O (ah gJ.nil),O (jG _ _)⟩
 obtain⟨k,rfl,hk,C,a⟩:=hrel
 by_cases M:k<n
 case neg=>
  have Q:=ap ((k:T)<(n:T));have R:=ap (k<n);have b:=O (show k=n by omega);have d:=O (show n<=64 by omega)
  go_wp2_with fail
  go_ret;exact⟨cF.of jg (λ_=>q (by have h:=C.out;rwa [b,r,pz]at h) d),a⟩
 have Q:=ao ((k:T)<(n:T));have R:=ao (k<n);obtain⟨-,-,m⟩:=B.out;obtain⟨g,o,rfl,b⟩:=m Y;obtain⟨x,f,s⟩:=dF (l:=l) (j:=k) (by rw[<-r];exact M);have S:=O s;have U:=O b;have t:=O (I4 x);obtain⟨V,d,W,X,xc⟩:=x;have u:wr.cell? ⟨g,o+k*5,jd⟩=jb (I N V):=aB (b k _ f 0 _ A) a;have i:wr.cell? ⟨g,o+k*5+1,jd⟩=jb (I N d):=aB (b k _ f 1 _ A) a;have y:wr.cell? ⟨g,o+k*5+2,jd⟩=jb (I N W):=aB (b k _ f 2 _ A) a;have z:wr.cell? ⟨g,o+k*5+3,jd⟩=jb (I N X):=aB (b k _ f 3 _ A) a;have E:wr.cell? ⟨g,o+k*5+4,jd⟩=jb (I N xc):=aB (b k _ f 4 _ A) a;clear b s f m
 go_wp2_with fail
 refine(t _).mono ?_;rintro e D ⟨⟨b,rfl,f⟩,m⟩;have s:=ac a m;replace i:=aB i m;clear m u y z E t a
 cases b with
 |false=>
  clear f
  go_wp2_with fail
  go_ret;exact⟨cF.no,s⟩
 |true=>
 have E:=O (f A);clear f
 go_wp2_with fail
 go_loopw [4] (λj a=>∃m:ja,j=I N m/\m<=k/\jj (∀y∈l.take m,y.d≠d)/\jj (jo D D a)) (λj _=>k-(jq j).toNat)
 case atStart=>exact⟨0,A,j4 _,O ax,O (jG _ _)⟩
 obtain⟨m,rfl,hm,F,t⟩:=hrel;have e1:=aB i t;have u:=O (s.trans (t.mono s.size));clear i
 by_cases a3:m<k
 case neg=>
  have aa:=ap ((m:T)<(k:T));have ad:=ap (m<k);obtain rfl:m=k:=Y;have a:jj (gJ (l.take (m+1))):=O (by
   rw[S];refine C.snoc E.1 (mC.2 E.2) λh=>?_
   obtain⟨y,i,e⟩:=jC.1 h;exact F y i e)
  clear e1
  go_wp2_with fail
  exact⟨⟨m+1,by go_num,by omega,a,u⟩,by simp only[jq];omega⟩
 have aa:=ao ((m:T)<(k:T));have ad:=ao (m<k);have a4:=ao ((m:T)<(n:T));have a5:=ao (m<n);obtain⟨y,i,z⟩:=dF (l:=l) (j:=m) (by rw[<-r];omega);have f1:wr.cell? ⟨g,o+m*5+1,jd⟩=jb (I N y.d):=aB (U m _ i 1 _ A) u;have Yn:=O z;obtain⟨f,a⟩:=J y.d;rw[<-a]at f1;have al:=O a;clear i z a
 by_cases he:f=d
 ·have au:(f==d)=jg:=ah he
  have a1:decide (f=d)=jg:=ah he;clear he
  go_upto_region 11 with fail
  go_quiet (fail)
  go_wp2_with fail
  go_ret;exact⟨cF.no,u.trans ⟨A,A,A,jz _,λ_ _=>rfl⟩⟩
 have au:(f==d)=jl:=ah he;have a1:decide (f=d)=jl:=ah he;have SO:jj (∀z∈l.take (m+1),z.d≠d):=O (λz a=>by
  rw[Yn]at a
  rcases jX.1 a with a|a
  ·exact F z a
  rw[jZ]at a;rw[a,<-al];exact he)
 clear he
 go_upto_region 11 with fail
 go_quiet (fail)
 go_wp2_with fail
 exact⟨⟨m+1,by go_num,by omega,SO,O (t.trans ⟨rfl,rfl,rfl,jz _,λ_ _=>rfl⟩)⟩,by simp only[jq];omega⟩
theorem Jf(e:co r)(c:r.epoch=0)(hk:∀x∈b,x.k=1){x:ak}{g:jc ak}(f:b=x::g)(i:x.d=d):dQ r d b:=by
 have l:∀a,cN r.mem a=jl:=λa=>by rw[(e.zero c).1];rfl
 refine⟨by rw[l,c];rfl,λ_=>⟨x,g,f,i⟩,λy j=>⟨by rw[l,hk y j];rfl,λh=>by rw[l]at h;cases h⟩⟩
theorem PU(c:co r)(a:r.epoch≠0)(f:(dA r.mem d).isSome=jg)(i:gr b d=jd)(hk:∀x∈b,(dA r.mem x.d).isSome=decide (x.k≠1)):dQ r d b:=by
 refine⟨?_,λh=>jD h a,λx l=>⟨by rw[<-vY];exact hk x l,λ_ e=>?_⟩⟩
 ·rw[<-vY,f,qm (show 0<r.epoch by have:=c.ep.1;omega)]
 have:=qt.1 i x l;simp[e]at this
theorem JR(c:fu r.folder)(d:0<=r.epoch/\r.epoch<=1099511627776)(e:bW r.tree=0)(f:r.epoch=0->r.mem=[]/\r.last=lr 32 0#8)(h:r.mem.length=(aY r.tree).length)
 (a:∀t,t<r.mem.length->(r.mem.getD t bP).dev=(aY r.tree).getD t 0/\1<=(r.mem.getD t bP).since/\(r.mem.getD t bP).since<=r.epoch/\aW (r.mem.getD t bP).ver):co r:=by
 refine⟨c,d,e,f,Gp h λt j=>(a t j).1,λm k=>?_⟩;obtain⟨i,b,rfl⟩:=sg k;have:=(a i b).2;rw[eE bP b]at this;exact this
theorem M9(m:aI)(vm vt vl:je)(a:T)(l:jc ak)(w:ji)(h:cr w m vm vt)(k:co m)(M:m.mem.length<=1000000)(o:EC.At w vl l)(hl:l.length<=1000000):
 jt jk 9 #[jp (aG m vm vt).toArray,I N a,vl] w λe w'=>cF (dQ m a l) e/\jo w w w':=by
 have f:jj (m.epoch=0->(∀x∈l,x.k=1)->∀x r,l=x::r->x.d=a->dQ m a l):=O (λB hk x r e b=>Jf k B hk e b);have D:jj (m.epoch≠0->(dA m.mem a).isSome=jg->gr l a=jd->(∀x∈l,(dA m.mem x.d).isSome=decide (x.k≠1))->dQ m a l):=O (λB b c hk=>PU k B b c hk);have p:=lC (vm:=vm) (vt:=vt) h.llen;have bf:jj (∀W d,cr W m vm vt->jt jk 13 #[jp (aG m vm vt).toArray,I N d] W λe w'=>e=js (jL #[jp ((dA m.mem d).getD bP).cells.toArray,.bool (dA m.mem d).isSome])/\jo W W w'):=O (λW d R=>B9 m vm vt d W R (by unfold jN;omega));have q:=dh.new w (vm:=vm) (vt:=vt) h.llen;have d:=ai w (jf (aG m vm vt).toArray 29);have i:=h.below d;have g:=o.below d;obtain⟨-,c,-,-⟩:=q.at;have s:=q.blk;obtain⟨bg,E⟩:=J ((aG m vm vt).toArray);rw[<-E]at c s d i g p bf⊢;obtain⟨P,F⟩:=J (dQ m a l);rw[<-F]at f D⊢;obtain⟨pl,cl,rfl,-,-⟩:=o.form;obtain⟨n,t⟩:=J l.length;rw[<-t]at g hl⊢;have HN:=O t;obtain⟨b,u⟩:=J w.heap.size;rw[<-u]at c s;obtain⟨W1,z⟩:=J (w.alloc (jf bg 29));rw[<-z]at c s d i g;obtain⟨ep,H⟩:=J m.epoch;rw[<-H]at c f D;have K:=O z;have TJ:=O u;have C:=O s;have Q:=O i;have aa:=O g;have y:=O d;have Uk:=O p;have Yd:=O g.cells;clear h k M o q d i g s E F t u z H p
 go_enter func9,ntmps9
 go_upto_region 1 with fail
 rw[<-K,<-TJ];clear K
 by_cases B:ep=0
 case pos=>
  have bI:(ep==0)=jg:=ah B;have bK:decide (ep=0)=jg:=ah B;replace f:=O (f B);clear B D bf
  go_wp2_with fail
  go_loopw [7] (λi wr=>∃k:ja,i=I N k/\k<=n/\jj (∀x∈l.take k,x.k=1)/\jj (jo W1 W1 wr)) (λi _=>n-(jq i).toNat)
  case atStart=>exact⟨0,A,j4 _,O ax,O (jG _ _)⟩
  obtain⟨k,rfl,hk,M,p⟩:=hrel;have Zu:=O (y.trans (p.mono y.size));clear c
  by_cases bm:k<n
  case pos=>
   have bn:=ao ((k:T)<(n:T));have bo:=ao (k<n);obtain⟨-,-,E⟩:=Yd.out;obtain⟨g,o,rfl,u⟩:=E Y;obtain⟨x,q,Tv⟩:=dF (l:=l) (j:=k) (by rw[<-HN];exact bm);have Uj:=O Tv;have S:wr.cell? ⟨g,o+k*5,jd⟩=jb (I N x.k):=aB (u k _ q 0 _ A) p;obtain⟨t,U⟩:=J x.k;rw[<-U]at S;have ad:=O U;clear u Tv q E U
   by_cases he:t=1
   ·have K:(t !=1)=jl:=ah he
    have F:decide (t=1)=jg:=ah he;have V:(t==1)=jg:=ah he;have H:jj (∀z∈l.take (k+1),z.k=1):=O (λz d=>by
     rw[Uj]at d
     rcases jX.1 d with d|d
     ·exact M z d
     rw[jZ]at d;rw[d,<-ad];exact he)
    clear he
    go_wp2_with fail
    exact⟨⟨k+1,by go_num,by omega,H,p⟩,by simp only[jq];omega⟩
   have K:(t !=1)=jg:=ah he;have F:decide (t=1)=jl:=ah he;have V:(t==1)=jl:=ah he;clear he
   go_wp2_with fail
   go_ret;exact⟨cF.no,Zu⟩
  have bn:=ap ((k:T)<(n:T));have bo:=ap (k<n);have VG:=O (show k=n by omega);have a1:jj (∀x∈l,x.k=1):=O (by have h:=M.out;rwa [VG,HN,pz]at h)
  by_cases d:0<n
  case neg=>
   have a2:=ap ((0:T)<(n:T));have K:=ap (0<n);clear d
   go_wp2_with fail
   go_ret;exact⟨cF.no,Zu⟩
  have a2:=ao ((0:T)<(n:T));have K:=ao (0<n);obtain⟨-,-,E⟩:=Yd.out;obtain⟨g,o,rfl,u⟩:=E Y;obtain⟨x,r,au⟩:∃x r,l=x::r:=by
   rcases l with _|⟨x,r⟩
   ·have:=HN.out;simp at this;omega
   exact⟨x,r,A⟩
  have q:l[0]?=jb x:=by rw[au];rfl
  have f1:wr.cell? ⟨g,o+1,jd⟩=jb (I N x.d):=by
   have h:=aB (u 0 _ q 1 _ A) p
   simpa using h
  obtain⟨V,X⟩:=J x.d;rw[<-X]at f1;have al:=O X;have a3:=O au;clear u E X au q
  go_wp2_with fail
  go_ret;exact⟨cF.of _ (λh=>f a1 x r a3.out (by rw[<-al];simpa using h)),Zu⟩
 have bI:(ep==0)=jl:=ah B;have bK:decide (ep=0)=jl:=ah B;replace D:=O (D B);clear B f;obtain⟨x0,f⟩:=J W1;rw[<-f]at C Q aa y Yd c⊢;have r:=C;have YD:=Q;have a1:=aa;clear C Q aa f;have a2:=O (jG x0.heap.size x0);have R6:=O (λW (R:EC.At W (jh pl n cl) l)=>Ev l (jh pl n cl) a W R (by rw[<-HN];unfold jN;omega));obtain⟨og,a3⟩:=J (dA m.mem a);obtain⟨oc,a4⟩:=J (gr l a);have Q:=λW R=>bf W a R
 rw[<-a3]at Q D;rw[<-a4]at R6 D;obtain⟨p,aa⟩:=J ((og.getD bP).cells.toArray);obtain⟨YC,f⟩:=J ((oc.getD rl).cells.toArray);rw[<-aa]at Q;rw[<-f]at R6;have Tr:=O Q;have C:jj ((jk.info? 43).map (·.size)=jb p.size/\p.size=3/\p.all (·.oneCell')=jg):=O (by rw[aa];exact⟨by kernel_rfl,rfl,by simp[aK.cells,kn]⟩);have au:jj ((jk.info? 47).map (·.size)=jb YC.size/\YC.size=5/\YC.all (·.oneCell')=jg):=O (by rw[f];exact⟨by kernel_rfl,rfl,by simp[ak.cells,kn]⟩);clear a3 a4 Q aa f
 go_upto_region 8 with fail
 clear c;refine kw ?_;refine df (v:=jp bg) aj (cI kl A Uk A A r) (L ?_);refine bH ?_;refine jI A λ_ f=>?_
 go_simp;refine(Tr x0 YD).mono ?_;rintro e x1 ⟨rfl,c⟩;have Sc:=Z r c;have Vk:=O (YD.below c);have a3:=O (a1.below c);have RD:=ac y c;have a4:=ac a2 c;clear c r YD a1 y a2;refine f _ _ ?_;clear f;refine L ?_;iterate 3 refine bH ?_
 have d:=jB x1 (jf #[I N 0,I N 0,I N 0] 43);obtain⟨VK,s⟩:=J x1.heap.size;rw[<-s]at d;have c:=jU (ai x1 (jf #[I N 0,I N 0,I N 0] 43)) (lw s.symm) p;have r:=jS (x1.alloc (jf #[I N 0,I N 0,I N 0] 43)) VK _ p _ _ d;refine jI A λ_ f=>gL 43 A #[I N 0,I N 0,I N 0] BX (f _ _ ?_)
 clear f;rw[<-s];refine L ?_;refine jI A λ_ f=>jQ 43 _ _ A VK p A A 43 #[I N 0,I N 0,I N 0] d C.1 C.2.1.symm C.2.2 (f _ _ ?_)
 clear f d s;refine L ?_;obtain⟨x2,q⟩:=J ((x1.alloc (jf #[I N 0,I N 0,I N 0] 43)).setRow VK p);rw[<-q]at c r⊢;clear q;have Sy:=Z Sc c;have YW:=O (Vk.below c);have y:=O (a3.below c);have RE:=ac RD c;have a1:=ac a4 c;clear c Sc Vk a3 RD a4;have SE:=O r;clear r;refine bH ?_
 go_upto_region 9 with fail
 refine kw ?_;iterate 2 refine bH ?_
 refine jI A λ_ f=>?_
 go_simp;refine(R6 x2 y).mono ?_;rintro e x3 ⟨rfl,c⟩;have S2:=Z Sy c;have ZL:=O (YW.below c);have a2:=O (y.below c);have RI:=ac RE c;have a3:=ac a1 c;have SK:=Z SE c;clear c Sy YW y RE a1 SE;refine f _ _ ?_;clear f;refine L ?_;iterate 3 refine bH ?_
 have d:=jB x3 (jf #[I N 0,I N 0,I N 0,I N 0,I N 0] 47);obtain⟨bq,s⟩:=J x3.heap.size;rw[<-s]at d;have c:=jU (ai x3 (jf #[I N 0,I N 0,I N 0,I N 0,I N 0] 47)) (lw s.symm) YC;have r:=jS (x3.alloc (jf #[I N 0,I N 0,I N 0,I N 0,I N 0] 47)) bq _ YC _ _ d;refine jI A λ_ f=>gL 47 A #[I N 0,I N 0,I N 0,I N 0,I N 0] Fo (f _ _ ?_)
 clear f;rw[<-s];refine L ?_;refine jI A λ_ f=>jQ 47 _ _ A bq YC A A 47 #[I N 0,I N 0,I N 0,I N 0,I N 0] d au.1 au.2.1.symm au.2.2 (f _ _ ?_)
 clear f d s;refine L ?_;obtain⟨x4,q⟩:=J ((x3.alloc (jf #[I N 0,I N 0,I N 0,I N 0,I N 0] 47)).setRow bq YC);rw[<-q]at c r⊢;clear q;have UK:=Z S2 c;have a4:=O (ZL.below c);have a5:=O (a2.below c);have RO:=ac RI c;have a1:=ac a3 c;have y:=Z SK c;clear c S2 ZL a2 RI a3 SK;have a2:=O r;clear r;refine bH ?_;clear Tr R6 y a2 C au
 cases og with
 |none=>
  go_wp2_with fail
  go_ret;exact⟨cF.no,RO⟩
 |some mo=>
 cases oc with
 |some yo=>
  go_wp2_with fail
  go_ret;exact⟨cF.no,RO⟩
 |none=>
 replace D:jj ((∀x∈l,(dA m.mem x.d).isSome=decide (x.k≠1))->P):=O (λh=>D A A h);dsimp only[Option.isSome];have Sb:=O a1.size;have SF:=O RO.size;have bB:jj (b<x4.heap.size):=O (jY.1 UK).1
 go_wp2_with fail
 go_loopw [12] (λi wr=>∃k:ja,i=I N k/\k<=n/\jj (∀x∈l.take k,(dA m.mem x.d).isSome=decide (x.k≠1))/\jj (jo x4 x4 wr)) (λi _=>n-(jq i).toNat)
 case atStart=>exact⟨0,A,j4 _,O ax,O (jG _ _)⟩
 obtain⟨k,rfl,hk,M,HR⟩:=hrel;obtain⟨x5,rfl⟩:∃y,y=wr:=⟨wr,A⟩;have c:=HR.out;have VP:=Z UK c;have ba:=O (a4.below c);have bb:=O (a5.below c);have RX:=ac RO c;have i:=ac a1 c;clear c UK a4 a5 RO a1;have a1:=HR;clear HR
 by_cases bm:k<n
 case neg=>
  have bn:=ap ((k:T)<(n:T));have bo:=ap (k<n);have VG:=O (show k=n by omega)
  go_wp2_with fail
  go_ret;exact⟨cF.of jg (λ_=>D (by have h:=M.out;rwa [VG,HN,pz]at h)),RX⟩
 have bn:=ao ((k:T)<(n:T));have bo:=ao (k<n);obtain⟨-,-,E⟩:=Yd.out;obtain⟨g,o,rfl,u⟩:=E Y;obtain⟨x,q,Tv⟩:=dF (l:=l) (j:=k) (by rw[<-HN];exact bm);have Uj:=O Tv;have S:x5.cell? ⟨g,o+k*5,jd⟩=jb (I N x.k):=aB (u k _ q 0 _ A) i;have f1:x5.cell? ⟨g,o+k*5+1,jd⟩=jb (I N x.d):=aB (u k _ q 1 _ A) i;have bC:jj (g<x4.heap.size):=O (jT (fb (u k _ q 0 _ A)) Sb);obtain⟨t,U⟩:=J x.k;obtain⟨V,X⟩:=J x.d;rw[<-U]at S;rw[<-X]at f1;have ad:=O U;have al:=O X;have Q:=λW R=>bf W V R
 obtain⟨bh,au⟩:=J ((dA m.mem V).isSome);obtain⟨p,aa⟩:=J (((dA m.mem V).getD bP).cells.toArray);rw[<-au,<-aa]at Q;have Tr:=O Q;have bk:=O au;have C:jj ((jk.info? 43).map (·.size)=jb p.size/\p.size=3/\p.all (·.oneCell')=jg):=O (by rw[aa];exact⟨by kernel_rfl,rfl,by simp[aK.cells,kn]⟩);have a2:=O S;have a3:=O f1;clear u Tv q E U X Q au aa S f1
 go_upto_region 15 with fail
 have E:=a3;have Q:=a2;clear a2 a3 bb;refine wp_region_noPanic ?_;refine bY (λu=>u.heap[b]?=jb (jf bg 29 (0,0))/\u.cell? ⟨g,o+k*5+1,jd⟩=jb (I N V)) (.t 0 (.t 1 (.t 2 (.t 3 (.t 4 (.t 5 (.w 6 10 (.t 7 (.t 8 (.t 9 (.o 10 (.o 11 (.t 12 .done)))))) (.o 6 (.t 7 (.t 8 (.t 9 (.o 11 (.t 12 .done))))))))))))) ag ag ag G (λ_ _ _ _ h=>h) ⟨VP,E⟩ ?_;have c:=bz x5;obtain⟨x6,q⟩:=J x5.drew;rw[<-q]at c⊢;have Zl:=Z VP c;have a2:=O (ba.below c);have SI:=ac RX c;have bl:=ac i c;have a3:=ac a1 c;have WK:=O (aB E c);have WJ:=O (aB Q c);clear VP ba RX i a1 E Q;clear c q
 (refine aE (v:=jp bg) A aj (λu i=>cI kl A Uk A A i.1) (L ?_))
 iterate 4 refine bi ?_
 (refine aE (v:=?_) A aj (λu i=>?_) ?_;rotate_left;(have e1:=i.2;go_simp;with_reducible rfl);refine L ?_)
 refine gM ?_ ?_
 ·refine ar A (λK' f=>?_)
  go_simp;refine(Tr x6 a2).mono ?_;rintro e x7 ⟨rfl,c⟩;have Q:=Z Zl c;have au:=O (a2.below c);have TH:=ac SI c;have a4:=ac bl c;have a1:=ac a3 c;have U:=O (aB WK c);have a5:=O (aB WJ c);clear Zl a2 SI bl a3 WK WJ;clear c;refine f _ _ ⟨Q,U⟩ λ_=>?_
  clear f;refine L ?_;iterate 3 refine bi ?_
  refine ar A (λK' f=>?_);go_simp;have c:=ai x7 (jf #[I N 0,I N 0,I N 0] 43);have r:=jB x7 (jf #[I N 0,I N 0,I N 0] 43);obtain⟨u,q⟩:=J (x7.alloc (jf #[I N 0,I N 0,I N 0] 43));have bM:=O a1.size;rw[<-q]at c r⊢;obtain⟨E,s⟩:=J x7.heap.size;rw[<-s]at r⊢;have bN:=O s;clear s;have Tn:=Z Q c;have bO:=O (au.below c);have SX:=ac TH c;have bT:=ac a4 c;have br:=ac a1 c;have ba:=O (aB U c);have bs:=O (aB a5 c);clear Q au TH a4 a1 U a5;have bu:=O r;clear r q c;refine f _ _ ⟨Tn,ba⟩ λ_=>?_
  clear f;refine L ?_;refine ar A (λK' f=>?_);rw[jm aj];refine jQ 43 _ _ A E p A A 43 #[I N 0,I N 0,I N 0] bu C.1 C.2.1.symm C.2.2 ?_;have d:=br.out;have bb:x4.heap.size<=E:=by rw[bN];exact bM
  have K:=mP d bb p;have X:=mP SX (jy SF bb) p;have bv:b≠E:=aA bB;have bc:g≠E:=aA bC;have UU:=(j1 u E b p bv).trans Tn;have F:(u.setRow E p).cell? ⟨g,o+k*5+1,jd⟩=jb (I N V):=(bX (a:=⟨g,o+k*5+1,jd⟩) (j1 u E g p bc)).trans ba;have aa:(u.setRow E p).cell? ⟨g,o+k*5,jd⟩=jb (I N t):=(bX (a:=⟨g,o+k*5,jd⟩) (j1 u E g p bc)).trans bs;generalize u.setRow E p=x9 at K X UU F aa⊢;have bd:=O K;have S6:=O X;have Uu:=O UU;have bw:=O F;have bA:=O aa;clear d K X UU F aa;refine f _ _ ⟨Uu,bw⟩ λ_=>?_
  clear f;refine L ?_;refine bi ?_;refine lo ?_;have S:=bA.out
  by_cases i:t=1
  ·have e1:(t==1)=jg:=ah i
   have e2:decide (t=1)=jg:=ah i
   cases bh with
   |true=>
    clear i
    go_wp2_with fail
    go_ret;exact⟨cF.no,S6⟩
   |false=>
    have H:jj (∀z∈l.take (k+1),(dA m.mem z.d).isSome=decide (z.k≠1)):=O (λz d=>by
     rw[Uj]at d
     rcases jX.1 d with d|d
     ·exact M z d
     rw[jZ]at d;rw[d,<-al,<-bk,<-ad,i];rfl)
    clear i
    go_wp2_with fail
    exact⟨⟨k+1,by go_num,by omega,H,bd⟩,by simp only[jq];omega⟩
  have e1:(t==1)=jl:=ah i;have e2:decide (t=1)=jl:=ah i
  rcases bh with _|_
  ·clear i
   go_wp2_with fail
   go_ret;exact⟨cF.no,S6⟩
  have H:jj (∀z∈l.take (k+1),(dA m.mem z.d).isSome=decide (z.k≠1)):=O (λz d=>by
   rw[Uj]at d
   rcases jX.1 d with d|d
   ·exact M z d
   rw[jZ]at d;rw[d,<-al,<-bk,<-ad,qm i])
  clear i
  go_wp2_with fail
  exact⟨⟨k+1,by go_num,by omega,H,bd⟩,by simp only[jq];omega⟩
 refine ar A (λK' f=>?_);go_simp;have c:=ai x6 (jf #[I N 0,I N 0,I N 0] 43);have r:=jB x6 (jf #[I N 0,I N 0,I N 0] 43);obtain⟨x7,q⟩:=J (x6.alloc (jf #[I N 0,I N 0,I N 0] 43));have bM:=O a3.size;rw[<-q]at c r⊢;obtain⟨E,s⟩:=J x6.heap.size;rw[<-s]at r⊢;have bN:=O s;clear s;have Q:=Z Zl c;have au:=O (a2.below c);have TH:=ac SI c;have a4:=ac bl c;have a1:=ac a3 c;have U:=O (aB WK c);have a5:=O (aB WJ c);clear Zl a2 SI bl a3 WK WJ;have s:=O r;clear r q c;refine f _ _ ⟨Q,U⟩ λ_=>?_
 clear f;refine L ?_;refine ar A (λK' f=>?_);go_simp;refine(Tr x7 au).mono ?_;rintro e u ⟨rfl,c⟩;have Tn:=Z Q c;have bO:=O (au.below c);have SX:=ac TH c;have bT:=ac a4 c;have br:=ac a1 c;have ba:=O (aB U c);have bs:=O (aB a5 c);have bu:=Z s c;clear Q au TH a4 a1 U a5 s;clear c;refine f _ _ ⟨Tn,ba⟩ λ_=>?_
 clear f;refine L ?_;iterate 3 refine bi ?_
 refine ar A (λK' f=>?_);rw[jm aj];refine jQ 43 _ _ A E p A A 43 #[I N 0,I N 0,I N 0] bu C.1 C.2.1.symm C.2.2 ?_;have d:=br.out;have bb:x4.heap.size<=E:=by rw[bN];exact bM
 have K:=mP d bb p;have X:=mP SX (jy SF bb) p;have bv:b≠E:=aA bB;have bc:g≠E:=aA bC;have UU:=(j1 u E b p bv).trans Tn;have F:(u.setRow E p).cell? ⟨g,o+k*5+1,jd⟩=jb (I N V):=(bX (a:=⟨g,o+k*5+1,jd⟩) (j1 u E g p bc)).trans ba;have aa:(u.setRow E p).cell? ⟨g,o+k*5,jd⟩=jb (I N t):=(bX (a:=⟨g,o+k*5,jd⟩) (j1 u E g p bc)).trans bs;generalize u.setRow E p=x9 at K X UU F aa⊢;have bd:=O K;have S6:=O X;have Uu:=O UU;have bw:=O F;have bA:=O aa;clear d K X UU F aa;refine f _ _ ⟨Uu,bw⟩ λ_=>?_
 clear f;refine L ?_;refine bi ?_;refine lo ?_;have S:=bA.out
 by_cases i:t=1
 ·have e1:(t==1)=jg:=ah i
  have e2:decide (t=1)=jg:=ah i
  cases bh with
  |true=>
   clear i
   go_wp2_with fail
   go_ret;exact⟨cF.no,S6⟩
  |false=>
   have H:jj (∀z∈l.take (k+1),(dA m.mem z.d).isSome=decide (z.k≠1)):=O (λz d=>by
    rw[Uj]at d
    rcases jX.1 d with d|d
    ·exact M z d
    rw[jZ]at d;rw[d,<-al,<-bk,<-ad,i];rfl)
   clear i
   go_wp2_with fail
   exact⟨⟨k+1,by go_num,by omega,H,bd⟩,by simp only[jq];omega⟩
 have e1:(t==1)=jl:=ah i;have e2:decide (t=1)=jl:=ah i
 rcases bh with _|_
 ·clear i
  go_wp2_with fail
  go_ret;exact⟨cF.no,S6⟩
 have H:jj (∀z∈l.take (k+1),(dA m.mem z.d).isSome=decide (z.k≠1)):=O (λz d=>by
  rw[Uj]at d
  rcases jX.1 d with d|d
  ·exact M z d
  rw[jZ]at d;rw[d,<-al,<-bk,<-ad,qm i])
 clear i
 go_wp2_with fail
 exact⟨⟨k+1,by go_num,by omega,H,bd⟩,by simp only[jq];omega⟩
theorem Mb(m:aI)(vm vt:je)(w:ji)(h:cr w m vm vt)(hl:m.mem.length<=1000000)(D:m.tree.length<=1000000):
 jt jk 7 #[jp (aG m vm vt).toArray] w λe w'=>cF (co m) e/\jo w w w':=by
 obtain⟨B,E⟩:∃C:ja->Prop,C=λt=>(m.mem.getD t bP).dev=(aY m.tree).getD t 0/\1<=(m.mem.getD t bP).since/\(m.mem.getD t bP).since<=m.epoch/\aW (m.mem.getD t bP).ver:=⟨_,A⟩
 have q:jj (fu m.folder->(0<=m.epoch/\m.epoch<=1099511627776)->bW m.tree=0->(m.epoch=0->m.mem=[]/\m.last=lr 32 0#8)->m.mem.length=(aY m.tree).length->(∀t,t<m.mem.length->B t)->co m):=O (by rw[E];exact λa b c d e f=>JR a b c d e f);have aa:jj (∀(t:ja) (x:aK),m.mem[t]?=jb x->x.dev=(aY m.tree).getD t 0->1<=x.since->x.since<=m.epoch->aW x.ver->B t):=O (λt x r g j a k=>by
  rw[E];have e:m.mem.getD t bP=x:=by rw[xo,r];rfl
  show _ /\_;rw[e];exact⟨g,j,a,k⟩)
 obtain⟨P,X⟩:=J (co m);rw[<-X]at q⊢;have u:=dh.new w (vm:=vm) (vt:=vt) h.llen;have p:=ai w (jf (aG m vm vt).toArray 29);have v:=h.below p;obtain⟨pm,cm,rfl,-,-⟩:=h.mem.form;obtain⟨d,F⟩:=J m.mem.length;rw[<-F]at u p v q⊢;have Yc:=O F;obtain⟨a1,hA⟩:=J ((aG m (jh pm d cm) vt).toArray);obtain⟨s,c,f,o⟩:=u.at;have z:=u.blk;have y:=u.last;rw[<-hA]at s c f o z p v y⊢;obtain⟨b,H⟩:=J w.heap.size;rw[<-H]at s c f o z y;obtain⟨K,M⟩:=J (w.alloc (jf a1 29));rw[<-M]at s c f o z p v y;have Sw:=O M;have TJ:=O H;have Q:=O v;have R:=O p;have Ti:=O h.llen;have ad:=O y;have al:jj ((aY m.tree).length<=1000000):=O (jy (Ep _) G);obtain⟨n,S⟩:=J (bW m.tree);have U:jj (∀W,bp W vt m.tree->jt jk 28 #[jp #[vt]] W λe w'=>e=js (I N n)/\jo W W w'):=O (by rw[S];exact λW V=>Qg m.tree vt W V D);have au:=O (λW V=>NX m.tree vt W V D);obtain⟨ep,V⟩:=J m.epoch;obtain⟨fd,WG⟩:=J m.folder;rw[<-V]at c q aa;rw[<-WG]at s q;rw[<-S]at q;clear h u p v F hA z y H M hl D S V WG X E
 go_enter func7,ntmps7
 go_upto_region 1 with fail
 rw[<-Sw,<-TJ];clear Sw
 go_cut [46] (λv p=>∃y,v=.bool y/\jj (y=jl->fu fd/\(0<=ep/\ep<=1099511627776)/\n=0/\(ep=0->m.mem=[]/\m.last=lr 32 0#8))/\jj (jo K K p))
 case first=>
  by_cases p:fd<0
  ·have D:decide (fd<0)=jg:=ah p
   clear p
   go_wp2_with fail
   go_meet
   exact⟨jg,A,O (λh=>by cases h),O (jG _ _)⟩
  have UC:decide (fd<0)=jl:=ah p
  by_cases u:16<=fd
  ·have D:decide (16<=fd)=jg:=ah u
   clear p u
   go_wp2_with fail
   go_meet
   exact⟨jg,A,O (λh=>by cases h),O (jG _ _)⟩
  have UJ:decide (16<=fd)=jl:=ah u;have E:jj (fu fd):=O (by unfold fu;omega);clear p u
  by_cases g:ep<0
  ·have F:decide (ep<0)=jg:=ah g
   clear g
   go_wp2_with fail
   go_meet
   exact⟨jg,A,O (λh=>by cases h),O (jG _ _)⟩
  have F:decide (ep<0)=jl:=ah g
  by_cases j:1099511627776<ep
  ·have S:decide (1099511627776<ep)=jg:=ah j
   clear g j
   go_wp2_with fail
   go_meet
   exact⟨jg,A,O (λh=>by cases h),O (jG _ _)⟩
  have S:decide (1099511627776<ep)=jl:=ah j;have H:=O (show 0<=ep/\ep<=1099511627776 by omega);clear g j
  go_wp2_with fail
  refine(U K Q.tree).mono ?_;rintro e w1 ⟨rfl,g⟩;have p:=O g;have a2:jj (w1.rangeAt b 2 (m.last.map v8)):=O (λj v u=>aB (ad j v u) g);replace c:=aB c g;replace f:=aB f g;clear g s o U
  by_cases a:n=0
  case neg=>
   have V:(n==0)=jl:=ah a;have a3:decide (n=0)=jl:=ah a;have a4:(n !=0)=jg:=ah a;clear a
   go_wp2_with fail
   go_meet
   exact⟨jg,A,O (λh=>by cases h),p⟩
  have M:=O a;have V:(n==0)=jg:=ah a;have a3:decide (n=0)=jg:=ah a;have a4:(n !=0)=jl:=ah a;clear a
  by_cases k:ep=0
  case neg=>
   have a5:(ep==0)=jl:=ah k;have ba:decide (ep=0)=jl:=ah k;have a:=O k;clear k
   go_wp2_with fail
   go_meet
   exact⟨jl,A,O (λ_=>⟨E,H,M,λh=>jD h a⟩),p⟩
  have a5:(ep==0)=jg:=ah k;have ba:decide (ep=0)=jg:=ah k;clear k
  by_cases a:0<d
  ·have bb:decide (0<d)=jg:=ah a
   have bc:decide ((0:T)<(d:T))=jg:=ah a;clear a
   go_wp2_with fail
   go_meet
   exact⟨jg,A,O (λh=>by cases h),p⟩
  have bb:decide (0<d)=jl:=ah a;have bc:decide ((0:T)<(d:T))=jl:=ah a;have Wy:jj (m.mem=[]):=O (List.eq_nil_of_length_eq_zero (by rw[<-Yc];omega));obtain⟨bd,k⟩:=J ((m.last.map v8).toArray);have bf:=O k;obtain⟨X,u⟩:=J (decide (m.last=lr 32 0#8));have bg:=O u;have bh:∀z,(Op.equalIn 10000 23 (jp bd) (jp aT)).run jk z=.ok X z:=by
   rw[k,u];exact λz=>sH m.last (lr 32 0#8) Ti A z
  clear k u a
  go_wp2_with (refine k8 aj λ_ a=>wp_load_mid 23 _ A b 2 A (m.last.map v8) _ a2.out underlying23 A (by rw[jv,Ti];kernel_rfl) (a _ _ ?_);rw[<-bf])
  cases X with
  |true=>
   go_wp2_with fail
   go_meet
   exact⟨jl,A,O (λ_=>⟨E,H,M,λ_=>⟨Wy,qF bg.symm⟩⟩),p⟩
  |false=>
   go_wp2_with fail
   go_meet
   exact⟨jg,A,O (λh=>by cases h),p⟩
 obtain⟨y,rfl,u,a⟩:=hcut;have k:=O (R.trans (a.mono R.size));replace c:=aB c a;replace f:=aB f a;replace o:=aB o a;have p:=O (Q.below a);clear s ad U Q R a
 cases y with
 |true=>
  go_wp2_with fail
  go_ret;exact⟨cF.no,k⟩
 |false=>
 have z:=O (u A);clear u
 go_wp2_with fail
 refine(au wc p.tree).mono ?_;rintro e w3 ⟨a5,rfl,u,g⟩;obtain⟨pu,cu,rfl,a2,s⟩:=kQ u;obtain⟨a,E⟩:=J ((aY m.tree).length);rw[<-E]at s a2 al q⊢;have ba:=al.out;have H:=ac k g;have ZL:=O (p.below g);replace c:=aB c g;replace f:=aB f g;have a3:=O s;clear o g p k au s u E
 by_cases M:a=d
 case neg=>
  have D:((a:T)==(d:T))=jl:=by simp;omega
  have g:((a:T)!=(d:T))=jg:=by simp;omega
  have S:decide (a=d)=jl:=ah M;have V:=ap ((a:T)=(d:T));clear M
  go_wp2_with fail
  go_ret;exact⟨cF.no,H⟩
 subst M;have au:=O ZL.mem.cells
 go_wp2_with fail
 go_loopw [4] (λv wr=>∃k:ja,v=I N k/\k<=a/\jj (∀t,t<k->B t)/\jj (jo w3 w3 wr)) (λv _=>a-(jq v).toNat)
 case atStart=>exact⟨0,A,j4 _,O (λt h=>jD h (Nat.not_lt_zero _)),O (jG _ _)⟩
 obtain⟨k,rfl,hk,V,p⟩:=hrel;have v:=O (H.trans (p.mono H.size));have Q:=aB c p;have U:=aB f p;clear c f
 by_cases ad:k<a
 case neg=>
  have F:=ap ((k:T)<(a:T));have a4:=ap (k<a);have c:=O (show k=a by omega);clear Q U
  go_wp2_with fail
  go_ret;exact⟨cF.of jg (λ_=>q z.1 z.2.1 z.2.2.1 z.2.2.2 (by trivial) (by rw[<-c];exact V)),v⟩
 have F:=ao ((k:T)<(a:T));have a4:=ao (k<a);obtain⟨-,-,u⟩:=au.out;obtain⟨g,o,rfl,s⟩:=u Y;obtain⟨gz,oz,rfl,E⟩:=a3 Y;obtain⟨x,r,-⟩:=dF (l:=m.mem) (j:=k) (by rw[<-Yc];exact ad);have R:=O (aa k x r);obtain⟨md,c,f⟩:=x;have e0:wr.cell? ⟨g,o+k*3,jd⟩=jb (I N md):=aB (s k _ r 0 _ A) p;have e1:wr.cell? ⟨g,o+k*3+1,jd⟩=jb (I N c):=aB (s k _ r 1 _ A) p;have e2:wr.cell? ⟨g,o+k*3+2,jd⟩=jb (I N f):=aB (s k _ r 2 _ A) p;have S:=aB (E k ad) p;obtain⟨D,X⟩:=J ((aY m.tree).getD k 0);rw[<-X]at S R;dsimp only at R;clear s E u r X
 go_upto_region 10 with fail
 have s:=ai wr (jf #[I N md,I N c,I N f] 43);have u:=jB wr (jf #[I N md,I N c,I N f] 43);obtain⟨X,hX⟩:=J wr.heap.size;obtain⟨W5,U0⟩:=J (wr.alloc (jf #[I N md,I N c,I N f] 43));rw[<-U0]at s u⊢;rw[<-hX]at u⊢;have b0:=ae (i:=0) u A;have b1:=ae (i:=1) u A;have b2:=ae (i:=2) u A;replace Q:=aB Q s;replace S:=aB S s;have RX:=ac p s;have E:=ac v s;clear U e0 e1 e2 s u hX U0 p v
 by_cases s:md=D
 case neg=>
  have g1:(md==D)=jl:=ah s;have g2:(md !=D)=jg:=ah s;have p:decide (md=D)=jl:=ah s;clear s
  go_quiet (fail)
  go_wp2_with fail
  go_ret;exact⟨cF.no,E.trans ⟨A,A,A,jz _,λ_ _=>rfl⟩⟩
 subst s
 by_cases p:c<1
 ·have g1:decide (c<1)=jg:=ah p
  clear p
  go_quiet (fail)
  go_wp2_with fail
  go_ret;exact⟨cF.no,E.trans ⟨A,A,A,jz _,λ_ _=>rfl⟩⟩
 have g1:decide (c<1)=jl:=ah p
 by_cases u:ep<c
 ·have g2:decide (ep<c)=jg:=ah u
  clear p u
  go_quiet (fail)
  go_wp2_with fail
  go_ret;exact⟨cF.no,E.trans ⟨A,A,A,jz _,λ_ _=>rfl⟩⟩
 have g2:decide (ep<c)=jl:=ah u
 by_cases v:aW f
 ·have U:jj (∀W,jt jk 30 #[I N f] W λe w'=>e=js (I N 0)/\w'=W):=O (λW=>by have h:=mE f W;rw[eG v]at h;exact h)
  have TQ:jj (∀t,t<k+1->B t):=O (λt h=>by
   rcases Nat.lt_or_eq_of_le (Nat.le_of_lt_succ h)with h|h
   ·exact V t h
   rw[h];exact R A Y Y v)
  clear p u v
  go_quiet (exact Calls.quiet_of_same (U _))
  go_wp2_with fail
  exact⟨⟨k+1,by go_num,by omega,TQ,O (RX.trans ⟨rfl,rfl,rfl,jz _,λ_ _=>rfl⟩)⟩,by simp only[jq];omega⟩
 have U:jj (∀W,jt jk 30 #[I N f] W λe w'=>e=js (I N 40)/\w'=W):=O (λW=>by have h:=mE f W;rw[fJ v]at h;exact h);clear p u v
 go_quiet (exact Calls.quiet_of_same (U _))
 go_wp2_with fail
 go_ret;exact⟨cF.no,E.trans ⟨A,A,A,jz _,λ_ _=>rfl⟩⟩
structure EKy where
 c:af
 s:af
def EKy.cells(k:EKy):jc je:=k.c.map v8++k.s.map v8
def Gf(l:jc (af)):Prop:=0<l.length/\l.length<=4096/\l.Nodup
instance(l:jc (af)):Decidable (Gf l):=by unfold Gf;infer_instance
def pwN:ja->ja->ja->ja
 |0,_,_=>1%PN
 |f+1,a,n=>if n%2=1 then a*pwN f (a*a%PN) (n/2)%PN else pwN f (a*a%PN) (n/2)
def pw(a n:ja):ja:=if n<2^64 then pwN 64 a n else aR a n

theorem Aj{M:ak}(h:eA t)(l:pk t (M::b)):eA (dP t M)/\pk (dP t M) b/\∀y∈b,y.d≠M.d:=by
 obtain⟨f,g⟩:=Du h (l.each M jE) (l.mem M jE);have c:=qK.1 (show(M.d::b.map ak.d).Nodup from l.once);have d:∀y∈b,y.d≠M.d:=λy a e=>c.1 (by rw[<-e];exact tb a)
 refine⟨f,⟨λy a=>l.each y (jJ _ a),c.2,λy a=>?_⟩,d⟩;rw[g,<-l.mem y (jJ _ a)];have:=d y a;simp[this]
theorem zo(d:512<=f*2^i)(g:f*2^i<1024):hgt f=i:=by
 have e:1<=f:=by
  rcases qD f with a|a
  ·rw[a]at d;omega
  exact a
 have n:f<1024:=by
  have:f*1<=f*2^i:=nn _ xp;omega
 obtain⟨a,b⟩:=nI e n
 rcases Nat.lt_trichotomy (hgt f) i with c|c|c
 ·have:f*2^(hgt f+1)<=f*2^i:=nn _ (km G c)
  rw[qj,<-qh]at this;omega
 ·exact c
 have:f*2^(i+1)<=f*2^hgt f:=nn _ (km G c);rw[qj,<-qh]at this;omega
theorem Gn(d:1<=f)(e:f<1024):cU f=hgt f:=by
 obtain⟨a,b,c⟩:=tU f d e;refine(zo a ?_).symm;have:(f+1)*2^cU f=f*2^cU f+2^cU f:=by rw[n0,ow]
 have:0<2^cU f:=ms _;omega
theorem m5(b:512<=f*2^i)(d:f*2^i<1024):1<=f/\f<1024/\eH f=f*2^i-512/\toN f=(f+1)*2^i-512:=by
 have c:1<=f:=by
  rcases qD f with a|a
  ·rw[a]at b;omega
  exact a
 have a:f<1024:=by
  have:f*1<=f*2^i:=nn _ xp;omega
 have e:cU f=i:=(Gn c a).trans (zo b d);exact⟨c,a,by unfold eH;rw[e],by unfold toN;rw[e]⟩
def lD(l:jc T)(z:T):ja:=(l.filter λm=>decide ((eH m.toNat:T)<=z)&&decide (z<(toN m.toNat:T))).length
theorem Oo(l s:jc T)(z:T):lD (l++s) z=lD l z+lD s z:=by
 unfold lD;rw[qA,jw]
theorem Dk(m z:T):lD [m] z=if(eH m.toNat:T)<=z/\z<(toN m.toNat:T)then 1 else 0:=by
 unfold lD
 by_cases h:(eH m.toNat:T)<=z/\z<(toN m.toNat:T)
 ·simp[h.1,h.2]
 rw[jn h];simp only[List.filter_cons,List.filter_nil];rw[jn (ah h)]
 rfl
theorem vA(n h:ja):2*n*2^h=n*2^(h+1)/\(2*n+1)*2^h=n*2^(h+1)+2^h/\(2*n+1+1)*2^h=n*2^(h+1)+2^h+2^h/\(n+1)*2^(h+1)=n*2^(h+1)+2^h+2^h:=by
 have e:2^(h+1)=2^h+2^h:=by rw[qj];omega
 have a:2*n*2^h=n*2^(h+1):=by rw[e,Nat.mul_add];rw[qh];omega
 refine⟨a,?_,?_,?_⟩
 ·rw[n0,a,ow]
 ·rw[n0,n0,a,ow]
 rw[n0,ow,e];omega
theorem AS(g:512<=f*2^(i+1))(h:f*2^(i+1)<1024):(512<=2*f*2^i/\2*f*2^i<1024)/\(512<=(2*f+1)*2^i/\(2*f+1)*2^i<1024):=by
 obtain⟨a,b,c,d⟩:=vA f i;rw[a,b];have n:=m5 g h;have k:(f+1)*2^(i+1)<=1024:=by
  obtain⟨l,j,m⟩:=tU f n.1 n.2.1;have e:cU f=i+1:=(Gn n.1 n.2.1).trans (zo g h);rw[e]at j;exact j
 have:0<2^i:=ms _;omega
theorem uU(f:T->jr T):∀h n,512<=n*2^h->n*2^h<1024->∀x:ja,(f (512+(x:T))).isSome=jg->
 lD (cg f h n) x=if n*2^h-512<=x/\x<(n+1)*2^h-512 then 1 else 0
 |0,n,e,g,x,i=>by
  obtain⟨a,b,c,d⟩:=m5 e g;unfold cg
  split
  ·rw[Dk]
   rw[j0,c,d]
   by_cases h:n*2^0-512<=x/\x<(n+1)*2^0-512
   ·rw[jm h,jm Y]
   rw[jn h,jn Y]
  rename_i j;rw[jn]
  ·rfl
  intro h;have:n=512+x:=Y;refine j ?_;rw[this]
  simpa using i
 |h+1,n,e,g,x,i=>by
  obtain⟨a,b,c,d⟩:=m5 e g;unfold cg
  split
  ·rw[Dk]
   rw[j0,c,d]
   by_cases h:n*2^(h+1)-512<=x/\x<(n+1)*2^(h+1)-512
   ·rw[jm h,jm Y]
   rw[jn h,jn Y]
  obtain⟨k,l⟩:=AS e g;obtain⟨p,q,r,s⟩:=vA n h;rw[Oo,uU f h (2*n) k.1 k.2 x i,uU f h (2*n+1) l.1 l.2 x i];rw[p]at k⊢;rw[q]at l⊢;rw[r,s];have:0<2^h:=ms _;generalize n*2^(h+1)=j at*;generalize 2^h=B at*
  by_cases m:j-512<=x/\x<j+B-512
  ·rw[jm m,jn Y,jm Y]
  by_cases o:j+B-512<=x/\x<j+B+B-512
  ·rw[jn m,jm o,jm Y]
  rw[jn m,jn o,jn Y]
def Ff(l:jc T)(c d:ja):Prop:=l.Pairwise (λa b=>toN a.toNat<=eH b.toNat)/\∀m∈l,∃k:ja,m=k/\1<=k/\k<1024/\c<=eH k/\toN k<=d
theorem yZ(f:T->jr T):∀h n,512<=n*2^h->n*2^h<1024->Ff (cg f h n) (n*2^h-512) ((n+1)*2^h-512)
 |0,n,g,i=>by
  obtain⟨a,b,c,d⟩:=m5 g i;unfold cg
  split
  ·exact⟨xq _ _,λm e=>⟨n,jZ.1 e,a,b,by rw[c];exact jz _,by rw[d];exact jz _⟩⟩
  exact⟨List.Pairwise.nil,λm e=>by cases e⟩
 |h+1,n,g,i=>by
  obtain⟨a,b,c,d⟩:=m5 g i;unfold cg
  split
  ·exact⟨xq _ _,λm e=>⟨n,jZ.1 e,a,b,by rw[c];exact jz _,by rw[d];exact jz _⟩⟩
  obtain⟨p,q⟩:=AS g i;obtain⟨s,j⟩:=yZ f h (2*n) p.1 p.2;obtain⟨t,l⟩:=yZ f h (2*n+1) q.1 q.2;obtain⟨u,r,w,z⟩:=vA n h;rw[u,r]at j;rw[r,w]at l;rw[z];have D:0<2^h:=ms _;refine⟨List.pairwise_append.2 ⟨s,t,λx B y C=>?_⟩,λm e=>?_⟩
  ·obtain⟨k,rfl,-,-,-,o⟩:=j x B
   obtain⟨v,rfl,-,-,E,-⟩:=l y C;rw[j0,j0];omega
  rcases jX.1 e with e|e
  ·obtain⟨k,rfl,o,v,x,y⟩:=j m e
   exact⟨k,A,o,v,x,by omega⟩
  obtain⟨k,rfl,o,v,x,y⟩:=l m e;exact⟨k,A,o,v,by omega,y⟩
theorem wB(a:bW t=0)(b:1<=f)(c:f<1024):gN t f=0/\dM t f=cg (aN t) (hgt f) f:=by
 have h:gN t f=0:=by unfold gN;rw[jm a,jn Y]
 refine⟨h,?_⟩;unfold dM;rw[jm h,j0]
theorem Hf(n:bW t=0)(b:1<=f)(e:f<1024):Ff (dM t f) (eH f) (toN f):=by
 rw[(wB n b e).2];have a:=nI b e;obtain⟨-,-,c,d⟩:=m5 a.1 a.2;rw[c,d];exact yZ _ _ _ a.1 a.2
theorem Jg(n:bW t=0)(b:1<=f)(e:f<1024){x:ja}(g:(aN t (512+(x:T))).isSome=jg):lD (dM t f) x=if eH f<=x/\x<toN f then 1 else 0:=by
 rw[(wB n b e).2];have a:=nI b e;obtain⟨-,-,c,d⟩:=m5 a.1 a.2;rw[c,d];exact uU _ _ _ a.1 a.2 x g
theorem zZ(n j:ja)(h:n<2^j):bitLen n<=j:=by
 unfold bitLen
 split
 ·omega
 rename_i a;have:=(Nat.log2_lt a).2 h;omega
theorem Np(m:ja)(a:512<=m)(b:m<1024):bitLen m=10:=by
 have h:∀n:Fin 1024,512<=n.val->bitLen n.val=10:=by decide+kernel
 exact h ⟨m,b⟩ a
theorem sY(x y k:ja):x/2^k=y/2^k↔bitLen (x^^^y)<=k:=by
 have e:(x^^^y)>>>k=(x>>>k)^^^(y>>>k):=Nat.shiftRight_xor_distrib ..;simp only[Nat.shiftRight_eq_div_pow]at e
 constructor
 ·intro h
  rw[h,Nat.xor_self]at e
  apply zZ
  exact(Nat.div_eq_zero_iff_lt (ms k)).1 e
 intro h;have a:x^^^y<2^k:=jT (bitLen_spec _).1 (km G h);rw[Nat.div_eq_of_lt a]at e;have b:=jK (x/2^k^^^·) e
 simpa [<-Nat.xor_assoc]using b
theorem G5(a k x:ja):(a*2^k<=x/\x<(a+1)*2^k)↔x/2^k=a:=by
 have b:0<2^k:=ms k;rw[<-qV b,<-Nat.div_lt_iff_lt_mul b];omega
theorem vG(x i:ja)(b:512<=x)(a:x<1024)(c:i<=9):cU (x/2^i)=i/\1<=x/2^i/\x/2^i<1024:=by
 have d:0<2^i:=ms i;have f:2^i<=2^9:=km G c;have e:1<=x/2^i:=(qV d).2 Y;have:=bitLen_shift x i Y;rw[Np x b a]at this;refine⟨by unfold cU;omega,e,?_⟩;exact Nat.lt_of_le_of_lt (Nat.div_le_self _ _) a
def fQ(a b:ja):ja:=bitLen ((512+a)^^^(512+b))
theorem EY(a:ja):fQ a a=0:=by unfold fQ;rw[Nat.xor_self];rfl
theorem Dm(a b:ja)(e:a<512)(f:b<512):fQ a b<=9:=by
 unfold fQ;rw[<-sY];have c:(512+a)/2^9=1:=Y;have d:(512+b)/2^9=1:=Y;rw[c,d]
theorem J6(a b:ja)(h:a≠b):1<=fQ a b:=by
 have:=mt (sY (512+a) (512+b) 0).2 (ah h);unfold fQ;omega
theorem CH(n d:ja)(a:1<=n)(b:n<1024):(eH n<=d/\d<toN n)↔(512+d)/2^cU n=n:=by
 rw[<-G5];obtain⟨c,e,f⟩:=tU n a b;have g:n*2^cU n<=(n+1)*2^cU n:=j6 _ Y;unfold eH toN;omega
theorem LB(d:ja)(a:d<512)(i:ja)(b:i<9):(gd d).getD i 0=dK ((512+d)/2^i):=by
 have h:∀d:Fin 512,gd d.val=(jP 9).map λi=>dK ((512+d.val)/2^i):=by decide+kernel
 rw[h ⟨d,a⟩];simp[b]
theorem Qh(n:ja)(h:n<1024):dK n/2=n/2/\dK n≠n/\max n (dK n)=2*(n/2)+1:=by
 have h:∀n:Fin 1024,dK n.val/2=n.val/2/\dK n.val≠n.val/\max n.val (dK n.val)=2*(n.val/2)+1:=by decide+kernel
 exact h ⟨n,by assumption⟩
theorem wk(d x j:ja)(g:d<512)(u:x<512)(i:j<9):∀c,c=(gd d).getD j 0->1<=c/\c<1024/\((eH c<=x/\x<toN c)↔fQ d x=j+1):=by
 rintro c rfl;rw[LB d g j i];obtain⟨k,v,a⟩:=vG (512+d) j Y Y Y;have l:2<=(512+d)/2^j:=by
  have b:0<2^j:=ms j;have e:2^j<=2^8:=km G Y;exact(qV b).2 Y
 obtain⟨w,y,z⟩:=Qh _ a;have m:(512+d)/2^(j+1)=(512+d)/2^j/2:=by rw[qj,xr]
 have o:(512+x)/2^(j+1)=(512+x)/2^j/2:=by rw[qj,xr]
 have b:=sY (512+d) (512+x) (j+1);have r:=sY (512+d) (512+x) j;obtain⟨C,D,E⟩:=vG (512+x) j Y Y Y;have t:cU (dK ((512+d)/2^j))=j:=by
  have h:∀n:Fin 1024,2<=n.val->cU (dK n.val)=cU n.val:=by decide+kernel
  exact(h ⟨_,a⟩ l).trans k
 have e:1<=dK ((512+d)/2^j):=Y;have f:dK ((512+d)/2^j)<1024:=by
  have h:∀n:Fin 1024,dK n.val<1024:=by decide+kernel
  exact h ⟨_,a⟩
 refine⟨e,f,?_⟩;rw[CH _ x e f,t];rw[m,o]at b;unfold fQ;generalize bitLen ((512+d)^^^(512+x))=B at r b⊢;generalize(512+d)/2^j=p at*;generalize(512+x)/2^j=q at*;generalize dK p=s at*;omega
theorem copZ_len9(d:T)(a:0<=d)(b:d<512):(eI d).length=9:=by
 unfold eI gd;rw[jv,jv,pY _ Y]
theorem Dg(c:0<=d)(e:d<512){j:ja}(f:j<9):∃s:ja,(eI d).getD j 0=s/\s=(gd d.toNat).getD j 0/\1<=s/\s<1024:=by
 have g:j<(gd d.toNat).length:=by
  have:=copZ_len9 d c e;unfold eI at this;rw[jv]at this;omega
 refine⟨(gd d.toNat).getD j 0,?_,A,?_⟩
 ·unfold eI
  simp[qW,g]
 obtain⟨a,b,-⟩:=wk d.toNat 0 j Y Y f _ A;exact⟨a,b⟩
noncomputable def sW(t:jc (T×T))(a:jc T)(z:T):ja:=(a.map λs=>lD (dM t s) z).sum
theorem IY(f:ja->ja)(a:ja)(c:a<=9)(h:∀j,j<9->f j=if a=j+1 then 1 else 0):((jP 9).map f).sum=if a=0 then 0 else 1:=by
 have e:((jP 9).map f).sum=((jP 9).map λj=>if a=j+1 then 1 else 0).sum:=by
  congr 1
  exact wx λj b=>h j (qX.1 b)
 rw[e];have:∀a:Fin 10,((jP 9).map λj=>if a.val=j+1 then 1 else 0).sum=if a.val=0 then 0 else 1:=by decide
 exact this ⟨a,by omega⟩
theorem O6(k:bW t=0){d:T}(b:0<=d)(c:d<512){x:ja}(f:x<512)(l:(aN t (512+(x:T))).isSome=jg):sW t (eI d) x=if(x:T)=d then 0 else 1:=by
 obtain⟨n,rfl⟩:=xt b;have m:=copZ_len9 (n:T) b c;have e:eI (n:T)=(jP 9).map λj=>(eI (n:T)).getD j 0:=by
  apply List.ext_getElem
  ·simp[m]
  intro i a g;simp[qW,a]
 unfold sW;rw[e,oo];rw[IY _ (fQ n x) (Dm n x Y f) (λj g=>?_)]
 ·by_cases a:x=n
  ·subst a;rw[EY,jm A,jm A]
  have:=J6 n x (λh=>a h.symm);rw[jn Y,jn Y]
 simp only[Function.comp];obtain⟨s,o,p,q,r⟩:=Dg b c g;rw[o,Jg k q r l];have i:=(wk n x j Y f g s (by rw[p];simp)).2.2
 by_cases a:eH s<=x/\x<toN s
 ·rw[jm a,jm (i.1 a)]
 rw[jn a,jn (λh=>a (i.2 h))]
def gG(d:ja)(p:T×T):jV:=decide ((eH p.2.toNat:T)<=(d:T))&&decide ((d:T)<(toN p.2.toNat:T))
theorem DZ(t:jc (T×T))(d:ja):∀(l:jc T) (k:ja),((dZ t l k).filter (gG d)).length=sW t l d
 |[],k=>rfl
 |s::l,k=>by
  have a:=DZ t d l (k+1);unfold dZ sW at*;rw[qv,wi,qA,jw,a,j5,List.sum_cons,List.filter_map,jv]
  rfl
theorem Ih(b:bW t=0){a:T}(c:0<=a)(e:a<512){d:ja}(f:d<512)(g:(aN t (512+(d:T))).isSome=jg):((dI t a).filter (gG d)).length=if(d:T)=a then 0 else 1:=by
 unfold dI;rw[DZ,O6 b c e f g]
theorem yL{f:T->jr T}:∀(h n:ja) (m:T),m∈cg f h n->(f m).isSome=jg
 |0,n,m,a=>by
  unfold cg at a
  split at a
  ·rename_i b;rw[jZ]at a;rw[a];exact b
  cases a
 |h+1,n,m,a=>by
  unfold cg at a
  split at a
  ·rename_i b;rw[jZ]at a;rw[a];exact b
  rcases jX.1 a with a|a
  ·exact yL h _ m a
  exact yL h _ m a
theorem Rr{x:T×ja}(h:x∈z.zipIdx f):f<=x.2/\x.2<f+z.length/\z.getD (x.2-f) 0=x.1:=by
 obtain⟨a,b,c⟩:=List.mem_zipIdx h;refine⟨a,b,?_⟩;rw[c,xo,qe Y];rfl
theorem PW(f:bW t=0){a:T}(g:0<=a)(h:a<512){d:ja}(v:d<512){p:T×T}(i:p∈dI t a)(c:gG d p=jg):
 (d:T)≠a/\p.1=(fQ a.toNat d:ja)/\(∃n:ja,p.2=n/\1<=n/\n<1024/\(512+d)/2^cU n=n)/\(aN t p.2).isSome=jg:=by
 unfold dI dZ at i;obtain⟨x,w,y⟩:=uy.1 i;obtain⟨n,b,rfl⟩:=jC.1 y;obtain⟨F,z,B⟩:=Rr w;rw[copZ_len9 a g h]at z;obtain⟨s,k,C,l,o⟩:=Dg g h (j:=x.2-1) Y;rw[B]at k;rw[k]at b;have D:=(Hf f l o).2 n b;obtain⟨m,rfl,q,r,H,K⟩:=D;unfold gG at c;rw[tx,decide_eq_true_eq,decide_eq_true_eq]at c;simp only[j0]at c;obtain⟨M,P,E⟩:=wk a.toNat d (x.2-1) Y v Y s C;have u:fQ a.toNat d=x.2-1+1:=E.1 ⟨by omega,by omega⟩;refine⟨λe=>?_,?_,⟨m,A,q,r,(CH m d q r).1 ⟨by omega,by omega⟩⟩,?_⟩
 ·rw[<-e,j0,EY]at u;omega
 ·show(x.2:T)=_
  rw[u];omega
 rw[(wB f l o).2]at b;exact yL _ _ _ b
theorem Ji(k:(512+i)/2^h=f)(a:1<=f):Und (512+(i:T)) f:=by
 refine⟨by omega,h,?_⟩;rw[<-k]
 norm_cast
theorem Fy{M:ak}(h:eA t)(d:lH M)(f:M.d∈aY t↔M.k≠1){n:T}(m:1<=n):(n≠512+M.d\/M.k=2->(Und (512+M.d) n\/aN t n=jd)->aN (dP t M) n=jd):=by
 intro g a;have c:=nE h;obtain⟨⟨o,p⟩,hk⟩:=d
 by_cases b:M.k=2
 ·have i:M.d∈aY t:=f.2 Y
  have e:dP t M=dk t M.d:=by unfold dP l8;rw[jm b,jm (za c i jg)]
  rw[e,uJ]
  rcases a with a|a
  ·rw[jm (kO a)]
  rw[a];split<;>rfl
 have i:aW M.p:=by
  rcases hk with⟨-,h,-⟩|⟨h,-⟩|⟨-,h,-⟩
  ·exact h
  ·exact jD h b
  exact h
 have j:dc t M.d jl=0:=by
  unfold dc;rw[jm c,jn (by rintro(h|h|⟨h,-⟩);omega;omega;cases h)]
 have k:eX t M.d M.p=0:=by unfold eX;rw[jm j,jm (eG i)]
 have e:dP t M=dW (512+M.d,M.p) (dk t M.d):=by unfold dP ia;rw[jn b,jm k]
 have l:n≠512+M.d:=by
  rcases g with h|h
  ·exact h
  exact jD h b
 rw[e,rp (oF (t:=t) (mK Y)),jn (show ¬n=512+M.d from l),uJ]
 rcases a with a|a
 ·rw[jm (kO a)]
 rw[a];split<;>rfl
theorem Df(f:0<=d)(g:d<512){n:T}(e:Und (512+d) n):∀(l:jc ak) (t:jc (T×T)),eA t->pk t l->(∀x∈l,n≠512+x.d)->aN t n=jd->aN (aV t l) n=jd
 |[],t,h,a,b,c=>c
 |x::l,t,h,a,b,c=>by
  obtain⟨i,j,m⟩:=Aj h a;rw[yJ];exact Df f g e l _ i j (λy k=>b y (jJ _ k)) (Fy h (a.each x jE) (a.mem x jE) e.1 (.inl (b x jE)) (.inr c))
theorem AQ(g:0<=d)(i:d<512){n:T}(a:Und (512+d) n):∀(l:jc ak) (t:jc (T×T)),eA t->pk t l->∀x∈l,x.d=d->(n≠512+d\/x.k=2)->aN (aV t l) n=jd
 |[],t,h,b,x,c,_,_=>by cases c
 |y::l,t,h,b,x,c,f,hk=>by
  obtain⟨k,m,o⟩:=Aj h b;have p:∀z:ak,0<=z.d->z.d<512->z.d≠d->n≠512+z.d:=λz q r j e=>by
   have:=wL g i Y a;omega
  rw[yJ]
  rcases jF.1 c with rfl|c
  ·refine Df g i a l _ k m (λz j=>?_) ?_
   ·have:=(b.each z (jJ _ j)).1
    exact p z this.1 this.2 (by rw[<-f];exact o z j)
   exact Fy h (b.each x jE) (b.mem x jE) a.1 (by rw[f];exact hk) (.inl (by rw[f];exact a))
  exact AQ g i a l _ k m x c f hk
def rA(g:aI)(l:jc ak)(d:T):Prop:=match gr l d with
 |none=>(dA g.mem d).isSome=jg
 |some x=>x.k≠2
structure zT(g:aI)(a:T)(l:jc ak)(d:ja):Prop where
 each:∀p∈dj g a l,gG d p=jg->(d:T)≠a/\p.1=(fQ a.toNat d:ja)/\∀x,gr l d=jb x->x.k≠2/\p.2=512+(d:T)
 once:rA g l d->(d:T)≠a->((dj g a l).filter (gG d)).length=1
theorem N7(c:co r)(i:dz b)(j:dQ r d b){a:T}(l:rA r b a):a∈aY (aV r.tree b):=by
 rw[(kJ b _ (ib c.tree) (nj c i j)).2];unfold rA at l
 cases e:gr b a with
 |none=>
  rw[e]at l;refine .inr ⟨λx f h=>?_,(zE c a).1 (by rw[<-vY];exact l)⟩;have:=qt.1 e x f;simp[h]at this
 |some x=>
  rw[e]at l;obtain⟨f,h⟩:=(CP i.once a x).1 e;exact .inl ⟨x,f,h,l⟩
theorem K5{a:T}(l:co r)(c:dz b)(e:dQ r a b){d:ja}(i:d<512):zT r a b d:=by
 have j:cK r a b=0:=iH.2 ⟨l,c,e⟩;obtain⟨k,m⟩:=mw l c e;have o:=ib l.tree;have q:=nj l c e;obtain⟨v,P⟩:=kJ b r.tree o q;have g:=nE v;refine⟨λp s w=>?_,λy z=>?_⟩
 ·rw[lR j]at s
  obtain⟨B,C,⟨n,t,D,Q,E⟩,u⟩:=PW g k m i s w;refine⟨B,C,λx F=>?_⟩;obtain⟨H,K⟩:=(CP c.once (d:T) x).1 F;have M:Und (512+(d:T)) n:=Ji E D
  by_cases f:(n:T)≠512+(d:T)\/x.k=2
  ·have h:=AQ (d:=(d:T)) Y Y M b r.tree o q x H K f
   rw[t,h]at u;cases u
  rw[not_or,Classical.not_not]at f;exact⟨f.2,by rw[t];exact f.1⟩
 rw[lR j,Ih g k m i,jn z];have h:=(ly _ _).1 (N7 l c e y);exact sK.2 h.2.2
def kZ(l:jc (T×T))(d k:ja):ja:=((l.take k).filter (gG d)).length
theorem OV{l:jc (T×T)}{d k:ja}{p:T×T}(h:l[k]?=jb p):kZ l d (k+1)=kZ l d k+if gG d p=jg then 1 else 0:=by
 obtain⟨hk,he⟩:=qu.1 h;unfold kZ;rw[sh,h,qA,jw]
 by_cases a:gG d p=jg
 ·simp[a]
 simp[a]
theorem Hq(l:jc (T×T))(d k:ja):kZ l d k<=k:=by
 unfold kZ;exact jy (wt _ _) (by rw[qQ];omega)
theorem JH(h:i=t.length):kZ t f i=(t.filter (gG f)).length:=by
 unfold kZ;rw[h,pz]
def wY(o:jV):jr ak->jV
 |none=>o
 |some x=>decide (x.k≠2)
theorem J0(x y:ja)(a:x<1024)(b:y<1024):bits .xor .i64 (x:T) (y:T)=((x^^^y:ja):T):=
 AY .i64 10 G (λn c d=>IntWalk.i64_in n Y) x y Y Y
theorem P8(a b:ja)(i:a<512)(j:b<512)(w:ji):
 jt jk 15 #[I N a,I N b] w λe w'=>e=js (jL #[I N (oG (512+a) (512+b)),I N 0])/\w=w':=by
 have c:(512+a)^^^(512+b)<1024:=Nat.xor_lt_two_pow (n:=10) Y Y;have d:=J0 (512+a) (512+b) Y Y;have g:=zZ _ 10 c;generalize f:(512+a)^^^(512+b)=X at c d g;have h:=O f;clear f
 push_cast at d
 go_enter func15,ntmps15
 go_wp2_with fail
 refine(ud _ Y Y _).mono ?_;rintro e w' ⟨rfl,rfl⟩
 go_wp2_with fail
 refine(ud _ Y Y _).mono ?_;rintro e w' ⟨rfl,rfl⟩
 go_wp2_with fail
 refine(A8 _ Y Y _).mono ?_;rintro e w' ⟨rfl,rfl⟩;simp only[j0]
 go_wp2
 go_ret2;have f:(512+(a:T))/2^bitLen X=((oG (512+a) (512+b):ja):T):=by unfold oG;rw[h];simp
 exact⟨by rw[<-f];rfl,rfl⟩
theorem G8(n d:T)(h:1<=n)(a:n<1024)(w:ji):
 jt jk 11 #[I N n,I N d] w λe w'=>e=js (.bool (decide ((eH n.toNat:T)<=d)&&decide (d<(toN n.toNat:T))))/\jo w w w':=by
 obtain⟨m,rfl⟩:=xt (show 0<=n by omega);have c:=O (No m Y Y w);rw[j0];obtain⟨f,b⟩:=J (eH m);obtain⟨t,g⟩:=J (toN m);rw[<-b,<-g]at c⊢;clear b g
 go_enter func11,ntmps11
 go_wp2_with fail
 refine c.mono ?_;rintro e g ⟨rfl,q,rfl⟩
 by_cases a:(f:T)<=d
 ·have b:decide ((f:T)<=d)=jg:=ah a
  clear a
  go_wp2_with fail
  go_ret;exact⟨by rw[b];rfl,⟨rfl,rfl,rfl,jz _,λ_ _=>rfl⟩⟩
 have b:decide ((f:T)<=d)=jl:=ah a;clear a
 go_wp2_with fail
 go_ret;exact⟨by rw[b];rfl,⟨rfl,rfl,rfl,jz _,λ_ _=>rfl⟩⟩
theorem K6(a1:ji->Prop)(i:∀a b,a1 a->jo a a b->a1 b)(x:(∀W,a1 W->jt jk 4 #[] W λe w'=>e=js (.bool jg)/\jo W W w'))
 (g:aI) (vm vt:je) (a:T) (l:jc ak) (M:je) (w:ji) (h:cr w g vm vt) (c:EC.At w M l) (z:g.mem.length<=jN) (D:g.tree.length<=jN) (bf:l.length<=jN) (k:a1 w):
 jt jk 3 #[jp (aG g vm vt).toArray,I N a,M] w λe w'=>e=js (.bool jg)/\jo w w w':=by
 have o:=O i;have bB:=O x;have p:=lC (vm:=vm) (vt:=vt) h.llen;have bg:jj (∀W,cr W g vm vt->jt jk 5 #[jp (aG g vm vt).toArray] W λe w'=>(∃b,e=js (.bool b)/\(b=jg->g.mem.length<=8/\g.tree.length<=80))/\jo W W w'):=O (λW m=>Hc g vm vt W m D);have bh:jj (∀W d,cr W g vm vt->jt jk 13 #[jp (aG g vm vt).toArray,I N d] W λe w'=>e=js (jL #[jp ((dA g.mem d).getD bP).cells.toArray,.bool (dA g.mem d).isSome])/\jo W W w'):=O (λW d m=>B9 g vm vt d W m z);have q:=O (λW (m:cr W g vm vt)=>Mb g vm vt W m);have s:=O (λM W (m:cr W g vm vt)=>M9 g vm vt M a l W m);have y:=O (λM W (m:cr W g vm vt) (b:EC.At W M l)=>rQ g vm vt M a l W m b);have Ys:=O h;have bC:=O c;have b2:=O k;obtain⟨C,E⟩:=J ((aG g vm vt).toArray);rw[<-E]at p bg bh q s y⊢;obtain⟨pl,cl,rfl,-,-⟩:=c.form;obtain⟨n,r⟩:=J l.length;rw[<-r]at c bC bf⊢;have HN:=O r;obtain⟨x0,f⟩:=J ((w.alloc (jf C 29)));obtain⟨RA,t⟩:=J w.heap.size;have u:=jB w (jf C 29);have F:=ai w (jf C 29);have b:=F;rw[<-f]at b;rw[<-f,<-t]at u;have H:=O u;have K:=O b;have P:=O f;have HG:=O t;have Q:=h.below b;have R:=c.below b;have S:=i _ _ k b;have Uk:=O p;have U:=O Q;have V:=O R;have v:=O S;have R6:=O (λd W (m:EC.At W (jh pl n cl) l)=>Ev l (jh pl n cl) d W m (by rw[<-HN];exact bf));clear Q R S p h c z D k E i x r;clear b f t u F
 go_enter func3,ntmps3
 go_upto_region 1 with fail
 rw[<-P,<-HG];clear P;refine kw ?_;refine jI A λ_ c=>?_
 go_simp;refine(bB x0 v).mono ?_;rintro e x1 ⟨rfl,b⟩;have i:=Z H b;have k:=O (U.below b);have r:=O (V.below b);have u:=ac K b;have x:=O (o _ _ v.out b);clear b H U V K v;refine c _ _ ?_;clear c;refine L ?_;refine bH ?_
 go_upto_region 3 with fail
 refine kw ?_;refine df (v:=jp C) aj (cI kl A Uk A A i) (L ?_);refine jI A λ_ c=>?_
 go_simp;refine(bg x1 k).mono ?_;rintro e x2 ⟨⟨t,rfl,f⟩,b⟩;have z:=Z i b;have D:=O (k.below b);have E:=O (r.below b);have p:=ac u b;have F:=O (o _ _ x.out b);clear b i k r u x;refine c _ _ ?_;clear c;refine L ?_
 cases t with
 |false=>
  clear f
  go_wp2_with fail
  go_ret;exact⟨A,p⟩
 |true=>
 have aa:=O (f A);clear f;iterate 3 refine bH ?_
 refine k8 aj λ_ c=>?_
 go_simp;refine(Jn pl n cl x2).mono ?_;rintro e x3 ⟨rfl,b⟩;have i:=Z z b;have k:=O (D.below b);have x:=O (E.below b);have r:=ac p b;have H:=O (o _ _ F.out b);clear b z D E p F;obtain⟨t,f⟩:=J (decide (n<=10));rw[<-f];refine c _ _ ?_;clear c;refine L ?_
 cases t with
 |false=>
  clear f
  go_wp2_with fail
  go_ret;exact⟨A,r⟩
 |true=>
 have H3:jj (n<=10):=O (qF f.symm);clear f;iterate 3 refine bH ?_
 refine df (v:=jp C) aj (cI kl A Uk A A i) (L ?_);refine k8 aj λ_ c=>?_
 go_simp;refine(q x3 k (bL aa.1) (bL aa.2)).mono ?_;rintro e x4 ⟨⟨t,rfl,f⟩,b⟩;have z:=Z i b;have D:=O (k.below b);have p:=O (x.below b);have u:=ac r b;have E:=O (o _ _ H.out b);clear b i k x r H;refine c _ _ ?_;clear c;refine L ?_
 cases t with
 |false=>
  clear f
  go_wp2_with fail
  go_ret;exact⟨A,u⟩
 |true=>
 have r:=O (f A);clear f q;iterate 4 refine bH ?_
 refine k8 aj λ_ c=>?_
 go_simp;refine(JV l _ x4 p (by have:=H3.out;rw[<-HN];omega)).mono ?_;rintro e x5 ⟨⟨t,rfl,f⟩,b⟩;have i:=Z z b;have k:=O (D.below b);have q:=O (p.below b);have x:=ac u b;have P:=O (o _ _ E.out b);clear b z D p u E;refine c _ _ ?_;clear c;refine L ?_
 cases t with
 |false=>
  clear f
  go_wp2_with fail
  go_ret;exact⟨A,x⟩
 |true=>
 have D:=O (f A);clear f;iterate 3 refine bH ?_
 refine df (v:=jp C) aj (cI kl A Uk A A i) (L ?_);iterate 2 refine bH ?_
 refine k8 aj λ_ c=>?_
 go_simp;refine(s _ x5 k r (bL aa.1) q (by have:=H3.out;rw[<-HN];omega)).mono ?_;rintro e x6 ⟨⟨t,rfl,f⟩,b⟩;have z:=Z i b;have F:=O (k.below b);have H:=O (q.below b);have K:=ac x b;have Q:=O (o _ _ P.out b);clear b i k q x P;refine c _ _ ?_;clear c;refine L ?_
 cases t with
 |false=>
  clear f
  go_wp2_with fail
  go_ret;exact⟨A,K⟩
 |true=>
 have E:=O (f A);clear f s;obtain⟨s,i⟩:=J (dj g a l);have Sk:jj (∀d:ja,d<512->zT g a l d):=O (λd hd=>K5 r D E hd);have Yc:jj (∀p∈s,1<=p.2/\p.2<1024):=O (λp q=>by
  rw[i,lR (iH.2 ⟨r,D,E⟩)]at q;obtain⟨u,x⟩:=mw r D E;exact(yS (kJ l g.tree (ib r.tree) (nj r D E)).1 u x (k:=p.1) (n:=p.2) q).2.1)
 have Zf:jj (s.length<=1000000):=O (by
  obtain⟨u,x⟩:=mw r D E;rw[i,lR (iH.2 ⟨r,D,E⟩)];exact jy (vD _ u x) G)
 obtain⟨f,P,R⟩:∃f:ja,a=f/\f<512:=by
  obtain⟨u,x⟩:=mw r D E;exact⟨a.toNat,by omega,by omega⟩
 have U:=O (And.intro P R);have Uv:jj (cK g a l=0):=O (iH.2 ⟨r,D,E⟩);have Yz:=O i;clear i P R
 go_upto_region 5 with fail
 refine kw ?_;refine df (v:=jp C) aj (cI kl A Uk A A z) (L ?_);iterate 2 refine bH ?_
 have X:=y _ x6 F H (bL aa.1) (bL aa.2) (by have:=H3.out;rw[<-HN];omega);rw[Uv,<-Yz]at X;refine jI A λ_ c=>?_
 go_simp;refine X.mono ?_;rintro e x7 ⟨b3,rfl,i,b⟩;clear X;have x:=Z z b;have P:=O (F.below b);have R:=O (H.below b);have S:=ac K b;have V:=O (o _ _ Q.out b);clear b z F H K Q;obtain⟨pb,cb,rfl⟩:=a8 i;obtain⟨F,u⟩:=J s.length;rw[<-u]at i Zf⊢;have H:jj (EB0.At x7 (jh pb F cb) s):=O (EK.At.of_own (B:=x6.heap.size) (by rw[<-u];exact i));have bk:=O u;have b4:=Zf.out;clear i u y;refine c _ _ ?_;clear c;refine L ?_;iterate 5 refine bH ?_
 go_wp2_with fail
 go_loopw [59] (λv wr=>∃k:ja,v=I N k/\k<=512/\jj (jo x7 x7 wr)) (λv _=>512-(jq v).toNat)
 case atStart=>exact⟨0,A,by omega,O (jG _ _)⟩
 obtain⟨k,rfl,hk,z⟩:=hrel;obtain⟨x8,rfl⟩:∃y,y=wr:=⟨wr,A⟩;have b:=z.out;have Tn:=Z x b;have ad:=O (P.below b);have a5:=O (R.below b);have SX:=ac S b;have bc:=O (o _ _ V.out b);have bd:=O (H.below b);clear b x P R S V H;have bl:=z;clear z
 by_cases ba:k<512
 case neg=>
  have hd:=ap ((k:T)<512);have Sm:=ap (k<512)
  go_wp2_with fail
  go_ret;exact⟨A,SX⟩
 have hd:=ao ((k:T)<512);have Sm:=ao (k<512);have bb:=O (Sk k ba);obtain⟨og,al⟩:=J (dA g.mem (k:ja));obtain⟨H,u⟩:=J (gr l (k:ja));have SP:jj (wY og.isSome H=jg->rA g l (k:ja)):=O (λh=>by
  unfold rA;rw[<-u,<-al]
  rcases H with _|x
  ·exact h
  exact qF h)
 have K:=λW m=>bh W (k:ja) m
 rw[<-al]at K;have i:=λW m=>R6 (k:ja) W m
 rw[<-u]at i;have bI:jj (∀p∈s,gG k p=jg->∀x,H=jb x->x.k≠2/\p.2=512+(k:T)):=O (λp q Q x P=>(bb.each p (by rw[<-Yz];exact q) Q).2.2 x (by rw[<-u];exact P));obtain⟨Q,au⟩:=J ((og.getD bP).cells.toArray);obtain⟨R,x⟩:=J ((H.getD rl).cells.toArray);rw[<-au]at K;rw[<-x]at i;obtain⟨a2,a4⟩:=J H.isSome;rw[<-a4]at i;have a3:=O a4;have Tr:=O K;have Tq:=O i;have S:jj ((jk.info? 43).map (·.size)=jb Q.size/\Q.size=3/\Q.all (·.oneCell')=jg):=O (by rw[au];exact⟨by kernel_rfl,rfl,by simp[aK.cells,kn]⟩);have V:jj ((jk.info? 47).map (·.size)=jb R.size/\R.size=5/\R.all (·.oneCell')=jg):=O (by rw[x];exact⟨by kernel_rfl,rfl,by simp[ak.cells,kn]⟩);have bm:=O x;clear al u K i au x a4
 go_upto_region 12 with fail
 refine kw ?_;refine df (v:=jp C) aj (cI kl A Uk A A Tn) (L ?_);refine bH ?_;refine jI A λ_ c=>?_
 go_simp;refine(Tr x8 ad).mono ?_;rintro e x9 ⟨rfl,b⟩;have Uu:=Z Tn b;have al:=O (ad.below b);have au:=O (a5.below b);have S6:=ac SX b;have a4:=O (o _ _ bc.out b);have bn:=O (bd.below b);have bo:=ac bl b;clear b Tn ad a5 SX bc bd bl;refine c _ _ ?_;clear c;refine L ?_;iterate 3 refine bH ?_
 have i:=jB x9 (jf #[I N 0,I N 0,I N 0] 43);obtain⟨VK,u⟩:=J x9.heap.size;rw[<-u]at i;have b:=jU (ai x9 (jf #[I N 0,I N 0,I N 0] 43)) (lw u.symm) Q;have x:=jS (x9.alloc (jf #[I N 0,I N 0,I N 0] 43)) VK _ Q _ _ i;refine jI A λ_ c=>gL 43 A #[I N 0,I N 0,I N 0] BX (c _ _ ?_)
 clear c;rw[<-u];refine L ?_;refine jI A λ_ c=>jQ 43 _ _ A VK Q A A 43 #[I N 0,I N 0,I N 0] i S.1 S.2.1.symm S.2.2 (c _ _ ?_)
 clear c i u;refine L ?_;obtain⟨bK,P⟩:=J ((x9.alloc (jf #[I N 0,I N 0,I N 0] 43)).setRow VK Q);rw[<-P]at b x⊢;clear P;have ad:=Z Uu b;have a5:=O (al.below b);have K:=O (au.below b);have bc:=ac S6 b;have bd:=O (o _ _ a4.out b);have bl:=O (bn.below b);have bq:=ac bo b;clear b Uu al au S6 a4 bn bo;have al:=O x;clear x;refine bH ?_
 go_upto_region 13 with fail
 refine kw ?_;iterate 2 refine bH ?_
 refine jI A λ_ c=>?_
 go_simp;refine(Tq bK K).mono ?_;rintro e U2 ⟨rfl,b⟩;have au:=Z ad b;have a4:=O (a5.below b);have bn:=O (K.below b);have bo:=ac bc b;have br:=O (o _ _ bd.out b);have bs:=O (bl.below b);have bu:=ac bq b;have bv:=Z al b;clear b ad a5 K bc bd bl bq al;refine c _ _ ?_;clear c;refine L ?_;iterate 3 refine bH ?_
 have i:=jB U2 (jf #[I N 0,I N 0,I N 0,I N 0,I N 0] 47);obtain⟨ad,u⟩:=J U2.heap.size;rw[<-u]at i;have b:=jU (ai U2 (jf #[I N 0,I N 0,I N 0,I N 0,I N 0] 47)) (lw u.symm) R;have x:=jS (U2.alloc (jf #[I N 0,I N 0,I N 0,I N 0,I N 0] 47)) ad _ R _ _ i;refine jI A λ_ c=>gL 47 A #[I N 0,I N 0,I N 0,I N 0,I N 0] Fo (c _ _ ?_)
 clear c;rw[<-u];refine L ?_;refine jI A λ_ c=>jQ 47 _ _ A ad R A A 47 #[I N 0,I N 0,I N 0,I N 0,I N 0] i V.1 V.2.1.symm V.2.2 (c _ _ ?_)
 clear c i u;refine L ?_;obtain⟨ZO,P⟩:=J ((U2.alloc (jf #[I N 0,I N 0,I N 0,I N 0,I N 0] 47)).setRow ad R);rw[<-P]at b x⊢;clear P;have a5:=Z au b;have bc:=O (a4.below b);have bd:=O (bn.below b);have bl:=ac bo b;have bq:=O (o _ _ br.out b);have bw:=O (bs.below b);have bA:=ac bu b;have c:=Z bv b;clear b au a4 bn bo br bs bu bv;have u:=O x;clear x;refine bH ?_;clear Tr Tq c S V;obtain⟨x,c⟩:=J (wY og.isSome H);rw[<-c]at SP;have bM:=O c;clear c
 go_upto_region 14 with fail
 go_cut [15] (λv c=>v=.bool x/\ZO=c)
 case first=>
  have c:=bM.out
  rcases H with _|S
  ·obtain rfl:a2=jl:=a3.out
   unfold wY at c
   rcases og with _|K
   ·obtain rfl:x=jl:=c
    go_wp2_with fail
    go_meet
    exact⟨A,A⟩
   obtain rfl:x=jg:=c
   go_wp2_with fail
   go_meet
   exact⟨A,A⟩
  obtain rfl:a2=jg:=a3.out;have b0:ZO.cell? ⟨ad,0,jd⟩=jb (I N S.k):=ae u.out (by rw[bm];rfl);obtain⟨yk,al⟩:=J S.k;replace c:x=decide (S.k≠2):=c;rw[<-al]at b0 c;clear al;have e1:(yk !=2)=x:=by rw[c];exact F9 _ _
  have e2:decide (yk=2)= !x:=by rw[c];simp
  have e3:(yk==2)= !x:=by rw[wT,e2]
  have i:=O e1;clear c e1 e2 e3
  rcases og with _|K
  ·go_wp2_with fail
   go_meet
   exact⟨jK qU i,A⟩
  go_wp2_with fail
  go_meet
  exact⟨jK qU i,A⟩
 obtain⟨rfl,rfl⟩:=hcut
 go_wp2_with fail
 go_loopw [16,89] (λc K wr=>∃i:ja,K=I N i/\i<=F/\c=I N (kZ s k i:ja)/\jj (jo ZO ZO wr)) (λ_ v _=>F-(jq v).toNat)
 case atStart=>exact⟨0,A,by omega,rfl,O (jG _ _)⟩
 obtain⟨i,rfl,hi,rfl,z⟩:=hrel;obtain⟨K,rfl⟩:∃y,y=wr:=⟨wr,A⟩;have b:=z.out;have b5:=Z a5 b;have ca:=O (bc.below b);have cc:=O (bd.below b);have bo:=ac bl b;have cd:=O (o _ _ bq.out b);have bN:=O (bw.below b);have au:=ac bA b;have br:=Z u b;clear b a5 bc bd bl bq bw bA u;have bl:=z;clear z;have bw:=Hq s k i;obtain⟨cn,c⟩:=J (kZ s k i);rw[<-c]at bw⊢;have a4:=O c;clear c
 by_cases Y9:i<F
 case neg=>
  have bA:=ap ((i:T)<(F:T));have bO:=ap (i<F);have u:jj (cn=(s.filter (gG k)).length):=O (by rw[a4];exact JH (by rw[<-bk];omega))
  rcases x with _|_
  ·go_wp2_with fail
   exact⟨⟨k+1,by go_num,by omega,au⟩,by simp only[jq];omega⟩
  by_cases c:(k:T)=a
  ·have e1:((k:T)!=a)=jl:=ah c
   have e2:decide ((k:T)=a)=jg:=ah c;clear c
   go_wp2_with fail
   exact⟨⟨k+1,by go_num,by omega,au⟩,by simp only[jq];omega⟩
  have e1:((k:T)!=a)=jg:=ah c;have e2:decide ((k:T)=a)=jl:=ah c;obtain rfl:cn=1:=by rw[u,Yz];exact bb.once (SP A) c
  clear c
  go_wp2_with fail
  exact⟨⟨k+1,by go_num,by omega,au⟩,by simp only[jq];omega⟩
 have bA:=ao ((i:T)<(F:T));have bO:=ao (i<F);obtain⟨-,-,SQ⟩:=bN.cells;obtain⟨gb,ob,rfl,z⟩:=SQ Y;obtain⟨p,q,-⟩:=dF (l:=s) (j:=i) (by rw[<-bk];exact Y9);have c0:K.cell? ⟨gb,ob+i*4,jd⟩=jb (I N p.2):=z i p q 0 _ A;have c1:K.cell? ⟨gb,ob+i*4+1,jd⟩=jb (I N p.1):=z i p q 1 _ A;have c2:K.cell? ⟨gb,ob+i*4+2,jd⟩=jb (I N 0):=z i p q 2 _ A;have c3:K.cell? ⟨gb,ob+i*4+3,jd⟩=jb (jh jd 0 0):=z i p q 3 _ A;have U1:=O (OV (d:=k) q);have a5:=O (List.mem_of_getElem? q);have bc:jj (gG k p=(decide ((eH p.2.toNat:T)<=(k:T))&&decide ((k:T)<(toN p.2.toNat:T)))):=O A;obtain⟨bn,V⟩:=J p.2;obtain⟨u,bd⟩:=J p.1;obtain⟨cv,Tz⟩:=J (gG k p);rw[<-V]at c0 bc;rw[<-bd]at c1;rw[<-Tz]at U1 bc;have YN:=O V;have Vf:=O bd;have bq:=O Tz;clear z SQ q V bd Tz
 go_upto_region 19 with fail
 clear c0 c1 c2 c3;have z:=jB K (jf #[I N bn,I N u,I N 0,jh jd 0 0] 54);have b:=ai K (jf #[I N bn,I N u,I N 0,jh jd 0 0] 54);obtain⟨V,hV⟩:=J K.heap.size;obtain⟨bT,hX⟩:=J (K.alloc (jf #[I N bn,I N u,I N 0,jh jd 0 0] 54));rw[<-hX]at z b⊢;rw[<-hV]at z⊢;clear hX hV;have bd:=ac bo b;have bs:=ac au b;have bu:=Z br b;have bv:=ac bl b;clear b bo au br bl;have b0:=ae (i:=0) z A;have b1:=ae (i:=1) z A;clear z
 go_wp2_with fail
 refine(G8 bn (k:ja) (by rw[YN];exact(Yc p a5).1) (by rw[YN];exact(Yc p a5).2) bT).mono ?_;rintro e Zm ⟨rfl,b⟩;rw[<-bc];replace b0:=aB b0 b;replace b1:=aB b1 b;have ce:=ac bd b;have cf:=ac bs b;have br:=Z bu b;have au:=ac bv b;clear b bd bs bu bv
 cases cv with
 |false=>
  clear b0 b1
  go_wp2_with fail
  exact⟨⟨i+1,by go_num,by omega,by rw[U1,<-a4];rfl,au⟩,by simp only[jq];omega⟩
 |true=>
 have bd:=O (bb.each p (by rw[<-Yz];exact a5) bq.symm);have c:¬(k:T)=a:=bd.1;have e1:((k:T)==a)=jl:=ah c;have e2:decide ((k:T)=a)=jl:=ah c;obtain⟨lv,b⟩:∃z:T,z=(fQ a.toNat k:ja):=⟨_,A⟩;obtain rfl:u=lv:=by rw[b,Vf];exact bd.2.1
 have e3:(u !=u)=jl:=by simp
 have e4:decide (u=u)=jg:=by simp
 obtain⟨cm,UE⟩:∃z:T,z=(oG (512+f) (512+k):ja):=⟨_,A⟩;have bl:jj (∀W,jt jk 15 #[I N a,I N (k:ja)] W λe w'=>e=js (jL #[I N cm,I N 0])/\W=w'):=O (λW=>by rw[U.1,UE];exact P8 f k U.2 ba W);have bo:jj (∀W,jt jk 16 #[I N cm] W λe w'=>e=js (jL #[I N u,I N 0])/\W=w'):=O (λW=>by
  have h1:=vG (512+f) (fQ f k) (bL U.2) (bL U.2) (Dm f k U.2 ba);have h2:cU (oG (512+f) (512+k))=fQ f k:=h1.1;have h3:=LA (oG (512+f) (512+k)) h1.2.1 h1.2.2 W;rw[h2]at h3;rw[UE,b,show a.toNat=f by rw[U.1];exact j0 f];exact h3)
 clear c b UE
 go_wp2_with fail
 refine(bl Zm).mono ?_;rintro e c ⟨rfl,rfl⟩
 go_wp2_with fail
 refine(bo Zm).mono ?_;rintro e c ⟨rfl,rfl⟩;clear bl bo
 rcases H with _|S
 ·obtain rfl:a2=jl:=a3.out
  go_wp2_with fail
  exact⟨⟨i+1,by go_num,by omega,by rw[U1,<-a4];go_num,au⟩,by simp only[jq];omega⟩
 obtain rfl:a2=jg:=a3.out;obtain⟨b,X⟩:=bI p a5 bq.symm S A;have d0:Zm.cell? ⟨ad,0,jd⟩=jb (I N S.k):=ae br.out (by rw[bm];rfl);obtain⟨yk,al⟩:=J S.k;rw[<-al]at d0 b;have e5:(yk==2)=jl:=ah b;have e6:decide (yk=2)=jl:=ah b;rw[<-YN]at X;subst X;have e7:((512+(k:T))!=512+(k:T))=jl:=by simp
 clear b al
 go_wp2_with fail
 exact⟨⟨i+1,by go_num,by omega,by rw[U1,<-a4];go_num,au⟩,by simp only[jq];omega⟩
def tq{H:Type}(a:jc (jc UInt8)):jO H:=.agg (a.map λz=>.lit (.string z))
theorem MP{enc:ju×je->H}{R:ql}{w:ji}{f:ja}{g:ja->jV}{j:jV}{i:ja}{e u:ju}{h:ja}{c:jc je}{a:jc (jc UInt8)}{p:jc lm}
 (k:R.underlying e=jb (.array h u)) (he:R.underlying u=jb .string) (l:R.cellsOf u=1) (m:R.cellsOf e=h)
 (n:DataW.trod enc R w f g j i e c=jb (tq a,p)):c=a.map λz=>Value.string ⟨z.toArray⟩:=by
 rcases i with _|i
 ·simp[DataW.trod]at n
 simp only[DataW.trod,k,l,m,Nat.mul_one]at n
 split at n
 ·rename_i C
  obtain⟨xs,d,o⟩:=xw.1 n;have base:xs.map (·.1)=a.map λz=>(DataW.lit (.string z):jO H):=by
   have:=jK Prod.fst o
   simpa [tq]using this
  have D:xs.length=h:=by simpa using Lib.mapM_length d
  have E:a.length=h:=by
   have:=jK qH base;simp at this;omega
  apply xx
  intro fuel
  by_cases q:fuel<h
  ·obtain⟨b,r,t⟩:=Lib.mapM_at d fuel fuel (by simp[q])
   obtain⟨s,v,rfl,-⟩:=DataW.trod_string he t;have x:c[fuel]?=jb (.string s):=by
    have:=jK (·[0]?) v
    simpa [qM,w9]using this
   have cs:(xs.map (·.1))[fuel]?=jb (DataW.lit (.string s.data.toList):jO H):=by simp[r]
   rw[base]at cs;simp only[oi,xw,DataW.lit.injEq,Lit.string.injEq]at cs;obtain⟨F,y,B⟩:=cs;rw[x,oi,y,B];simp
  rw[qY Y,qY (by simp;omega)]
 cases n
theorem Im{P:ql}{W:ji}{a:String}{b:jc (jc UInt8)}{c:jc (String×jO Unit)}{g:ja}{t e:ju}{n:ja}
 (d:P.globalNamed a=jb g) (f:(P.globals[g]?).map (·.type)=jb t) (i:P.underlying t=jb (.array n e)) (he:P.underlying e=jb .string) (j:P.cellsOf e=1) (k:P.cellsOf t=n)
 (h:laidMet P ((a,tq b)::c) W):W.var? P a=jb (b.map λz=>Value.string ⟨z.toArray⟩).toArray:=by
 obtain⟨s,⟨u,v,cs,fuel,p,q,l,m,o,r,_,_⟩,_⟩:=h;obtain rfl:=qf.inj (d.symm.trans l);obtain rfl:=qf.inj (f.symm.trans m);rw[o,<-MP i he j k r]
def td:jc (String×jO Unit):=[("chartroom/digest.start",Rows.laid_chartroom_digest_start),("chartroom/digest.numbers",Rows.laid_chartroom_digest_numbers),("bytes.ErrTooLarge",Rows.laid_bytes_ErrTooLarge),("chartroom/cipher.constants",Rows.laid_chartroom_cipher_constants),("chartroom/schedule.labels",Rows.laid_chartroom_schedule_labels)]
theorem Jy(h:laidMetH jk td w):kr w/\gy w:=by
 have i:(Rows.laid_chartroom_digest_start:jO Unit)=Lib.tabData .u32 (ff.map λx=>(x.toNat:T)):=by kernel_rfl
 have j:(Rows.laid_chartroom_digest_numbers:jO Unit)=Lib.tabData .u32 (kN.map λx=>(x.toNat:T)):=by kernel_rfl
 have k:(Rows.laid_chartroom_cipher_constants:jO Unit)=Lib.tabData .u32 [0x61707865,0x3320646e,0x79622d32,0x6b206574]:=by kernel_rfl
 have l:(Rows.laid_chartroom_schedule_labels:jO Unit)=tq [[105,110,105,116],[99,111,109,109,105,116],[99,104,105,108,100]]:=by kernel_rfl
 unfold td at h;rw[MakeChecks.laidMetH_plain _ _ _ ag,i,j,k,l]at h;have e:=h.tail;have f:=e.tail.tail;have m:=f.tail;have a:=Lib.tabIs_of_head (g:=3) ag ag underlying311 rv ag ag e;have b:=Lib.tabIs_of_head (g:=1) ag ag underlying280 rv ag ag h;have c:=Lib.tabIs_of_head (g:=6) ag ag underlying335 rv ag ag f;have d:=Im (g:=0) ag ag underlying229 underlying9 ag ag m;exact⟨⟨a,b,c⟩,⟨a,b⟩,d⟩
theorem door_met(os:Os)(args:jA je):laidMetH jk td ((World.doorLaid jk 3000 os).forCall (λ_ _=>0) ⟨#[],args,[]⟩).memory:=
 laidMetH_of_parts3 (fuel:=8) (laidMet_of_run' 8 ag ag) ag ag
section
open Go.RowKit Go.ChangeShapes Go.WideShapes Go.Deep
theorem FR(g o j:ja):(⟨g,o,jd⟩:jR).add j=⟨g,o+j,jd⟩:=by unfold Addr.add;split<;>simp_all
instance:Inhabited ak:=⟨rl⟩
instance:Inhabited aK:=⟨bP⟩
instance:Inhabited Bx:=⟨⟨0,0,0,[]⟩⟩
instance:Inhabited Wl:=⟨⟨0,0,[]⟩⟩
theorem L8(h:(Lit.int .u8 d).wf=jg):qB .u8 d=v8 (qE 8 d.toNat):=by
 have a:=bounds_u8 h;show _ =qB .u8 ((qE 8 d.toNat).toNat:T);rw[xf]
 congr 1
 omega
theorem DX[Inhabited α]{enc:ju×je->H}{W:ji}{k:ja}(hk:0<k){t e:ju}(R:jk.underlying t=jb (.slice e))(S:jk.cellsOf e=k)(b:α->jc je)(q:∀x,(b x).length=k)(w:α->Prop)
 (he:∀(fuel:ja) (cs:jc je) (x:jO H×jc lm),DataW.trod enc jk W 0 (λ_=>jg) jg fuel e cs=jb x->∃E,cs=b E/\w E)
 {fuel:ja} {v:je} {x:jO H×jc lm} (h:DataW.trod enc jk W 0 (λ_=>jg) jg fuel t [v]=jb x):
 ∃l:jc α,ay (·<W.heap.size) W v k l.length (l.flatMap b)/\(∀E∈l,w E)/\l.length<=jN:=by
 rcases open_slice R h with⟨y,-⟩|⟨a,c,z,m,n,D,P0,y,-,U,hm,V,-,B⟩
 ·obtain rfl:v=.slice jd 0 0:=ah y
  exact⟨[],⟨by simp,jd,0,A,jz _,λ_=>rfl,λh=>jD h ax⟩,λE h=>by simp at h,j4 _⟩
 obtain rfl:v=.slice (jb a) c z:=ah y;have a1:m=z:=ah V;have X:∀i,i<c->∃E:α,(∀j,j<k->W.cell? (a.add (i*k+j))=(b E)[j]?)/\w E:=λi d=>by
  obtain⟨p,f,r⟩:=B i Y;rw[S]at f;obtain⟨E,rfl,g⟩:=he _ _ _ r;obtain⟨-,-,o⟩:=World.cells?_some f;refine⟨E,λj s=>?_,g⟩;have:=o j s
  rwa [add_add]at this
 obtain⟨E,C⟩:=choose_lt X;have p:((jP c).map E).length=c:=by simp
 refine⟨(jP c).map E,⟨flat_length b k q _,jb a,z,by rw[p],by rw[p];exact U,(λe=>by cases e),λF=>?_⟩,λx B=>?_,by rw[p];omega⟩
 ·rw[p]at F
  obtain⟨g,o,aa⟩:=a;have ad:∃K,(b (E 0))[0]?=jb K:=⟨_,qe (by rw[q];exact hk)⟩;obtain⟨u0,al⟩:=ad;have u:=(C 0 F).1 0 hk;rw[al]at u;have au:aa=jd:=by
   simp[Addr.add]at u;exact xy u
  subst au;have hg:g<W.heap.size:=fb (by simpa [Addr.add]using u);refine⟨g,o,A,hg,λj K s=>?_⟩;have M:=(qu.1 s).1;rw[flat_length b k q,p]at M;have d:j/k<c:=Nat.div_lt_of_lt_mul (by rw[o4];exact M);have P:j%k<k:=Nat.mod_lt _ hk;have f:=flat_get b k q ((jP c).map E) (j/k) (j%k) (E (j/k)) (by simp[d]) P;have Q:j/k*k+j%k=j:=by rw[o4];exact wq j k
  rw[Q]at f;have r:=(C (j/k) d).1 (j%k) P;rw[Q,FR]at r;rw[r,<-f];exact s
 obtain⟨i,d,rfl⟩:=jC.1 B;exact(C i (qX.1 d)).2
theorem Ln{enc:ju×je->H}(f:jk.underlying e=jb (.array 32 5))(g:jk.cellsOf e=32){fuel:ja}{cs:jc je}{x:jO H×jc lm}(h:DataW.trod enc jk w 0 (λ_=>jg) jg fuel e cs=jb x):
 ∃kb:af,cs=kb.map v8/\kb.length=32:=by
 obtain⟨xs,m,-,-,j,p,k⟩:=DataW.trod_array f h;rw[g]at j;have l:jk.cellsOf 5=1:=by kernel_rfl
 have n:∀i,i<32->∃b:BitVec 8,cs[i]?=jb (v8 b):=λi c=>by
  have d:=k i c;rw[l,Nat.mul_one,qk Y,qe Y]at d;simp only[List.take_succ_cons,List.take_zero]at d;obtain⟨a,t,-,o⟩:=DataW.trod_int underlying5 d;injection t with t _
  exact⟨qE 8 a.toNat,by rw[qe Y,t,L8 o]⟩
 obtain⟨E,a⟩:=choose_lt n;refine⟨(jP 32).map E,?_,by simp⟩
 apply xx
 intro i
 by_cases c:i<32
 ·rw[a i c];simp[c]
 rw[qY Y];symm;simp;omega
theorem Nf{enc:ju×je->H}{x:jO H×jc lm}(h:DataW.trod enc jk w 0 (λ_=>jg) jg f 47 c=jb x):
 ∃e:ak,c=e.cells/\(IR e.k/\IR e.d/\IR e.p/\IR e.v/\IR e.c):=by
 obtain⟨xs,n,-,-,o,p,a⟩:=DataW.trod_struct rn h;have q:c.length=5:=o.trans ag;have r:jk.cellsOf 3=1:=by kernel_rfl
 match c,q,xs,p with
 |[v0,v1,v2,v3,v4],_,[y0,y1,y2,y3,y4],_=>
  have b:=a 0 _ A;have cs:=a 1 _ A;have d:=a 2 _ A;have fuel:=a 3 _ A;have g:=a 4 _ A;simp only[qZ,q4,q5,r]at b cs d fuel g;obtain⟨s,i,-,w0⟩:=DataW.trod_int j3 b;obtain⟨t,j,-,u⟩:=DataW.trod_int j3 cs;obtain⟨v,k,-,W⟩:=DataW.trod_int j3 d;obtain⟨y,l,-,z⟩:=DataW.trod_int j3 fuel;obtain⟨B,m,-,C⟩:=DataW.trod_int j3 g;simp at i j k l m;exact⟨⟨s,t,v,y,B⟩,by rw[i,j,k,l,m];rfl,IR.of w0,IR.of u,IR.of W,IR.of z,IR.of C⟩
theorem LH{enc:ju×je->H}{W:ji}{fuel:ja}{v:je}{x:jO H×jc lm}(h:DataW.trod enc jk W 0 (λ_=>jg) jg fuel 30 [v]=jb x):
 ∃l:jc ak,ay (·<W.heap.size) W v 5 l.length (l.flatMap ak.cells)/\(∀x∈l,IR x.k/\IR x.d/\IR x.p/\IR x.v/\IR x.c)/\l.length<=jN:=
 DX G underlying30 ag ak.cells (λ_=>rfl) _ (λ_ _ _ h=>Nf h) h
theorem Ri{enc:ju×je->H}{x:jO H×jc lm}(h:DataW.trod enc jk w 0 (λ_=>jg) jg f 43 c=jb x):
 ∃e:aK,c=e.cells/\(IR e.dev/\IR e.since/\IR e.ver):=by
 obtain⟨xs,n,-,-,j,k,a⟩:=DataW.trod_struct ri h;have l:c.length=3:=j.trans ag;have m:jk.cellsOf 3=1:=by kernel_rfl
 match c,l,xs,k with
 |[v0,v1,v2],_,[y0,y1,y2],_=>
  have b:=a 0 _ A;have cs:=a 1 _ A;have d:=a 2 _ A;simp only[qZ,q4,q5,m]at b cs d;obtain⟨o,fuel,-,w0⟩:=DataW.trod_int j3 b;obtain⟨p,g,-,q⟩:=DataW.trod_int j3 cs;obtain⟨r,i,-,s⟩:=DataW.trod_int j3 d;simp at fuel g i;exact⟨⟨o,p,r⟩,by rw[fuel,g,i];rfl,IR.of w0,IR.of q,IR.of s⟩
theorem Hd{enc:ju×je->H}{x:jO H×jc lm}(D:DataW.trod enc jk w 0 (λ_=>jg) jg f 27 [j]=jb x):
 ∃t,bp w j t/\t.length<=jN:=by
 obtain⟨E,n,l,-,p⟩:=trod_struct1 underlying27 D;have q:DataW.trod enc jk w 0 (λ_=>jg) jg n 25 [j]=jb E:=by
  have e:jk.cellsOf 25=1:=by kernel_rfl
  simpa [Value.cells,e]using p
 rcases open_slice_pairs underlying25 underlying148 ag rfl rfl ag ag q with⟨r,l⟩|⟨a,d,s,m,n',b,c,R,S,U,V,r,-,F,X,K,-,u⟩
 ·obtain rfl:j=.slice jd 0 0:=ah r
  exact⟨[],rP w,j4 _⟩
 obtain rfl:j=.slice (jb a) d s:=ah r;have aa:m=s:=ah K;have z:∀i,i<d->b i=.int .i64 (jq (b i))/\c i=.int .i64 (jq (c i))/\aH (jq (b i))/\aH (jq (c i)):=λi B=>by
  obtain⟨-,-,e,g⟩:=u i Y;obtain⟨x,h,-,fuel⟩:=DataW.trod_int j3 e;obtain⟨y,k,-,o⟩:=DataW.trod_int j3 g;have v:b i=.int .i64 x:=ah h;have W:c i=.int .i64 y:=ah k;rw[v,W];exact⟨A,A,fuel,o⟩
 have e:((jP d).map λi=>(jq (b i),jq (c i))).length=d:=by simp
 have M:∀fuel,fuel<d->((jP d).map λi=>(jq (b i),jq (c i))).getD fuel (0,0)=(jq (b fuel),jq (c fuel)):=λfuel k=>by
  simp[qW,k]
 refine⟨(jP d).map λi=>(jq (b i),jq (c i)),⟨jb a,s,by rw[e],by rw[e];exact F,λh=>(by cases h),λp=>?_,λx l=>?_⟩,by rw[e];omega⟩
 ·rw[e]at p
  obtain⟨g,o,P⟩:=a;have Q:P=jd:=by
   have h:=(u 0 Y).1
   simpa [Addr.add]using xy h
  subst Q;refine⟨g,o,A,λfuel k=>?_⟩;rw[e]at k;obtain⟨C,y,-,-⟩:=u fuel Y;obtain⟨v,W,-,-⟩:=z fuel k;rw[FR]at C y;rw[M fuel k,C,<-v];rw[<-qw]at y;exact⟨A,by rw[y,<-W]⟩
 obtain⟨i,B,rfl⟩:=jC.1 l;obtain⟨-,-,q,g⟩:=z i (qX.1 B);exact⟨q,g⟩
theorem O4{enc:ju×je->H}{d:jO H}{p:jc lm}(h:DataW.Trod enc jk w 0 (λ_=>jg) jg 29 j d p)(x:Value.okWide jk w .any f 29 j):
 ∃(g:aI) (vm vt:je),j=.agg (aG g vm vt).toArray/\cr w g vm vt/\(IR g.folder/\IR g.epoch)/\g.mem.length<=jN/\g.tree.length<=jN/\∀m∈g.mem,IR m.dev/\IR m.since/\IR m.ver:=by
 obtain⟨cs,rfl,ad⟩:=okWide_struct kl x;obtain⟨a⟩:=cs;obtain⟨fuel,i⟩:=h;have y:(Value.agg ⟨a⟩).cells.toList=a:=A;rw[y]at i;obtain⟨xs,n,-,-,z,B,b⟩:=DataW.trod_struct kl i;have al:a.length=36:=z.trans ag;have C:jk.cellsOf 3=1:=by kernel_rfl
 have v:jk.cellsOf 23=32:=by kernel_rfl
 have D:jk.cellsOf 24=1:=by kernel_rfl
 have F:jk.cellsOf 27=1:=by kernel_rfl
 match xs,B with
 |[y0,y1,y2,y3,y4],_=>
  have l:=b 0 _ A;have o:=b 1 _ A;have q:=b 2 _ A;have c:=b 3 _ A;have base:=b 4 _ A;simp only[qZ,q4,q5,C,v,D,F]at l o q c base;obtain⟨r,s,-,w0⟩:=DataW.trod_int j3 l;obtain⟨u,K,-,M⟩:=DataW.trod_int j3 o;obtain⟨kb,P,Q⟩:=Ln underlying23 v q;have R:(a.drop 34).take 1=[a[34]]:=by rw[qk Y];rfl
  have S:(a.drop 35).take 1=[a[35]]:=by rw[qk Y];rfl
  rw[R]at c;rw[S]at base;obtain⟨U,V,X,WW⟩:=DX (α:=aK) (k:=3) G underlying24 ag aK.cells (λ_=>rfl) _ (λ_ _ _ h=>Ri h) c;obtain⟨t,Tv,aa⟩:=Hd base;have e:a=.int .i64 r::.int .i64 u::(kb.map v8++[a[34],a[35]]):=by
   have W:a=a.take 1++((a.drop 1).take 1++((a.drop 2).take 32++a.drop 34)):=by
    have b1:a.drop 2=(a.drop 2).take 32++a.drop 34:=by
     have:=(qi 32 (a.drop 2)).symm
     rwa [xz]at this
    have b2:a.drop 1=(a.drop 1).take 1++a.drop 2:=by
     have:=(qi 1 (a.drop 1)).symm
     rwa [xz]at this
    rw[<-b1,<-b2,qi]
   have s1:a.drop 34=[a[34],a[35]]:=by
    rw[qk Y,qk Y,List.drop_eq_nil_of_le Y]
   simp only[List.drop_zero]at s;rw[s,K,P,s1]at W
   simpa using W
  refine⟨⟨r,u,kb,U,t⟩,a[34],a[35],by unfold aG;rw[<-e],⟨EK.At.of_sl (E:=EM) V,Tv,Q⟩,⟨IR.of w0,IR.of M⟩,WW,aa,X⟩
end
end Go.Proofs.YtdjkajodkjfjlaaGreatDoor
