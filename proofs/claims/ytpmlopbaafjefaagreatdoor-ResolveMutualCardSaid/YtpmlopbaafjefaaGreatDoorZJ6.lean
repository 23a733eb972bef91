/- Contracts of functions that the law reaches, part 6 of 10; no condition. -/
import Derived.Test.YtpmlopbaafjefaaGreatDoorZJ5
namespace Go.Proofs.YtpmlopbaafjefaaGreatDoor
set_option maxHeartbeats 64000000
set_option maxRecDepth 100000
set_option linter.unusedVariables false
set_option linter.unusedSimpArgs false
set_option linter.unusedSectionVars false
open Go.RowKit
open Go.Proofs.Tryz
open _root_ renaming rfl->I,Int->jb,Nat->jc,List->jg,Array->jq,if_pos->jr,absurd->jv,Bool->jC,if_neg->jE,Option->jF,BitVec->nv,congrArg->qk,decide_eq_true->ql,of_decide_eq_true->qL
open Go.RowKit renaming Hid->N,Below->jk
open _root_.Option renaming some->T,none->jf
open Go.Value renaming slice->A,agg->jh,pointer->jt,tuple->jI,string->qn
open Go.Obj renaming cells->ja
open Go.Value renaming int->jd
open Go.IntKind renaming i64->je
open _root_.Bool renaming true->ji,false->jn,and_eq_true->j7,or_eq_true->vi
open Go renaming World->jj,Value->jl,undef->jm,setRow_other->js,Calls->jB,Oper->jK,wp_region_noPanic->jL,TypeId->jM,execOp->jQ,wp_store_row->jR,setRow_heap->jT,wp_region_lit->jX,Operand->j0,wpList_load_row->j8,below_setRow->n0,Program->o1,wpList_plain->o8,wpOp_step->qa,bodyPost_ret_by->qj,callsIn_wide->qM,run_takeDeferred->qN,wp_store_mid->qP,callsIn_of_wp_marks->r5,bodyPost_ret->r7,results_cell_row->r8
open Go.Proofs.Tryz renaming prog->jo
open Go.World renaming size_alloc->jp,alloc_heap_new->jy,putObj_heap_other->nn,cell?_of_block->qv,ownsRow_nil->qV
open _root_.List renaming size_toArray->ju,length_map->jw,mem_singleton->jO,filterMap_cons->jP,getElem?_eq_some_iff->jU,map_nil->jY,length_cons->jZ,map_cons->j1,mem_of_getElem?->j3,getElem?_toArray->ms,map_append->mz,mem_append->oj,map_toArray->pz,getElem?_append_left->p6,mem_map->qc,nil_append->qd,length_append->qf,filterMap_nil->qh,filter_nil->qi,take_of_length_le->qs,find?_eq_none->qt,mem_cons_self->qw,mem_cons_of_mem->qx,length_nil->qy,push_toArray->qD,append_toArray->qE,cons_append->qF,append_nil->qG,length_take->qI,filter_cons_of_neg->qK,getElem?_map->qQ,append_assoc->qT,getElem?_cons_succ->qU,append_inj'->qW,setIfInBounds_toArray->qX,set_cons_zero->qY,set_cons_succ->qZ,mem_of_getLast?->q8,foldl_cons->rk,foldl_nil->rn,find?_cons_of_neg->rv,take_append_drop->r9,find?_append->sa,getElem?_eq_getElem->sh,pairwise_cons->sn,mem_append_left->sv,mem_append_right->sx,replicate->sy,tail_drop->sA,all_eq_true->sB,mergeSort->wi,any_eq_true->wq,nodup_cons->wv,mem_iff_getElem?->wx,pairwise_map->xa,mergeSort_singleton->xd,mergeSort_nil->xe
open Go.Ending renaming returned->jz
open _root_.Array renaming getElem?_eq_some_iff->jA,all_eq_true_iff_forall_mem->jS,size_append->j9,all_append->mb,replicate->qe,replicate_succ->qB,replicate_zero->qC,toArray_toList->qS
open _root_.Nat renaming le_trans->jD,le_refl->jG,lt_of_lt_of_le->jJ,zero_le->jN,le_of_eq->j5,le_succ->j6,add_assoc->qo,add_comm->qu,reduceAdd->qz,reduceSub->qA,le_add_right->q7,not_lt_zero->q9,lt_trichotomy->wt
open Go.Value renaming int->jH,oneCell'->j4,slice->qg,ownBlock->sq
open Go.Proofs renaming intOf->jV
open Go.Proofs.Tryz renaming underlying65->jW,underlying37->ob,underlying29->qO,underlying110->r4,underlying55->r6
open Go.NoPanic renaming normal->ow
open Go.RowKit.Below renaming refl->qb
open _root_.Int renaming eq_ofNat_of_zero_le->qH,toNat_natCast->qJ
variable{m:Act}{R:CQ}{o:Cmt}{i:Exit->Act->jj->Prop}{a:Grp}{r seed:LBy}{K P:Prop}{x:aR}{Q:j0}{C:jK}{p:jM}{H d:jb}{B M b:jc}{D E Ψ:jc->Prop}{t:jg (jb×jb)}{e:jg Cmt}{S:jg aR}{f:jg ar}{u:jg jl}{W w w':jj}{j:jl}{U:jq jK}
theorem M0(l:jg Cmt)(P:jg jc)(d:LBy)(k:d.length=32)(v:jl)(w:jj)(h:cH w v 32 P.length (kf l P))(F:P.length<=1000000):
 jB jo 116 #[v,jh (d.map v8).toArray] w λe w'=>∃r,e=jz (jd je r)/\m0 (λi=>decide (aG (aQ l i)=d)) P r/\jk w w w':=by
 obtain⟨-,q,c,rfl,H,-,p⟩:=h;have u:=O p;obtain⟨n,o⟩:=J P.length;have x:=O o;rw[<-o]at F H u⊢;obtain⟨a,f⟩:=J ((d.map v8).toArray);have K:=O f;have M:N (a.size=VD.n):=O (by rw[f,ju,jw,k];rfl);obtain⟨m,g⟩:=J (w.alloc (ja a 23));have b:N (jk w w m):=O (by rw[g];exact ap _ _);have Q:N (m.heap[w.heap.size]?=T (ja a VD.t (0,0))):=O (by rw[g];exact jy _ _);have s:=O g;have R:=O k;rw[<-f];clear o p f g k
 go_enter func116,ntmps116
 go_upto_region 1 with fail
 rw[<-s];clear s
 go_wp2_with fail
 go_loopw [8] (λi wr=>∃k:jc,i=jd je k/\k<=n/\N (∀y∈P.take k,decide (aG (aQ l y)=d)=jn)/\N (jk m m wr)) (λi _=>n-(jV i).toNat)
 case atStart=>exact⟨0,I,jN _,O ao,O (qb _ _)⟩
 obtain⟨k,rfl,hk,p,i⟩:=hrel
 by_cases S:k<n
 ·have V:=az ((k:jb)<(n:jb))
  have W:=az (k<n);obtain⟨e,he,B⟩:=dK (l:=P) (j:=k) (by rw[<-x];exact S);obtain⟨g,o,rfl,C⟩:=u Y;have D:N (wr.rangeAt g (o+k*32) ((aG (aQ l e)).map v8)):=O λt X ht=>by
   rw[qo];exact aC (C _ X (BC he ht)) (b.trans (i.mono b.size))
  have Wd:=O (av Q i);obtain⟨r,f⟩:=J (decide (aG (aQ l e)=d));obtain⟨U,s⟩:=J (((aG (aQ l e)).map v8).toArray);have ad:∀z,(Op.equalIn 10000 23 (jh a) (jh U)).run jo z=.ok r z:=by
   rw[K,s,f,show decide (aG (aQ l e)=d)=decide (d=aG (aQ l e))from decide_eq_decide.2 ⟨Eq.symm,Eq.symm⟩];exact λz=>nZ _ _ R.out (dS _) z
  have E:=O f;have HU:=O s;have Vp:=O B;have HE:=O he;have aa:N (((aG (aQ l e)).map v8).length=VD.n):=O (by rw[jw,dS];rfl);clear C he B f s
  go_upto_region 4 with fail
  refine jL ?_;refine fN (λf=>f.heap[w.heap.size]?=T (ja a VD.t (0,0))/\f.rangeAt g (o+k*32) ((aG (aQ l e)).map v8)) 6 (.t 0 (.t 1 (.t 2 (.t 3 (.t 4 (.t 5 .done)))))) af af af af L (λ_ _ _ _ h=>h) ⟨Wd,D⟩ ?_
  (refine cL (v:=jh a) I ai (λf s=>cM VD.hu VD.hd (by rw[M];exact VD.hi) I I s.1) ?_;refine G ?_)
  iterate 3 refine cr ?_
  (refine cL (v:=jh U) I ai (λf s=>by rw[HU];exact gm _ _ VD.t _ I _ _ I _ VD.d s.2 VD.hu VD.hd (by rw[aa];exact VD.hi)) ?_;refine G ?_)
  refine cr ?_;refine fa ?_;have f:=bX wr;obtain⟨C,s⟩:=J wr.drew;rw[<-s]at f⊢;have B:=aj i f;clear f s D
  rcases r with _|_
  ·go_wp2_with fail
   exact⟨⟨k+1,by go_num,by omega,O (by
    rw[Vp];intro y f
    rcases oj.1 f with f|f
    ·exact p y f
    rw[jO]at f;rw[f];exact E.symm),B⟩,by simp only[jV];omega⟩
  go_wp2_with fail
  go_ret;exact⟨_,I,.inr ⟨k,_,I,HE,E.symm,p⟩,b.trans (B.mono b.size)⟩
 have V:=aw ((k:jb)<(n:jb));have W:=aw (k<n);obtain rfl:k=n:=Y
 go_wp2_with fail
 go_ret;exact⟨_,I,.inl ⟨I,by have h:=p.out;rw[qs (by rw[<-x];exact jG _)]at h;exact h⟩,b.trans (i.mono b.size)⟩
def dz(a:jb)(b:LBy):jg jl:=jd je a::b.map v8
noncomputable def VF:VarT jo:=⟨59,33,(dz 0 cI).toArray,_,underlying59,I,by kernel_rfl,rfl,λ_=>by kernel_rfl⟩
theorem Bi{P:o1}{S:jj->Prop}{x y:bE}(d:da P U i S b (.o M x) m w)(e:da P U i S b (.o B y) m w):da P U i S b (.w M B x y) m w:=⟨d,e⟩
theorem M5(b:C.op=.build 29 #[(0,Q)])(c:m.eval Q=jd je d)(W:jj):
 (jQ m.eval C).run jo W=.ok (.value (jh (aD (aM d) (A jf 0 0) (A jf 0 0)).toArray)) W:=by
 have f:=uE (P:=jo) (t:=29) (zero:=jh VG.Z) (places:=#[(0,1),(1,1),(2,32),(34,1),(35,1)]) (λw=>by kernel_rfl) VG.hu (λw=>by kernel_rfl) (parts:=#[(0,jd je d)]) (X:=(aD (aM d) (A jf 0 0) (A jf 0 0)).toArray) af W;simp only[jQ,b,pz,j1,jY,c,Sem.run_bind,f,Result.andThen_ok,Sem.run_pure]
theorem m0.find{α:Type}{p:α->jC}{l:jg α}(h:m0 p l d):(d= -1/\l.find? p=jf)\/∃(k:jc) (x:α),d=k/\l[k]?=T x/\l.find? p=T x:=by
 rcases h with⟨b,a⟩|⟨k,x,b,a,c,r⟩
 ·exact .inl ⟨b,qt.2 λx e=>by rw[a x e];decide⟩
 refine .inr ⟨k,x,b,a,?_⟩;have g:=(jU.1 a).1;have e:l=l.take k++x::l.drop (k+1):=by
  rw[<-(jU.1 a).2,List.getElem_cons_drop,r9]
 rw[e,sa,qt.2 λy f=>by rw[r y f];decide];simp[c]
theorem Hd(a:jb)(w:jj):bH w (aM a) (A jf 0 0) (A jf 0 0):=⟨EK.At.nil,nJ w,I⟩
theorem yu(k:P)(h:P->K:=by intro k;refine cL (v:=?_) rfl ai (λW' hS=>?_) ?_;rotate_left;(have b1:=ah (i:=0) hS.1 rfl;clear hS;go_simp;with_reducible rfl);refine G ?_;exact k):K:=h k
theorem tV(k:P)(h:P->K:=by intro k;refine cL (v:=?_) rfl ai (λW' hS=>?_) ?_;rotate_left;(have b1:=ah (i:=2) hS.1 rfl;clear hS;go_simp;with_reducible rfl);refine G ?_;exact k):K:=h k
theorem uc(k:P)(h:P->K:=by intro k;refine cL (v:=?_) rfl ai (λW' hS=>?_) ?_;rotate_left;(have b1:=hS.2.2.2.1;clear hS;go_simp;with_reducible rfl);refine G ?_;exact k):K:=h k
theorem FE(Un:jg CP)(v1 v2 v3:jl)(x:jb)(UG:LBy)(i:UG.length=32)(w:jj)(r:iw (·<w.heap.size) w v1 v2 v3 Un)(V:∀p∈Un,cT (aP p.1))(W:bS w)(hn:Un.length<=1000):
 jB jo 53 #[jh #[v1,v2,v3],jh (dz x UG).toArray] w λe w'=>∃m o,e=jz (jI #[jh m,.bool o])/\m.size=VK.n/\m.all (·.oneCell')=ji/\
  (o=ji->∃k,m=(aL k).toArray/\KD (λb=>w.heap.size<=b/\b<w'.heap.size) Un w' k/\fC x UG (Un.map (·.1))=T k.cand)/\(o=jn->fC x UG (Un.map (·.1))=jf)/\jk w w w':=by
 obtain⟨l,u⟩:∃l:jg Cmt,l=Un.map (·.1):=⟨_,I⟩;obtain⟨PL,z⟩:=J (bV l l.length);have K:l.length=Un.length:=by rw[u,jw]
 have bm:PL.length<=1000:=by rw[z];have:=rZ l l.length;omega
 have R:=r.ids;have B:=r.at_;rw[<-u,<-K,<-z]at R B;obtain⟨p1,k1,rfl⟩:=r.list.form;obtain⟨p2,k2,rfl⟩:=R.form;obtain⟨p3,k3,rfl⟩:=B.form;have HL:=O r.list;have HI:=O R;have HA:=O B;have HE:=O V;have HT:=O W;have bn:=O u;have Wp:=O z;have bh:=O i;obtain⟨n,C⟩:=J Un.length;obtain⟨F,D⟩:=J PL.length;have Zx:=O C;have bo:=O D;have VA:N (l.length=n):=O (K.trans C.symm);rw[<-C]at hn⊢;rw[<-D]at bm HI HA⊢;rw[<-u];obtain⟨FA,y⟩:=J ((dz x UG).toArray);have bA:N (FA.size=VF.n):=O (by rw[y,ju];unfold dz;rw[jZ,jw,i];rfl);have bp:N (FA[0]?=T (jd je x)):=O (by rw[y];rfl);have a5:N (∀(j:jc) d,(UG.map v8)[j]?=T d->FA[1+j]?=T d):=O λj d hj=>by
  rw[y,qu]
  simpa [dz]using hj
 have Yo:N ((UG.map v8).length=VD.n):=O (by rw[jw,i];rfl);rw[<-y];obtain⟨M,f⟩:=J w.heap.size;have HM:=O f;obtain⟨W0,c⟩:=J (((w.alloc (ja #[A p1 n k1,A p2 F k2,A p3 F k3] 114)).alloc (ja FA 59)).alloc (ja VK.Z VK.t));have P:=ap w (ja #[A p1 n k1,A p2 F k2,A p3 F k3] 114);have Q:=P.trans ((ap (w.alloc (ja #[A p1 n k1,A p2 F k2,A p3 F k3] 114)) (ja FA 59)).mono P.size);have E:=ap ((w.alloc (ja #[A p1 n k1,A p2 F k2,A p3 F k3] 114)).alloc (ja FA 59)) (ja VK.Z VK.t);have S:N (W0.heap[M]?=T (ja #[A p1 n k1,A p2 F k2,A p3 F k3] 114 (0,0))):=O (by rw[c,f];exact av (av (jy w _) (ap _ _)) E);have U:N (W0.heap[M+1]?=T (ja FA VF.t (0,0))):=O (by
  have h:=jy (w.alloc (ja #[A p1 n k1,A p2 F k2,A p3 F k3] 114)) (ja FA 59);rw[jp]at h;rw[c,f];exact av h E)
 have X:N (W0.heap[M+2]?=T (ja VK.Z VK.t (0,0))):=O (by
  have h:=jy ((w.alloc (ja #[A p1 n k1,A p2 F k2,A p3 F k3] 114)).alloc (ja FA 59)) (ja VK.Z VK.t);rw[jp,jp]at h;rw[c,f];exact h)
 have Us:N (jk w w W0):=O (by rw[c];exact Q.trans (E.mono Q.size));have bq:N (W0.heap.size=M+3):=O (by rw[c,f,jp,jp,jp]);have HW:=O c;have aa:N (W0.rangeAt (M+1) 1 (UG.map v8)):=O λt d q=>ah U (a5 t d q)
 have H:=M0 l PL UG i (A p2 PL.length k2) W0 ((R.keep λg hg=>Us.block g hg).row) Y;rw[<-D]at H;obtain⟨TF,g⟩:=J ((UG.map v8).toArray);rw[<-g]at H;have au:=O g;have ad:=O H;clear g;clear H P Q E c f y C D u K z R B r V W i
 go_enter func53,ntmps53
 go_upto_region 1 with(first|(refine VK.made I I (G ?_)))
 rw[<-HW];simp only[jp];rw[show w.heap.size+1+1=w.heap.size+2 from I,<-HM];clear HW;have g:=ah (i:=1) S I
 go_upto_region 2 with(first|(refine VD.load ai I I (UG.map v8) Yo aa ?_;rw[<-au];refine G ?_))
 refine ad.mono ?_;rintro e x1 ⟨r,rfl,f,c⟩;have HB:=O c;have V:N (jk w w x1):=aj Us c;have H:=ae S c;have K:=ae U c;have y:=ae X c;have br:=f.find;clear f c ad aa S U X g
 rcases br with⟨rfl,c⟩|⟨kk,i,rfl,g,c⟩
 ·have HF:N (fC x UG l=jf):=O (by unfold fC;rw[<-Wp,c];rfl)
  clear c
  go_wp2_with (first|(refine VK.loadA ai I I VK.Z VK.hZ y (G ?_))|(refine VK.store I I I VK.Z I VK.hZ af y VK.hZ ?_;rw[setRow_self _ _ _ _ _ y.out];refine G ?_))
  refine qj (fP I _ _ (M+2) VK.t VK.Z (0,0) _ I y r4 I (by rw[VK.hZ];exact VK.hi)) I ?_;exact⟨_,_,I,VK.hZ,by kernel_rfl,(λh=>by cases h),(λ_=>HF),V⟩
 have HF:N (fC x UG l=if cC (aM x) (aQ l i)=0 then T ⟨i,aQ l i,UG,0,aB (aM x) (aQ l i)⟩else jf):=O (by unfold fC;rw[<-Wp,c];rfl);have bB:kk<F:=by rw[bo];exact(jU.1 g).1
 have bs:i<n:=by
  have h:=j3 g;rw[Wp]at h;have R:=(oW.1 h).1;rw[VA]at R;exact R
 have hd:decide ((kk:jb)<0)=jn:=by simp<;>omega
 have bC:=az (kk<F);have hd2:=az (i<n);obtain⟨ga,oa,ka,e3,D,-,E⟩:=HA.at1 Y;injection e3 with e1 z e2
 subst e1;subst e2;clear z;obtain⟨⟨u,qm⟩,f⟩:∃p,Un[i]?=T p:=⟨_,sh (by rw[<-Zx];exact bs)⟩;obtain⟨W,ol,kl,e5,S,-,-,U⟩:=HL.elem f;injection e5 with e1 z e2
 subst e1;subst e2;clear z;have z:=j3 f;have P:N (x1.cell? ⟨ga,oa+kk,jf⟩=T (jd je (i:jc))):=O (aC (E kk _ (by unfold iX;rw[qQ,g];rfl)) V);have Q:N (x1.rangeAt W (ol+i*73) (aF u qm)):=O λj d hj=>aC (U j d hj) V
 have HQ:=O (HL.all _ z);have bi:=O (HE _ z);have bk:=O f;have a6:N (aQ l i=u):=O (by unfold aQ;rw[bn];simp[List.getD,f]);have Vx:N ((aF u qm).length=VC.n):=O (dl u qm HQ.plen HQ.clen);obtain⟨C,B⟩:=J ((aF u qm).toArray);have Yy:=O B;have VE:N (C.size=VC.n):=O (by rw[B,ju];exact Vx);obtain⟨G0,X⟩:=J ((aD (aM x) (A jf 0 0) (A jf 0 0)).toArray);have ba:=O X;have ay:N (cC (aM x) (aQ l i)=cC (aM x) u/\aB (aM x) (aQ l i)=aB (aM x) u):=O (by rw[a6];exact⟨I,I⟩);have Vb:N (ga<M/\W<M):=O ⟨by rw[HM];exact D,by rw[HM];exact S⟩;clear B X z f U E D S c g
 go_upto_region 4 with fail
 refine jL ?_;refine fN (λg=>g.heap[M]?=T (ja #[A (T ⟨W,ol,jf⟩) n k1,A p2 F k2,A (T ⟨ga,oa,jf⟩) F k3] 114 (0,0))/\g.heap[M+1]?=T (ja FA VF.t (0,0))/\g.heap[M+2]?=T (ja VK.Z VK.t (0,0))/\g.cell? ⟨ga,oa+kk,jf⟩=T (jd je (i:jc))/\g.rangeAt W (ol+i*73) (aF u qm)) 19
  (.t 0 (.t 1 (.t 2 (.t 3 (.t 4 (.t 5 (.t 6 (.t 7 (.t 8 (.t 9 (.t 10 (.t 11 (.w 12 16 (.t 13 (.t 14 (.t 15 (.o 16 (.o 17 (.t 18 .done)))))) (.o 12 (.t 13 (.t 14 (.t 15 (.o 17 (.t 18 .done))))))))))))))))))) af af af af L (λ_ _ _ _ h=>h) ⟨H,K,y,P,Q⟩ ?_
 have c:=bX x1;obtain⟨x2,hx⟩:=J x1.drew;rw[<-hx]at c⊢;replace HB:=aj HB c;replace V:=aj V c;replace H:=ae H c;replace K:=ae K c;replace y:=ae y c;replace P:=O (aC P c);replace Q:N (x2.rangeAt W (ol+i*73) (aF u qm)):=O (λt d q=>aC (Q t d q) c);have a4:N (M+3<=x2.heap.size):=O (by rw[<-bq];exact HB.size);clear hx c;refine cr ?_
 (refine cL (v:=?_) I ai (λg S=>?_) ?_;rotate_left;(have f:=ah (i:=0) S.2.1 bp;clear S;go_simp;with_reducible rfl);refine G ?_)
 (refine cL (v:=jh G0) I ai (λg S=>by rw[ba];exact M5 I I g) ?_;refine G ?_)
 refine cr ?_;refine yu ?_;refine cr ?_;refine tV ?_;iterate 2 refine cr ?_
 refine uc ?_;refine cr ?_
 (refine cL (v:=jh C) I ai (λg S=>by rw[Yy];exact gm _ _ VC.t _ I _ _ I _ VC.d S.2.2.2.2 VC.hu VC.hd (by rw[Vx];exact VC.hi)) ?_;refine G ?_)
 refine Bi ?_ ?_
 ·refine cY I (λK' B=>?_)
  go_simp;have hN:=A5 (aM x) (A jf 0 0) (A jf 0 0) u qm x2 (Hd x _) (HQ.below V) bi (HT.below V) (jN _) (jN _);rw[<-ba,<-Yy]at hN;refine hN.mono ?_;clear hN;rintro e x3 ⟨X,er,rfl,hN⟩;have z:=O hN;clear hN;have U:=O z.bel;refine B _ _ ⟨av H (U),av K (U),av y (U),aC P (U),λt d q=>aC (Q t d q) (U)⟩ λ_=>?_
  clear B;refine G ?_;iterate 3 refine cr ?_
  refine cY I (λK' B=>?_);rw[jr ai];refine gM VG.t I VG.Z VG.hal ?_;have f:=U.trans ((ap x3 (ja VG.Z VG.t)).mono U.size);refine B _ _ ⟨av H (f),av K (f),av y (f),aC P (f),λt d q=>aC (Q t d q) (f)⟩ λ_=>?_
  clear B f;refine G ?_;refine cY I (λK' B=>?_);rw[jr ai];refine jR VG.t _ _ I x3.heap.size X I I VG.t VG.Z (jy x3 _) (by rw[z.sz];exact VG.hi) (VG.hZ.trans z.sz.symm) z.one ?_;rw[yj];obtain⟨x5,b7,hx,f,Wk,aa⟩:=cX x3 X VG.t;rw[<-hx,<-f];have ZS:N (M+3<=b7):=O (by rw[f];exact jD a4 U.size);have Vv:N (er=0->∃D E,X=(aD (aB (aM x) u) D E).toArray/\dN (λk=>M+3<=k/\k<x5.heap.size) x5 (aB (aM x) u) D E):=O λh=>by
   obtain⟨D,E,e1,R⟩:=z.new h;exact⟨D,E,e1,(R.below aa).mono λb f=>⟨jD a4 f.1,f.2⟩⟩
  have c:=U.trans (aa.mono U.size);refine B _ _ ⟨av H (c),av K (c),av y (c),aC P (c),λt d q=>aC (Q t d q) (c)⟩ λ_=>?_
  replace HB:=aj HB c;replace V:=aj V c;replace H:=ae H c;replace K:=ae K c;replace y:=ae y c;replace P:=O (aC P c);replace Q:N (x5.rangeAt W (ol+i*73) (aF u qm)):=O (λt d q=>aC (Q t d q) c);clear c;clear B hx f aa;refine G ?_;refine cr ?_;refine fa ?_;obtain⟨o,ho⟩:=J (decide (er=0));have a1:=O ho;have bu:(er==0)=o:=by rw[ho];by_cases h:er=0<;>simp[h]
  have bv:decide (er=0)=o:=ho.symm;clear ho
  go_upto_region 5 with fail
  refine jL ?_;refine fN (λg=>g.heap[M]?=T (ja #[A (T ⟨W,ol,jf⟩) n k1,A p2 F k2,A (T ⟨ga,oa,jf⟩) F k3] 114 (0,0))/\g.heap[M+1]?=T (ja FA VF.t (0,0))/\g.heap[b7]?=T (ja X VG.t (0,0))/\g.cell? ⟨ga,oa+kk,jf⟩=T (jd je (i:jc))/\g.rangeAt W (ol+i*73) (aF u qm)) 22
   (.t 0 (.t 1 (.t 2 (.t 3 (.t 4 (.t 5 (.t 6 (.t 7 (.t 8 (.t 9 (.t 10 (.t 11 (.t 12 (.t 13 (.t 14 (.t 15 (.t 16 (.t 17 (.t 18 (.t 19 (.o 20 (.t 21 .done)))))))))))))))))))))) af af af af L (λ_ _ _ _ h=>h) ⟨H,K,Wk,P,Q⟩ ?_
  have c:=bX x5;obtain⟨x6,hx⟩:=J x5.drew;rw[<-hx]at c⊢;replace V:=aj V c;replace H:=ae H c;replace K:=ae K c;replace y:=ae y c;replace Wk:=ae Wk c;replace P:=O (aC P c);replace Q:N (x6.rangeAt W (ol+i*73) (aF u qm)):=O (λt d q=>aC (Q t d q) c);have bb:=O c;clear hx c;refine cr ?_;refine tV ?_;iterate 2 refine cr ?_
  refine uc ?_;refine cr ?_;refine yu ?_;refine cr ?_;refine tV ?_;iterate 2 refine cr ?_
  refine uc ?_;refine cr ?_
  (refine cL (v:=jh C) I ai (λg S=>by rw[Yy];exact gm _ _ VC.t _ I _ _ I _ VC.d S.2.2.2.2 VC.hu VC.hd (by rw[Vx];exact VC.hi)) ?_;refine G ?_)
  refine cr ?_
  (refine cL (v:=jh TF) I ai (λg S=>by rw[au];exact gm _ _ VD.t _ I (M+1) 1 I _ VD.d (λt d q=>ah S.2.1 (a5 t d q)) VD.hu VD.hd (by rw[Yo];exact VD.hi)) ?_;refine G ?_)
  (refine cL (v:=jh X) I ai (λg S=>cM VG.hu VG.hd (by rw[z.sz];exact VG.hi) I I S.2.2.1) ?_;refine G ?_)
  have Zo:N (TF.size=32):=O (by rw[au,ju];exact Yo);obtain⟨m,hY⟩:=J ((#[jH .i64 (i:jc)]++C++TF++ #[jH .i64 (0:jb)]++X))
  (refine cL (v:=jh m) I ai (λg S=>by rw[hY];exact zy (i:=(i:jc)) (s:=0) (C:=C) (I0:=TF) (G0:=X) VE Zo z.sz I af g) ?_;refine G ?_)
  have Yq:N (m.size=VK.n):=O (by rw[hY,j9,j9,j9,j9,VE,Zo,z.sz];rfl);have a2:N (m.all (·.oneCell')=ji):=O (by
   have We:C.all (·.oneCell')=ji:=by rw[Yy,jS];exact λd hu=>nD HQ d (ak hu)
   have U8:TF.all (·.oneCell')=ji:=by rw[au];exact ff _
   rw[hY,mb,mb,mb,mb,z.one,We,U8];simp[j4])
  have bc:=O hY;clear hY;iterate 2 refine cr ?_
  refine cY I (λK' B=>?_);rw[jr ai];refine jR VK.t _ _ I (M+2) m I I VK.t VK.Z y.out (by rw[Yq];exact VK.hi) (VK.hZ.trans Yq.symm) a2 ?_;have aa:∀b,b≠M+2->(x6.setRow (M+2) m).heap[b]?=x6.heap[b]?:=λb f=>js _ _ _ _ f
  have ax:jk w w (x6.setRow (M+2) m):=iS V.out (by rw[<-HM];omega) m;have ad:(x6.setRow (M+2) m).heap.size=x6.heap.size:=setRow_size _ _ _;have a3:N ((x6.setRow (M+2) m).heap[M+2]?=T (ja m VK.t (0,0))):=O (jT _ _ _ _ _ _ y.out);generalize x6.setRow (M+2) m=x7 at aa ax ad a3⊢;refine B _ _ ⟨(aa M Y).trans H,(aa (M+1) Y).trans K,(aa b7 (aI ZS)).trans Wk,(qv (a:=⟨ga,oa+kk,jf⟩) (aa ga (cV Vb.1))).trans P,λt d q=>(qv (a:=⟨W,ol+i*73+t,jf⟩) (aa W (cV Vb.2))).trans (Q t d q)⟩ λ_=>?_
  have bd:N (er=0->∃D E,X=(aD (aB (aM x) u) D E).toArray/\dN (λk=>M+3<=k/\k<x7.heap.size) x7 (aB (aM x) u) D E):=O λh=>by
   obtain⟨D,E,e1,R⟩:=Vv h;exact⟨D,E,e1,((R.below bb).keep λb f=>aa b Y).mono λb f=>⟨f.1,by rw[ad];exact f.2⟩⟩
  have bf:=O ax;clear B aa ad ax Vv;refine G ?_;refine cr ?_;refine fa ?_
  go_wp2_with fail
  refine qj (fP I _ _ (M+2) VK.t m (0,0) _ I a3 r4 I (by rw[Yq];exact VK.hi)) I ?_;refine⟨m,o,I,Yq,a2,λh=>?_,λh=>?_,bf⟩
  ·have h0:er=0:=qL (a1.out▸h)
   obtain⟨D,E,e1,R⟩:=bd h0;refine⟨⟨i,(u,qm),UG,0,aB (aM x) u,D,E⟩,?_,KD.of bk (R.mono λb f=>⟨by rw[<-HM];omega,f.2⟩) bh,?_⟩
   ·rw[bc,Yy,au,e1,<-Ao,qS]
   rw[HF,ay.1,ay.2,jr (z.eq.symm.trans h0),a6];exact qk T CK.cand_of.symm
  have h0:¬er=0:=of_decide_eq_false (a1.out▸h);rw[HF,ay.1,jE (λe=>h0 (z.eq.trans e))]
 refine cY I (λK' B=>?_);rw[jr ai];refine gM VG.t I VG.Z VG.hal ?_;obtain⟨x3,b7,hx,f,bw,bg⟩:=cX x2 VG.Z VG.t;rw[<-hx,<-f];have UO:N (b7=x2.heap.size/\x3.heap.size=b7+1):=O ⟨f,by rw[hx,f,jp]⟩;have U:=O bg;have bl:=aj V bg;refine B _ _ ⟨av H (U),av K (U),av y (U),aC P (U),λt d q=>aC (Q t d q) (U)⟩ λ_=>?_
 clear B hx f bg;refine G ?_;refine cY I (λK' B=>?_);go_simp;have hN:=A5 (aM x) (A jf 0 0) (A jf 0 0) u qm x3 (Hd x _) (HQ.below bl) bi (HT.below bl) (jN _) (jN _);rw[<-ba,<-Yy]at hN;refine hN.mono ?_;clear hN;rintro e x4 ⟨X,er,rfl,hN⟩;have z:=O hN;clear hN;have UB:=O (U.trans (z.bel.mono U.size));have bg:=O (av bw z.bel);refine B _ _ ⟨av H (UB),av K (UB),av y (UB),aC P (UB),λt d q=>aC (Q t d q) (UB)⟩ λ_=>?_
 clear B;refine G ?_;iterate 3 refine cr ?_
 refine cY I (λK' B=>?_);rw[jr ai];refine jR VG.t _ _ I b7 X I I VG.t VG.Z bg.out (by rw[z.sz];exact VG.hi) (VG.hZ.trans z.sz.symm) z.one ?_;have Wk:N ((x4.setRow b7 X).heap[b7]?=T (ja X VG.t (0,0))):=O (jT _ _ _ _ _ _ bg.out);have c:jk x2 x2 (x4.setRow b7 X):=iS UB.out (by rw[UO.1];exact jG _) X;have YF:∀b,x3.heap.size<=b->(x4.setRow b7 X).heap[b]?=x4.heap[b]?:=λb f=>js _ _ _ _ (cV UO.2)
 have ad:(x4.setRow b7 X).heap.size=x4.heap.size:=setRow_size _ _ _;generalize x4.setRow b7 X=x5 at Wk c YF ad⊢;have ZS:N (M+3<=b7):=O (by rw[UO.1];exact a4);have Vv:N (er=0->∃D E,X=(aD (aB (aM x) u) D E).toArray/\dN (λk=>M+3<=k/\k<x5.heap.size) x5 (aB (aM x) u) D E):=O λh=>by
  obtain⟨D,E,e1,R⟩:=z.new h;exact⟨D,E,e1,(R.keep λb f=>YF b f.1).mono λb f=>⟨jD a4 (jD U.size f.1),by rw[ad];exact f.2⟩⟩
 refine B _ _ ⟨av H (c),av K (c),av y (c),aC P (c),λt d q=>aC (Q t d q) (c)⟩ λ_=>?_
 replace HB:=aj HB c;replace V:=aj V c;replace H:=ae H c;replace K:=ae K c;replace y:=ae y c;replace P:=O (aC P c);replace Q:N (x5.rangeAt W (ol+i*73) (aF u qm)):=O (λt d q=>aC (Q t d q) c);clear c;clear B YF ad;refine G ?_;refine cr ?_;refine fa ?_;obtain⟨o,ho⟩:=J (decide (er=0));have a1:=O ho;have bu:(er==0)=o:=by rw[ho];by_cases h:er=0<;>simp[h]
 have bv:decide (er=0)=o:=ho.symm;clear ho
 go_upto_region 5 with fail
 refine jL ?_;refine fN (λg=>g.heap[M]?=T (ja #[A (T ⟨W,ol,jf⟩) n k1,A p2 F k2,A (T ⟨ga,oa,jf⟩) F k3] 114 (0,0))/\g.heap[M+1]?=T (ja FA VF.t (0,0))/\g.heap[b7]?=T (ja X VG.t (0,0))/\g.cell? ⟨ga,oa+kk,jf⟩=T (jd je (i:jc))/\g.rangeAt W (ol+i*73) (aF u qm)) 22
  (.t 0 (.t 1 (.t 2 (.t 3 (.t 4 (.t 5 (.t 6 (.t 7 (.t 8 (.t 9 (.t 10 (.t 11 (.t 12 (.t 13 (.t 14 (.t 15 (.t 16 (.t 17 (.t 18 (.t 19 (.o 20 (.t 21 .done)))))))))))))))))))))) af af af af L (λ_ _ _ _ h=>h) ⟨H,K,Wk,P,Q⟩ ?_
 have c:=bX x5;obtain⟨x6,hx⟩:=J x5.drew;rw[<-hx]at c⊢;replace V:=aj V c;replace H:=ae H c;replace K:=ae K c;replace y:=ae y c;replace Wk:=ae Wk c;replace P:=O (aC P c);replace Q:N (x6.rangeAt W (ol+i*73) (aF u qm)):=O (λt d q=>aC (Q t d q) c);have bb:=O c;clear hx c;refine cr ?_;refine tV ?_;iterate 2 refine cr ?_
 refine uc ?_;refine cr ?_;refine yu ?_;refine cr ?_;refine tV ?_;iterate 2 refine cr ?_
 refine uc ?_;refine cr ?_
 (refine cL (v:=jh C) I ai (λg S=>by rw[Yy];exact gm _ _ VC.t _ I _ _ I _ VC.d S.2.2.2.2 VC.hu VC.hd (by rw[Vx];exact VC.hi)) ?_;refine G ?_)
 refine cr ?_
 (refine cL (v:=jh TF) I ai (λg S=>by rw[au];exact gm _ _ VD.t _ I (M+1) 1 I _ VD.d (λt d q=>ah S.2.1 (a5 t d q)) VD.hu VD.hd (by rw[Yo];exact VD.hi)) ?_;refine G ?_)
 (refine cL (v:=jh X) I ai (λg S=>cM VG.hu VG.hd (by rw[z.sz];exact VG.hi) I I S.2.2.1) ?_;refine G ?_)
 have Zo:N (TF.size=32):=O (by rw[au,ju];exact Yo);obtain⟨m,hY⟩:=J ((#[jH .i64 (i:jc)]++C++TF++ #[jH .i64 (0:jb)]++X))
 (refine cL (v:=jh m) I ai (λg S=>by rw[hY];exact zy (i:=(i:jc)) (s:=0) (C:=C) (I0:=TF) (G0:=X) VE Zo z.sz I af g) ?_;refine G ?_)
 have Yq:N (m.size=VK.n):=O (by rw[hY,j9,j9,j9,j9,VE,Zo,z.sz];rfl);have a2:N (m.all (·.oneCell')=ji):=O (by
  have We:C.all (·.oneCell')=ji:=by rw[Yy,jS];exact λd hu=>nD HQ d (ak hu)
  have U8:TF.all (·.oneCell')=ji:=by rw[au];exact ff _
  rw[hY,mb,mb,mb,mb,z.one,We,U8];simp[j4])
 have bc:=O hY;clear hY;iterate 2 refine cr ?_
 refine cY I (λK' B=>?_);rw[jr ai];refine jR VK.t _ _ I (M+2) m I I VK.t VK.Z y.out (by rw[Yq];exact VK.hi) (VK.hZ.trans Yq.symm) a2 ?_;have aa:∀b,b≠M+2->(x6.setRow (M+2) m).heap[b]?=x6.heap[b]?:=λb f=>js _ _ _ _ f
 have ax:jk w w (x6.setRow (M+2) m):=iS V.out (by rw[<-HM];omega) m;have ad:(x6.setRow (M+2) m).heap.size=x6.heap.size:=setRow_size _ _ _;have a3:N ((x6.setRow (M+2) m).heap[M+2]?=T (ja m VK.t (0,0))):=O (jT _ _ _ _ _ _ y.out);generalize x6.setRow (M+2) m=x7 at aa ax ad a3⊢;refine B _ _ ⟨(aa M Y).trans H,(aa (M+1) Y).trans K,(aa b7 (aI ZS)).trans Wk,(qv (a:=⟨ga,oa+kk,jf⟩) (aa ga (cV Vb.1))).trans P,λt d q=>(qv (a:=⟨W,ol+i*73+t,jf⟩) (aa W (cV Vb.2))).trans (Q t d q)⟩ λ_=>?_
 have bd:N (er=0->∃D E,X=(aD (aB (aM x) u) D E).toArray/\dN (λk=>M+3<=k/\k<x7.heap.size) x7 (aB (aM x) u) D E):=O λh=>by
  obtain⟨D,E,e1,R⟩:=Vv h;exact⟨D,E,e1,((R.below bb).keep λb f=>aa b Y).mono λb f=>⟨f.1,by rw[ad];exact f.2⟩⟩
 have bf:=O ax;clear B aa ad ax Vv;refine G ?_;refine cr ?_;refine fa ?_
 go_wp2_with fail
 refine qj (fP I _ _ (M+2) VK.t m (0,0) _ I a3 r4 I (by rw[Yq];exact VK.hi)) I ?_;refine⟨m,o,I,Yq,a2,λh=>?_,λh=>?_,bf⟩
 ·have h0:er=0:=qL (a1.out▸h)
  obtain⟨D,E,e1,R⟩:=bd h0;refine⟨⟨i,(u,qm),UG,0,aB (aM x) u,D,E⟩,?_,KD.of bk (R.mono λb f=>⟨by rw[<-HM];omega,f.2⟩) bh,?_⟩
  ·rw[bc,Yy,au,e1,<-Ao,qS]
  rw[HF,ay.1,ay.2,jr (z.eq.symm.trans h0),a6];exact qk T CK.cand_of.symm
 have h0:¬er=0:=of_decide_eq_false (a1.out▸h);rw[HF,ay.1,jE (λe=>h0 (z.eq.trans e))]
theorem Cd:∀(l:jg jb) (a b:jb),l.Pairwise (·<·)->(∀x∈l,a<=x/\x<=b)->(l.length:jb)<=max 0 (b-a+1)
 |[],a,b,_,_=>by simp;omega
 |x::l,a,b,h,c=>by
  rw[sn]at h;have e:=c x (qw ..);have f:=Cd l (x+1) b h.2 λy d=>⟨by have:=h.1 y d;omega,(c y (qx _ d)).2⟩
  rw[jZ];omega
theorem nN(h:dC a):a.mem.length<=512/\a.tree.length<=1023:=by
 constructor
 ·have g:=qk List.length h.dev
  rw[jw]at g;have:=Gt a.tree;omega
 have b:=lP h.tree;have g:=Cd (a.tree.map (·.1)) 1 1023 b.1.keys λx c=>by
  obtain⟨e,he,rfl⟩:=qc.1 c;exact⟨(b.2 e he).1,(b.2 e he).2.1⟩
 rw[jw]at g;omega
section
variable{b:CK}{e:jl}
section
variable {P:o1} {F:Fence} {nF:jc} {ops:jq jK} {rest:jg jK} {o:jK} {a:Act} {w:jj} {Q:Exit->Act->jj->Prop} (V:VarT P)
theorem VarT.madeI(d:o.guard=jf)(b:o.op=.alloc V.t)(h:wpListIn F nF P ops Q rest (a.put o.dst (jt (T ⟨w,0,jf⟩))) (w.alloc (ja V.Z V.t))):wpListIn F nF P ops Q (o::rest) a w:=by
 refine wpListIn_plain d λg e=>?_
 unfold Oper.wpIn;refine⟨by simp[Oper.about,b],?_⟩;rw[Oper.semAt_plain F _ _ (by rw[b];intro c f;cases f)];simp only[jQ,b,Sem.run_bind,V.hal,Result.andThen_ok,Sem.run_pure];exact e _ _ h
theorem VarT.storeI(d:o.guard=jf){x y:j0}(e:o.op=.store V.t x y){g:jc}(f:a.eval x=jt (T ⟨g,0,jf⟩))(C:jq jl)(i:a.eval y=jh C)(c:C.size=V.n)(j:C.all (·.oneCell')=ji)
 {b:jq jl} (k:w.heap[g]?=T (ja b V.t (0,0))) (l:b.size=V.n) (h:wpListIn F nF P ops Q rest (a.put o.dst jm) (w.setRow g C)):wpListIn F nF P ops Q (o::rest) a w:=
 Ap d V.t x y e g C f i V.t b k (by rw[c];exact V.hi) (l.trans c.symm) j h
theorem VarT.firstI(b:o.guard=jf){x y:j0}(c:o.op=.store V.t x y)(d:a.eval x=jt (T ⟨w,0,jf⟩))(C:jq jl)(e:a.eval y=jh C)(f:C.size=V.n)(g:C.all (·.oneCell')=ji)
 (h:wpListIn F nF P ops Q rest (a.put o.dst jm) (w.alloc (ja C V.t))):wpListIn F nF P ops Q (o::rest) a (w.alloc (ja V.Z V.t)):=
 V.storeI b c d C e f g (jy w _) V.hZ (by rw[yj];exact h)
theorem VarT.loadI(e:Region.wanted o (yielded ops a.tmps)=ji){x:j0}(d:o.op=.load V.t x){g f:jc}(i:a.eval x=jt (T ⟨g,f,jf⟩))(b:jg jl)(j:b.length=V.n)(k:w.rangeAt g f b)
 (h:wpListIn F nF P ops Q rest (a.put o.dst (jh b.toArray)) w):wpListIn F nF P ops Q (o::rest) a w:=by
 refine wpListIn_step λn l=>?_
 rw[jr e];unfold Oper.wpIn;refine⟨by simp[Oper.about,d],?_⟩;rw[Oper.semAt_plain F _ _ (by rw[d];intro c m;cases m),gm o a V.t x d g f i b V.d k V.hu V.hd (by rw[j];exact V.hi)];exact l _ _ h
theorem VarT.loadAI(b:Region.wanted o (yielded ops a.tmps)=ji){x:j0}(c:o.op=.load V.t x){g:jc}(d:a.eval x=jt (T ⟨g,0,jf⟩))(C:jq jl)(e:C.size=V.n){t:jM}(f:w.heap[g]?=T (ja C t (0,0)))
 (h:wpListIn F nF P ops Q rest (a.put o.dst (jh C)) w):wpListIn F nF P ops Q (o::rest) a w:=by
 refine V.loadI b c d C.toList (by rw[Array.length_toList];exact e) (λj v i=>?_) (by rw[qS];exact h);rw[Nat.zero_add];exact ah f (ak i)
end
theorem IC{w:jj}{g o:jc}(h:w.cell? ⟨g,o,jf⟩=T e):∃c t f,w.heap[g]?=T (ja c t f):=by
 unfold World.cell? at h
 cases ho:w.heap[g]? with
 |none=>simp[ho]at h
 |some a=>
  cases a with
  |cells c t f=>exact⟨c,t,f,I⟩
  |_=>simp[ho]at h
theorem cH.cellsB{w:jj}{sz n:jc}{xs:jg jl}(h:cH w e sz n xs)(i:0<sz):kW (λb=>∃c t f,w.heap[b]?=T (ja c t f)) e:=by
 obtain⟨f,p,c,rfl,-,-,j⟩:=h;rintro r k s v d a rfl;injection v with b l t
 subst l;obtain⟨g,o,rfl,m⟩:=j d;injection b with b
 subst b;have q:0<xs.length:=by rw[f];exact Nat.mul_pos d i
 exact IC (m 0 _ (sh q))
theorem bJ.cellsB{w:jj}{t:jg (jb×jb)}(h:bJ w e t):kW (λb=>∃c t f,w.heap[b]?=T (ja c t f)) e:=by
 obtain⟨p,c,rfl,-,-,f,-⟩:=h;rintro l k m v d a rfl;injection v with b i n
 subst i;obtain⟨g,o,rfl,j⟩:=f d;injection b with b
 subst b;exact IC (j 0 d).1
theorem dN.cellsOnly{D:jc->Prop}{w:jj}{g:Grp}{vt:jl}(h:dN D w g e vt):dN (λb=>D b/\∃c t f,w.heap[b]?=T (ja c t f)) w g e vt:=by
 refine⟨h.grp,λp k c vm b a d=>⟨h.bm p k c vm b a d,?_⟩,λp k c vm b a d=>⟨h.bt p k c vm b a d,?_⟩⟩
 ·exact cH.cellsB h.grp.mem L p k c vm b a d
 exact bJ.cellsB h.grp.tree p k c vm b a d
def gb(k:CK)(b:jc):Prop:=(∃a n c,k.vm=A (T a) n c/\0<n/\a.block=b)\/∃a n c,k.vt=A (T a) n c/\0<n/\a.block=b
theorem KD.own{D:jc->Prop}{f:jg CP}{w:jj}(h:KD D f w b):KD (λk=>gb b k/\D k) f w b:=
 ⟨h.at_,⟨h.grp.grp,λp n c e k a d=>⟨.inl ⟨a,n,c,by rw[e,d],k,I⟩,h.grp.bm p n c e k a d⟩,λp n c e k a d=>⟨.inr ⟨a,n,c,by rw[e,d],k,I⟩,h.grp.bt p n c e k a d⟩⟩,h.idl⟩
theorem rK{D:jc->Prop}{f:jg CP}{w:jj}(h:KD D f w b){k:jc}(g:gb b k):D k:=by
 rcases g with⟨a,n,c,e,d,rfl⟩|⟨a,n,c,e,d,rfl⟩
 ·exact h.grp.bm _ _ _ e d a I
 exact h.grp.bt _ _ _ e d a I
def GK(a:jg CP)(Ψ:jc->Prop)(W:jj)(k:CK):Prop:=KD (λb=>gb k b/\¬Ψ b/\∃c t f,W.heap[b]?=T (ja c t f)) a W k
theorem GK.of{D:jc->Prop}{a:jg CP}{Ψ:jc->Prop}{W:jj}{k:CK}(h:KD D a W k)(d:∀b,D b->¬Ψ b):GK a Ψ W k:=
 KD.own ⟨h.at_,h.grp.cellsOnly.mono λb c=>⟨d b c.1,c.2⟩,h.idl⟩
theorem GK.keep{g:jg CP}{Ψ i:jc->Prop}{d B:jj}{k:CK}(h:GK g Ψ d k)(e:∀b,gb k b->¬Ψ b->(∃c t f,d.heap[b]?=T (ja c t f))->B.heap[b]?=d.heap[b]?/\¬i b):GK g i B k:=
 (KD.keep h λb a=>(e b a.1 a.2.1 a.2.2).1).mono λb a=>⟨a.1,(e b a.1 a.2.1 a.2.2).2,by obtain⟨c,t,f,j⟩:=a.2.2;exact⟨c,t,f,(e b a.1 a.2.1 a.2.2).1.trans j⟩⟩
theorem GK.turns{B0:jc}{i:jg CP}{Ψ a:jc->Prop}{e B:jj}(h:GK i Ψ e b)(l:bP B0 a e B)(m:∀b,a b->Ψ b\/e.heap.size<=b):GK i a B b:=
 h.keep λk p n o=>by
  obtain⟨c,t,f,g⟩:=o;have d:¬a k:=λd=>by
   rcases m k d with j|j
   ·exact n j
   have:=(jA.1 g).1;omega
  exact⟨(l.cells g d).trans g.symm,d⟩
theorem Dt(B0:jc)(a:jg CP):bZ B0 (fun(ys:jg CK) Ψ W=>∀x∈ys,GK a Ψ W x):=
 λs Ψ f g B b c _ d x e=>(b x e).turns c d
structure fg(w0 w:jj)(a m:jc)(Ψ:jc->Prop)(W:jj):Prop where
 lt:∀k,Ψ k->k<W.heap.size
 old:∀k,m<=k->k<w.heap.size->Ψ k
 kept:∀k,m<=k->k<w.heap.size->W.heap[k]?=w.heap[k]?
 bel:jk a w0 W
 low:∀k,Ψ k->m<=k
 sz:w.heap.size<=W.heap.size
theorem fg.below{w0 w W c:jj}{b m:jc}{Ψ:jc->Prop}(h:fg w0 w b m Ψ W)(e:b<=w.heap.size)(a:jk W W c):fg w0 w b m Ψ c:=
 ⟨λk f=>jJ (h.lt k f) a.size,h.old,λk g d=>(a.block k (jJ d h.sz)).trans (h.kept k g d),h.bel.trans (a.mono (jD e h.sz)),h.low,jD h.sz a.size⟩
theorem fg.yield{w0 w W b:jj}{c m:jc}{Ψ:jc->Prop}(h:fg w0 w c m Ψ W)(d:jk c W b)(f:∀k,Ψ k->b.heap[k]?=W.heap[k]?):fg w0 w c m Ψ b:=
 ⟨λk a=>jJ (h.lt k a) d.size,h.old,λk a e=>(f k (h.old k a e)).trans (h.kept k a e),h.bel.trans d,h.low,jD h.sz d.size⟩
theorem fg.more{w0 w W:jj}{c m b:jc}{Ψ:jc->Prop}(h:fg w0 w c m Ψ W)(d:b<W.heap.size)(e:m<=b):fg w0 w c m (λk=>Ψ k\/k=b) W:=
 ⟨λk a=>by rcases a with a|rfl;exact h.lt k a;exact d,λk f g=>.inl (h.old k f g),h.kept,h.bel,λk a=>by rcases a with a|rfl;exact h.low k a;exact e,h.sz⟩
theorem fg.pool{w0 w W:jj}{d m:jc}{Ψ:jc->Prop}{f g:jl}{a:jg CP}(h:fg w0 w d m Ψ W)(i:w0.heap.size<=d)(j:cF w0 e a)(k:aH (λb=>m<=b/\b<w.heap.size) w f 32 (bV (a.map (·.1)) a.length).length (kf (a.map (·.1)) (bV (a.map (·.1)) a.length)))
 (l:aH (λb=>m<=b/\b<w.heap.size) w g 1 (bV (a.map (·.1)) a.length).length (iX (bV (a.map (·.1)) a.length))):iw (·<W.heap.size) W e f g a:=
 ⟨j.below (h.bel.mono i),(k.keep λb c=>h.kept b c.1 c.2).mono λb c=>jJ c.2 h.sz,(l.keep λb c=>h.kept b c.1 c.2).mono λb c=>jJ c.2 h.sz⟩
noncomputable def uC(l:jg Cmt):jF CK->jg aR
 |none=>[]
 |some k=>om l k.cand
noncomputable def yE(l:jg Cmt)(k:CK):jg aR:=match et k.g l with|none=>[]|some w=>om l w
theorem Lb(l:jg Cmt)(k:CK):uC l (T k)=k.cand::yE l k:=vW l k.cand
structure CSt(a:jg CP)(e:jb)(f:LBy)(w W:jj)(Ψ:jc->Prop)(b:jc)(c:jq jl)(ys:jg CK)(d:jF CK):Prop where
 box:W.heap[b]?=T (ja c VK.t (0,0))
 sz:c.size=VK.n
 one:c.all (·.oneCell')=ji
 mine:Ψ b
 low:w.heap.size<=b
 now:∀k,d=T k->c=(aL k).toArray/\GK a Ψ W k/\∃g,nX g (a.map (·.1)) k.cand
 rest:ys.map CK.cand++uC (a.map (·.1)) d=ft e f (a.map (·.1))
noncomputable def chM(l:jg Cmt)(a ok:jl)(W:jj):jc:=
 match ok,a with
 | .bool ji,jt (T ⟨b,_,_⟩)=>(l.countP λc=>decide (((W.cell? ⟨b,108,jf⟩).map jV).getD 0<c.epoch))+1
 |_,_=>0
theorem G7{a:jg CP}{d:jb}{v:LBy}{w W:jj}{Ψ:jc->Prop}{k:jc}{f:jq jl}{ys:jg CK}(h:CSt a d v w W Ψ k f ys (T b))(g:cF W e a):
 chM (a.map (·.1)) (jt (T ⟨k,0,jf⟩)) (.bool ji) W=kj (a.map (·.1)) b.g+1:=by
 obtain⟨i,j,-⟩:=h.now b I;have c:=KD.kin j g;have l:W.cell? ⟨k,108,jf⟩=T (jd je b.g.epoch):=ah h.box (by
  rw[i,ms];exact(nI c 2).trans (lQ (vm:=b.vm) (vt:=b.vt) c.leads.llen).2.1)
 unfold chM;simp only[l]
 rfl
theorem yr(d:jg CP)(H U V:jl)(r:jb)(q:LBy)(j:q.length=32)(w0 w:jj)(s m bp bf:jc)(v:w0.heap.size<=s)(F:jk s w0 w)(y:s<=m)(l:m<=w.heap.size)(P:cF w0 H d)
 (Q:aH (λb=>m<=b/\b<w.heap.size) w U 32 (bV (d.map (·.1)) d.length).length (kf (d.map (·.1)) (bV (d.map (·.1)) d.length))) (R:aH (λb=>m<=b/\b<w.heap.size) w V 1 (bV (d.map (·.1)) d.length).length (iX (bV (d.map (·.1)) d.length)))
 (o:w.heap[bp]?=T (ja #[H,U,V] VP.t (0,0))) (u:w.heap[bf]?=T (ja (dz r q).toArray VF.t (0,0))) (S:m<=bp) (X:m<=bf) (C:∀p∈d,cT (aP p.1)) (hT:bS w0) (D:d.length<=1000) (aa:∀p∈d,p.1.chg.length<=1000000):
 z7 jo 115 #[jt (T ⟨bp,0,jf⟩),jt (T ⟨bf,0,jf⟩)] (λk:CK=>#[jh (aL k).toArray]) (λk=>m<=k/\k<w.heap.size) s (λxs=>xs.map CK.cand=ft r q (d.map (·.1))) (λa=>∃c,a.map CK.cand++c=ft r q (d.map (·.1)))
  (λys Ψ e=>(∃a x,ys=a++[x]/\GK d Ψ e x)/\∃c,ys.map CK.cand++c=ft r q (d.map (·.1))) (λys Ψ B=>∀x∈ys,GK d Ψ B x) gb w:=by
 intro lp K Jx W c p x B hY ad;have e:fg w0 w s m (λk=>m<=k/\k<w.heap.size) W:=⟨λk g=>jJ g.2 c.size,λk a b=>⟨a,b⟩,λk _ g=>c.block k g,F.trans (c.mono (jD y l)),λk g=>g.1,c.size⟩;obtain⟨PA,f⟩:=J (#[H,U,V]);obtain⟨FA,i⟩:=J ((dz r q).toArray);have bl:N (PA.size=VP.n):=O (by rw[f];rfl);have bB:N (FA.size=VF.n):=O (by rw[i,ju];unfold dz;rw[jZ,jw,j];rfl);rw[<-f]at o;rw[<-i]at u;have Y7:N (∀Ψ z,fg w0 w s m Ψ z->z.heap[bp]?=T (ja PA VP.t (0,0))):=O λΨ z h=>(h.kept bp S (jA.1 o).1).trans o
 have bC:N (∀Ψ z,fg w0 w s m Ψ z->z.heap[bf]?=T (ja FA VF.t (0,0))):=O λΨ z h=>(h.kept bf X (jA.1 u).1).trans u
 have YD:N (∀Ψ z,fg w0 w s m Ψ z->iw (·<z.heap.size) z H U V d):=O λΨ z h=>h.pool v P Q R
 have bm:N (∀Ψ z,fg w0 w s m Ψ z->bS z):=O λΨ z h=>hT.below (h.bel.mono v)
 have bI:=O f;have b9:=O i;have HE:=O C;have HN:=O D;have VT:=O aa;have Zq:=O e;have M:=O p;have ca:=O x;have HG:=O B;have HY:=O hY;have E:=O ad;have YA:=O (jD y l);have bn:=O l;have bb:=O c.size;have cb:=O j;have WL:=O (Y7 _ _ e);have Ve:=O (bC _ _ e);have t:=FE d H U V r q j W (YD _ _ e) C (bm _ _ e) D;rw[<-f,<-i]at t;replace t:=O t;clear c p x B hY ad e f i o u v F y l P Q R S X C hT D aa j;refine(qM (n:=0)).1 ?_;refine callsIn_of_wp func115 I trivial ?_ I;simp only[ntmps115,ju,jZ,qy,qz,qA,qB,qC,qD,qE,qd,qF]
 gi_wp2_with (first|(refine VP.loadAI ai I I PA bl WL (G ?_))|(refine VF.loadAI ai I I FA bB Ve (G ?_)))
 refine⟨trivial,I,(callsIn_wide.2 t).mono ?_⟩;rintro e x1 ⟨p,o,rfl,c,au,f,i,u⟩;obtain⟨l,rfl,x,y⟩:∃l:jF CK,o=l.isSome/\(∀k,l=T k->p=(aL k).toArray/\KD (λb=>W.heap.size<=b/\b<x1.heap.size) d x1 k/\fC r q (d.map (·.1))=T k.cand)/\(l=jf->fC r q (d.map (·.1))=jf):=by
  rcases o with _|_
  ·exact⟨jf,I,(λk g=>by cases g),(λ_=>i I)⟩
  obtain⟨k,C,P,h3⟩:=f I;exact⟨T k,I,λj g=>by injection g with g;subst g;exact⟨C,P,h3⟩,λh=>by cases h⟩
 have D:=O c;have F:=O au;have v:=O x;have R:=O y;have X:=O u;clear c au f i x y u WL Ve t;obtain⟨ok,c⟩:=J l.isSome;rw[<-c];have bK:=O c;clear c
 gi_wp2_with (first|(refine VK.madeI I I (G ?_))|(refine VK.firstI I I I p I D F (G ?_)))
 obtain⟨x2,b4,hx,u,Q,t⟩:=cX x1 p VK.t;rw[<-hx,<-u];have x:=X.trans (t.mono X.size);obtain⟨y,f⟩:∃y:jc->Prop,y=λk=>(m<=k/\k<w.heap.size)\/k=b4:=⟨_,I⟩
 have aa:W.heap.size<=b4:=by rw[u];exact X.size
 have S:∀b,(W.heap.size<=b/\b<x1.heap.size)->¬y b:=λb bo h=>by
  rw[f]at h;have:=bb.out
  rcases h with h|h
  ·omega
  omega
 have ad:N (fg w0 w s m y x2):=O (by rw[f];exact(Zq.below YA x).more (by rw[u];have h:=(jA.1 Q).1;rw[u]at h;exact h) (dY bb bn));have U3:N (K [] y x2):=O (M _ _ y _ _ E.out (bP.ofBelow x λk g _=>g) (λk g=>by rw[f];exact .inl g) (λk g=>by
  rw[f]at g
  rcases g with g|g
  ·exact .inl g
  exact .inr (by rw[g];exact aa)))
 have VV:N (∀k,l=T k->K [] (λi=>y i\/gb k i) x2):=O λk g=>M _ _ (λi=>y i\/gb k i) _ _ E.out (bP.ofBelow x λk g _=>g) (λi c=>by rw[f];exact .inl (.inl c)) (λi c=>by
  rw[f]at c
  rcases c with(c|c)|c
  ·exact .inl c
  ·exact .inr (by rw[c];exact aa)
  exact .inr (rK (v k g).2.1 c).1)
 have B:N (CSt d r q w x2 y b4 p [] l):=O ⟨Q,D,F,by rw[f];exact .inr I,jD bb aa,λk g=>by
  obtain⟨e1,e2,e3⟩:=v k g;refine⟨e1,GK.of (e2.keep λb bo=>t.block b bo.2) S,_,(F5 e3).1⟩,by
  rw[zk,jY,qd]
  rcases l with _|k
  ·rw[R I];rfl
  rw[(v k I).2.2];rfl⟩
 have U9:N (W.heap.size<=x2.heap.size):=O x.size;clear hx u t x aa S f v R X Q D F E Zq
 gi_loopw [4,5] (λf ok wr=>W.heap.size<=wr.heap.size/\∃(b:jc) (p:jq jl) (ys:jg CK) (l:jF CK) (Ψ:jc->Prop),f=jt (T ⟨b,0,jf⟩)/\ok=.bool l.isSome/\N (fg w0 w s m Ψ wr)/\N (K ys Ψ wr)/\N (∀k,l=T k->K ys (λi=>Ψ i\/gb k i) wr)/\N (CSt d r q w wr Ψ b p ys l)) (λf ok wr=>chM (d.map (·.1)) f ok wr)
 case atStart=>exact⟨U9,b4,p,[],l,y,I,by rw[bK],ad,U3,VV,B⟩
 obtain⟨cc,b,p,ys,l,Ψ,rfl,rfl,ad,U3,VV,B⟩:=hrel
 rcases l with _|k
 ·have t:N (ys.map CK.cand=ft r q (d.map (·.1))):=O (by have h:=B.rest;unfold uC at h;rw[qG]at h;exact h)
  gi_wp2_with fail
  refine⟨(λf h=>by cases h),?_⟩
  gi_wp2_with fail
  refine bodyPost_end (results_none I _ _ _) I ?_;exact⟨⟨_,I⟩,.inl ⟨_,_,t,U3⟩⟩
 obtain⟨f,t,g0,v⟩:=B.now k I;have bM:=O t;have ZO:=O v;have bN:=O f;have bq:N (cF wr H d):=O (YD _ _ ad.out).list;have bO:=O (G7 B bq);have UX:N ((ys++[k]).map CK.cand++yE (d.map (·.1)) k=ft r q (d.map (·.1))):=O (by
  rw[<-B.rest,mz,qT,Lb]
  rfl)
 have UO:=O B.box;have ay:=O B.sz;have X:=O B.one;have br:=HY ys k Ψ wr U3 (VV k I) ad.lt ⟨⟨ys,k,I,t⟩,_,UX⟩;rw[<-f]at br;obtain⟨fn,tmps,assign,body,au,D⟩:=br;have HR:=O D;clear D f t v
 gi_wp2_with (first|(refine VK.loadAI ai I I p ay UO (G ?_)))
 refine⟨I,HR.mono ?_⟩;rintro e W3 (⟨rfl,Za,x,Va⟩|⟨rfl,ZL,x,Va⟩)
 ·have E:=O (ad.yield x Va)
  have a3:=O (HG _ _ _ Za k ao);have a1:=O Za;have Wj:=O ((Va b B.mine).trans UO);have Ws:=x.size;clear Za x Va HR au ad bM U3 VV UO bq
  gi_upto_region 2 with(first|(refine VK.loadAI ai I I p ay Wj (G ?_))|(refine VK.madeI I I (G ?_))|(refine VK.firstI I I I p I ay X (G ?_)))
  obtain⟨D,v,hx,u,Q,F⟩:=cX W3 p VK.t;rw[<-hx,<-u];obtain⟨f,t⟩:∃f:jc->Prop,f=λi=>Ψ i\/i=v:=⟨_,I⟩
  have YZ:v<D.heap.size:=(jA.1 Q).1;have ax:N (fg w0 w s m f D):=O (by rw[t];exact(E.below YA F).more YZ (by rw[u];have:=E.sz;have:=bn.out;omega));have R:∀i,f i->Ψ i\/W3.heap.size<=i:=λi c=>by
   rw[t]at c
   rcases c with c|c
   ·exact .inl c
   exact .inr (by rw[c,u];exact jG _)
  have S:bP W.heap.size f W3 D:=bP.ofBelow F λi c _=>c
  have bs:N (K (ys++[k]) f D):=O (M _ _ f _ _ a1.out S (λi c=>by rw[t];exact .inl c) R);have bT:N (GK d f D k):=O (a3.turns S R);have a2:N (f v):=O (by rw[t];exact .inr I);have bc:N (w.heap.size<=v):=O (by rw[u];exact E.sz);have WQ:N (W.heap.size<=D.heap.size/\W.heap.size<=v):=O ⟨by have:=F.size;omega,by rw[u];omega⟩;clear hx u F t YZ R S E a3 a1 Wj Ws;have bd:=O (YD _ _ ax.out);have WL:=O (Y7 _ _ ax.out);have ZW:=O (KD.kin bT bd.list);have bu:=O (nN (gY (ud ZO)));have WB:N ((aD k.g k.vm k.vt).length=VG.n):=O (eX ZW.leads.llen);have b0:N (D.rangeAt v 107 (aD k.g k.vm k.vt)):=O λt cd ht=>ah Q (by
   rw[bN,ms];have h:=nI ZW (1+t);rw[<-qo,qu 1 t,qU]at h;exact h.trans ht)
  have a3:=uj d H U V k.g k.vm k.vt D bd ZW.leads HE (bm _ _ ax.out) HN (by have h:=bu.1;rw[<-ZO.leads]at h;have P:k.g.mem.length<=512:=h;omega) (by have h:=bu.2;rw[<-ZO.leads]at h;have P:k.g.tree.length<=1023:=h;omega) VT;obtain⟨GA,E⟩:=J ((aD k.g k.vm k.vt).toArray);rw[<-E,<-bI]at a3;have Vb:=O E;replace a3:=O a3;clear E
  gi_wp2_with (first|(refine VP.loadAI ai I I PA bl WL (G ?_))|(refine VG.loadI ai I I (aD k.g k.vm k.vt) WB b0 ?_;rw[<-Vb];refine G ?_))
  refine⟨trivial,I,(callsIn_wide.2 a3).mono ?_⟩;rintro e x5 ⟨wk,rfl,a4,a5,R⟩;obtain⟨E,F⟩:=J (x5.setRow v (dm wk));have bg:=ax.lt;have aa:=bg v a2;have bh:=av Q R;have a6:=sM (wk:=wk) λj h=>(a4 j h).kin (bd.list.below R)
  have b1:=R.size;have bi:∀i,i≠v->E.heap[i]?=x5.heap[i]?:=λi c=>by rw[F];exact js _ _ _ _ c
  have ba:E.heap.size=x5.heap.size:=by rw[F];exact setRow_size _ _ _
  have S:=ax.below YA R;have bv:N (fg w0 w s m f E):=O ⟨λi c=>by rw[ba];exact S.lt i c,S.old,λi C P=>(bi i (aI bc)).trans (S.kept i C P),by rw[F];exact iS S.bel (jD YA bc) _,S.low,by rw[ba];exact S.sz⟩;have b2:N (K (ys++[k]) f E):=O (by
   have C:=M.keep bs (bP.ofBelow R λi c _=>c);rw[F];exact M.keep C (bP.setRow _ _ _ a2.out))
  have b3:N (∀j,wk=T j->K (ys++[k]) (λi=>f i\/gb j i) E):=O λj h=>by
   have C:=M _ _ (λi=>f i\/gb j i) _ _ bs.out (bP.ofBelow R λi c _=>c) (λi c=>.inl c) (λi c=>by
    rcases c with c|c
    ·exact .inl c
    exact .inr (rK (a4 j h) c).1)
   rw[F];exact M.keep C (bP.setRow _ _ _ (.inl a2))
  have bk:∀j,wk=T j->nX k.g (d.map (·.1)) j.cand:=λj h=>by
   rw[h]at a5;exact(vz (AT a5.symm)).1
  have bw:N (CSt d r q w E f v (dm wk) (ys++[k]) wk):=O ⟨by rw[F];exact jT _ _ _ _ _ _ bh,a6.1,a6.2,a2,bc,λj h=>by
   refine⟨by rw[h];rfl,GK.of ((a4 j h).keep λi c=>bi i Y) (λi c h3=>by have:=bg i h3;omega),_,bk j h⟩,by
   rw[<-UX];refine qk (_ ++·) ?_;unfold uC yE;rw[<-a5]
   cases wk<;>rfl⟩
  have b5:N (chM (d.map (·.1)) (jt (T ⟨v,0,jf⟩)) (.bool wk.isSome) E<chM (d.map (·.1)) (jt (T ⟨b,0,jf⟩)) (.bool ji) wr):=O (by
   rw[bO]
   cases hwk:wk with
   |none=>exact Nat.succ_pos _
   |some j=>
    have C:=G7 (hwk▸bw.out) (YD _ _ bv.out).list;have P:=yR (bk j hwk);have h3:kj (d.map (·.1)) j.g<kj (d.map (·.1)) k.g:=P;show chM _ _ (.bool ji) _ <_;rw[C];omega)
  have b6:=O bh;have bA:=O a6;have b7:=O F;have b8:N (W.heap.size<=E.heap.size):=O (by rw[ba];have:=WQ.out;omega);clear bg aa bh a6 b1 bi ba S bk a4 a5 R F
  gi_wp2_with (first|(refine VK.storeI I I I (dm wk) I bA.1 bA.2 b6 ay ?_;rw[<-b7];refine G ?_))
  exact⟨⟨b8,v,dm wk,ys++[k],wk,f,I,I,bv,b2,b3,bw⟩,b5⟩
 have a1:=O ZL;clear ZL x Va HR au
 gi_wp2_with fail
 refine bodyPost_end (results_none I _ _ _) I ?_;exact⟨⟨_,I⟩,.inr ⟨_,_,⟨_,UX⟩,a1⟩⟩
end
theorem R7{P:o1}{i:Exit->Act->jj->Prop}{b M B:jc}{m:Act}{w:jj}(S:jj->Prop)(f:jc)(t:bE)(g:P.follows .mixedOrders=ji)(d:Region.noSelect U=ji)(j:rP U=ji)
 (k:gC .any U t (qe U.size jn)=ji) (a:t.waits .any U f=ji) (o:t.len<=U.size) (p:∀c m h w,i (.panic c) m w->i (.panic c) h w) (c:¬LetsOut i)
 (q:S w.drew) (h:da P U i S f t m w.drew):(Code.region B U ji).wpIn (Fence.wide.inRound b) M P i m w:=
 wpIn_region_any g (yz c j _ _ _ _ (rQ _ _ _ _ (iP.zero _) (kG d p t _ _ _ _ o k a (.inr q) h)))
theorem zQ(a b:jq jl)(w:jj):jB jo 52 #[jh a,jh b] w λe w'=>
 e=jz (.func (.func 115) #[] #[jt (T ⟨w,0,jf⟩),jt (T ⟨w.heap.size+1,0,jf⟩)])/\w'=(w.alloc (ja a 114)).alloc (ja b 59):=by
 go_enter func52,ntmps52
 go_wp2_with fail
 go_ret;exact⟨I,I⟩
theorem zK(t:jq jl)(p:Tmp)(v:jl):(#[p].zip #[v]).foldl (λt (p,v)=>t.setIfInBounds p v) t=t.setIfInBounds p v:=by simp
theorem Ec(l:jg Cmt):∀(n:jc) (c:jF aR),(kV l n c).length<=n
 |0,_=>jG _
 |_ +1,jf=>jN _
 |n+1,T c=>Nat.succ_le_succ (Ec l n _)
noncomputable def RG:eC jo:=.of 60 29 36 96 (jh VG.Z) underlying60 af VG.hZ L L L
theorem bP.more(h:bP b D w W):bP b (λB0=>D B0\/E B0) w W:=⟨h.os,h.tape,h.output,h.size,λk B0 d=>h.block k B0 λe=>d (.inl e)⟩
theorem bZ.more{β:Type}{c:β->(jc->Prop)->jj->Prop}(h:bZ b c)(d:β->jc->Prop):bZ b (λs Ψ W=>c s (λB0=>Ψ B0\/d s B0) W):=
 λs Ψ j B0 B e f g i=>h s _ _ B0 B e f.more (λk a=>a.imp (g k) id) λk a=>a.elim (λa=>(i k a).imp .inl id) λa=>.inl (.inr a)
def gbs(ys:jg CK)(b:jc):Prop:=∃k∈ys,gb k b
def ChI(a:jg CP)(M:jc)(w:jj)(ys:jg CK)(Ψ:jc->Prop)(W:jj):Prop:=(∀x∈ys,GK a Ψ W x)/\gQ (M+1) 31 (M+1) RI.e RI.k ys.length (ys.map λk=>jH .i64 (k.ix:jc)) (λ_=>True) (λb=>Ψ b\/gbs ys b) W/\gQ (M+2) 60 (M+1) RG.e RG.k ys.length (ys.flatMap λk=>aD k.g k.vm k.vt) (λ_=>True) (λb=>Ψ b\/gbs ys b) W/\(jk w w W/\∀k,Ψ k->w.heap.size<=k)
theorem FB(a:jg CP)(M:jc)(w:jj)(B0:jc)(h:w.heap.size<=B0):bZ B0 (ChI a M w):=
 (Dt _ _).and (((m8 _ _ _ _ _ _ (λys:jg CK=>ys.length) (λys=>ys.map λk=>jH .i64 (k.ix:jc)) (λ_ _=>True)).more gbs).and (((m8 _ _ _ _ _ _ (λys:jg CK=>ys.length) (λys=>ys.flatMap λk=>aD k.g k.vm k.vt) (λ_ _=>True)).more gbs).and (kL _ _ w (jG _) h)))
def Off(B M:jc)(t e:jM)(k:jc)(x:CK)(Ψ:jc->Prop)(W:jj):Prop:=∃n xs,gQ B t M e k n xs (λ_=>True) (λb=>Ψ b\/gb x b) W
theorem Off.stable(B M:jc)(t e:jM)(k B0:jc):bZ B0 (Off B M t e k):=by
 rintro x Ψ a b W ⟨n,xs,h⟩ c d f;exact⟨n,xs,((m8 B0 B t M e k (λ_:CK=>n) (λ_=>xs) (λ_ _=>True)).more gb) x Ψ a b W h c d f⟩
theorem Off.sep{e:jM}{x:CK}(h:Off b M p e B x D w)(c:Boxed w b p j):¬gb x b/\∀v,j.ownBlock=T v->¬gb x v:=by
 obtain⟨n,xs,k,d,f,-,g,-⟩:=h;have e:j=k:=by have a:T (Obj.cells #[j] p (0,0))=T (ja #[k] p (0,0)):=c.symm.trans d;injection a with a;injection a with a;simpa using a
 exact⟨λh=>f (.inr h),λv i h=>g v (by rw[<-e];exact i) (.inr h)⟩
theorem gQ.less{e:jM}{n:jc}{a:jl->Prop}(h:gQ b p M e B n u a D w)(d:∀k,E k->D k):gQ b p M e B n u a E w:=by
 obtain⟨v,f,g,i,k,l⟩:=h;exact⟨v,f,λh=>g (d _ h),i,λj m h=>k j m (d _ h),l⟩
theorem ue{F:jg CK}{x:CK}(h:gbs (F++[x]) b):gbs F b\/gb x b:=by
 obtain⟨k,a,h⟩:=h
 rcases oj.1 a with a|a
 ·exact .inl ⟨k,a,h⟩
 rw[jO]at a;exact .inr (a▸h)
def DO(a:jg CP)(M:jc)(c:jc->CK->jq jl)(x:CK)(d:Act)(Ψ:jc->Prop)(W:jj):Prop:=(∃b,d={tmps:=c b x,defers:=[]}/\W.heap[b]?=T (ja (aL x).toArray VK.t (0,0))/\¬Ψ b/\GK a Ψ W x)/\Off (M+1) (M+1) 31 RI.e RI.k x Ψ W/\Off (M+2) (M+1) 60 RG.e RG.k x Ψ W
theorem TX(i:jg CP)(M:jc)(j:jc->CK->jq jl)(B0:jc):bZ B0 (fun(s:CK×Act) Ψ W=>DO i M j s.1 s.2 Ψ W):=by
 rintro⟨x,p⟩ Ψ k q B ⟨⟨b,e,d,l,m⟩,n,o⟩ a f c;have g:¬k b:=λh=>by
  rcases c b h with h|h
  ·exact l h
  have:=(jA.1 d).1;omega
 exact⟨⟨b,e,a.cells d g,g,m.turns a c⟩,Off.stable _ _ _ _ _ B0 _ _ _ _ _ n a f c,Off.stable _ _ _ _ _ B0 _ _ _ _ _ o a f c⟩
theorem vy{k:jc}(h:w.ownsRow b p M j B u){o:Obj}(d:w.heap[k]?=T o)(c:o.isCells=jn):j.ownBlock≠T k:=λa=>by
 rcases h.2 with f|⟨g,v,l,i,-,n,-⟩
 ·rw[f.1]at a;cases a
 rw[i]at a;obtain rfl:g=k:=by injection a
 rw[d]at n;injection n with n
 rw[n]at c
 cases c
theorem ChI.step{F:jg CP}{n:jc}{a H l:jj}{i:jg CK}{x:CK}{u1 u2 m o y1 y2:jl}(K:∀k∈i++[x],GK F Ψ a k)(hB:jk w w a)(q:jk a a H)(hw:w.heap.size<=M+1)
 (hΨ:∀k,Ψ k->w.heap.size<=k) (hl:∀k,Ψ k->k<a.heap.size) (v:Boxed a (M+1) 31 u1) (P:Boxed a (M+2) 60 u2) (Q:¬(Ψ (M+1)\/gbs (i++[x]) (M+1))) (R:¬(Ψ (M+2)\/gbs (i++[x]) (M+2)))
 (S:∀j,u1.ownBlock=T j->¬(Ψ j\/gbs (i++[x]) j)) (U:∀j,u2.ownBlock=T j->¬(Ψ j\/gbs (i++[x]) j)) (ad:∀j,u1.ownBlock=T j->M+1<=j) (Uz:∀j,u2.ownBlock=T j->M+1<=j) (V:n=i.length)
 (W:u1.ownBlock≠T (M+1)/\u2.ownBlock≠T (M+1)) (X:u1.ownBlock≠T (M+2)/\u2.ownBlock≠T (M+2)) (Yl:y1.cells.toList=[jd je (x.ix:jc)]) (au:y2.cells.toList=aD x.g x.vm x.vt)
 (d:zS RI RG (M+1) H l u1 u2 m o (n+1) (n+1) (i.map (λk=>jH .i64 (k.ix:jc))++y1.cells.toList) (i.flatMap (λk=>aD k.g k.vm k.vt)++y2.cells.toList)):
 ChI F M w (i++[x]) Ψ ((l.setCell ⟨M+1,0,jf⟩ m).setCell ⟨M+2,0,jf⟩ o)/\jk (M+1) a ((l.setCell ⟨M+1,0,jf⟩ m).setCell ⟨M+2,0,jf⟩ o)/\
  ∀k,k<a.heap.size->k≠M+1->k≠M+2->u1.ownBlock≠T k->u2.ownBlock≠T k->((l.setCell ⟨M+1,0,jf⟩ m).setCell ⟨M+2,0,jf⟩ o).heap[k]?=a.heap[k]?:=by
 have y:l.heap[M+1]?=T (ja #[u1] 31 (0,0)):=(d.heap _ (jJ v.lt q.size) W.1 W.2).trans (av v q);have z:l.heap[M+2]?=T (ja #[u2] 60 (0,0)):=(d.heap _ (jJ P.lt q.size) X.1 X.2).trans (av P q);have B:∀k,k≠M+1->k≠M+2->((l.setCell ⟨M+1,0,jf⟩ m).setCell ⟨M+2,0,jf⟩ o).heap[k]?=l.heap[k]?:=λk C r=>(dB _ r).trans (dB _ C)
 have D:∀k,k<a.heap.size->k≠M+1->k≠M+2->u1.ownBlock≠T k->u2.ownBlock≠T k->((l.setCell ⟨M+1,0,jf⟩ m).setCell ⟨M+2,0,jf⟩ o).heap[k]?=a.heap[k]?:=λk h C r s h4=>
  (B k C r).trans ((d.heap k (jJ h q.size) s h4).trans (q.block k h))
 have aa:jk (M+1) a ((l.setCell ⟨M+1,0,jf⟩ m).setCell ⟨M+2,0,jf⟩ o):=by
  have h:=(q.mono (jN _)).trans d.bel;have r:=(h.setCell (p:=⟨M+1,0,jf⟩) (jN _) m).setCell (p:=⟨M+2,0,jf⟩) (jN _) o;refine⟨r.os,r.tape,r.output,r.size,λk u=>?_⟩;have s:=v.lt;exact D k Y Y Y (λe=>by have:=ad k e;omega) (λe=>by have:=Uz k e;omega)
 have E:∀j,(Ψ j\/gbs (i++[x]) j)->j<a.heap.size:=by
  rintro j (h|⟨k,u,h⟩)
  ·exact hl j h
  obtain⟨-,-,c,t,f,s⟩:=rK (K k u) h;exact(jA.1 s).1
 have hz:=q.size;refine⟨⟨λk u=>(K k u).keep λb hb s h4=>⟨?_,s⟩,⟨m,?_,Q,?_,?_,trivial⟩,⟨o,?_,R,?_,?_,trivial⟩,hB.trans (aa.mono hw),hΨ⟩,aa,D⟩
 ·have c:Ψ b\/gbs (i++[x]) b:=.inr ⟨k,u,hb⟩
  exact D b (E b c) (λe=>Q (e▸c)) (λe=>R (e▸c)) (λe=>S b e c) (λe=>U b e c)
 ·exact(dB _ (show M+1≠M+2 by omega)).trans (fl m y)
 ·have h:=iF d.own1 λg f=>B g (λe=>cQ d.own1 y L (e▸f)) (λe=>cQ d.own1 z L (e▸f))
  rw[Yl,V]at h;rw[qf,mz];exact h
 ·intro j t c
  rcases d.lie1 with h|h
  ·exact S j (h▸t) c
  have:=h j t;have:=E j c;omega
 ·exact fl o ((dB _ (show M+2≠M+1 by omega)).trans z)
 ·have h:=iF d.own2 λg f=>B g (λe=>cQ d.own2 y L (e▸f)) (λe=>cQ d.own2 z L (e▸f))
  rw[au,V]at h;rw[qf,List.flatMap_append,List.flatMap_singleton];exact h
 intro j t c
 rcases d.lie2 with h|h
 ·exact U j (h▸t) c
 have:=h j t;have:=E j c;omega
theorem Dl(d:jg CP)(v:jl)(ay:jb)(UG:LBy)(n:UG.length=32)(w:jj)(q:cF w v d)(t:∀p∈d,cT (aP p.1))(u:bS w)(Q:d.length<=1000)(x:∀p∈d,p.1.chg.length<=1000000):
 jB jo 16 #[jh (dz ay UG).toArray,v] w λe w'=>∃(u1 u2:jl) (Ks:jg CK),e=jz (jI #[u1,u2])/\Ks.map CK.cand=ft ay UG (d.map (·.1))/\aH (λb=>w.heap.size<=b/\b<w'.heap.size) w' u1 1 Ks.length (Ks.map λk=>jH .i64 k.ix)/\
  aH (λb=>w.heap.size<=b/\b<w'.heap.size) w' u2 36 Ks.length (Ks.flatMap λk=>aD k.g k.vm k.vt)/\(∀k∈Ks,KD (λb=>b<w'.heap.size) d w' k)/\jk w w w':=by
 obtain⟨p1,k1,rfl⟩:=q.form;obtain⟨r,j⟩:=J ((dz ay UG).toArray);have bk:N (r.size=VF.n):=O (by rw[j,ju];unfold dz;rw[jZ,jw,n];rfl);rw[<-j];obtain⟨M,f⟩:=J w.heap.size;obtain⟨x0,a⟩:=J (((w.alloc (ja r 59)).alloc (ja #[A jf 0 0] 31)).alloc (ja #[A jf 0 0] 60));have l:=ap w (ja r 59);have s:=l.trans ((ap (w.alloc (ja r 59)) (ja #[A jf 0 0] 31)).mono l.size);have m:=ap ((w.alloc (ja r 59)).alloc (ja #[A jf 0 0] 31)) (ja #[A jf 0 0] 60);have c:N (x0.heap[M]?=T (ja r VF.t (0,0))):=O (by rw[a,f];exact av (av (jy w _) (ap _ _)) m);have U5:N (x0.heap[M+1]?=T (ja #[A jf 0 0] 31 (0,0))):=O (by
  have h:=jy (w.alloc (ja r 59)) (ja #[A jf 0 0] 31);rw[jp]at h;rw[a,f];exact av h m)
 have Vj:N (x0.heap[M+2]?=T (ja #[A jf 0 0] 60 (0,0))):=O (by
  have h:=jy ((w.alloc (ja r 59)).alloc (ja #[A jf 0 0] 31)) (ja #[A jf 0 0] 60);rw[jp,jp]at h;rw[a,f];exact h)
 have F:N (jk w w x0):=O (by rw[a];exact s.trans (m.mono s.size));have bl:N (x0.heap.size=M+3):=O (by rw[a,f,jp,jp,jp]);obtain⟨xF,g⟩:=J (w.alloc (ja r 59));have a1:N (xF.heap.size=M+1):=O (by rw[g,f,jp]);have ba:N (jk w w xF):=O (by rw[g];exact l);have S:N (jk (M+1) xF x0):=O (by
  have h:=(ap xF (ja #[A jf 0 0] 31)).trans ((ap (xF.alloc (ja #[A jf 0 0] 31)) (ja #[A jf 0 0] 60)).mono (ap xF _).size);rw[a1,g,<-a]at h;rw[g];exact h)
 have HL:=O q;have HE:=O t;have HT:=O u;have HN:=O Q;have VT:=O x;have HM:=O f;have y:=O a;have bm:=O j;have bn:=O n;clear g l s m j f a q t u Q x n;refine(qM (n:=0)).1 ?_;refine r5 func16 I trivial ?_ I;refine wpIn_wide.2 ?_;simp only[ntmps16,ju,jZ,qy,qz,qA,qB,qC,qD,qE,qd,qF]
 go_upto_region 1 with fail
 rw[<-y]
 try simp only[jp]
 try rw[show w.heap.size+1+1=w.heap.size+2 from I]
 rw[<-HM];clear y;refine jL ?_;refine fN (λg=>g.heap[M]?=T (ja r VF.t (0,0))) 4 (.t 0 (.t 2 (.o 1 (.o 3 .done)))) af af af af L (λ_ _ _ _ h=>h) c ?_;have a:=bX x0;obtain⟨x1,U⟩:=J x0.drew;rw[<-U]at a⊢;have bb:N (M+3<=x1.heap.size):=O (by rw[<-bl];exact a.size);replace F:=aj F a;replace c:=ae c a;replace U5:=ae U5 a;replace S:=O (S.trans (a.mono (by have:=S.size;have:=a1.out;omega)));replace Vj:=ae Vj a;clear U a;refine cr ?_
 (refine cL (v:=jh r) I ai (λg m=>cM VF.hu VF.hd (by rw[bk];exact VF.hi) I I m) ?_;refine G ?_)
 refine cY I (λK' f=>?_);go_simp;refine(pX d _ x1 (HL.below F) HE (HT.below F) HN).mono ?_;rintro e x2 ⟨v2,v3,rfl,j,a⟩;have l:=O (j.mono (E:=λb=>M+3<=b/\b<x2.heap.size) λb q=>⟨jD bb q.1,q.2⟩);have Zf:N (M+3<=x2.heap.size):=O (jD bb a.size);replace F:=aj F a;replace c:=ae c a;replace U5:=ae U5 a;replace S:=O (S.trans (a.mono (by have:=S.size;have:=a1.out;omega)));replace Vj:=ae Vj a;refine f _ _ c.out λ_=>?_
 clear f j a;refine G ?_;refine cY I (λK' f=>?_);go_simp;refine(zQ _ r x2).mono ?_;rintro e s ⟨rfl,j⟩;have a:jk x2 x2 s:=by rw[j];exact(ap _ _).trans ((ap _ _).mono (ap _ _).size)
 have Y7:N (s.heap[x2.heap.size]?=T (ja #[A p1 d.length k1,v2,v3] VP.t (0,0))):=O (by rw[j];exact av (jy x2 _) (ap _ _));have bc:N (s.heap[x2.heap.size+1]?=T (ja r VF.t (0,0))):=O (by
  have h:=jy (x2.alloc (ja #[A p1 d.length k1,v2,v3] 114)) (ja r 59);rw[jp]at h;rw[j];exact h)
 have Zy:N (s.heap.size=x2.heap.size+2):=O (by rw[j,jp,jp]);replace F:=aj F a;replace U5:=ae U5 a;replace S:=O (S.trans (a.mono (by have:=S.size;have:=a1.out;omega)));replace Vj:=ae Vj a;have t:N (aH (λb=>M+3<=b/\b<s.heap.size) s v2 32 (bV (d.map (·.1)) d.length).length (kf (d.map (·.1)) (bV (d.map (·.1)) d.length))):=O ((l.ids.keep λb q=>a.block b q.2).mono λb q=>⟨q.1,by have:=Zy.out;omega⟩);have u:N (aH (λb=>M+3<=b/\b<s.heap.size) s v3 1 (bV (d.map (·.1)) d.length).length (iX (bV (d.map (·.1)) d.length))):=O ((l.at_.keep λb q=>a.block b q.2).mono λb q=>⟨q.1,by have:=Zy.out;omega⟩);refine f _ _ (av c a) λ_=>?_
 clear f j a c l;refine G ?_;refine fa ?_
 go_wp2_with fail
 obtain⟨bp,c⟩:=J x2.heap.size;rw[<-c]at Y7 bc Zf Zy⊢;have j:=yr d (A p1 d.length k1) v2 v3 ay UG bn xF s (M+1) (M+3) bp (bp+1) (j5 a1) S Y (dY Zy Zf) (HL.below ba) t u Y7.out (by rw[<-bm];exact bc) Zf (aI Zf) HE (HT.below ba) HN VT;have bo:=O j;clear j c t u;refine(wpIn_wide (n:=0)).1 ?_;refine rJ (n:=0) (gf:=115) (lb:=#[jt (T ⟨bp,0,jf⟩),jt (T ⟨bp+1,0,jf⟩)]) I (enters_of func115 af I) bo (dY Zy Zf) (λ_=>rfl) (λk l=>l.2)
  (ChI d M w)
  (λ_ _ _ _=>False) ?hI (λys Ψ B h=>h.1) (λ_=>fj _ _) ?h0
  (DO d M λb x=>#[jh r,A p1 d.length k1,jt (T ⟨M,0,jf⟩),jm,jt (T ⟨M+1,0,jf⟩),jt (T ⟨M+2,0,jf⟩),jt (T ⟨b,0,jf⟩),A p1 d.length k1,jh #[A p1 d.length k1,v2,v3],jh r,.func (.func 115) #[] #[jt (T ⟨bp,0,jf⟩),jt (T ⟨bp+1,0,jf⟩)],jh (aL x).toArray,jm,jm,jm,jm,jm,jm,jm,jm,jm,jm,jm,jm]) ?hAx ?assign ?body ?done ?stop
 case hI=>exact FB _ _ _ _ F.size
 case h0=>exact⟨(λx U=>by cases U),⟨_,U5,λh=>h.elim (λh=>by have h:=h.1;omega) fun⟨_,l,_⟩=>(by cases l),qV _ _ _ _,by simp[sq],trivial⟩,⟨_,Vj,λh=>h.elim (λh=>by have h:=h.1;omega) fun⟨_,l,_⟩=>(by cases l),qV _ _ _ _,by simp[sq],trivial⟩,F,λk l=>by have:=HM.out;omega⟩
 case stop=>
  intro D c Ut Ψ W _ _ h;exact h.elim
 case hAx=>exact TX _ _ _ _
 case assign=>
  intro l' Ut x Ψ t K hI u hV hΨ f;have aa:GK d Ψ t x:=by
   obtain⟨⟨j,y,e,h⟩,-⟩:=hV;have e2:=(qW e I).2;injection e2 with e2
   rw[e2];exact h
  have P:=KD.kin aa (HL.below hI.2.2.2.1);obtain⟨X,j⟩:=J ((aL x).toArray);have y:X.size=VK.n:=by rw[j,ju];exact P.len
  have z:X.all (·.oneCell')=ji:=by rw[j,jS];exact λad hu=>P.ones ad (ak hu)
  have C:=O y;have U5:=O z;have B:=O j;have H:=O f;have R:=O hI;have V:N (Off (M+1) (M+1) 31 RI.e RI.k x Ψ t):=O ⟨_,_,u.2.1.less λk l=>.inl l⟩;have Vl:N (Off (M+2) (M+1) 60 RG.e RG.k x Ψ t):=O ⟨_,_,u.2.2.1.less λk l=>.inl l⟩;have au:=O aa;have HΨ:=O hΨ;rw[<-j];clear j y z f hI u aa hV P hΨ;rw[zK];simp only[qX,qY,qZ]
  gi_wp2_with (first|(refine VK.madeI I I (G ?_))|(refine VK.firstI I I I X I C U5 (G ?_)))
  have u:=ap t (ja X VK.t);refine H _ _ u (FB d M w w.heap.size (jG _) _ _ _ _ _ R.out (bP.ofBelow u λ_ h _=>h) (λ_ h=>h) λ_ h=>.inl h) ?_;have y:bP 0 Ψ t (t.alloc (ja X VK.t)):=bP.ofBelow u λ_ h _=>h
  refine⟨⟨t.heap.size,by rw[B],by rw[<-B];exact jy _ _,λh=>by have:=HΨ _ h;omega,au.turns y λ_ h=>.inl h⟩,Off.stable _ _ _ _ _ 0 _ _ _ _ _ V.out y (λ_ h=>h) λ_ h=>.inl h,Off.stable _ _ _ _ _ 0 _ _ _ _ _ Vl.out y (λ_ h=>h) λ_ h=>.inl h⟩
 case body=>
  rintro l' Ut x Ψ bB a5 ⟨aa,⟨u1,u,a3,B,au,-⟩,⟨u2,y,Vi,C,ax,-⟩,a2,hΨ⟩ ⟨⟨b,rfl,a6,bC,bd⟩,bq,br⟩ hV Yt bs hl bf bu;obtain⟨H,K,rfl⟩:=cO B;obtain⟨V,c2,rfl⟩:=cO C;obtain⟨n,Q⟩:=J Ut.length;rw[<-Q]at u y B C au ax;have P:=KD.kin bd (HL.below a2);obtain⟨X,j⟩:=J ((aL x).toArray);have bv:N (X[0]?=T (jd je (x.ix:jc))):=O (by rw[j];simpa using(mO P).1);have bw:N (∀z:jj,z.heap[b]?=T (ja X VK.t (0,0))->z.rangeAt b 107 (aD x.g x.vm x.vt)):=O λz hz t ad ht=>ah hz (by
   rw[j,ms];have h:=nI P (1+t);rw[<-qo,qu 1 t,qU]at h;exact h.trans ht)
  have WB:N ((aD x.g x.vm x.vt).length=VG.n):=O (eX P.leads.llen);have Vy:N (∀ad∈aD x.g x.vm x.vt,ad.oneCell'=ji):=O (mc P.leads);obtain⟨GA,R⟩:=J ((aD x.g x.vm x.vt).toArray);have Vb:=O R;have ZR:=O Q;have bg:N (n<=1000000):=O (by
   obtain⟨-,-,-,a4,hV⟩:=hV;have h1:=qk List.length hV;have h2:(ft ay UG (d.map (·.1))).length<=(d.map (·.1)).length+1:=Ec _ _ _;have h3:=HN.out;have h4:=ZR.out;rw[qf,jw,qf]at h1;rw[jw]at h2
   omega)
  dsimp only;rw[<-j]at a6⊢;clear j R Q P
  gi_upto_region 3 with fail
  refine R7 (λg=>g.heap[M+1]?=T (ja #[A H n K] 31 (0,0))/\g.heap[M+2]?=T (ja #[A V n c2] 60 (0,0))/\g.heap[b]?=T (ja X VK.t (0,0))) 10
   (.t 0 (.t 1 (.t 2 (.t 5 (.t 6 (.t 7 (rY id (.o 10 (.o 11 .done))))))))) af af af af af L (λ_ _ _ _ h=>h) (fun⟨_,_,h⟩=>h) ⟨u,y,a6⟩ ?_
  have a:=bX a5;obtain⟨A1,U⟩:=J a5.drew;rw[<-U]at a⊢;have y1:=av u a;have y2:=av y a;have yb:=av a6 a;have R1:=cP B a;have R2:=cP C a;have bI:a5.heap.size<=A1.heap.size:=a.size;clear U
  (refine cL (v:=?_) I ai (λg m=>?_) ?_;rotate_left;(have b1:=ah (i:=0) m.1 I;clear m;go_simp;with_reducible rfl);refine G ?_)
  refine cr ?_
  (refine cL (v:=?_) I ai (λg m=>?_) ?_;rotate_left;(have b1:=ah (i:=0) m.2.2 bv;clear m;go_simp;with_reducible rfl);refine G ?_)
  (refine cL (v:=?_) I ai (λg m=>?_) ?_;rotate_left;(have b1:=ah (i:=0) m.2.1 I;clear m;go_simp;with_reducible rfl);refine G ?_)
  refine cr ?_
  (refine cL (v:=jh GA) I ai (λg m=>by rw[Vb];exact gm _ _ VG.t _ I _ _ I _ VG.d (bw g m.2.2) VG.hu VG.hd (by rw[WB];exact VG.hi)) ?_;refine G ?_)
  refine Ae RI RG (T0:=id) (E:=id) (r1:=15) (r2:=16) (rb:=20) (r3:=21) (s1:=14) (s2:=19) (t1:=12) (t2:=17) af (λ_ _ _ _ h=>h) af af
   rfl rfl rfl rfl rfl rfl rfl rfl rfl rfl rfl rfl rfl rfl rfl rfl (show 15<24 by decide) (show 20<24 by decide) L L L L L L
   (λj v=>rfl) (λj=>rfl) (λj=>rfl) (λj=>rfl) (λj w' R h P=>P)
   (x1:=jd je (x.ix:jc)) (x2:=jh GA) (u1:=A H n K) (u2:=A V n c2) rfl rfl rfl rfl rfl (by rw[Vb];exact WB) (by simp[Value.cells,j4]) (λad hu=>Vy ad (by rw[Vb]at hu;simpa [Value.cells]using hu)) R1 R2 (AQ R1 R2 L) bg bg (by have:=(jA.1 y1).1;omega) ?_ ?_
  ·intro w' l bs
   exact⟨(l _ (jA.1 y1).1 (cQ R1 y1 L) (cQ R2 y1 L)).trans y1,(l _ (jA.1 y2).1 (cQ R1 y2 L) (cQ R2 y2 L)).trans y2,
    (l _ (jA.1 yb).1 (cQ R1 yb L) (cQ R2 yb L)).trans yb⟩
  rintro z1 z2 bK a4 A2 j;obtain⟨bM,d1,rfl⟩:=cO j.own1;obtain⟨bN,d2,rfl⟩:=cO j.own2;have bh:=(j.heap _ (jA.1 y1).1 (cQ R1 y1 L) (cQ R2 y1 L)).trans y1;have bi:=(j.heap _ (jA.1 y2).1 (cQ R1 y2 L) (cQ R2 y2 L)).trans y2;have P:=ah (i:=0) bh I;have R:=ah (i:=0) bi I;have f1:=gt (o:=0) bh;have f2:=gt (o:=0) bi;have bA:=O j;clear j;refine G ?_;refine nH I L af (λK' f=>?_);go_simp;refine f _ _ ?_;clear f;refine G ?_;refine nH I L af (λK' f=>?_);go_simp;refine f _ _ ?_;clear f P R f1 f2;refine G ?_;show((_ /\_)/\_ /\_)/\_;have R:=bq.sep u;have g2:=br.sep y;obtain⟨s1,s2,s3⟩:=ChI.step (y1:=jd je (x.ix:jc)) (y2:=jh GA) (λk l=>by
   rcases oj.1 l with l|l
   ·exact aa k l
   ·rw[jO]at l;rw[l];exact bd) a2 a (by rw[<-HM];exact j6 _) hΨ Yt u y
   (λh=>h.elim (λh=>a3 (.inl h)) λh=>(ue h).elim (λh=>a3 (.inr h)) R.1) (λh=>h.elim (λh=>Vi (.inl h)) λh=>(ue h).elim (λh=>Vi (.inr h)) g2.1)
   (λj P h=>h.elim (λh=>au j P (.inl h)) λh=>(ue h).elim (λh=>au j P (.inr h)) (R.2 j P)) (λj P h=>h.elim (λh=>ax j P (.inl h)) λh=>(ue h).elim (λh=>ax j P (.inr h)) (g2.2 j P))
   (λj P=>(B.lt j P).1) (λj P=>(C.lt j P).1) ZR ⟨cQ B u L,cQ C u L⟩ ⟨cQ B y L,cQ C y L⟩ rfl (by rw[Vb];rfl) bA
  have P:=Zy.out;have bO:=Zf.out;obtain⟨rl,j⟩:=bu;refine⟨⟨⟨s3 _ Y Y Y (vy B bf I) (vy C bf I),s3 _ Y Y Y (vy B j I) (vy C j I)⟩,s2,λk l=>s3 k (Yt k l) (λe=>a3 (.inl (e▸l))) (λe=>Vi (.inl (e▸l))) (λe=>au k e (.inl l)) (λe=>ax k e (.inl l))⟩,s1⟩
 rintro D xs Ψ W rfl m ⟨aa,⟨u1,u,a3,B,au,-⟩,⟨u2,y,Vi,C,ax,-⟩,a2,hΨ⟩ a5;obtain⟨H,K,rfl⟩:=cO B;obtain⟨V,c2,rfl⟩:=cO C;obtain⟨n,Q⟩:=J xs.length;rw[<-Q]at u y B C au ax;have ZR:=O Q;clear Q;have z:=u.cell;have P:=u.frozen;have Q:=y.cell;have X:=y.frozen
 go_upto_region 4 with fail
 refine jL ?_;refine fN (λg=>g.heap[M+1]?=T (ja #[A H n K] 31 (0,0))/\g.heap[M+2]?=T (ja #[A V n c2] 60 (0,0))) 4 (.t 0 (.t 1 (.o 2 (.o 3 .done)))) af af af af L (λ_ _ _ _ h=>h) ⟨u,y⟩ ?_;have a:=bX W;obtain⟨x,U⟩:=J W.drew;rw[<-U]at a⊢;have v1:=av u a;have a4:=av y a;have j:=ah (i:=0) v1 I;have e2:=ah (i:=0) a4 I;have R:=gt (o:=0) v1;have g2:=gt (o:=0) a4;clear z P Q X U
 (refine cL (v:=?_) I ai (λg m=>?_) ?_;rotate_left;(have b1:=ah (i:=0) m.1 I;clear m;go_simp;with_reducible rfl);refine G ?_)
 (refine cL (v:=?_) I ai (λg m=>?_) ?_;rotate_left;(have b1:=ah (i:=0) m.2 I;clear m;go_simp;with_reducible rfl);refine G ?_)
 have w1:=fl (i:=0) (A H n K) v1;have z:=(dB (w:=x) (b:=M+1) (i:=0) (A H n K) (show M+2≠M+1 by omega)).trans a4;refine cY I (λK' f=>?_);go_simp;refine f _ _ ⟨w1,z⟩ λ_=>?_
 clear f j e2 R g2;refine G ?_;have a6:∀k,(x.setCell ⟨M+1,0,jf⟩ (A H n K)).heap[k]?=x.heap[k]?:=λk=>by
  by_cases e:k=M+1
  ·rw[e,w1,v1];rfl
  exact dB _ e
 have bd:jk w w (x.setCell ⟨M+1,0,jf⟩ (A H n K)):=(a2.trans (a.mono a2.size)).setCell (p:=⟨M+1,0,jf⟩) (by rw[<-HM];exact j6 _) _;generalize x.setCell ⟨M+1,0,jf⟩ (A H n K)=P at w1 z a6 bd⊢;have ad:P.heap[M+1]?=T (ja #[A H n K] 31 (0,0)):=w1;have j:=ah (i:=0) ad I;have e2:=ah (i:=0) z I;have R:=gt (o:=0) ad;have g2:=gt (o:=0) z;have Q:=fl (i:=0) (A V n c2) z;have w4:=(dB (w:=P) (b:=M+2) (i:=0) (A V n c2) (show M+1≠M+2 by omega)).trans ad;refine cY I (λK' f=>?_);go_simp;refine f _ _ ⟨w4,Q⟩ λ_=>?_
 clear f j e2 R g2;refine G ?_;have X:∀k,(P.setCell ⟨M+2,0,jf⟩ (A V n c2)).heap[k]?=x.heap[k]?:=λk=>by
  refine Eq.trans ?_ (a6 k)
  by_cases e:k=M+2
  ·rw[e,Q,z];rfl
  exact dB _ e
 have bf:jk w w (P.setCell ⟨M+2,0,jf⟩ (A V n c2)):=bd.setCell (p:=⟨M+2,0,jf⟩) (by rw[<-HM];exact q7 _ _) _;generalize P.setCell ⟨M+2,0,jf⟩ (A V n c2)=W3 at Q w4 X bf⊢;refine fa ?_
 go_wp2_with fail
 have j:W3.heap[s.heap.size]?=T (.deferred (T [])):=(X _).trans (av a5 a);have bg:M+1≠s.heap.size:=λe=>by rw[<-e,w4]at j;cases j
 have bh:M+2≠s.heap.size:=λe=>by rw[<-e,Q]at j;cases j
 have z1:=ah (i:=0) ((nn (w:=W3) (o:=.deferred jf) bg).trans w4) I;have z2:=ah (i:=0) ((nn (w:=W3) (o:=.deferred jf) bh).trans Q) I;have r1:=ownsRow_putObj (iF (cP B a) λb _=>X b) (.deferred jf) j I;have r2:=ownsRow_putObj (iF (cP C a) λb _=>X b) (.deferred jf) j I;have bi:w.heap.size<=s.heap.size:=F.size;refine⟨by simp,.inl ⟨_,_,I,qN (b:=s.heap.size) (ds:=[]) j,?_⟩⟩;refine⟨jI #[A H n K,A V n c2],by simp[results,results16,go_sem,z1,z2],_,_,I,xs,m,?_,?_,?_,?_⟩
 ·rw[<-ZR];exact aH.of_own r1 λg f=>⟨by have:=(r1.lt g f).1;rw[<-HM];omega,(r1.lt g f).2⟩
 ·rw[<-ZR];exact aH.of_own r2 λg f=>⟨by have:=(r2.lt g f).1;rw[<-HM];omega,(r2.lt g f).2⟩
 ·intro k l
  have h:=aa k l;have g:∀b,(gb k b/\¬Ψ b/\∃c t f,W.heap[b]?=T (ja c t f))->(W3.putObj s.heap.size (.deferred jf)).heap[b]?=W.heap[b]?:=λb q=>by
   obtain⟨-,-,c,t,f,q⟩:=q;refine(nn (λe=>by rw[e,a5]at q;cases q)).trans ((X b).trans (a.block b (jA.1 q).1))
  refine(KD.keep h g).mono λb q=>?_
  obtain⟨h0,h1,c,t,f,h2⟩:=q;exact(jA.1 ((g b ⟨h0,h1,c,t,f,h2⟩).trans h2)).1
 exact bf.trans (iD bi)
section
def BxI(a:jg CP)(w:jj)(V:jg CK->jc->jF Obj)(ys:jg CK)(Ψ:jc->Prop)(W:jj):Prop:=(∀x∈ys,GK a Ψ W x)/\(∀b o,V ys b=T o->o.isCells=ji/\W.heap[b]?=T o/\¬(Ψ b\/gbs ys b))/\(jk w w W/\∀k,Ψ k->w.heap.size<=k)
theorem BxI.stable(j:jg CP)(w:jj)(V:jg CK->jc->jF Obj)(B0:jc)(h:w.heap.size<=B0):bZ B0 (BxI j w V):=by
 refine(Dt _ _).and (bZ.and ?_ (kL _ _ w (jG _) h));intro ys Ψ k r B l m s n b o p;obtain⟨d,c,f⟩:=l b o p;have q:=(jA.1 c).1;have g:¬(k b\/gbs ys b):=λh=>h.elim (λh=>(n b h).elim (λh=>f (.inl h)) λh=>by omega) λh=>f (.inr h)
 refine⟨d,?_,g⟩
 rcases m.block b q λh=>g (.inl h)with e|⟨-,t,a,i⟩
 ·exact e.trans c
 rw[c]at a;injection a with a;rw[<-a,d]at i;cases i
def EAx(a:jg CP)(E:jc->Prop)(c:jc->CK->jq jl)(x:CK)(d:Act)(Ψ:jc->Prop)(W:jj):Prop:=∃b,d={tmps:=c b x,defers:=[]}/\W.heap[b]?=T (ja (aL x).toArray VK.t (0,0))/\¬Ψ b/\GK a Ψ W x/\∀e,E e->¬gb x e
theorem EAx.stable(g:jg CP)(E:jc->Prop)(i:jc->CK->jq jl)(B0:jc):bZ B0 (fun(s:CK×Act) Ψ W=>EAx g E i s.1 s.2 Ψ W):=by
 rintro⟨x,n⟩ Ψ j o B ⟨b,e,a,k,l,m⟩ c p d;have f:¬j b:=λh=>by
  rcases d b h with h|h
  ·exact k h
  have:=(jA.1 a).1;omega
 exact⟨b,e,c.cells a f,f,l.turns c d,m⟩
theorem BxI.step{l:jg CP}{g B:jj}{V:jg CK->jc->jF Obj}{i:jg CK}{x:CK}{n:jc}(h:BxI l w V i Ψ g)(r:GK l Ψ g x)(s:∀e,E e->¬gb x e)(m:∀b o,V (i++[x]) b=T o->E b/\o.isCells=ji/\B.heap[b]?=T o)
 (u:∀b,E b->∃o,V i b=T o) (v:∀k,Ψ k->k<g.heap.size) (y:jk n g B) (z:w.heap.size<=n) (p:∀k,k<g.heap.size->¬E k->B.heap[k]?=g.heap[k]?):BxI l w V (i++[x]) Ψ B/\∀k,Ψ k->B.heap[k]?=g.heap[k]?:=by
 have he:∀e,E e->¬(Ψ e\/gbs i e):=λe a=>by obtain⟨o,j⟩:=u e a;exact(h.2.1 e o j).2.2
 have C:∀k∈i++[x],GK l Ψ g k:=λk a=>by
  rcases oj.1 a with a|a
  ·exact h.1 k a
  rw[jO]at a;rw[a];exact r
 have q:∀e,E e->¬(Ψ e\/gbs (i++[x]) e):=λe a d=>d.elim (λd=>he e a (.inl d)) λd=>(ue d).elim (λd=>he e a (.inr d)) (s e a)
 refine⟨⟨λk a=>(C k a).keep λb d D ⟨c,t,f,F⟩=>⟨p b (jA.1 F).1 λH=>q b H (.inr ⟨k,a,d⟩),D⟩,λb o j=>⟨(m b o j).2.1,(m b o j).2.2,q b (m b o j).1⟩,h.2.2.1.trans (y.mono z),h.2.2.2⟩,λk a=>p k (v k a) λd=>he k d (.inl a)⟩
noncomputable def kS:jF CK->jq jl
 |none=>VG.Z
 |some k=>(aD k.g k.vm k.vt).toArray
theorem TV{P:o1}{fn:Func}{p q:Tmp}{c i:jM}(h:fn.results= #[.cell p c,.cell q i])(tmps:jq jl)(w:jj)(g j:jc)(t:jM)(f:jq jl)(x:jl)(k:jc×jc)(d:TypeDesc)
 (l:tmps.getD p jm=jt (T ⟨g,0,jf⟩)) (m:tmps.getD q jm=jt (T ⟨j,0,jf⟩)) (n:w.heap[g]?=T (ja f t k)) (o:(loadVar i ⟨j,0,jf⟩).run P w=.ok x w)
 (r:P.underlying c=T d) (s:(match d with| .struct _ | .array _ _=>ji|_=>jn)=ji) (u:(P.info? c).map (·.size)=T f.size):
 (results fn tmps).run P w=.ok (jI #[jh f,x]) w:=by
 have e:(results fn tmps).run P w=((asAddr (tmps.getD p jm)).run P w).andThen λa y=>((loadVar c a).run P y).andThen λv z=>((asAddr (tmps.getD q jm)).run P z).andThen λb B=>((loadVar i b).run P B).andThen λC D=>.ok (jI #[v,C]) D:=by
  simp only[results,h];simp[Sem.run_bind,Result.andThen]
 rw[e,l];simp only[asAddr,Sem.run_pure,Result.andThen_ok,run_loadVar_row w g t c f k d n r s u,m,o]
theorem P4{n:jC}{f:jc×jc}(h:w.heap[b]?=T (ja #[.bool n] p f)):(loadVar 4 ⟨b,0,jf⟩).run jo w=.ok (.bool n) w:=by
 have c:=ah (i:=0) h I;go_simp
noncomputable def cuV(M:jc)(ys:jg CK)(b:jc):jF Obj:=if b=M+1 then T (ja (kS ys.getLast?) VG.t (0,0))else if b=M+2 then T (ja #[.bool ys.getLast?.isSome] 4 (0,0))else jf
def cuE(M b:jc):Prop:=b=M+1\/b=M+2
theorem uv(M:jc)(ys:jg CK):cuV M ys (M+1)=T (ja (kS ys.getLast?) VG.t (0,0)):=jr I
theorem vg(M:jc)(ys:jg CK):cuV M ys (M+2)=T (ja #[.bool ys.getLast?.isSome] 4 (0,0)):=(jE Y).trans (jr I)
theorem Eh{F:jg CK}{o:Obj}(h:cuV b F M=T o):(M=b+1/\o=ja (kS F.getLast?) VG.t (0,0))\/(M=b+2/\o=ja #[.bool F.getLast?.isSome] 4 (0,0)):=by
 unfold cuV at h
 split at h
 ·rename_i e;injection h with h;exact .inl ⟨e,h.symm⟩
 split at h
 ·rename_i e;injection h with h;exact .inr ⟨e,h.symm⟩
 cases h
theorem Iu{a:jg CP}{v:jl}{k:jF CK}(h:∀x,k=T x->GK a Ψ W x)(c:cF W v a):(kS k).size=VG.n/\(kS k).all (·.oneCell')=ji:=by
 rcases k with _|k
 ·exact⟨VG.hZ,by kernel_rfl⟩
 have b:=KD.kin (h k I) c;refine⟨by unfold kS;rw[ju];exact eX b.leads.llen,?_⟩;unfold kS;rw[jS];exact λd e=>mc b.leads d (ak e)
attribute [local go_sem] Oper.semAt_some
theorem BW(d:jg CP)(v:jl)(aa:jb)(UG:LBy)(r:UG.length=32)(w:jj)(t:cF w v d)(u:∀p∈d,cT (aP p.1))(y:bS w)(B:d.length<=1000)(C:∀p∈d,p.1.chg.length<=1000000):
 jB jo 18 #[jh (dz aa UG).toArray,v] w λe w'=>∃k:jF CK,e=jz (jI #[jh (kS k),.bool k.isSome])/\k.map CK.cand=(ft aa UG (d.map (·.1))).getLast?/\(∀x,k=T x->KD (λb=>b<w'.heap.size) d w' x)/\jk w w w':=by
 obtain⟨p1,k1,rfl⟩:=t.form;obtain⟨j,l⟩:=J ((dz aa UG).toArray);have a6:N (j.size=VF.n):=O (by rw[l,ju];unfold dz;rw[jZ,jw,r];rfl);rw[<-l];obtain⟨M,f⟩:=J w.heap.size;obtain⟨z,a⟩:=J (((w.alloc (ja j 59)).alloc (ja VG.Z VG.t)).alloc (ja #[.bool jn] 4));have H:=ap w (ja j 59);have Uz:=H.trans ((ap (w.alloc (ja j 59)) (ja VG.Z VG.t)).mono H.size);have o:=ap ((w.alloc (ja j 59)).alloc (ja VG.Z VG.t)) (ja #[.bool jn] 4);have c:N (z.heap[M]?=T (ja j VF.t (0,0))):=O (by rw[a,f];exact av (av (jy w _) (ap _ _)) o);have s:N (z.heap[M+1]?=T (ja VG.Z VG.t (0,0))):=O (by
  have h:=jy (w.alloc (ja j 59)) (ja VG.Z VG.t);rw[jp]at h;rw[a,f];exact av h o)
 have P:N (z.heap[M+2]?=T (ja #[.bool jn] 4 (0,0))):=O (by
  have h:=jy ((w.alloc (ja j 59)).alloc (ja VG.Z VG.t)) (ja #[.bool jn] 4);rw[jp,jp]at h;rw[a,f];exact h)
 have m:N (jk w w z):=O (by rw[a];exact Uz.trans (o.mono Uz.size));have ba:N (z.heap.size=M+3):=O (by rw[a,f,jp,jp,jp]);obtain⟨Q,g⟩:=J (w.alloc (ja j 59));have ad:N (Q.heap.size=M+1):=O (by rw[g,f,jp]);have ay:N (jk w w Q):=O (by rw[g];exact H);have q:N (jk (M+1) Q z):=O (by
  have h:=(ap Q (ja VG.Z VG.t)).trans ((ap (Q.alloc (ja VG.Z VG.t)) (ja #[.bool jn] 4)).mono (ap Q _).size);rw[ad,g,<-a]at h;rw[g];exact h)
 have HL:=O t;have HE:=O u;have HT:=O y;have HN:=O B;have VT:=O C;have HM:=O f;have D:=O a;have bb:=O l;have bc:=O r;clear g H Uz o l f a t u y B C r;refine(qM (n:=0)).1 ?_;refine r5 func18 I trivial ?_ I;refine wpIn_wide.2 ?_;simp only[ntmps18,ju,jZ,qy,qz,qA,qB,qC,qD,qE,qd,qF]
 go_upto_region 1 with(first|(refine VG.made I I (G ?_)))
 rw[<-D]
 try simp only[jp]
 try rw[show w.heap.size+1+1=w.heap.size+2 from I]
 rw[<-HM];clear D;refine jL ?_;refine fN (λR=>R.heap[M]?=T (ja j VF.t (0,0))) 4 (.t 0 (.t 2 (.o 1 (.o 3 .done)))) af af af af L (λ_ _ _ _ h=>h) c ?_;have a:=bX z;obtain⟨x1,S⟩:=J z.drew;rw[<-S]at a⊢;have a1:N (M+3<=x1.heap.size):=O (by rw[<-ba];exact a.size);replace m:=aj m a;replace c:=ae c a;replace s:=ae s a;replace q:=O (q.trans (a.mono (by have:=q.size;have:=ad.out;omega)));replace P:=ae P a;clear S a;refine cr ?_
 (refine cL (v:=jh j) I ai (λR C=>cM VF.hu VF.hd (by rw[a6];exact VF.hi) I I C) ?_;refine G ?_)
 refine cY I (λK' f=>?_);go_simp;refine(pX d _ x1 (HL.below m) HE (HT.below m) HN).mono ?_;rintro e x2 ⟨v2,v3,rfl,l,a⟩;have r:=O (l.mono (E:=λb=>M+3<=b/\b<x2.heap.size) λb g=>⟨jD a1 g.1,g.2⟩);have Zf:N (M+3<=x2.heap.size):=O (jD a1 a.size);replace m:=aj m a;replace c:=ae c a;replace s:=ae s a;replace q:=O (q.trans (a.mono (by have:=q.size;have:=ad.out;omega)));replace P:=ae P a;refine f _ _ c.out λ_=>?_
 clear f l a;refine G ?_;refine cY I (λK' f=>?_);go_simp;refine(zQ _ j x2).mono ?_;rintro e l ⟨rfl,o⟩;have a:jk x2 x2 l:=by rw[o];exact(ap _ _).trans ((ap _ _).mono (ap _ _).size)
 have Y7:N (l.heap[x2.heap.size]?=T (ja #[A p1 d.length k1,v2,v3] VP.t (0,0))):=O (by rw[o];exact av (jy x2 _) (ap _ _));have a2:N (l.heap[x2.heap.size+1]?=T (ja j VF.t (0,0))):=O (by
  have h:=jy (x2.alloc (ja #[A p1 d.length k1,v2,v3] 114)) (ja j 59);rw[jp]at h;rw[o];exact h)
 have Zy:N (l.heap.size=x2.heap.size+2):=O (by rw[o,jp,jp]);replace m:=aj m a;replace s:=ae s a;replace q:=O (q.trans (a.mono (by have:=q.size;have:=ad.out;omega)));replace P:=ae P a;have t:N (aH (λb=>M+3<=b/\b<l.heap.size) l v2 32 (bV (d.map (·.1)) d.length).length (kf (d.map (·.1)) (bV (d.map (·.1)) d.length))):=O ((r.ids.keep λb g=>a.block b g.2).mono λb g=>⟨g.1,by have:=Zy.out;omega⟩);have u:N (aH (λb=>M+3<=b/\b<l.heap.size) l v3 1 (bV (d.map (·.1)) d.length).length (iX (bV (d.map (·.1)) d.length))):=O ((r.at_.keep λb g=>a.block b g.2).mono λb g=>⟨g.1,by have:=Zy.out;omega⟩);refine f _ _ (av c a) λ_=>?_
 clear f o a c r;refine G ?_;refine fa ?_
 go_wp2_with fail
 obtain⟨bp,c⟩:=J x2.heap.size;rw[<-c]at Y7 a2 Zf Zy⊢;have o:=yr d (A p1 d.length k1) v2 v3 aa UG bc Q l (M+1) (M+3) bp (bp+1) (j5 ad) q Y (dY Zy Zf) (HL.below ay) t u Y7.out (by rw[<-bb];exact a2) Zf (aI Zf) HE (HT.below ay) HN VT;have bd:=O o;clear o c t u;refine(wpIn_wide (n:=0)).1 ?_;refine rJ (n:=0) (gf:=115) (lb:=#[jt (T ⟨bp,0,jf⟩),jt (T ⟨bp+1,0,jf⟩)]) I (enters_of func115 af I) bd (dY Zy Zf) (λ_=>rfl) (λk r=>r.2)
  (BxI d w (cuV M)) (λ_ _ _ _=>False) ?hI (λys Ψ B h=>h.1) (λ_=>fj _ _) ?h0
  (EAx d (cuE M) λb x=>#[jh j,A p1 d.length k1,jt (T ⟨M,0,jf⟩),jm,jt (T ⟨M+1,0,jf⟩),jt (T ⟨M+2,0,jf⟩),jt (T ⟨b,0,jf⟩),A p1 d.length k1,jh #[A p1 d.length k1,v2,v3],jh j,.func (.func 115) #[] #[jt (T ⟨bp,0,jf⟩),jt (T ⟨bp+1,0,jf⟩)],jh (aL x).toArray,jm,jm,jm,jm]) ?hAx ?assign ?body ?done ?stop
 case hI=>exact BxI.stable _ _ _ _ m.size
 case h0=>
  refine⟨(λx S=>by cases S),λb o g=>?_,m,λk r=>by have:=HM.out;have:=r.1;omega⟩
  rcases Eh g with⟨rfl,rfl⟩|⟨rfl,rfl⟩
  ·exact⟨I,s,λh=>h.elim (λh=>by have h:=h.1;omega) fun⟨_,r,_⟩=>(by cases r)⟩
  exact⟨I,P,λh=>h.elim (λh=>by have h:=h.1;omega) fun⟨_,r,_⟩=>(by cases r)⟩
 case stop=>
  intro D c u Ψ W _ _ h;exact h.elim
 case hAx=>exact EAx.stable _ _ _ _
 case assign=>
  intro l' u x Ψ t K hI y hV V f;have U:GK d Ψ t x:=by
   obtain⟨⟨B,F,e,h⟩,-⟩:=hV;have e2:=(qW e I).2;injection e2 with e2
   rw[e2];exact h
  have B:=KD.kin U (HL.below hI.2.2.1);obtain⟨X,F⟩:=J ((aL x).toArray);have a3:N (X.size=VK.n):=O (by rw[F,ju];exact B.len);have s:N (X.all (·.oneCell')=ji):=O (by rw[F,jS];exact λau hu=>B.ones au (ak hu));have ax:=O F;have HK:=O f;have HI:=O hI;have HO:N (∀e,cuE M e->¬gb x e):=O (by
   rintro e (rfl|rfl) h
   ·exact(y.2.1 _ _ (uv M u)).2.2 (.inl (.inr h))
   exact(y.2.1 _ _ (vg M u)).2.2 (.inl (.inr h)))
  have a4:=O U;have HΨ:=O V;rw[<-F];clear F f hI y U hV B V;rw[zK];simp only[qX,qY,qZ]
  gi_wp2_with (first|(refine VK.madeI I I (G ?_))|(refine VK.firstI I I I X I a3 s (G ?_)))
  have y:=ap t (ja X VK.t);have U:∀B0,bP B0 Ψ t (t.alloc (ja X VK.t)):=λB0=>bP.ofBelow y λ_ h _=>h
  refine HK _ _ y (BxI.stable d w _ w.heap.size (jG _) _ _ _ _ _ HI.out (U _) (λ_ h=>h) λ_ h=>.inl h) ?_;exact⟨t.heap.size,by rw[ax],by rw[<-ax];exact jy _ _,λh=>by have:=HΨ _ h;omega,a4.turns (U 0) (λ_ h=>.inl h),HO⟩
 case body=>
  rintro l' u x Ψ bi K hI ⟨b,rfl,a5,bk,a3,bf⟩ hV Yt bl hl bm bn;have B:=KD.kin a3 (HL.below hI.2.2.1);have H:=(hI.2.1 _ _ (uv M u)).2.1;have Uz:=(hI.2.1 _ _ (vg M u)).2.1;have a4:=(Iu (k:=u.getLast?) (λy U=>hI.1 y (q8 U)) (HL.below hI.2.2.1)).1;obtain⟨X,F⟩:=J ((aL x).toArray);have bg:N (K.rangeAt b 107 (aD x.g x.vm x.vt)):=O λt au ht=>ah a5 (by
   rw[ms];have h:=nI B (1+t);rw[<-qo,qu 1 t,qU]at h;exact h.trans ht)
  have WB:N ((aD x.g x.vm x.vt).length=VG.n):=O (eX B.leads.llen);obtain⟨V,ax⟩:=J ((aD x.g x.vm x.vt).toArray);have YP:N (V.size=VG.n):=O (by rw[ax,ju];exact WB);have Vy:N (V.all (·.oneCell')=ji):=O (by rw[ax,jS];exact λau hu=>mc B.leads au (ak hu));have Vb:=O ax;have k2:(K.setRow (M+1) V).heap[M+2]?=T (ja #[.bool u.getLast?.isSome] 4 (0,0)):=(js _ _ _ _ Y).trans Uz;have c2:=ah (i:=0) k2 I;have f2:=gt (o:=0) k2;have Uq:=O H;have bh:=O a4;dsimp only;rw[<-F];clear F ax H a4 B Uz
  gi_wp2_with (first|(refine VG.loadI ai I I (aD x.g x.vm x.vt) WB bg ?_;rw[<-Vb];refine G ?_)|(refine VG.storeI I I I V I YP Vy Uq bh (G ?_)))
  have B:∀k,k≠M+1->k≠M+2->((K.setRow (M+1) V).setCell ⟨M+2,0,jf⟩ (.bool ji)).heap[k]?=K.heap[k]?:=λk h1 h2=>(dB _ h2).trans (js _ _ _ _ h1)
  have F:jk (M+1) K ((K.setRow (M+1) V).setCell ⟨M+2,0,jf⟩ (.bool ji)):=(iS (qb _ K) (jG _) V).setCell (p:=⟨M+2,0,jf⟩) (j6 _) _;have ax:(u++[x]).getLast?=T x:=List.getLast?_concat;obtain⟨s1,s2⟩:=BxI.step (E:=cuE M) hI a3 bf (λb o ho=>by
   rcases Eh ho with⟨rfl,rfl⟩|⟨rfl,rfl⟩
   ·rw[ax]
    exact⟨.inl I,I,(dB _ Y).trans (by rw[jT _ _ _ _ _ _ Uq.out,Vb];rfl)⟩
   rw[ax];exact⟨.inr I,I,fl _ k2⟩) (by rintro b (rfl|rfl);exact⟨_,uv _ _⟩;exact⟨_,vg _ _⟩) Yt F (by rw[<-HM];exact j6 _) (λk _ r=>B k (λe=>r (.inl e)) λe=>r (.inr e))
  have r:=Zy.out;have a4:=Zf.out;refine⟨⟨⟨B _ Y Y,B _ Y Y⟩,F,s2⟩,s1⟩
 rintro D xs Ψ W rfl C hI a3;have X:=(hI.2.1 _ _ (uv M xs)).2.1;have Wi:=(hI.2.1 _ _ (vg M xs)).2.1;have x:=Iu (k:=xs.getLast?) (λy U=>hI.1 y (q8 U)) (HL.below hI.2.2.1);obtain⟨u,K⟩:=J (xs.getLast?);have bf:∀y,u=T y->GK d Ψ W y:=λy U=>hI.1 y (q8 (K.symm.trans U))
 have bg:u.map CK.cand=(ft aa UG (d.map (·.1))).getLast?:=by rw[K,<-C,List.getLast?_map]
 have a4:=hI.2.2.1;rw[<-K]at X Wi x;obtain⟨r,hG⟩:=J (kS u);obtain⟨ok,Yd⟩:=J u.isSome;rw[<-hG]at X x;rw[<-Yd]at Wi;have au:=O x;clear hI K x
 go_upto_region 4 with fail
 refine jL ?_;refine fN (λR=>R.heap[M+1]?=T (ja r VG.t (0,0))/\R.heap[M+2]?=T (ja #[.bool ok] 4 (0,0))) 4 (.t 0 (.t 1 (.o 2 (.o 3 .done)))) af af af af L (λ_ _ _ _ h=>h) ⟨X,Wi⟩ ?_;have a:=bX W;obtain⟨x,S⟩:=J W.drew;rw[<-S]at a⊢;have v1:=av X a;have K:=av Wi a;have e2:=ah (i:=0) K I;have V:=gt (o:=0) K;clear S
 (refine cL (v:=jh r) I ai (λR C=>cM VG.hu VG.hd (by rw[au.1];exact VG.hi) I I C.1) ?_;refine G ?_)
 (refine cL (v:=?_) I ai (λR C=>?_) ?_;rotate_left;(have R:=ah (i:=0) C.2 I;clear C;go_simp;with_reducible rfl);refine G ?_)
 refine cY I (λK' f=>?_);rw[jr ai];refine jR VG.t _ _ I (M+1) r I I VG.t r v1 (by rw[au.1];exact VG.hi) I au.2 ?_;rw[setRow_self _ _ _ _ _ v1];refine f _ _ ⟨v1,K⟩ λ_=>?_
 clear f;refine G ?_;refine cY I (λK' f=>?_);go_simp;have R:(x.setCell ⟨M+2,0,jf⟩ (.bool ok)).heap[M+2]?=T (ja #[.bool ok] 4 (0,0)):=fl (i:=0) (.bool ok) K;have ax:∀k,(x.setCell ⟨M+2,0,jf⟩ (.bool ok)).heap[k]?=x.heap[k]?:=λk=>by
  by_cases e:k=M+2
  ·rw[e,R,K]
  exact dB _ e
 have F:jk w w (x.setCell ⟨M+2,0,jf⟩ (.bool ok)):=(a4.trans (a.mono a4.size)).setCell (p:=⟨M+2,0,jf⟩) (by rw[<-HM];exact q7 _ _) _;rw[<-Yd];generalize x.setCell ⟨M+2,0,jf⟩ (.bool ok)=W3 at R ax F⊢;have B:=(ax _).trans v1;refine f _ _ ⟨B,R⟩ λ_=>?_
 clear f e2 V;refine G ?_;refine fa ?_
 go_wp2_with fail
 have V:W3.heap[l.heap.size]?=T (.deferred (T [])):=(ax _).trans (av a3 a);have bh:M+1≠l.heap.size:=λe=>by rw[<-e,B]at V;cases V
 have bi:M+2≠l.heap.size:=λe=>by rw[<-e,R]at V;cases V
 have z1:=(nn (w:=W3) (o:=.deferred jf) bh).trans B;have z2:=(nn (w:=W3) (o:=.deferred jf) bi).trans R;have bk:w.heap.size<=l.heap.size:=m.size;refine⟨by simp,.inl ⟨_,_,I,qN (b:=l.heap.size) (ds:=[]) V,?_⟩⟩;refine⟨jI #[jh r,.bool ok],TV I _ _ (M+1) (M+2) VG.t r _ (0,0) _ I I z1 (P4 z2) VG.hu I (by rw[au.1];exact VG.hi),u,by rw[hG,Yd],bg,λy U=>?_,F.trans (iD bk)⟩;have h:=bf y U;have a5:∀b,(gb y b/\¬Ψ b/\∃c t f,W.heap[b]?=T (ja c t f))->(W3.putObj l.heap.size (.deferred jf)).heap[b]?=W.heap[b]?:=λb g=>by
  obtain⟨-,-,c,t,f,g⟩:=g;refine(nn (λe=>by rw[e,a3]at g;cases g)).trans ((ax b).trans (a.block b (jA.1 g).1))
 refine(KD.keep h a5).mono λb g=>?_
 obtain⟨h0,h1,c,t,f,h2⟩:=g;exact(jA.1 ((a5 b ⟨h0,h1,c,t,f,h2⟩).trans h2)).1
end
def eI(b:LBy)(a d:jb):jC->jg aR->jC
 |ok,[]=>ok
 |true,c::e=>match c.com.chg.find? λx=>x.d==a&&x.k !=1 with|some x=>decide (d<=x.c)|none=>eI b a d ji e
 |false,c::e=>if c.id=b then(if cD c.leads.mem a=ji then eI b a d ji e else jn)else eI b a d jn e
section
def okS(id:LBy)(ys:jg CK):jC:=ys.any λk=>decide (k.id=id)
def AccP(id:LBy)(dev ctr:jb)(ys:jg CK):Prop:=∀a,eI id dev ctr jn (ys.map CK.cand++a)=eI id dev ctr (okS id ys) a
theorem rI(id:LBy)(ys:jg CK)(x:CK):okS id (ys++[x])=(okS id ys||decide (x.id=id)):=by unfold okS;simp
section
variable {id:LBy} {dev ctr:jb} {ys:jg CK} {x:CK} (h:AccP id dev ctr ys)
include h
theorem AccP.at(a:jg aR):eI id dev ctr jn ((ys++[x]).map CK.cand++a)=eI id dev ctr (okS id ys) (x.cand::a):=by
 rw[mz,qT];exact h _
theorem AccP.on(a:okS id ys=ji)(b:x.p.1.chg.find? (λy=>y.d==dev&&y.k !=1)=jf):AccP id dev ctr (ys++[x]):=λc=>by
 rw[h.at,rI,a,eI,show x.cand.com=x.p.1 from I,b];rfl
theorem AccP.off{y:ar}(a:okS id ys=ji)(b:x.p.1.chg.find? (λy=>y.d==dev&&y.k !=1)=T y)(c:jg aR):eI id dev ctr jn ((ys++[x]).map CK.cand++c)=decide (ctr<=y.c):=by
 rw[h.at,a,eI,show x.cand.com=x.p.1 from I,b]
theorem AccP.ne(b:okS id ys=jn)(a:x.id≠id):AccP id dev ctr (ys++[x]):=λc=>by
 rw[h.at,rI,b,eI,jE (show ¬x.cand.id=id from a),decide_eq_false a];rfl
theorem AccP.met(b:okS id ys=jn)(a:x.id=id)(c:cD x.g.mem dev=ji):AccP id dev ctr (ys++[x]):=λd=>by
 rw[h.at,rI,b,eI,jr (show x.cand.id=id from a),jr (show cD x.cand.leads.mem dev=ji from c),ql a];rfl
theorem AccP.gone(a:okS id ys=jn)(b:x.id=id)(c:cD x.g.mem dev=jn)(d:jg aR):eI id dev ctr jn ((ys++[x]).map CK.cand++d)=jn:=by
 rw[h.at,a,eI,jr (show x.cand.id=id from b),jE (show ¬cD x.cand.leads.mem dev=ji by show ¬cD x.g.mem dev=ji;rw[c];decide)]
end
theorem N2{α:Type}{q:α->jC}{l:jg α}{j:jc}{y:α}(h:∀z∈l.take j,q z=jn)(a:l[j]?=T y)(b:q y=ji):l.find? q=T y:=by
 rw[<-r9 j l,sa,qt.2 (λz c=>by rw[h z c];decide),Option.none_or,List.drop_eq_getElem_cons (jU.1 a).1,(jU.1 a).2,List.find?_cons,b]
theorem NZ{α:Type}{q:α->jC}{l:jg α}(h:∀z∈l.take l.length,q z=jn):l.find? q=jf:=qt.2 λz a=>by
 rw[h z (by rw[List.take_length];exact a)];decide
theorem TY(d:jb)(c:jq jl)(b:jc)(x:aJ)(w:jj)(f:w.heap[b]?=T (ja c 70 (0,0)))(g:c[33]?=T (jd je d)):
 jB jo 58 #[jh x.cells.toArray,jt (T ⟨b,0,jf⟩)] w λe w'=>e=jz (.bool (x.dev==d))/\jk w w w':=by
 have a:=ap w (ja x.cells.toArray 100);have j:=ah (i:=33) (av f a) g;have h:=O a;clear a f g;obtain⟨x1,x2,g⟩:=x;unfold aJ.cells at*;obtain⟨r,a⟩:=J ((x1==d));show jB _ _ _ _ λe w'=>e=jz (.bool (x1==d))/\_
 rw[<-a];have f:=O a;clear a
 go_enter func58,ntmps58
 go_wp2_with fail
 go_ret;exact⟨iC f.symm,h⟩
theorem Oh(d:jb)(a:jq jl)(b c:jc)(e:b<c)(f:a[33]?=T (jd je d)):fS EM 58 #[jt (T ⟨b,0,jf⟩)] c (λW=>W.heap[b]?=T (ja a 70 (0,0))) (λm=>m.dev==d) where
 enter _ _:=I
 keep w w' hn h hB:=(hB.block b e).trans h
 call x w hn h:=TY d a b x w h f
def chZ:ar:=⟨0,0,0,0,0⟩
noncomputable def VH:VarT jo:=⟨55,5,chZ.cells.toArray,_,r6,I,by kernel_rfl,rfl,λ_=>by kernel_rfl⟩
def acV(M:jc)(a:jq jl)(id:LBy)(ys:jg CK)(b:jc):jF Obj:=if b=M+1 then T (ja a 70 (0,0))else if b=M+2 then T (ja #[.bool (okS id ys)] 4 (0,0))else jf
theorem zq(M:jc)(a:jq jl)(id:LBy)(ys:jg CK):acV M a id ys (M+1)=T (ja a 70 (0,0)):=jr I
theorem tY(M:jc)(a:jq jl)(id:LBy)(ys:jg CK):acV M a id ys (M+2)=T (ja #[.bool (okS id ys)] 4 (0,0)):=(jE Y).trans (jr I)
theorem Fb{M b:jc}{a:jq jl}{id:LBy}{ys:jg CK}{o:Obj}(h:acV M a id ys b=T o):(b=M+1/\o=ja a 70 (0,0))\/(b=M+2/\o=ja #[.bool (okS id ys)] 4 (0,0)):=by
 unfold acV at h
 split at h
 ·rename_i e;injection h with h;exact .inl ⟨e,h.symm⟩
 split at h
 ·rename_i e;injection h with h;exact .inr ⟨e,h.symm⟩
 cases h
def AcX(w:jj)(M:jc)(id:LBy)(dev ctr:jb)(c:Code)(ys:jg CK)(Ψ:jc->Prop)(W:jj):Prop:=(∃r,c=.ret/\(Boxed W (M+2) 4 (.bool r)/\¬Ψ (M+2))/\∀a,eI id dev ctr jn (ys.map CK.cand++a)=r)/\(jk w w W/\∀k,Ψ k->w.heap.size<=k)
theorem AcX.stable(w:jj)(M:jc)(id:LBy)(dev ctr:jb)(c:Code)(B0:jc)(h:w.heap.size<=B0):bZ B0 (AcX w M id dev ctr c):=by
 refine bZ.and ?_ (kL _ _ w (jG _) h);rintro ys Ψ a b B ⟨r,d,e,f⟩ g i j;exact⟨r,d,iT B0 (M+2) 4 (λ_:Unit=>.bool r) () Ψ a b B e g i j,f⟩
attribute [local go_sem] Oper.semAt_some
theorem DG(d:jg CP)(v:jl)(ad:jb)(UG:LBy)(m:UG.length=32)(u:jq jl)(f:LBy)(dev ctr:jb)(q:f.length=32)(r:∀t R,(f.map v8)[t]?=T R->u[1+t]?=T R)(s:u[33]?=T (jd je dev))(x:u[34]?=T (jd je ctr))
 (w:jj) (n:cF w v d) (y:∀p∈d,cT (aP p.1)) (z:bS w) (B:d.length<=1000) (D:∀p∈d,p.1.chg.length<=1000000) (F:∀k,k∈ft ad UG (d.map (·.1))->k.leads.mem.length<=1000000):
 jB jo 21 #[jh (dz ad UG).toArray,v,jh u] w λe w'=>e=jz (.bool (eI f dev ctr jn (ft ad UG (d.map (·.1)))))/\jk w w w':=by
 obtain⟨p1,k1,rfl⟩:=n.form;obtain⟨C,i⟩:=J ((dz ad UG).toArray);have bK:N (C.size=VF.n):=O (by rw[i,ju];unfold dz;rw[jZ,jw,m];rfl);rw[<-i];obtain⟨M,b⟩:=J w.heap.size;obtain⟨x0,a⟩:=J (((w.alloc (ja C 59)).alloc (ja u 70)).alloc (ja #[.bool jn] 4));have S:=ap w (ja C 59);have U:=S.trans ((ap (w.alloc (ja C 59)) (ja u 70)).mono S.size);have j:=ap ((w.alloc (ja C 59)).alloc (ja u 70)) (ja #[.bool jn] 4);have c:N (x0.heap[M]?=T (ja C VF.t (0,0))):=O (by rw[a,b];exact av (av (jy w _) (ap _ _)) j);have U5:N (x0.heap[M+1]?=T (ja u 70 (0,0))):=O (by
  have h:=jy (w.alloc (ja C 59)) (ja u 70);rw[jp]at h;rw[a,b];exact av h j)
 have Vj:N (x0.heap[M+2]?=T (ja #[.bool jn] 4 (0,0))):=O (by
  have h:=jy ((w.alloc (ja C 59)).alloc (ja u 70)) (ja #[.bool jn] 4);rw[jp,jp]at h;rw[a,b];exact h)
 have P:N (jk w w x0):=O (by rw[a];exact U.trans (j.mono U.size));have bM:N (x0.heap.size=M+3):=O (by rw[a,b,jp,jp,jp]);obtain⟨xF,g⟩:=J (w.alloc (ja C 59));have ax:N (xF.heap.size=M+1):=O (by rw[g,b,jp]);have bm:N (jk w w xF):=O (by rw[g];exact S);have UO:N (jk (M+1) xF x0):=O (by
  have h:=(ap xF (ja u 70)).trans ((ap (xF.alloc (ja u 70)) (ja #[.bool jn] 4)).mono (ap xF _).size);rw[ax,g,<-a]at h;rw[g];exact h)
 have HL:=O n;have HE:=O y;have HT:=O z;have HN:=O B;have VT:=O D;have HM:=O b;have H:=O a;have bN:=O i;have bO:=O m;have WI:=O r;have WU:=O s;have bn:=O x;have bo:=O q;have YY:=O F;obtain⟨bq,o⟩:=J (eI f dev ctr jn (ft ad UG (d.map (·.1))));rw[<-o];have Zr:=O o;clear g S U j i b a n y z B D m r s x q F o;refine(qM (n:=0)).1 ?_;refine r5 func21 I trivial ?_ I;refine wpIn_wide.2 ?_;simp only[ntmps21,ju,jZ,qy,qz,qA,qB,qC,qD,qE,qd,qF]
 go_upto_region 1 with fail
 rw[<-H]
 try simp only[jp]
 try rw[show w.heap.size+1+1=w.heap.size+2 from I]
 rw[<-HM];clear H;refine jL ?_;refine fN (λb=>b.heap[M]?=T (ja C VF.t (0,0))) 4 (.t 0 (.t 2 (.o 1 (.o 3 .done)))) af af af af L (λ_ _ _ _ h=>h) c ?_;have a:=bX x0;obtain⟨x1,hx⟩:=J x0.drew;rw[<-hx]at a⊢;have br:N (M+3<=x1.heap.size):=O (by rw[<-bM];exact a.size);replace P:=aj P a;replace c:=ae c a;replace U5:=ae U5 a;replace UO:=O (UO.trans (a.mono (by have:=UO.size;have:=ax.out;omega)));replace Vj:=ae Vj a;clear hx a;refine cr ?_
 (refine cL (v:=jh C) I ai (λb hS=>cM VF.hu VF.hd (by rw[bK];exact VF.hi) I I hS) ?_;refine G ?_)
 refine cY I (λj hK=>?_);go_simp;refine(pX d _ x1 (HL.below P) HE (HT.below P) HN).mono ?_;rintro e x2 ⟨v2,v3,rfl,g,a⟩;have i:=O (g.mono (E:=λb=>M+3<=b/\b<x2.heap.size) λb m=>⟨jD br m.1,m.2⟩);have Zf:N (M+3<=x2.heap.size):=O (jD br a.size);replace P:=aj P a;replace c:=ae c a;replace U5:=ae U5 a;replace UO:=O (UO.trans (a.mono (by have:=UO.size;have:=ax.out;omega)));replace Vj:=ae Vj a;refine hK _ _ c.out λ_=>?_
 clear hK g a;refine G ?_;refine cY I (λj hK=>?_);go_simp;refine(zQ _ C x2).mono ?_;rintro e q ⟨rfl,g⟩;have a:jk x2 x2 q:=by rw[g];exact(ap _ _).trans ((ap _ _).mono (ap _ _).size)
 have Y7:N (q.heap[x2.heap.size]?=T (ja #[A p1 d.length k1,v2,v3] VP.t (0,0))):=O (by rw[g];exact av (jy x2 _) (ap _ _));have bs:N (q.heap[x2.heap.size+1]?=T (ja C VF.t (0,0))):=O (by
  have h:=jy (x2.alloc (ja #[A p1 d.length k1,v2,v3] 114)) (ja C 59);rw[jp]at h;rw[g];exact h)
 have Zy:N (q.heap.size=x2.heap.size+2):=O (by rw[g,jp,jp]);replace P:=aj P a;replace U5:=ae U5 a;replace UO:=O (UO.trans (a.mono (by have:=UO.size;have:=ax.out;omega)));replace Vj:=ae Vj a;have j:N (aH (λb=>M+3<=b/\b<q.heap.size) q v2 32 (bV (d.map (·.1)) d.length).length (kf (d.map (·.1)) (bV (d.map (·.1)) d.length))):=O ((i.ids.keep λb m=>a.block b m.2).mono λb m=>⟨m.1,by have:=Zy.out;omega⟩);have o:N (aH (λb=>M+3<=b/\b<q.heap.size) q v3 1 (bV (d.map (·.1)) d.length).length (iX (bV (d.map (·.1)) d.length))):=O ((i.at_.keep λb m=>a.block b m.2).mono λb m=>⟨m.1,by have:=Zy.out;omega⟩);refine hK _ _ (av c a) λ_=>?_
 clear hK g a c i;refine G ?_;refine fa ?_
 go_wp2_with fail
 obtain⟨bp,a⟩:=J x2.heap.size;rw[<-a]at Y7 bs Zf Zy⊢;have c:=yr d (A p1 d.length k1) v2 v3 ad UG bO xF q (M+1) (M+3) bp (bp+1) (j5 ax) UO Y (dY Zy Zf) (HL.below bm) j o Y7.out (by rw[<-bN];exact bs) Zf (aI Zf) HE (HT.below bm) HN VT;have bT:=O c;clear c a j o;refine(wpIn_wide (n:=0)).1 ?_;refine rJ (n:=0) (gf:=115) (lb:=#[jt (T ⟨bp,0,jf⟩),jt (T ⟨bp+1,0,jf⟩)]) I (enters_of func115 af I) bT (dY Zy Zf) (λ_=>rfl) (λk s=>s.2)
  (λys Ψ W=>BxI d w (acV M u f) ys Ψ W/\AccP f dev ctr ys) (AcX w M f dev ctr) ?hI (λys Ψ B h=>h.1.1) (λc=>AcX.stable _ _ _ _ _ _ _ P.size) ?h0
  (EAx d (cuE M) λb x=>#[jh C,A p1 d.length k1,jh u,jt (T ⟨M,0,jf⟩),jm,jt (T ⟨M+1,0,jf⟩),jt (T ⟨M+2,0,jf⟩),jt (T ⟨b,0,jf⟩),jm,jm,A p1 d.length k1,jh #[A p1 d.length k1,v2,v3],jh C,.func (.func 115) #[] #[jt (T ⟨bp,0,jf⟩),jt (T ⟨bp+1,0,jf⟩)],jh (aL x).toArray,jm,jm,jm,jm,jm,jm,jm,jm,jm,jm,jm,jm,jm,jm,jm,jm,jm,jm,jm,jm,jm,jm,jm,jm,jm,jm,jm,jm,jm,jm,jm,jm,jm,jm,jm,jm,jm]) ?hAx ?assign ?body ?done ?stop
 case hI=>exact(BxI.stable _ _ _ _ P.size).and (fj _ _)
 case h0=>
  refine⟨⟨(λx hx=>by cases hx),λb o m=>?_,P,λk s=>by have:=HM.out;have:=s.1;omega⟩,λa1=>rfl⟩
  rcases Fb m with⟨rfl,rfl⟩|⟨rfl,rfl⟩
  ·exact⟨I,U5,λh=>h.elim (λh=>by have h:=h.1;omega) fun⟨_,s,_⟩=>(by cases s)⟩
  exact⟨I,Vj,λh=>h.elim (λh=>by have h:=h.1;omega) fun⟨_,s,_⟩=>(by cases s)⟩
 case stop=>
  rintro D c H Ψ W rfl ⟨V,a⟩ ⟨⟨r,rfl,⟨U,Q⟩,g⟩,bc,z⟩ ay;have HR:N (r=bq):=O (by rw[Zr,<-a];exact(g V).symm);have bd:M+2≠q.heap.size:=λe=>by rw[<-e,U]at ay;cases ay
  have z2:=(nn (w:=W) (o:=.deferred jf) bd).trans U;have bf:w.heap.size<=q.heap.size:=P.size;refine wpIn_wide.2 ?_
  go_wp2_with fail
  refine⟨by simp,.inl ⟨_,_,I,qN (b:=q.heap.size) (ds:=[]) ay,?_⟩⟩;have zc:=ah (i:=0) z2 I;exact⟨.bool r,by simp[results,results21,go_sem,zc],by rw[HR],bc.trans (iD bf)⟩
 case hAx=>exact EAx.stable _ _ _ _
 case assign=>
  intro l' H x Ψ a K hI y hV z hK;have F:GK d Ψ a x:=by
   obtain⟨⟨g,j,e,h⟩,-⟩:=hV;have e2:=(qW e I).2;injection e2 with e2
   rw[e2];exact h
  have g:=KD.kin F (HL.below hI.1.2.2.1);obtain⟨X,j⟩:=J ((aL x).toArray);have a2:N (X.size=VK.n):=O (by rw[j,ju];exact g.len);have U5:N (X.all (·.oneCell')=ji):=O (by rw[j,jS];exact λR hu=>g.ones R (ak hu));have aa:=O j;have HK:=O hK;have HI:=O hI;have HO:N (∀e,cuE M e->¬gb x e):=O (by
   rintro e (rfl|rfl) h
   ·exact(y.1.2.1 _ _ (zq M u f H)).2.2 (.inl (.inr h))
   exact(y.1.2.1 _ _ (tY M u f H)).2.2 (.inl (.inr h)))
  have a3:=O F;have HΨ:=O z;rw[<-j];clear j hK hI y F hV g z;rw[zK];simp only[qX,qY,qZ]
  gi_wp2_with (first|(refine VK.madeI I I (G ?_))|(refine VK.firstI I I I X I a2 U5 (G ?_)))
  have y:=ap a (ja X VK.t);have au:∀B0,bP B0 Ψ a (a.alloc (ja X VK.t)):=λB0=>bP.ofBelow y λ_ h _=>h
  refine HK _ _ y ⟨BxI.stable d w _ w.heap.size (jG _) _ _ _ _ _ HI.1 (au _) (λ_ h=>h) λ_ h=>.inl h,HI.2⟩ ?_;exact⟨a.heap.size,by rw[aa],by rw[<-aa];exact jy _ _,λh=>by have:=HΨ _ h;omega,a3.turns (au 0) (λ_ h=>.inl h),HO⟩
 case body=>
  rintro l' H x Ψ b4 a ⟨hI,hP⟩ ⟨b,rfl,K,bu,z,aa⟩ hV Yt a4 hl ba bb;have g:=KD.kin z (HL.below hI.2.2.1);have S:=(hI.2.1 _ _ (zq M u f H)).2.1;have U:=(hI.2.1 _ _ (tY M u f H)).2.1;have a2:x.cand∈ft ad UG (d.map (·.1)):=by
   obtain⟨-,-,-,V,hV⟩:=hV;rw[<-hV,mz];exact sv _ (sx _ (jO.2 I))
  have a5:x.g.mem.length<=1000000:=YY _ a2;have a6:x.p.1.chg.length<=1000000:=VT _ (j3 z.at_);have bg:=Zy.out;have bh:=Zf.out;have a3:∀B,(∀k,k<a.heap.size->k≠M+2->B.heap[k]?=a.heap[k]?)->jk (M+1) a B->B.heap[M+2]?=T (ja #[.bool (okS f (H++[x]))] 4 (0,0))->AccP f dev ctr (H++[x])->
   ((B.heap[q.heap.size]?=a.heap[q.heap.size]?/\B.heap[q.heap.size+1]?=a.heap[q.heap.size+1]?)/\jk (M+1) a B/\∀k,Ψ k->B.heap[k]?=a.heap[k]?)/\(BxI d w (acV M u f) (H++[x]) Ψ B/\AccP f dev ctr (H++[x])):=λB s y F hA=>by
   obtain⟨s1,s2⟩:=BxI.step (E:=cuE M) (B:=B) hI z aa (λc o V=>by
    rcases Fb V with⟨rfl,rfl⟩|⟨rfl,rfl⟩
    ·exact⟨.inl I,I,(s _ (jA.1 S).1 Y).trans S⟩
    exact⟨.inr I,I,F⟩) (by rintro c (rfl|rfl);exact⟨_,zq _ _ _ _⟩;exact⟨_,tY _ _ _ _⟩) Yt y (by rw[<-HM];exact j6 _) (λk V c=>s k V λe=>c (.inr e))
   exact⟨⟨⟨s _ Y Y,s _ Y Y⟩,y,s2⟩,s1,hA⟩
  have c:∀B r,(∀k,k<a.heap.size->k≠M+2->B.heap[k]?=a.heap[k]?)->jk (M+1) a B->B.heap[M+2]?=T (ja #[.bool r] 4 (0,0))->(∀a1,eI f dev ctr jn ((H++[x]).map CK.cand++a1)=r)->
   ((B.heap[q.heap.size]?=a.heap[q.heap.size]?/\B.heap[q.heap.size+1]?=a.heap[q.heap.size+1]?)/\jk (M+1) a B/\∀k,Ψ k->B.heap[k]?=a.heap[k]?)/\AcX w M f dev ctr .ret (H++[x]) Ψ B:=λB r s y F hA=>by
   have Q:=(hI.2.1 _ _ (tY M u f H)).2.2;exact⟨⟨⟨s _ Y Y,s _ Y Y⟩,y,λk V=>s k (Yt k V) λe=>Q (.inl (e▸V))⟩,⟨r,I,⟨F,λh=>Q (.inl h)⟩,hA⟩,hI.2.2.1.trans (y.mono (by rw[<-HM];exact j6 _)),hI.2.2.2⟩
  have Wc:=O a3;have bv:=O c;have HP:=O hP;have Uq:=O S;have YM:N (jk w w a):=O hI.2.2.1;have U9:N (M+3<=a.heap.size):=O Y;clear a3 c hI hV Yt a4 hl ba bb aa bu a2 bh bg z;obtain⟨X,j⟩:=J ((aL x).toArray);have c:=O (mO g);have Q:N (∀i:jc,X[i]?=(aL x)[i]?):=O λi=>by rw[j,ms]
  have UR:N (a.rangeAt b 74 (x.id.map v8)):=O λt R ht=>ah K (by rw[ms];exact(BI g (by have h:=(jU.1 ht).1;rwa [jw,g.idl]at h)).trans ht)
  have UQ:N (a.rangeAt (M+1) 1 (f.map v8)):=O λt R ht=>ah S (WI t R ht)
  have bw:N ((x.id.map v8).length=VD.n):=O (by rw[jw,g.idl];rfl);have bA:N ((f.map v8).length=VD.n):=O (by rw[jw,bo];rfl);have bB:∀z,(Op.equalIn 10000 23 (jh (x.id.map v8).toArray) (jh (f.map v8).toArray)).run jo z=.ok (decide (x.id=f)) z:=λz=>nZ x.id f g.idl bo z
  obtain⟨T1,y⟩:=J ((x.id.map v8).toArray);obtain⟨T2,au⟩:=J ((f.map v8).toArray);rw[<-y,<-au]at bB;have Vp:=O y;have YN:=O au;have a2:a.cell? ⟨b,36,jf⟩=T x.p.2.vc:=ah K (by rw[ms];exact c.2.2.1);have bg:a.cell? ⟨b,141,jf⟩=T x.vm:=ah K (by rw[ms];exact c.2.2.2.2.1);have bh:a.cell? ⟨M+1,33,jf⟩=T (jd je dev):=ah S WU;have bi:a.cell? ⟨M+1,34,jf⟩=T (jd je ctr):=ah S bn;have a3:=ah (i:=0) U I;have bk:=gt (o:=0) U;have a4:N (EC.At a x.p.2.vc x.p.1.chg):=O (EK.At.of_sl g.com.chg);have bl:N (EM.At a x.vm x.g.mem):=O g.leads.mem;obtain⟨pc,cc,e1,-⟩:=a4.form;obtain⟨pm,cm,e2,-⟩:=bl.form;rw[e1]at a2 a4;rw[e2]at bg bl;have Ur:=O U;have b0:=O a6;have WB:=O a5;dsimp only;rw[<-j];clear j g K S e1 e2 y au c Q U hP a6 a5;obtain⟨b1,Yd⟩:=J (okS f H);rw[<-Yd]at a3 Ur;have aa:=O Yd;clear Yd
  cases b1 with
  |true=>
   as_aux_lemma=>
    obtain⟨n,c⟩:=J x.p.1.chg.length;have Zx:=O c;rw[<-c]at a2 a4;have bu:n<=1000000:=by rw[c];exact b0
    clear c bg
    gi_wp2_with fail
    gi_loopw [20] (λi wr=>∃j:jc,i=jd je j/\j<=n/\N (∀y∈x.p.1.chg.take j,(y.d==dev&&y.k !=1)=jn)/\N (jk a a wr)) (λi _=>n-(jV i).toNat)
    case atStart=>exact⟨0,I,jN _,O ao,O (qb _ _)⟩
    obtain⟨j,rfl,hj,HG,Q⟩:=hrel;clear a2 a3 bk bh bi
    by_cases b2:j<n
    case neg=>
     have hd:=aw ((j:jb)<(n:jb));have UN:=aw (j<n);obtain rfl:j=n:=Y
     gi_wp2_with fail
     exact Wc wr (λk s _=>Q.block k s) (Q.mono (aI U9)) (by rw[rI,<-aa];exact av Ur Q) (HP.on aa.symm (NZ (by rw[<-Zx];exact HG)))
    have hd:=az ((j:jb)<(n:jb));have UN:=az (j<n);obtain⟨⟨K,c,xp,xv,xc⟩,he,U8⟩:=dK (l:=x.p.1.chg) (j:=j) (by rw[<-Zx];exact b2);obtain⟨g,o,rfl,ba⟩:=(a4.below Q).cells.2.2 Y;have Vd:N (wr.rangeAt g (o+j*5) (ar.cells ⟨K,c,xp,xv,xc⟩)):=O λt R ht=>ba j _ he t R ht
    have HE:=O he;have bC:=O U8;obtain⟨X5,a5⟩:=J ((ar.cells ⟨K,c,xp,xv,xc⟩).toArray);have a6:=O a5;have Z9:N (X5.size=VH.n):=O (by rw[a5];rfl);have b3:N (X5.all (·.oneCell')=ji):=O (by rw[a5,jS];exact λR hu=>EC.one ⟨K,c,xp,xv,xc⟩ R (show R∈ar.cells _ by simpa using hu));clear ba he U8 a5
    gi_upto_region 7 with(first|(refine VH.loadI ai I I (ar.cells ⟨K,c,xp,xv,xc⟩) I Vd ?_;rw[<-a6];refine G ?_)|(refine VH.madeI I I (G ?_))|(refine VH.firstI I I I X5 I Z9 b3 (G ?_)))
    obtain⟨x4,b5,hx,m,a5,bI⟩:=cX wr X5 VH.t;rw[<-hx,<-m];have UB:N (jk a a x4):=aj Q bI;have cd:=ah (i:=1) (v:=jd je c) a5.out (by rw[a6];rfl);have ck:=ah (i:=0) (v:=jd je K) a5.out (by rw[a6];rfl);have b6:=ah (i:=4) (v:=jd je xc) a5.out (by rw[a6];rfl);have bh:=ah (av Uq UB) WU;have bi:=ah (av Uq UB) bn;have ba:=av Ur UB;have a3:=ah (i:=0) ba I;have bk:=gt (o:=0) ba;have bb:=O ba;clear hx m bI a5 Q Vd ba
    by_cases V:c=dev
    case neg=>
     have e1:(c==dev)=jn:=ak V;have a5:decide (c=dev)=jn:=ak V;have VR:N (∀y∈x.p.1.chg.take (j+1),(y.d==dev&&y.k !=1)=jn):=O (by
      rw[bC];intro y Q
      rcases oj.1 Q with Q|Q
      ·exact HG y Q
      rw[jO]at Q;rw[Q];show(c==dev&&_)=jn;rw[e1];rfl)
     clear V
     gi_wp2_with fail
     exact⟨⟨j+1,by go_num,by omega,VR,UB⟩,by simp only[jV];omega⟩
    have e1:(c==dev)=ji:=ak V;have a5:decide (c=dev)=ji:=ak V;clear V
    by_cases F:K=1
    case pos=>
     have e2:(K !=1)=jn:=by simp[F]
     have ba:decide (K≠1)=jn:=by simp[F]
     have VR:N (∀y∈x.p.1.chg.take (j+1),(y.d==dev&&y.k !=1)=jn):=O (by
      rw[bC];intro y Q
      rcases oj.1 Q with Q|Q
      ·exact HG y Q
      rw[jO]at Q;rw[Q];show(c==dev&&(K !=1))=jn;rw[e2,Bool.and_false])
     clear F
     gi_wp2_with fail
     exact⟨⟨j+1,by go_num,by omega,VR,UB⟩,by simp only[jV];omega⟩
    have e2:(K !=1)=ji:=by simp[F]
    have ba:decide (K≠1)=ji:=by simp[F]
    have Q:N (x.p.1.chg.find? (λy=>y.d==dev&&y.k !=1)=T ⟨K,c,xp,xv,xc⟩):=O (N2 HG HE (by show(c==dev&&(K !=1))=ji;rw[e1,e2];rfl));clear F;obtain⟨r,y⟩:=J (decide (ctr<=xc));have HR:=O y;have bI:decide (ctr<=xc)=r:=y.symm;clear y
    gi_wp2_with fail
    refine bv _ r (λk s F=>(dB _ F).trans (UB.block k s)) ((UB.mono (aI U9)).setCell (p:=⟨M+2,0,jf⟩) (j6 _) _) (fl _ bb.out) (λa1=>?_);rw[HR];exact HP.off aa.symm Q.out a1
  |false=>
   as_aux_lemma=>
    obtain⟨Q,g⟩:=J (decide (x.id=f));rw[<-g]at bB;have c:=O g;clear g
    rcases Q with _|_
    ·gi_wp2_with (first|(refine VD.loadI ai I I (x.id.map v8) bw UR ?_;rw[<-Vp];refine G ?_)|(refine VD.loadI ai I I (f.map v8) bA UQ ?_;rw[<-YN];refine G ?_))
     exact Wc a (λ_ _ _=>rfl) (qb _ _) (by rw[rI,<-aa,<-c];exact Ur) (HP.ne aa.symm (of_decide_eq_false c.symm))
    have y:=O (Aq (Oh dev u (M+1) a.heap.size (aI U9) WU) x.g.mem _ a bl Uq (jG _) WB);obtain⟨V,g⟩:=J (x.g.mem.any λm=>m.dev==dev);rw[<-g]at y;have K:=O g;clear g
    gi_wp2_with (first|(refine VD.loadI ai I I (x.id.map v8) bw UR ?_;rw[<-Vp];refine G ?_)|(refine VD.loadI ai I I (f.map v8) bA UQ ?_;rw[<-YN];refine G ?_))
    refine⟨trivial,I,(callsIn_wide.2 y).mono ?_⟩;rintro e x5 ⟨rfl,m⟩;have g:=av Ur m;have a1:=ah (i:=0) g I;have a5:=gt (o:=0) g;have j:=O m;have bb:=O g;clear m g a2 bg bh bi a3 bk y
    cases V with
    |true=>
     gi_wp2_with fail
     exact Wc _ (λk s F=>(dB _ F).trans (j.block k s)) ((j.mono (aI U9)).setCell (p:=⟨M+2,0,jf⟩) (j6 _) _) (by rw[rI,<-aa,<-c];exact fl _ bb.out) (HP.met aa.symm (qL c.symm) K.symm)
    |false=>
     gi_wp2_with fail
     exact bv _ jn (λk s F=>(dB _ F).trans (j.block k s)) ((j.mono (aI U9)).setCell (p:=⟨M+2,0,jf⟩) (j6 _) _) (fl _ bb.out) (HP.gone aa.symm (qL c.symm) K.symm)
 rintro D xs Ψ W rfl hS ⟨hI,hP⟩ ay;have a:=(hI.2.1 _ _ (tY M u f xs)).2.1;have bc:=hI.2.2.1;obtain⟨ok,Yd⟩:=J (okS f xs);have HR:N (ok=bq):=O (by
  have h:=hP [];rw[qG,hS,eI,<-Yd]at h;rw[Zr];exact h.symm)
 rw[<-Yd]at a;have m:=ah (i:=0) a I;have r:=gt (o:=0) a;clear hI hP hS Yd
 go_wp2_with fail
 have c:(W.setCell ⟨M+2,0,jf⟩ (.bool ok)).heap[M+2]?=T (ja #[.bool ok] 4 (0,0)):=fl (i:=0) (.bool ok) a;have h:∀k,(W.setCell ⟨M+2,0,jf⟩ (.bool ok)).heap[k]?=W.heap[k]?:=λk=>by
  by_cases e:k=M+2
  ·rw[e,c,a]
  exact dB _ e
 have j:jk w w (W.setCell ⟨M+2,0,jf⟩ (.bool ok)):=bc.setCell (p:=⟨M+2,0,jf⟩) (by rw[<-HM];exact q7 _ _) _;have g:(W.setCell ⟨M+2,0,jf⟩ (.bool ok)).heap[q.heap.size]?=T (.deferred (T [])):=(h _).trans ay;have bd:M+2≠q.heap.size:=λe=>by rw[<-e,c]at g;cases g
 have z2:=(nn (w:=W.setCell ⟨M+2,0,jf⟩ (.bool ok)) (o:=.deferred jf) bd).trans c;have bf:w.heap.size<=q.heap.size:=P.size;refine⟨by simp,.inl ⟨_,_,I,qN (b:=q.heap.size) (ds:=[]) g,?_⟩⟩;have zc:=ah (i:=0) z2 I;exact⟨.bool ok,by simp[results,results21,go_sem,zc],by rw[HR],j.trans (iD bf)⟩
end
def vB(g:Grp)(a:jb)(b:jg ar)(c init:LBy)(d:jg Bx)(e:jg Wl):Cmt:=⟨g.folder,g.epoch+1,g.last,a,b,dA c,d,e,cI,0,0⟩
def pJ(g:Grp)(a:jb)(c:jg ar)(b init:LBy)(d:jg Bx)(e:jg Wl):Cmt:=
 {vB g a c b init d e with confirm:=ko (dL g b init) (c8 kP ((aP (vB g a c b init d e)).take 8))}
def mkX(g:Grp)(a:jb)(x:jc)(b:jg ar)(c init:LBy)(d:jg Bx)(e:jg Wl):Cmt:=
 {pJ g a b c init d e with r:=(kt x (dq (pJ g a b c init d e)):jc),s:=(kH x (dq (pJ g a b c init d e)):jc)}
def kz(b:nv 8):LBy:=b::sy 31 0#8
def cR(d:jc):ar:=⟨1,(d:jb),((aY 4 (d+2):jc):jb),((aY 4 (d+2):jc):jb),0⟩
def dJ(d a:jc):ar:=⟨2,(d:jb),0,0,(a:jb)⟩
def uH(g:Grp)(a:jb)(c:jg ar)(b seed:LBy)(x:jb×jb)(p:jc):Bx:=
 ⟨x.2,x.1,(aY 4 (gj (dX seed gP [x.1,x.2])):jc),gs p (dX seed gP [x.1,x.2]) (iY (bY g a c b) gP [x.1,x.2]) (aA b x.1.toNat)⟩
theorem Mm{g:Grp}{a:jb}{b:jg ar}{c:LBy}{x:jb×jb}{p:jc}(h:tG (aX g.tree b) x.2=p):eE g a b c seed x=uH g a b c seed x p:=by
 unfold eE uH;rw[h]
def pwN:jc->jc->jc->jc
 |0,_,_=>1%PN
 |f+1,a,n=>if n%2=1 then a*pwN f (a*a%PN) (n/2)%PN else pwN f (a*a%PN) (n/2)
theorem Cr:∀(f a n:jc),n<2^f->pwN f a n=a^n%PN
 |0,a,n,h=>by
  obtain rfl:n=0:=ak h;rw[pwN,Nat.pow_zero]
 |f+1,a,n,h=>by
  have c:n/2<2^f:=by rw[Nat.pow_succ]at h;omega
  have e:a^n=(a*a)^(n/2)*a^(n%2):=by
   rw[<-Nat.pow_two,<-Nat.pow_mul,<-Nat.pow_add,Nat.div_add_mod]
  rw[pwN,Cr f _ _ c]
  split
  ·rename_i b
   rw[e,b,Nat.pow_one,Nat.mul_comm _ a,Nat.mul_mod a,<-Nat.pow_mod,Nat.mod_mod,<-Nat.mul_mod,Nat.mul_comm]
  have b:n%2=0:=Y;rw[e,b,Nat.pow_zero,Nat.mul_one,<-Nat.pow_mod]
def pw(a n:jc):jc:=if n<2^64 then pwN 64 a n else aY a n
theorem ng(a n:jc):aY a n=pw a n:=by
 unfold pw
 split
 ·rename_i h
  rw[Cr 64 a n h]
  rfl
 rfl
def ma(a:LBy):jg jb:=(List.range 10).map λi=>((pw 4 (aU (aA a i)):jc):jb)
def ni(x:jc)(msg:LBy):jc:=(iU x msg+rL (pw 4 (iU x msg)) (pw 4 x) msg*x%QN)%QN
def rB(a:jc)(seed b body:LBy):LBy:=oR (oo a (pw 4 (gj seed)) (pw a (gj seed))) sC b body
def kh(g:Grp)(a:jb)(b:jg ar)(c:LBy):Cmt:=⟨g.folder,g.epoch+1,g.last,a,b,ma c,[],[],cI,0,0⟩
def pk(g:Grp)(a:jb)(c:jg ar)(b seed:LBy)(x:jb×jb)(p:jc):Bx:=
 ⟨x.2,x.1,(pw 4 (gj (dX seed gP [x.1,x.2])):jc),rB p (dX seed gP [x.1,x.2]) (iY (kh g a c b) gP [x.1,x.2]) (aA b x.1.toNat)⟩
def oV(g:Grp)(a:jb)(c:jg ar)(b init seed:LBy)(y:ar):Wl:=
 ⟨y.d,(pw 4 (gj (dX seed kA [y.d])):jc),rB y.p.toNat (dX seed kA [y.d]) (iY (kh g a c b) kA [y.d]) (dL g b init)⟩
def nB(g:Grp)(a:jb)(b:jg ar)(c init:LBy)(d:jg Bx)(e:jg Wl):Cmt:=⟨g.folder,g.epoch+1,g.last,a,b,ma c,d,e,cI,0,0⟩
def lH(g:Grp)(a:jb)(c:jg ar)(b init:LBy)(d:jg Bx)(e:jg Wl):Cmt:=
 {nB g a c b init d e with confirm:=ko (dL g b init) (c8 kP ((aP (nB g a c b init d e)).take 8))}
def mkF(g:Grp)(a:jb)(x:jc)(b:jg ar)(c init:LBy)(d:jg Bx)(e:jg Wl):Cmt:=
 {lH g a b c init d e with r:=(pw 4 (iU x (dq (lH g a b c init d e))):jc),s:=(ni x (dq (lH g a b c init d e)):jc)}
theorem Hj(a:LBy):dA a=ma a:=by unfold dA ma;simp only[ng]
theorem Jd(x:jc)(msg:LBy):kH x msg=ni x msg:=by unfold kH ni kt;simp only[ng]
theorem F7(a:jc)(seed b body:LBy):gs a seed b body=rB a seed b body:=by unfold gs rB;simp only[ng]
theorem Dx(g:Grp)(a:jb)(b:jg ar)(c:LBy):bY g a b c=kh g a b c:=by unfold bY kh;rw[Hj]
theorem KJ(g:Grp)(a:jb)(b:jg ar)(c seed:LBy)(x:jb×jb)(p:jc):uH g a b c seed x p=pk g a b c seed x p:=by unfold uH pk;simp only[ng,F7,Dx]
theorem Tx(g:Grp)(a:jb)(b:jg ar)(c init seed:LBy)(y:ar):fz g a b c init seed y=oV g a b c init seed y:=by unfold fz oV;simp only[ng,F7,Dx]
theorem L3(g:Grp)(a:jb)(b:jg ar)(c init:LBy)(d:jg Bx)(e:jg Wl):pJ g a b c init d e=lH g a b c init d e:=by unfold pJ lH vB nB;simp only[Hj]
theorem Nu(g:Grp)(a:jb)(x:jc)(b:jg ar)(c init:LBy)(d:jg Bx)(e:jg Wl):mkX g a x b c init d e=mkF g a x b c init d e:=by
 unfold mkX mkF;simp only[L3,Jd,kt,ng]
theorem FU{P:o1}{S:jj->Prop}{t:bE}(r:bE){F:jc->jc->Act}{d:jc->jc->jj->Prop}(e:∀x y w,d x y w->eJ P U i S r (F x y) w)(h:(∀x y w,d x y w->eJ P U i S r (F x y) w)->eJ P U i S t m w):eJ P U i S t m w:=h e
theorem CR{a:Act}{o:jK}{x:j0}{c:jM}{d:TypeDesc}{f:jc}{e:jg jl}{g:jj}(h:jo.underlying c=T d)(i:d.isRow=ji)(j:(jo.info? c).map (·.size)=T e.length)(k:o.op=.load c x)(l:a.eval x=jt (T ⟨b,f,jf⟩))(m:g.rangeAt b f e):
 (jQ a.eval o).run jo g=.ok (.value (jh e.toArray)) g:=gm o a c x k b f l e d m h i j
theorem L4{a:Act}{o:jK}{parts:jq (jc×j0)}{f e au:jb}{b:jq jl}{p:jF Addr}{n c:jc}(d:b.size=32)(g:o.op=.build 37 parts)(h:(parts.map fun(i,x)=>(i,a.eval x))= #[(0,jd je f),(1,jd je e),(2,jh b),(3,jd je au),(4,A p n c)])(W:jj):
 (jQ a.eval o).run jo W=.ok (.value (jh (#[jd je f,jd je e]++b++ #[jd je au,A p n c,A jf 0 0,A jf 0 0,A jf 0 0]++(cI.map v8).toArray++ #[jd je 0,jd je 0]))) W:=by
 simp only[jQ,g,h,Sem.run_bind,LR f e au b d p n c,Result.andThen_ok,Sem.run_pure]
theorem Ot{m:Act}(b:C.op=.build 65 #[])(W:jj):
 (jQ m.eval C).run jo W=.ok (.value (jh (cI.map v8).toArray)) W:=by
 simp only[jQ,b,pz,jY,Sem.run_bind,ON,Result.andThen_ok,Sem.run_pure]
theorem RF{R i:jc}{X:jl->jq jl}{e k:jl}{y:jg Bx}(n:a.last.length=32)(l:w.ownsRow b 55 5 j f.length (f.flatMap ar.cells))(m:w.ownsRow M 3 1 e 10 ((dA r).map (jH .i64)))(q:eF B R 37 85 4 Bx.cells Bx.body X W w i k y u)(g:i=y.length):aT (·<w.heap.size) w {bY a d f r with box:=y} ⟨j,e,k,A jf 0 0⟩:=by
 refine⟨aH.of_own l (λa n=>(l.lt a n).2),?_,q.slice g (λa _ n=>n),⟨[],⟨I,jf,0,I,jG _,λ_=>rfl,λh=>jv h (Nat.lt_irrefl 0)⟩,I⟩,n,eM⟩;have h:=aH.of_own (D:=(·<w.heap.size)) m (λa n=>(m.lt a n).2);show aH _ w e 1 (dA r).length _;rw[lN];exact h
def ln(D:jc->Prop)(W:jj)(v:jl)(l:jg Bx):Prop:=∃a,aH D W v 4 l.length (dR Bx.cells l a)/\ez D W (l.map Bx.body) a
theorem ln.keep{D':jc->Prop}{v:jl}{l:jg Bx}(h:ln D w v l)(a:∀g,D g->w'.heap[g]?=w.heap[g]?)(b:∀g,D g->D' g):ln D' w' v l:=by
 obtain⟨c,d,e⟩:=h;exact⟨c,(d.keep a).mono b,(e.keep a).mono b⟩
theorem ln.below{v:jl}{l:jg Bx}(h:ln (·<w.heap.size) w v l)(b:jk w w w'):ln (·<w'.heap.size) w' v l:=h.keep (λg a=>b.block g a) (λg a=>jJ a b.size)
theorem R4{R i:jc}{X:jl->jq jl}{e k l:jl}{y:jg Bx}{c:jg Wl}(p:a.last.length=32)(n:w.ownsRow b 55 5 j f.length (f.flatMap ar.cells))(o:w.ownsRow M 3 1 e 10 ((dA r).map (jH .i64)))(s:ln (·<w.heap.size) w k y)(t:eF B R 37 88 3 Wl.cells Wl.body X W w i l c u)(g:i=c.length):aT (·<w.heap.size) w {bY a d f r with box:=y,wel:=c} ⟨j,e,k,l⟩:=by
 refine⟨aH.of_own n (λa p=>(n.lt a p).2),?_,s,t.slice g (λa _ p=>p),p,eM⟩;have h:=aH.of_own (D:=(·<w.heap.size)) o (λa p=>(o.lt a p).2);show aH _ w e 1 (dA r).length _;rw[lN];exact h
theorem Rw(h:EC.At w j f)(i:∀(g o:jc) (x:jb),w.cell? ⟨g,o,jf⟩=T (jd je x)->W.cell? ⟨g,o,jf⟩=T (jd je x)):EC.At W j f:=by
 obtain⟨k,p,c,e,m,n,q⟩:=h;refine⟨k,p,c,e,m,n,λr=>?_⟩;obtain⟨g,o,ep,s⟩:=q r;refine⟨g,o,ep,λv a b=>?_⟩;have t:=s v a b;have u:∃x,a=jd je x:=by
  have d:=j3 b;unfold EK.flat at d;obtain⟨y,-,z⟩:=List.mem_flatMap.1 d;have l:a∈ar.cells y:=z;simp only[ar.cells,List.mem_cons,List.mem_nil_iff,or_false]at l
  rcases l with rfl|rfl|rfl|rfl|rfl<;>exact⟨_,I⟩
 obtain⟨x,rfl⟩:=u;exact i _ _ _ t
theorem PZ{v:jl}{l:jg ar}{j:jc}{X d:jq jl}{e:jM}(h:EC.At w v l)(f:w.heap[b]?=T (ja X e (0,0)))(g:w'.heap[b]?=T (ja d e (0,0)))(m:∀k,k<w.heap.size->k≠b->w'.heap[k]?=w.heap[k]?)
 (k:∀i,i≠j->d[i]?=X[i]?) (a:∃p n c,X[j]?=T (A p n c)):EC.At w' v l:=by
 obtain⟨p,n,c,a⟩:=a;exact Rw h (uM f g k a m)
theorem KQ{d:jb}{z seed:LBy}{D:jc->Prop}{e m n:jl}(g:a.last.length=32)(l:w.ownsRow b 55 5 j f.length (f.flatMap ar.cells))(i:w.ownsRow M 3 1 e 10 ((dA r).map (jH .i64)))
 (o:ln D w m ((eo (aX a.tree f) d).map (eE a d f r seed))) (p:∃h,aH D w n 3 ((du d f).map (fz a d f r z seed)).length (dR Wl.cells ((du d f).map (fz a d f r z seed)) h)/\ez D w (((du d f).map (fz a d f r z seed)).map Wl.body) h)
 (q:∀k,b<=k->k<w.heap.size->D k) (c:∀k,M<=k->k<w.heap.size->D k):aT D w (mk1 a d f r z seed) ⟨j,e,m,n⟩:=by
 refine⟨aH.of_own l (λa g=>q a (l.lt a g).1 (l.lt a g).2),?_,o,p,g,eM⟩;have h:=aH.of_own (D:=D) i (λa g=>c a (i.lt a g).1 (i.lt a g).2);show aH _ w e 1 (dA r).length _;rw[lN];exact h
theorem aT.conf(h:aT D w o R){k:LBy}(a:k.length=32):aT D w {o with confirm:=k} R:=⟨h.chg,h.path,h.box,h.wel,h.plen,a⟩
theorem aT.rs(h:aT D w o R)(r s:jb):aT D w {o with r:=r,s:=s} R:=⟨h.chg,h.path,h.box,h.wel,h.plen,h.clen⟩
theorem Ed{z:LBy}(h:aT D w (mk1 a d f r z seed) R):aT D w (mk2 a d f r z seed) R:=by
 unfold mk2;exact h.conf (sW _ _)
theorem Ri{g:Grp}{a:jb}{x:jc}{b:jg ar}{c init:LBy}{q:CQ}(h:aT D W (mk1 g a b c init seed) q):aT D W (mkC g a x b c init seed) q:=by
 unfold mkC;exact(Ed h).rs _ _
theorem aT.later(h:aT (λk=>b<=k/\k<w.heap.size) w o R)(n:jk w w W):aT (λk=>b<=k/\k<W.heap.size) W o R:=
 (h.keep λg a=>n.block g a.2).mono λg a=>⟨a.1,jJ a.2 n.size⟩
def mS(a:jq jl):jc->jg jl->jq jl
 |_,[]=>a
 |o,v::b=>mS (a.setIfInBounds o v) (o+1) b
theorem BG:∀(d a c b:jg jl),c.length=d.length->mS (a++c++b).toArray a.length d=(a++d++b).toArray
 |[],a,c,b,h=>by
  obtain rfl:c=[]:=List.eq_nil_of_length_eq_zero h
  rfl
 |v::d,a,[],b,h=>by simp at h
 |v::d,a,x::c,b,h=>by
  have e:(a++x::c++b).toArray.setIfInBounds a.length v=((a++[v])++c++b).toArray:=by
   apply Array.ext'
   rw[Array.toList_setIfInBounds];show List.set (a++x::c++b) a.length v=_;rw[qT,List.set_append_right _ _ (jG _),Nat.sub_self];simp
  rw[mS,e];have f:=BG d (a++[v]) c b (ak h);rw[qf]at f;have g:mS ((a++[v])++c++b).toArray (a.length+1) d=(a++[v]++d++b).toArray:=f;rw[g];simp
theorem yU:∀(a:jg jl) (o:jc) (W:jj) (c:jq jl),W.heap[b]?=T (ja c p (0,0))->(W.setCells b o a).heap[b]?=T (ja (mS c o a) p (0,0))
 |[],o,W,c,h=>h
 |v::a,o,W,c,h=>yU a (o+1) _ _ (fl v h)
theorem tX{k:jc}(c:k≠b):∀(a:jg jl) (o:jc) (W:jj),(W.setCells b o a).heap[k]?=W.heap[k]?
 |[],o,W=>rfl
 |v::a,o,W=>(tX c a (o+1) (W.setCell ⟨b,o,jf⟩ v)).trans (dB v c)
theorem yt(b:jc):∀(a:jg jl) (o:jc) (W:jj),(W.setCells b o a).heap.size=W.heap.size
 |[],o,W=>rfl
 |v::a,o,W=>(yt b a (o+1) (W.setCell ⟨b,o,jf⟩ v)).trans (pF _ _ _)
theorem Oj(c:Cmt)(q:CQ)(k:LBy)(a:c.parent.length=32)(b:c.confirm.length=32)(d:k.length=32):mS (aF c q).toArray 39 (k.map v8)=(aF {c with confirm:=k} q).toArray:=by
 have e:∀x:LBy,aF {c with confirm:=x} q=(jd je c.folder::jd je c.epoch::(c.parent.map v8++[jd je c.author,q.vc,q.vp,q.vb,q.vw]))++x.map v8++[jd je c.r,jd je c.s]:=λx=>by simp[aF]
 have h:=BG (k.map v8) (jd je c.folder::jd je c.epoch::(c.parent.map v8++[jd je c.author,q.vc,q.vp,q.vb,q.vw])) (c.confirm.map v8) [jd je c.r,jd je c.s] (by simp[b,d]);have f:(jH .i64 c.folder::jd je c.epoch::(c.parent.map v8++[jd je c.author,q.vc,q.vp,q.vb,q.vw])).length=39:=by simp[a]
 rw[f,<-e,<-e]at h;exact h
theorem TU(c:Cmt)(q:CQ)(r s:jb)(a:c.parent.length=32)(b:c.confirm.length=32):mS (aF c q).toArray 71 [jd je r,jd je s]=(aF {c with r:=r,s:=s} q).toArray:=by
 have e:∀x y:jb,aF {c with r:=x,s:=y} q=(jd je c.folder::jd je c.epoch::(c.parent.map v8++([jd je c.author,q.vc,q.vp,q.vb,q.vw]++c.confirm.map v8)))++[jd je x,jd je y]++[]:=λx y=>by simp[aF]
 have h:=BG [jd je r,jd je s] (jd je c.folder::jd je c.epoch::(c.parent.map v8++([jd je c.author,q.vc,q.vp,q.vb,q.vw]++c.confirm.map v8))) [jd je c.r,jd je c.s] [] I;have d:(jH .i64 c.folder::jd je c.epoch::(c.parent.map v8++([jd je c.author,q.vc,q.vp,q.vb,q.vw]++c.confirm.map v8))).length=71:=by simp[a,b]
 rw[d,<-e,<-e]at h;exact h
theorem fI.conf(h:fI o){k:LBy}(a:k.length=32):fI {o with confirm:=k}:=⟨h.ints,h.plen,a,h.chg,h.path,h.box,h.wel⟩
theorem fI.rs(h:fI o){r s:jb}(a:IR r)(b:IR s):fI {o with r:=r,s:=s}:=⟨⟨h.ints.1,h.ints.2.1,h.ints.2.2.1,a,b⟩,h.plen,h.clen,h.chg,h.path,h.box,h.wel⟩
theorem Pn(c:Cmt)(x y:jb)(l:c.r=0)(m:c.s=0):({({c with r:=x,s:=y}:Cmt)with r:=0,s:=0}:Cmt)=c:=by
 obtain⟨a,b,c,d,e,f,g,h,i,j,k⟩:=c;obtain rfl:j=0:=l;obtain rfl:k=0:=m
 rfl
theorem KI(c:Cmt)(x:LBy)(l:c.confirm=cI):({({c with confirm:=x}:Cmt)with confirm:=cI}:Cmt)=c:=by
 obtain⟨a,b,c,d,e,f,g,h,i,j,k⟩:=c;obtain rfl:i=cI:=l
 rfl
theorem Tz(g:Grp)(a:jb)(b:jg ar)(c init seed:LBy)(q:CQ):aF (mk1 g a b c init seed) q=aF (bY g a b c) q:=by simp only[aF,mk1,bY]
theorem ou(g:Grp)(a:jb)(b:jg ar)(c init seed:LBy):(mk1 g a b c init seed).parent=g.last/\(mk1 g a b c init seed).confirm.length=32:=by
 unfold mk1;exact⟨I,eM⟩
theorem Dv(g:Grp)(a:jb)(c:jg ar)(b init seed:LBy):mk2 g a c b init seed={mk1 g a c b init seed with confirm:=ko (dL g b init) (c8 kP ((aP (mk1 g a c b init seed)).take 8))}:=by unfold mk2;rfl
theorem GR(g:Grp)(a:jb)(x:jc)(b:jg ar)(c init seed:LBy):mkC g a x b c init seed={mk2 g a b c init seed with r:=((kt x (dq (mk2 g a b c init seed)):jc):jb),s:=((kH x (dq (mk2 g a b c init seed)):jc):jb)}:=by unfold mkC;rfl
theorem B2(c:Cmt)(k:LBy):({c with confirm:=k}:Cmt).confirm=k/\({c with confirm:=k}:Cmt).parent=c.parent:=⟨I,I⟩
theorem pA(g:Grp)(a:jb)(b:jg ar)(c init seed:LBy):(mk2 g a b c init seed).parent=g.last/\(mk2 g a b c init seed).confirm.length=32:=by
 rw[Dv,(B2 _ _).1,(B2 _ _).2];exact⟨(ou ..).1,sW _ _⟩
theorem Ge(c:Cmt)(r s:jb):({c with r:=r,s:=s}:Cmt).confirm=c.confirm/\({c with r:=r,s:=s}:Cmt).parent=c.parent:=⟨I,I⟩
theorem BM(g:Grp)(a:jb)(x:jc)(b:jg ar)(c init seed:LBy):(mkC g a x b c init seed).parent=g.last/\(mkC g a x b c init seed).confirm.length=32:=by
 rw[GR,(Ge _ _ _).1,(Ge _ _ _).2];exact pA ..
theorem MO{z:LBy}(h:fI (mkC a d b f r z seed)):fI (mk1 a d f r z seed)/\fI (mk2 a d f r z seed):=by
 have init:IR 0:=⟨by decide,by decide⟩;have e:fI (mk2 a d f r z seed):=by
  have g:=h.rs init init;unfold mkC at g;rw[Pn _ _ _ I I]at g;exact g
 have g:=e.conf eM;unfold mk2 at g;rw[KI _ _ I]at g;exact⟨g,e⟩
theorem vK(k:P)(h:P->K:=by intro k;refine aS (v:=?_) rfl ai (λW' hS=>?_) ?_;rotate_left;(have b0:=ah (i:=1) hS.1 rfl;have b1:=ah (i:=2) hS.1 rfl;clear hS;go_simp;with_reducible rfl);refine G ?_;exact k):K:=h k
theorem RP(g:Grp)(vm vt vl:jl)(a x:jb)(m:jg ar)(u init seed:LBy)(w:jj)(h:bH w g vm vt)(X:aH (·<w.heap.size) w vl 5 m.length (m.flatMap ar.cells))
 (a1:u.length=32) (a2:init.length=32) (g8:seed.length=32) (hT:ly w) (hS:iH w) (bc:g.mem.length<=900000) (bd:g.tree.length<=600000) (D:m.length<=1000000) (Yd:ie g a x m=0):
 jB jo 49 #[jh (aD g vm vt).toArray,jd je a,jd je x,vl,jh (u.map v8).toArray,jh (init.map v8).toArray,jh (seed.map v8).toArray] w (Pk g a x m u init seed (ie g a x m) w):=by
 obtain⟨er,M⟩:=J (ie g a x m);rw[<-M];have hM:=O M;have ew:N (er=0):=O (M.trans Yd);have a3:=rF (vm:=vm) (vt:=vt) h.llen;have Vs:=lQ (vm:=vm) (vt:=vt) h.llen;have a4:∀(w:jj) (b:jc),w.heap[b]?=T (ja (aD g vm vt).toArray 29 (0,0))->w.rangeAt b 2 (g.last.map v8):=λw b hb=>dy.last ⟨hb,h.llen⟩
 have HN:N (∀W,bH W g vm vt->EC.At W vl m->jB jo 28 #[jh (aD g vm vt).toArray,jd je a,vl] W λe w'=>∃aa,e=jz (jI #[aa,jd je (dt g a m)])/\w'.ownsRow W 85 4 aa (dT g a m).length (EB0.flat (dT g a m))/\jk W W w'):=O (λW hW hL=>Gz g vm vt _ _ _ W hW hL Y Y D);have hl:N (∀W,dC g->eU m->gN g a m->bH W g vm vt->EC.At W vl m->jB jo 35 #[jh (aD g vm vt).toArray,jd je a,vl] W λe w'=>e=jz (jd je (dP g a m))/\jk W W w'):=O (λW hv hf hp hW hL=>Gm g vm vt _ _ _ W hW (uD hv) Y hL (λhn=>by
  have c:=hp.own;rw[hn]at c;obtain⟨x,r,h1,-⟩:=hp.first (by have:=hv.ep.1;have h2:=of_decide_eq_false c.symm;omega);rw[h1];simp))
 have hN:N (∀W,eU m->bH W g vm vt->EC.At W vl m->jB jo 38 #[jh (aD g vm vt).toArray,vl] W λe w'=>∃aa,e=jz (jh #[aa])/\bJ w' aa (aX g.tree m)/\jk W W w'):=O (λW hf hW hL=>yG g vm vt _ _ W hW hf Y hL);obtain⟨ay,P⟩:=J ((aD g vm vt).toArray);obtain⟨Un,hL⟩:=J ((u.map v8).toArray);obtain⟨bI,U⟩:=J ((init.map v8).toArray);obtain⟨S,V⟩:=J ((seed.map v8).toArray);have c:∀(l:LBy),l.length=32->(jo.info? 65).map (·.size)=T (l.map v8).toArray.size:=λl D=>by rw[ju,jw,D];kernel_rfl
 have Ye:N ((jo.info? 65).map (·.size)=T Un.size):=O (by rw[hL];exact c _ a1);have lk:N ((jo.info? 65).map (·.size)=T bI.size):=O (by rw[U];exact c _ a2);have hO:N ((jo.info? 65).map (·.size)=T S.size):=O (by rw[V];exact c _ g8);rw[<-P]at a3 HN hl hN a4⊢;rw[<-hL,<-U,<-V];clear c;obtain⟨x0,k⟩:=J (((((((w.alloc (ja ay 29)).alloc (ja Un 65)).alloc (ja bI 65)).alloc (ja S 65)).alloc (ja zeroCells37 37)).alloc (ja a8 65)));obtain⟨t,hG⟩:=J w.heap.size;have i:=jy w (ja ay 29);have c:=ap w (ja ay 29);have bm:=jy (w.alloc (ja ay 29)) (ja Un 65);have d:=ap (w.alloc (ja ay 29)) (ja Un 65);have Vi:=jy ((w.alloc (ja ay 29)).alloc (ja Un 65)) (ja bI 65);have j:=ap ((w.alloc (ja ay 29)).alloc (ja Un 65)) (ja bI 65);have o:=jy (((w.alloc (ja ay 29)).alloc (ja Un 65)).alloc (ja bI 65)) (ja S 65);have q:=ap (((w.alloc (ja ay 29)).alloc (ja Un 65)).alloc (ja bI 65)) (ja S 65);have C:=jy ((((w.alloc (ja ay 29)).alloc (ja Un 65)).alloc (ja bI 65)).alloc (ja S 65)) (ja zeroCells37 37);have s:=ap ((((w.alloc (ja ay 29)).alloc (ja Un 65)).alloc (ja bI 65)).alloc (ja S 65)) (ja zeroCells37 37);have eA:=jy (((((w.alloc (ja ay 29)).alloc (ja Un 65)).alloc (ja bI 65)).alloc (ja S 65)).alloc (ja zeroCells37 37)) (ja a8 65);have v:=ap (((((w.alloc (ja ay 29)).alloc (ja Un 65)).alloc (ja bI 65)).alloc (ja S 65)).alloc (ja zeroCells37 37)) (ja a8 65);replace i:=av i d;replace i:=av i j;replace i:=av i q;replace i:=av i s;replace i:=av i v;rw[jp]at bm;replace bm:=av bm j;replace bm:=av bm q;replace bm:=av bm s;replace bm:=av bm v;rw[jp,jp]at Vi;replace Vi:=av Vi q;replace Vi:=av Vi s;replace Vi:=av Vi v;rw[jp,jp,jp]at o;replace o:=av o s;replace o:=av o v;rw[jp,jp,jp,jp]at C;replace C:=av C v;rw[jp,jp,jp,jp,jp]at eA;have hB:=(((((c).trans (d.mono (c).size)).trans (j.mono ((c).trans (d.mono (c).size)).size)).trans (q.mono (((c).trans (d.mono (c).size)).trans (j.mono ((c).trans (d.mono (c).size)).size)).size)).trans (s.mono ((((c).trans (d.mono (c).size)).trans (j.mono ((c).trans (d.mono (c).size)).size)).trans (q.mono (((c).trans (d.mono (c).size)).trans (j.mono ((c).trans (d.mono (c).size)).size)).size)).size)).trans (v.mono (((((c).trans (d.mono (c).size)).trans (j.mono ((c).trans (d.mono (c).size)).size)).trans (q.mono (((c).trans (d.mono (c).size)).trans (j.mono ((c).trans (d.mono (c).size)).size)).size)).trans (s.mono ((((c).trans (d.mono (c).size)).trans (j.mono ((c).trans (d.mono (c).size)).size)).trans (q.mono (((c).trans (d.mono (c).size)).trans (j.mono ((c).trans (d.mono (c).size)).size)).size)).size)).size);rw[<-k]at hB;rw[<-k,<-hG]at i;rw[<-k,<-hG]at bm;rw[<-k,<-hG]at Vi;rw[<-k,<-hG]at o;rw[<-k,<-hG]at C;rw[<-k,<-hG]at eA;have Q:=O i;have ad:=O bm;have ax:=O Vi;have Wb:=O o;have UU:=O C;have U1:=O eA;have Us:=O hB;have HW:=O k;have HG:=O hG;have hm:=O h;have eB:=O X;obtain⟨Z,F⟩:∃y:jq jl,y=zeroCells37:=⟨_,I⟩;obtain⟨K,z⟩:∃y:jq jl,y=a8:=⟨_,I⟩;have ii:N ((aF mR nK).toArray=Z):=O (by rw[F];rfl);have ho:N ((cI.map v8).toArray=K):=O (by rw[z];rfl);have U9:N ((jo.info? 37).map (·.size)=T Z.size):=O (by rw[F];kernel_rfl);have ll:N ((jo.info? 65).map (·.size)=T K.size):=O (by rw[z];kernel_rfl);have lm:N (Z.all (·.oneCell')=ji):=O (by rw[F];kernel_rfl);have lo:N (K.all (·.oneCell')=ji):=O (by rw[z];kernel_rfl);replace UU:N (x0.heap[(t+1+1+1+1)]?=T (ja Z 37 (0,0))):=O (by rw[F];exact UU);replace U1:N (x0.heap[(t+1+1+1+1+1)]?=T (ja K 65 (0,0))):=O (by rw[z];exact U1);have YO:=O a3;have i0:=O a4;have hP:=O hT;have Wc:=O hS;have WB:=O bc;have Ww:=O bd;have g9:=O D;have VA:=O a1;have hQ:=O a2;have hR:=O g8;have Yb:=O h.llen;have c5:N (ay[0]?=T (jd je g.folder)/\ay[1]?=T (jd je g.epoch)):=O (by rw[P];have:=Vs;exact⟨by simpa using this.1,by simpa using this.2.1⟩);have V8:=O P;have i1:=O hL;have hU:=O U;have hV:=O V;obtain⟨R,nc,H,i3⟩:∃p n c',vl=A p n c':=by obtain⟨p,c',h⟩:=X.form;exact⟨p,_,c',h⟩
 subst i3;obtain⟨ep,a5⟩:=J g.epoch;obtain⟨fd,a6⟩:=J g.folder;rw[<-a5,<-a6]at c5;have Ya:=O a5;have i4:=O a6;have ba:=O (yH g a m);obtain⟨ne,bb⟩:=J (dt g a m);rw[<-bb]at HN ba;have e0:=O bb;clear h X a1 a2 g8 hT hS bc bd D M a3 Vs a4 P hL U V F z a5 a6 bb;clear hB k hG i c bm d Vi j o q C s eA v
 go_enter func49,ntmps49
 go_upto_region 1 with fail
 rw[<-HW,<-HG];have e1:N ((t+1+1+1+1+1)<x0.heap.size):=O (jA.1 U1).1;have k:=ah Q c5.2
 by_cases h1:1099511627776<=ep
 case pos=>
  have hT:decide (1099511627776<=ep)=ji:=ak h1;have c:N (er=1):=O (by rw[hM];unfold ie;rw[jr (by rw[<-Ya];exact h1)]);clear h1;exact jv (c.symm.trans ew) L
 have hT:decide (1099511627776<=ep)=jn:=ak h1;have i5:ep<1099511627776:=Y;have i:N (er=if dt g a m≠0 then dt g a m else if x<1\/2305843009213688669<=x then 50 else if((aY 4 x.toNat:jc):jb)≠dP g a m then 221 else 0):=O (by rw[hM];unfold ie;rw[jE (by rw[<-Ya];exact h1)]);clear h1
 go_upto_region 3 with fail
 clear hT k;refine jX ?_;refine j8 I 29 _ I t I 29 ay (0,0) _ Q.out qO I YO ?_
 go_wp2_with fail
 refine(HN x0 (hm.below Us) ((EK.At.of_sl (E:=EC) eB).below Us)).mono ?_;rintro e x1 ⟨aa,rfl,hu,d⟩;have q:=O hu;clear hu;have s:=ae Q d;have a2:=ae ad d;have V:=ae ax d;have Vh:=ae Wb d;have UM:=ae UU d;have UR:=ae U1 d;have U:=aj Us d;clear Q ad ax Wb UU U1 Us;clear d;obtain⟨pu,i6,rfl⟩:=cO q;obtain⟨nu,j⟩:=J ((dT g a m).length);rw[<-j]at q⊢;have hX:=O j;clear j
 rcases ba.out with⟨-,C⟩|⟨-,-,C⟩|⟨hv,hf,hp,C⟩
 case inl=>
  have c:N (er=1):=O (by rw[i,<-e0,C];rfl);subst C;clear q;exact jv (c.symm.trans ew) L
 case inr.inl=>
  have c:N (er=221):=O (by rw[i,<-e0,C];rfl);subst C;clear q;exact jv (c.symm.trans ew) L
 have o:N (er=if x<1\/2305843009213688669<=x then 50 else if((aY 4 x.toNat:jc):jb)≠dP g a m then 221 else 0):=O (by rw[i,<-e0,C];rfl);subst C;have j:dC g:=by
  by_cases C:dC g
  ·exact C
  rw[kr C]at hv;cases hv
 have b6:=O j;have Yo:=O (oF.1 hf);have hr:=O (tK.1 hp);have hs:N (dT g a m=eo (aX g.tree m) a):=O (yh e0.symm);have lp:0<=ep:=by rw[Ya];exact j.ep.1
 have ei:=O (vU j Yo hr);clear hv hf hp j i ba
 by_cases e2:k7 x
 case neg=>
  have c:N (er=50):=O (by rw[o,jr (by unfold k7 at e2;omega)]);have i:=O (Jn x e2);clear e2 q
  go_wp2_with fail
  refine(i x1).mono ?_;rintro e x2 ⟨rfl,rfl⟩;exact jv (c.symm.trans ew) L
 obtain⟨X,hY⟩:=qH (show 0<=x by have:=e2.1;omega);have lr:=O hY;obtain⟨i,j⟩:=e2;subst hY;have U5:N (1<=X/\X<2305843009213688669):=O ⟨by omega,by omega⟩;have ha:N (er=if((aY 4 X:jc):jb)≠dP g a m then 221 else 0):=O (by rw[o,jE Y];rfl);clear i j o
 go_wp2_with fail
 refine(Ac X U5.1 U5.2 x1).mono ?_;rintro e x2 ⟨rfl,d⟩;have i:=ae s d;have v:=ae a2 d;have D:=ae V d;have UP:=ae Vh d;have UJ:=ae UM d;have UQ:=ae UR d;have Ur:=aj U d;have e3:=bD q d;clear s a2 V Vh UM UR U q;clear d;obtain⟨vk,j⟩:=J (dP g a m);obtain⟨pb,e4⟩:∃y:jb,y=((aY 4 X:jc):jb):=⟨_,I⟩;rw[<-j]at hl ha;rw[<-e4]at ha⊢;have ZF:=O j;have i7:=O e4;clear j e4
 go_upto_region 9 with fail
 refine jX ?_;refine ee ?_;refine j8 I 29 _ I t I 29 ay (0,0) _ i.out qO I YO (G ?_)
 go_wp2_with fail
 refine(hl x2 b6 Yo hr (hm.below Ur) ((EK.At.of_sl (E:=EC) eB).below Ur)).mono ?_;rintro e x3 ⟨rfl,d⟩;have WX:=ae i d;have Zu:=ae v d;have o:=ae D d;have VW:=ae UP d;have U2:=ae UJ d;have Vg:=ae UQ d;have Uu:=aj Ur d;have a1:=bD e3 d;clear i v D UP UJ UQ Ur e3;clear d
 by_cases h2:pb=vk
 case neg=>
  have hd2:(pb !=vk)=ji:=ak h2;have hg:(pb==vk)=jn:=ak h2;have c:N (er=221):=O (by rw[ha,jr h2]);clear h2 a1;exact jv (c.symm.trans ew) L
 have hd2:(pb !=vk)=jn:=ak h2;have hg:(pb==vk)=ji:=ak h2;have ka:N (er=0):=O (by rw[ha,jE (λhn=>hn h2)]);have kb:N (dP g a m=(aY 4 X:jc)):=O (by rw[<-ZF,<-h2,i7]);clear h2;have k:=ah WX c5.2;obtain⟨ix,c⟩:=J (if g.epoch=0 then cI else init);obtain⟨IX,i⟩:=J ((ix.map v8).toArray);have j:ix.length=32:=by rw[c];split;exact eM;exact hQ
 have kg:=O j;have bo:=O c;have br:=O i;have ht:N ((jo.info? 65).map (·.size)=T IX.size):=O (by rw[i,ju,jw,j];kernel_rfl);clear j
 go_upto_if 69 with fail
 go_cut []from 69 (λj=>j=x3.setRow (t+1+1) IX)
 case first=>
  by_cases j:ep=0
  ·have hd3:(ep==0)=ji:=ak j
   have v:IX=(cI.map v8).toArray:=by rw[i,c,jr (by rw[<-Ya];exact j)]
   have D:N ((cI.map v8).toArray.all (·.oneCell')=ji):=O (ff _);have F:N (bI.size=(cI.map v8).toArray.size):=O (by rw[hU,ju,jw,ju,jw,hQ,eM]);rw[v]at ht;have M:=O v;clear j v i c
   try rw[hd3]
   go_upto_region 12 with fail
   refine jX ?_;refine eD (v:=jh (cI.map v8).toArray) ai (Ot I _) ?_;refine o8 I λ_ z=>jR 65 _ _ I (t+1+1) (cI.map v8).toArray I I 65 _ o.out ht F D (z _ _ ?_)
   refine G ?_
   go_wp2_with fail
   go_meet
   rw[M]
  have hd3:(ep==0)=jn:=ak j;have D:IX=bI:=by rw[i,c,jE (by rw[<-Ya];exact j),hU]
  have F:=O D;clear j D i c
  try rw[hd3]
  go_wp2_with fail
  go_meet
  rw[F];exact(rx o).symm
 subst hcut;clear i c hd2 hg k;have c:N ((x3.setRow (t+1+1) IX).heap[t]?=T (ja ay 29 (0,0))):=O ((js _ _ _ _ (by first|omega|(have:=Y8.out;omega))).trans WX);have D:N ((x3.setRow (t+1+1) IX).heap[t+1]?=T (ja Un 65 (0,0))):=O ((js _ _ _ _ (by first|omega|(have:=Y8.out;omega))).trans Zu);have F:N ((x3.setRow (t+1+1) IX).heap[t+1+1]?=T (ja IX 65 (0,0))):=O (jT _ _ _ _ _ _ o.out);have M:N ((x3.setRow (t+1+1) IX).heap[t+1+1+1]?=T (ja S 65 (0,0))):=O ((js _ _ _ _ (by first|omega|(have:=Y8.out;omega))).trans VW);have ba:N ((x3.setRow (t+1+1) IX).heap[(t+1+1+1+1)]?=T (ja Z 37 (0,0))):=O ((js _ _ _ _ (by first|omega|(have:=Y8.out;omega))).trans U2);have bc:N ((x3.setRow (t+1+1) IX).heap[(t+1+1+1+1+1)]?=T (ja K 65 (0,0))):=O ((js _ _ _ _ (by first|omega|(have:=Y8.out;omega))).trans Vg);have bd:N (jk w w (x3.setRow (t+1+1) IX)):=O (n0 Uu.out (by rw[HG];omega) _);have P:=O (nr (w':=(x3.setRow (t+1+1) IX)) a1 (λk hk=>js _ _ _ _ (aI e1)));generalize(x3.setRow (t+1+1) IX)=x4 at c D F M ba bc bd P⊢;clear WX Zu o VW U2 Vg Uu a1;have a3:=c;clear c;have o:=D;clear D;have a4:=F;clear F;have WQ:=M;clear M;have Yk:=ba;clear ba;have YH:=bc;clear bc;have UB:=bd;clear bd;have a5:=P;clear P
 go_upto_region 13 with fail
 refine jX ?_;refine j8 I 65 _ I (t+1) I 65 Un (0,0) _ o.out jW I Ye ?_;have a1:N (∀W,bS W->jB jo 104 #[jh Un] W λe w'=>∃v,e=jz v/\w'.ownsRow W 65 32 v 10 (io (gI u 10))/\jk W W w'):=O (by rw[i1];exact λW hW=>LB u VA W hW)
 go_wp2_with fail
 refine(a1 x4 (Wc.dig.below UB)).mono ?_;rintro e x5 ⟨v,rfl,hv,d⟩;obtain⟨gl,cl,LC,rfl,lv,a6,bb,bf⟩:=S0 hv L;have e5:=O bb;have Y8:N (t+6<=gl):=O (by have h5:=(jA.1 YH).1;have:=a6;omega);have hh:N (∀i j aa,i<10->((aA u i).map v8)[j]?=T aa->LC[i*32+j]?=T aa):=O (λi j aa hi hj=>bf _ _ (RH u VA 10 i j hi aa hj));clear hv bb bf a6 a1;have bg:=ae a3 d;have bh:=ae o d;have a1:=ae a4 d;have Z9:=ae WQ d;have ej:=ae Yk d;have ek:=ae YH d;have UH:=aj UB d;have bi:=bD a5 d;clear a3 o a4 WQ Yk YH UB a5;clear d;obtain⟨RL,a3⟩:=J (((aA u 9).map v8).toArray);obtain⟨SA,o⟩:=J (((dL g u init).map v8).toArray);have bs:N (∀W,iH W->jB jo 105 #[jh IX,jh RL] W λe w'=>e=jz (jh SA)/\jk W W w'):=O (by
  rw[br,a3,o];unfold dL;rw[<-bo];exact λW hW=>QR ix (aA u 9) kg (fK u VA 9) W hW)
 have e6:N ((jo.info? 65).map (·.size)=T SA.size):=O (by rw[o,ju,jw,lG];kernel_rfl);have ki:N (K.size=SA.size):=O (by rw[o,<-ho,ju,jw,ju,jw,lG,eM]);have hZ:N (SA.all (·.oneCell')=ji):=O (by rw[o];exact ff _);have bu:=O a3;have hw:=O o;have bv:N ((jo.info? 65).map (·.size)=T ((aA u 9).map v8).length):=O (by rw[jw,fK u VA];kernel_rfl);clear a3 o
 go_upto_region 14 with fail
 refine jL ?_;refine dj (λW'=>W'.heap[t+1+1]?=T (ja IX 65 (0,0))/\W'.heap[gl]?=T (ja LC 65 (0,0))) (.t 0 (.t 1 (.t 2 (.t 3 (.o 4 (.o 5 .done)))))) af af af L (λ_ _ _ _ h=>h) ⟨a1,e5⟩ ?_;obtain⟨y0,UL⟩:=J x5.drew;have d:=bX x5;rw[<-UL]at d⊢;have a5:=ae bg d;have a6:=ae bh d;have bb:=ae a1 d;have bT:=ae Z9 d;have cm:=ae ej d;have cp:=ae ek d;have Zw:=aj UH d;have bf:=bD bi d;have cs:=ae e5 d;clear d UL bg bh a1 Z9 ej ek UH bi e5;have Q:=a5;clear a5;have ad:=a6;clear a6;have ax:=bb;clear bb;have Wb:=bT;clear bT;have UU:=cm;clear cm;have U1:=cp;clear cp;have Us:=Zw;clear Zw;have bg:=bf;clear bf;have bK:=cs;clear cs
 (refine aS (v:=jh IX) I ai (λW' hS=>mx jW I ht I I hS.1) (G ?_))
 iterate 2 refine aK ?_
 (refine aS (v:=jh RL) I ai (λW' hS=>by rw[bu];exact CR jW I bv I I (Hi (o:=288) hS.2 (λj aa hj=>hh 9 j aa L hj))) ?_;refine G ?_)
 refine aE I (λK' z=>?_);go_simp;refine(bs y0 (Wc.below Us)).mono ?_;rintro e y1 ⟨rfl,d⟩;have s:=ae Q d;have a2:=ae ad d;have V:=ae ax d;have Vh:=ae Wb d;have UM:=ae UU d;have UR:=ae U1 d;have U:=aj Us d;have q:=bD bg d;have a1:=ae bK d;clear Q ad ax Wb UU U1 Us bg bK;clear d;refine z _ _ ⟨V,a1⟩ λ_=>?_
 clear z;refine G ?_;refine aE I (λK' z=>?_);rw[jr ai];refine jR 65 _ _ I (t+1+1+1+1+1) SA I I 65 _ UR.out e6 ki hZ ?_;refine z _ _ ⟨(js _ _ _ _ Y).trans V,(js _ _ _ _ (aI Y8)).trans a1⟩ λ_=>?_
 clear z;have c:N ((y1.setRow (t+1+1+1+1+1) SA).heap[t]?=T (ja ay 29 (0,0))):=O ((js _ _ _ _ (by first|omega|(have:=Y8.out;omega))).trans s);have D:N ((y1.setRow (t+1+1+1+1+1) SA).heap[t+1]?=T (ja Un 65 (0,0))):=O ((js _ _ _ _ (by first|omega|(have:=Y8.out;omega))).trans a2);have F:N ((y1.setRow (t+1+1+1+1+1) SA).heap[t+1+1]?=T (ja IX 65 (0,0))):=O ((js _ _ _ _ (by first|omega|(have:=Y8.out;omega))).trans V);have M:N ((y1.setRow (t+1+1+1+1+1) SA).heap[t+1+1+1]?=T (ja S 65 (0,0))):=O ((js _ _ _ _ (by first|omega|(have:=Y8.out;omega))).trans Vh);have ba:N ((y1.setRow (t+1+1+1+1+1) SA).heap[(t+1+1+1+1)]?=T (ja Z 37 (0,0))):=O ((js _ _ _ _ (by first|omega|(have:=Y8.out;omega))).trans UM);have bc:N ((y1.setRow (t+1+1+1+1+1) SA).heap[(t+1+1+1+1+1)]?=T (ja SA 65 (0,0))):=O (jT _ _ _ _ _ _ UR.out);have bd:N (jk w w (y1.setRow (t+1+1+1+1+1) SA)):=O (n0 U.out (by rw[HG];omega) _);have P:=O (nr (w':=(y1.setRow (t+1+1+1+1+1) SA)) q (λk hk=>js _ _ _ _ (aI e1)));have a3:N ((y1.setRow (t+1+1+1+1+1) SA).heap[gl]?=T (ja LC 65 (0,0))):=O ((js _ _ _ _ (by first|omega|(have:=Y8.out;omega))).trans a1);generalize(y1.setRow (t+1+1+1+1+1) SA)=y9 at c D F M ba bc bd P a3⊢;clear s a2 V Vh UM UR U q a1;have ZQ:=c;clear c;have bi:=D;clear D;have bk:=F;clear F;have Zv:=M;clear M;have Zh:=ba;clear ba;have ZZ:=bc;clear bc;have VM:=bd;clear bd;have bh:=P;clear P;have a4:=a3;clear a3;refine G ?_;refine ow ?_;have bw:N ((jo.info? 23).map (·.size)=T (g.last.map v8).length):=O (by rw[jw,Yb];kernel_rfl);obtain⟨DL,bl⟩:=J ((g.last.map v8).toArray);have WS:=O bl;have h0:N (IntKind.i64.wrap (ep+1)=ep+1):=O (by rw[IntKind.wrap_i64];omega);have bA:N (DL.size=32):=O (by rw[bl,ju,jw,Yb]);clear bl
 go_upto_region 15 with fail
 refine jL ?_;refine dj (λW'=>W'.heap[t]?=T (ja ay 29 (0,0))) (.t 0 (.t 1 (.t 2 (.t 3 (.t 4 (.t 5 (.t 6 (.t 7 (.t 8 (.o 9 (.t 10 (.o 11 .done)))))))))))) af af af L (λ_ _ _ _ h=>h) ZQ ?_;obtain⟨z0,UL⟩:=J y9.drew;have d:=bX y9;rw[<-UL]at d⊢;have a5:=ae ZQ d;have a6:=ae bi d;have bb:=ae bk d;have bT:=ae Zv d;have cm:=ae Zh d;have cp:=ae ZZ d;have Zw:=aj VM d;have bf:=bD bh d;have cs:=ae a4 d;clear d UL ZQ bi bk Zv Zh ZZ VM bh a4;have Q:=a5;clear a5;have ad:=a6;clear a6;have ax:=bb;clear bb;have Wb:=bT;clear bT;have UU:=cm;clear cm;have U1:=cp;clear cp;have Us:=Zw;clear Zw;have bg:=bf;clear bf;have bK:=cs;clear cs;iterate 6 (refine aS (v:=?_) I ai (λW' hS=>?_) ?_;rotate_left;(have b0:=ah hS c5.1;have b1:=ah hS c5.2;go_simp;with_reducible rfl);refine G ?_)
 (refine aS (v:=jh DL) I ai (λW' hS=>by rw[WS];exact CR underlying23 I bw I I (i0 W' t hS)) ?_;refine G ?_)
 iterate 2 (refine aS (v:=?_) I ai (λW' hS=>?_) ?_;rotate_left;(have b0:=ah hS c5.1;have b1:=ah hS c5.2;go_simp;with_reducible rfl);refine G ?_)
 refine aE I (λK' z=>?_);go_simp;refine(IE m _ z0 ((EK.At.of_sl (E:=EC) eB).below Us) g9).mono ?_;rintro e z1 ⟨aa,rfl,hu,d⟩;obtain⟨EE,a5⟩:=J z0.heap.size;rw[<-a5]at hu;have c6:N (t+6<=EE):=O (by have h5:=(jA.1 U1).1;omega);clear a5;have Y9:=O hu;clear hu;obtain⟨V9,c1,rfl⟩:=cO Y9;obtain⟨X0,a6⟩:∃y:jq jl,y= #[jd je fd,jd je (ep+1)]++DL++ #[jd je a,A V9 m.length c1,A jf 0 0,A jf 0 0,A jf 0 0]++(cI.map v8).toArray++ #[jd je 0,jd je 0]:=⟨_,I⟩;have bb:=O a6;have a5:X0=(aF (bY g a m u) ⟨A V9 m.length c1,A jf 0 0,A jf 0 0,A jf 0 0⟩).toArray:=by rw[a6,WS,i4,Ya];unfold aF bY;simp
 have bf:=O a5;have bl:N ((jo.info? 37).map (·.size)=T X0.size):=O (by rw[a5,ju,dl _ _ Yb.out eM];exact mT);have bB:N (X0.all (·.oneCell')=ji):=O (by rw[a5];exact zO _ _ _ _ _ _ _ _ _ _ _ _ _);have bC:N (Z.size=X0.size):=O (by rw[a5,<-ii,ju,ju,dl (bY g a m u) _ Yb.out eM,dl mR nK eM eM]);clear a6 a5;have s:=ae Q d;have a2:=ae ad d;have V:=ae ax d;have Vh:=ae Wb d;have UM:=ae UU d;have UR:=ae U1 d;have U:=aj Us d;have q:=bD bg d;have a1:=ae bK d;clear Q ad ax Wb UU U1 Us bg bK;clear d;refine z _ _ s.out λ_=>?_
 clear z;refine G ?_
 (refine aS (v:=jh X0) I ai (λW' hS=>by rw[bb];exact L4 (f:=fd) (e:=ep+1) (au:=a) bA I (by simp only[pz,j1,jY,Act.eval,Array.getD_eq_getD_getElem?];simp;exact h0) W') ?_;refine G ?_)
 refine aE I (λK' z=>?_);rw[jr ai];refine jR 37 _ _ I (t+1+1+1+1) X0 I I 37 _ UM.out bl bC bB ?_;refine z _ _ ((js _ _ _ _ Y).trans s) λ_=>?_
 clear z;have Q:N ((z1.setRow (t+1+1+1+1) X0).ownsRow EE 55 5 (A V9 m.length c1) m.length (m.flatMap ar.cells)):=O (nr Y9 (λk hk=>js _ _ _ _ (aI c6)));have c:N ((z1.setRow (t+1+1+1+1) X0).heap[t]?=T (ja ay 29 (0,0))):=O ((js _ _ _ _ (by first|omega|(have:=Y8.out;omega))).trans s);have D:N ((z1.setRow (t+1+1+1+1) X0).heap[t+1]?=T (ja Un 65 (0,0))):=O ((js _ _ _ _ (by first|omega|(have:=Y8.out;omega))).trans a2);have F:N ((z1.setRow (t+1+1+1+1) X0).heap[t+1+1]?=T (ja IX 65 (0,0))):=O ((js _ _ _ _ (by first|omega|(have:=Y8.out;omega))).trans V);have M:N ((z1.setRow (t+1+1+1+1) X0).heap[t+1+1+1]?=T (ja S 65 (0,0))):=O ((js _ _ _ _ (by first|omega|(have:=Y8.out;omega))).trans Vh);have ba:N ((z1.setRow (t+1+1+1+1) X0).heap[(t+1+1+1+1)]?=T (ja X0 37 (0,0))):=O (jT _ _ _ _ _ _ UM.out);have bc:N ((z1.setRow (t+1+1+1+1) X0).heap[(t+1+1+1+1+1)]?=T (ja SA 65 (0,0))):=O ((js _ _ _ _ (by first|omega|(have:=Y8.out;omega))).trans UR);have bd:N (jk w w (z1.setRow (t+1+1+1+1) X0)):=O (n0 U.out (by rw[HG];omega) _);have P:=O (nr (w':=(z1.setRow (t+1+1+1+1) X0)) q (λk hk=>js _ _ _ _ (aI e1)));have a3:N ((z1.setRow (t+1+1+1+1) X0).heap[gl]?=T (ja LC 65 (0,0))):=O ((js _ _ _ _ (by first|omega|(have:=Y8.out;omega))).trans a1);generalize(z1.setRow (t+1+1+1+1) X0)=z9 at c D F M ba bc bd P a3 Q⊢;clear s a2 V Vh UM UR U q a1;have ZQ:=c;clear c;have bi:=D;clear D;have bk:=F;clear F;have Zv:=M;clear M;have Zh:=ba;clear ba;have ZZ:=bc;clear bc;have VM:=bd;clear bd;have bh:=P;clear P;have a4:=a3;clear a3;clear Y9;have ad:=Q;clear Q;refine G ?_;refine ow ?_;obtain⟨M,c⟩:=J z9.heap.size;have Yp:N ((t+1+1+1+1)<M):=O (by rw[c];exact(jA.1 Zh).1);have e7:N (gl<M):=O (by rw[c];exact(jA.1 a4).1);have h4:=O c;have e8:N ((t+1+1+1+1+1)<M):=O (by rw[c];exact(jA.1 ZZ).1);have a3:N (∀aa v,((λv=>(aF (bY g a m u) ⟨A V9 m.length c1,v,A jf 0 0,A jf 0 0⟩).toArray) aa).setIfInBounds 36 v=(λv=>(aF (bY g a m u) ⟨A V9 m.length c1,v,A jf 0 0,A jf 0 0⟩).toArray) v):=O (λaa v=>RS (bY g a m u) _ _ _ _ _ Yb.out);have D:N (gB M (t+1+1+1+1) 37 3 1 (λv=>(aF (bY g a m u) ⟨A V9 m.length c1,v,A jf 0 0,A jf 0 0⟩).toArray) z9 z9 0 (A jf 0 0) (((dA u).take 0).map (jH .i64))):=O ⟨by have h:=Zh.out;rw[bf]at h;exact h,qV _ _ _ _,dx.refl _ _ _,j5 c⟩;have kl:N (∀w,(Instr.alloc 65 ji (jI #[])).run jo w=.ok (jt (T ⟨w,0,jf⟩)) (w.alloc (ja K 65))):=O (λw=>by rw[<-ho];kernel_rfl);clear c;rw[h0]
 go_upto_region 16 with fail
 go_wp2_with fail
 go_loopw [91] (λv wr=>∃(i:jc) (pv:jF Addr) (cv:jc),v=jd je i/\i<=10/\N (gB M (t+1+1+1+1) 37 3 1 (λv=>(aF (bY g a m u) ⟨A V9 m.length c1,v,A jf 0 0,A jf 0 0⟩).toArray) z9 wr i (A pv i cv) (((dA u).take i).map (jH .i64)))) (λv _=>10-(jV v).toNat)
 case atStart=>exact⟨0,jf,0,I,jN _,D⟩
 clear D;obtain⟨i,pv,cv,rfl,hi,P⟩:=hrel
 by_cases b7:i<10
 ·have hd:=az ((i:jb)<10)
  have UN:=az (i<10);have h5:(i:jb)<10:=Y;obtain⟨RK,c⟩:=J (((aA u i).map v8).toArray);have a6:=O c;have ax:N ((jo.info? 65).map (·.size)=T RK.size):=O (by rw[c,ju,jw,fK u VA];kernel_rfl);have bg:N (K.size=RK.size):=O (by rw[c,<-ho,ju,jw,ju,jw,fK u VA,eM]);have bq:N (RK.all (·.oneCell')=ji):=O (by rw[c];exact ff _);have bM:N ((jo.info? 65).map (·.size)=T ((aA u i).map v8).length):=O (by rw[jw,fK u VA];kernel_rfl);have bN:N (∀W,iH W->jB jo 106 #[jh RK] W λe w'=>e=jz (jd je (aU (aA u i):jc))/\jk W W w'):=O (by rw[c];exact λW hW=>SZ _ (fK u VA i) W hW);have D:N (wr.heap[gl]?=T (ja LC 65 (0,0))):=O ((P.but.block gl e7 (aI Y8)).trans a4);have F:N (wr.rangeAt gl (i*32) ((aA u i).map v8)):=O (Hi D (λj aa hj=>hh i j aa b7 hj));have WP:N (jk w w wr):=O (VM.trans (P.but.below (n:=w.heap.size) (by rw[HG];omega) (dY Yp HG)));clear c
  go_upto_region 18 with fail
  refine jX ?_;refine ee ?_;refine uT ai λ_ z=>wp_load_mid 65 _ I _ _ I ((aA u i).map v8) _ (by first|exact F|simpa using F.out) jW I bM (z _ _ ?_)
  rw[<-a6];refine o8 I λ_ z=>gM 65 I K kl (z _ _ ?_)
  refine o8 I λ_ z=>jR 65 _ _ I wr.heap.size RK I I 65 K (jy wr _) ax bg bq (z _ _ ?_)
  have bn:((wr.alloc (ja K 65)).setRow wr.heap.size RK).heap[wr.heap.size]?=T (ja RK 65 (0,0)):=jT _ _ _ _ _ _ (jy wr _);have d:jk wr wr ((wr.alloc (ja K 65)).setRow wr.heap.size RK):=iS (ap wr _) (jG _) _;obtain⟨k0,Zg⟩:=J ((wr.alloc (ja K 65)).setRow wr.heap.size RK);obtain⟨bO,c⟩:=J wr.heap.size;rw[<-Zg,<-c]at bn;rw[<-Zg]at d⊢;rw[<-c]at⊢;have V:=O (P.later (aI Yp) d);have Q:=O bn;have Us:N (jk w w k0):=aj WP d;clear bn d Zg c P WP D F
  go_upto_region 19 with fail
  refine jX ?_;refine j8 I 65 _ I bO I 65 RK (0,0) _ Q.out jW I ax ?_
  go_wp2_with fail
  refine(bN k0 (Wc.below Us)).mono ?_;rintro e k1 ⟨rfl,d⟩;have a2:=O (V.later Yp d);have a5:=ae Q d;have U:=aj Us d;clear V Q Us;clear d
  go_wp2_with fail
  refine(Ac (aU (aA u i)) (Ef _).1 (Ef _).2 k1).mono ?_;rintro e c ⟨rfl,d⟩;have F:=O (a2.later Yp d);have b1:=ae a5 d;have Ur:=aj U d;clear a2 a5 U;clear d;obtain⟨Q,V⟩:∃y:jb,y=((aY 4 (aU (aA u i)):jc):jb):=⟨_,I⟩;rw[<-V];have a2:=O V;clear V;have a5:=ah F.box (show((λv=>(aF (bY g a m u) ⟨A V9 m.length c1,v,A jf 0 0,A jf 0 0⟩).toArray) (A pv i cv))[36]?=T (A pv i cv) by have h:=(iy (bY g a m u) ⟨A V9 m.length c1,A pv i cv,A jf 0 0,A jf 0 0⟩ Yb eM).2.2.2.2.1;simpa using h);have V:((λv=>(aF (bY g a m u) ⟨A V9 m.length c1,v,A jf 0 0,A jf 0 0⟩).toArray) (A pv i cv)).size=73:=by rw[ju,dl _ _ Yb.out eM]
  have b0:=O V;clear V
  go_wp2_with (at_builtin;refine Hid.out ?_)
  refine O ?_;refine o8 I λ_ z=>SE _ _ I M (A pv i cv) i _ I (cP F.own (ap c _)) _ 1 [jd je Q] I (lA c [jd je Q] 3 (0,0) 1 1 1 I (jG _)) (by simp[j4]) Y (jD F.sz' (ap c _).size) λv' k9 U0=>z _ _ ?_
  clear z;have bp:gB M (t+1+1+1+1) 37 3 1 (λv=>(aF (bY g a m u) ⟨A V9 m.length c1,v,A jf 0 0,A jf 0 0⟩).toArray) z9 (c.alloc (ja #[jd je Q] 3)) i (A pv i cv) (((dA u).take i).map (jH .i64)):=F.later (aI Yp) (ap c _);have ct:=lg bp.box U0.grown (eV bp.own (.inr Yp));obtain⟨pn,cn,rfl⟩:=cO U0.own;have e9:N (gB M (t+1+1+1+1) 37 3 1 (λv=>(aF (bY g a m u) ⟨A V9 m.length c1,v,A jf 0 0,A jf 0 0⟩).toArray) z9 (k9.setCell ⟨(t+1+1+1+1),36,jf⟩ (A pn (i+1) cn)) (i+1) (A pn (i+1) cn) (((dA u).take (i+1)).map (jH .i64))):=O (by
   have h:=bp.push (i:=36) Yp U0 (a3 _ _);rw[PO u i b7,mz,j1,jY,<-a2];exact h)
  obtain⟨⟨vo,c3⟩,f3,-,-⟩:=ku (i:=36) (A pn (i+1) cn) ct (by rw[b0];decide);clear bp U0 ct a5
  go_wp2_with fail
  go_roundw
  case rel=>exact⟨i+1,pn,cn,by go_num,by omega,e9⟩
  case measure=>simp only[jV];omega
 obtain rfl:i=10:=Y;have hd:decide ((10:jb)<10)=jn:=by decide
 have UN:decide (10<10)=jn:=by decide
 rename jj=>p1;have cu:(dA u).take 10=dA u:=qs (by rw[lN];exact jG _);rw[cu]at P;have c:(dA u).length=10:=lN u;have s:N (p1.heap[t]?=T (ja ay 29 (0,0))):=O ((P.but.block (t) (by first|(have:=Yp.out;omega)|(have:=e8.out;omega)|(have:=e7.out;omega)) (by first|omega|(have:=Y8.out;omega))).trans ZQ);have Vh:N (p1.heap[t+1+1+1]?=T (ja S 65 (0,0))):=O ((P.but.block (t+1+1+1) (by first|(have:=Yp.out;omega)|(have:=e8.out;omega)|(have:=e7.out;omega)) (by first|omega|(have:=Y8.out;omega))).trans Zv);have UR:N (p1.heap[(t+1+1+1+1+1)]?=T (ja SA 65 (0,0))):=O ((P.but.block (t+1+1+1+1+1) (by first|(have:=Yp.out;omega)|(have:=e8.out;omega)|(have:=e7.out;omega)) (by first|omega|(have:=Y8.out;omega))).trans ZZ);have a1:N (p1.heap[gl]?=T (ja LC 65 (0,0))):=O ((P.but.block (gl) (by first|(have:=Yp.out;omega)|(have:=e8.out;omega)|(have:=e7.out;omega)) (by first|omega|(have:=Y8.out;omega))).trans a4);have UM:N (p1.heap[(t+1+1+1+1)]?=T (ja ((λv=>(aF (bY g a m u) ⟨A V9 m.length c1,v,A jf 0 0,A jf 0 0⟩).toArray) (A pv 10 cv)) 37 (0,0))):=O P.box;have U:N (jk w w p1):=O (VM.trans (P.but.below (n:=w.heap.size) (by rw[HG];omega) (dY Yp HG)));have Y9:N (p1.ownsRow EE 55 5 (A V9 m.length c1) m.length (m.flatMap ar.cells)):=O (kO ad (λk bq ax=>P.but.block k (by rw[h4];exact ax) (aI c6)));have q:=O (kO bh (λk bq ax=>P.but.block k (by rw[h4];exact ax) (aI e1)));have F:N (M<=p1.heap.size):=O P.sz';have a2:N (p1.ownsRow M 3 1 (A pv 10 cv) 10 ((dA u).map (jH .i64))):=O P.own;clear cu c P b7 hi bh ZQ bi bk Zv Zh ZZ VM a4 ad a3 br bo bu bs bv WS bw bb bl bB bC bf bA;obtain⟨pq,cq,km,kn⟩:∃(p:jF Addr) (c:jc),p=pv/\c=cv:=⟨_,_,I,I⟩;subst km;subst kn
 go_upto_region 22 with fail
 refine jX ?_;refine j8 I 29 _ I t I 29 ay (0,0) _ s.out qO I YO ?_;have Q:N (M<=p1.heap.size):=F;clear s F
 go_wp2_with fail
 refine(hN p1 Yo (hm.below U) ((EK.At.of_sl (E:=EC) eB).below U)).mono ?_;rintro e pm ⟨u1,rfl,hu,d⟩;have s:=O hu;clear hu;obtain⟨pt,nt,cw,rfl⟩:=gu s;have V:N (M<=pm.heap.size):=O (jD Q d.size);have ad:=ae Vh d;have a5:=ae UR d;have a6:=ae a1 d;have bb:=ae UM d;have bf:=aj U d;have bg:=bD Y9 d;have bh:=bD a2 d;have bi:=bD q d;clear Vh UR a1 UM U Y9 a2 q;clear d;clear Q
 go_upto_region 23 with fail
 have d:=ap pm (ja #[A pt nt cw] 27);have F:=jy pm (ja #[A pt nt cw] 27);obtain⟨p2,C⟩:=J (pm.alloc (ja #[A pt nt cw] 27));rw[<-C]at d F⊢;obtain⟨bt,Q⟩:=J pm.heap.size;rw[<-Q]at F⊢;have q:=O Q;have UP:=ae ad d;have UQ:=ae a5 d;have bM:=ae a6 d;have UJ:=ae bb d;have Ur:=aj bf d;have a3:=bD bg d;have a4:=bD bh d;have e3:=bD bi d;have b0:=O (s.below d);clear ad a5 a6 bb bf bg bh bi s;have s:=O F;clear F C d Q;have kv:N (M<=bt):=O (by rw[q];exact V);have hq:=s;clear s V q;obtain⟨M2,q⟩:=J p2.heap.size;have br:N ((t+1+1+1+1)<M2):=O (by rw[q];exact(jA.1 UJ).1);have h6:N ((t+1+1+1+1+1)<M2):=O (by rw[q];exact(jA.1 UQ).1);have h7:N (gl<M2):=O (by rw[q];exact(jA.1 bM).1);have h8:N (bt<M2):=O (by rw[q];exact(jA.1 hq).1);have h9:N (bt≠(t+1+1+1+1)):=O (dY kv Yp);have VN:=O q;have ia:N (∀aa v,((λv=>(aF (bY g a m u) ⟨A V9 m.length c1,A pq 10 cq,v,A jf 0 0⟩).toArray) aa).setIfInBounds 37 v=(λv=>(aF (bY g a m u) ⟨A V9 m.length c1,A pq 10 cq,v,A jf 0 0⟩).toArray) v):=O (λaa v=>Dy (bY g a m u) _ _ _ _ _ Yb.out);obtain⟨nl,s⟩:=J (dT g a m);have hx:=O s;have Zx:N (nu=nl.length):=O (by rw[s];exact hX);have ib:N (nu<=511):=O (by rw[hX,hs];exact CJ _ ei.1 ei.2);have kx:=O (oX m _ (lP b6.tree) (rm b6 Yo hr)).1;have V:N (eF M2 (t+1+1+1+1) 37 85 4 Bx.cells Bx.body (λv=>(aF (bY g a m u) ⟨A V9 m.length c1,A pq 10 cq,v,A jf 0 0⟩).toArray) p2 p2 0 (A jf 0 0) ((nl.take 0).map (eE g a m u seed)) []):=O (eF.start UJ (j5 q));clear q s
 go_upto_region 23 with fail
 go_wp2_with fail
 go_loopw [113] (λv wr=>∃(i:jc) (pv:jF Addr) (cv:jc) (us:jg jl),v=jd je i/\i<=nu/\N (eF M2 (t+1+1+1+1) 37 85 4 Bx.cells Bx.body (λv=>(aF (bY g a m u) ⟨A V9 m.length c1,A pq 10 cq,v,A jf 0 0⟩).toArray) p2 wr i (A pv i cv) ((nl.take i).map (eE g a m u seed)) us)) (λv _=>nu-(jV v).toNat)
 case atStart=>exact⟨0,jf,0,[],I,jN _,V⟩
 clear V;obtain⟨i,pv,cv,us,rfl,hi,P⟩:=hrel;have eA:=ib.out
 by_cases b7:i<nu
 ·have hd:=az ((i:jb)<(nu:jb))
  have UN:=az (i<nu);have h5:(i:jb)<(nu:jb):=Y;have WP:N (jk w w wr):=O (Ur.trans (P.row.but.below (n:=w.heap.size) (by rw[HG];omega) (dY br HG)));have ad:=P.row.but;have V:=O (kO e3 (λk bq ax=>ad.block k (by rw[VN];exact ax) (aI e1)));have fe:=O (kO a3 (λk bq ax=>ad.block k (by rw[VN];exact ax) (aI c6)));have fm:=O (kO a4 (λk bq ax=>ad.block k (by rw[VN];exact ax) (aI Yp)));have a5:N (bJ wr (A pt nt cw) (aX g.tree m)):=O (MB b0 (j:=37) UJ P.row.box (λk hk hn=>ad.block k (by rw[VN];exact hk) hn) (λj hj=>Ml (bY g a m u) _ _ _ _ _ Yb.out j hj) ⟨_,_,_,(rV (bY g a m u) _ _ _ _ Yb.out eM).2.1⟩);have fo:N (wr.heap[t+1+1+1]?=T (ja S 65 (0,0))):=O ((ad.block (t+1+1+1) (aI br) Y).trans UP);have D:N (wr.heap[gl]?=T (ja LC 65 (0,0))):=O ((ad.block gl h7 (aI Y8)).trans bM);have a6:N (wr.heap[bt]?=T (ja #[A pt nt cw] 27 (0,0))):=O ((ad.block bt h8 h9).trans hq);have Vs:EB0.At wr (A pu nu i6) nl:=EK.At.of_own (E:=EB0) (B:=x0.heap.size) (by rw[<-Zx,hx];exact V);obtain⟨-,-,Vq⟩:=Vs.cells;obtain⟨g0,o,ky,bN⟩:=Vq Y;subst ky;obtain⟨⟨kk,s⟩,C,fv⟩:=dK (l:=nl) (j:=i) (by rw[<-Zx];exact b7);have d0:wr.cell? ⟨g0,o+i*4,jf⟩=T (jd je s):=bN i _ C 0 _ I;have d1:wr.cell? ⟨g0,o+i*4+1,jf⟩=T (jd je kk):=bN i _ C 1 _ I;have d2:wr.cell? ⟨g0,o+i*4+2,jf⟩=T (jd je 0):=bN i _ C 2 _ I;have d3:wr.cell? ⟨g0,o+i*4+3,jf⟩=T (A jf 0 0):=bN i _ C 3 _ I;have Vm:=j3 C;rw[hx,hs]at Vm;obtain⟨⟨bq,ax⟩,⟨bm,Vi⟩,bb,cx⟩:=Gd kx ei.1 ei.2 Vm;obtain⟨q,rfl⟩:=qH (show 0<=kk by omega);obtain⟨Vu,em⟩:=qH (show 0<=(bG (aX g.tree m) s).getD 0 by have:=cx.1;omega);have k2:N (tG (aX g.tree m) s=Vu):=O (by unfold tG;rw[em];rfl);rw[em]at cx;have hz:=O cx;have k3:N (∀W,bJ W (A pt nt cw) (aX g.tree m)->jB jo 107 #[jh #[A pt nt cw],jd je s] W λe w'=>e=jz (jI #[jd je (Vu:jb),.bool ji])/\jk W W w'):=O (λW hW=>by
   have h:=JW (aX g.tree m) _ s W hW (by have:=wP g.tree m;have:=Ww.out;have:=Yo.len;omega) (aO.of Y);rw[em,bb]at h;exact h)
  have hB:N ((nl.take (i+1)).map (eE g a m u seed)=(nl.take i).map (eE g a m u seed)++[eE g a m u seed ((q:jb),s)]):=O (by rw[fv,mz];rfl);have ga:N (q<10/\1<=q):=O ⟨by omega,by omega⟩;have ic:N (1<=s/\s<1024):=O ⟨bm,Vi⟩;clear Vs Vq bN C fv Vm bq ax bm Vi bb cx em V ad
  go_upto_region 26 with fail
  obtain⟨bb,b4⟩:=J wr.heap.size;have bn:=jy wr (ja #[jd je s,jd je (q:jb),jd je 0,A jf 0 0] 85);have d:=ap wr (ja #[jd je s,jd je (q:jb),jd je 0,A jf 0 0] 85);have c7:N (M2<=bb):=O (by rw[b4];exact P.row.sz');have ZT:N ((qg pv i cv).ownBlock≠T bb):=O (eV P.row.own (.inl (j5 b4.symm)));rw[<-b4]at bn⊢;obtain⟨k0,Zg⟩:=J (wr.alloc (ja #[jd je s,jd je (q:jb),jd je 0,A jf 0 0] 85));rw[<-Zg]at bn d⊢;have bw:=O d;have bs:=O (av P.row.box d);have bu:=O bn;have Us:=aj WP d;have bA:=bD fe d;have bB:=bD fm d;have ce:=O (a5.below d);have Wb:=ae fo d;have bK:=ae D d;have V:=ae a6 d;have gf:N (wr.heap.size=bb):=O b4.symm;clear bn d Zg b4 WP fe fm a5 fo D a6 d0 d1 d2 d3;have D:=ah (i:=0) bu I
  go_upto_region 26 with fail
  refine jX ?_;refine j8 I 27 _ I bt I 27 #[A pt nt cw] (0,0) _ V.out underlying27 I rr ?_
  go_wp2_with fail
  refine(k3 k0 ce).mono ?_;rintro e k1 ⟨rfl,d⟩;have bg:=aj bw d;have Zz:=ae bs d;have a6:=ae bu d;have U:=aj Us d;have Y9:=bD bA d;have a2:=bD bB d;have b5:=O (ce.below d);have Vh:=ae Wb d;have a1:=ae bK d;clear bw bs bu Us bA bB ce Wb bK;clear d D V;have bh:N (k1.cell? ⟨bb,0,jf⟩=T (jd je s)/\k1.cell? ⟨bb,1,jf⟩=T (jd je (q:jb))):=O ⟨ah a6 I,ah a6 I⟩;obtain⟨ex,b8⟩:=J (dX seed gP [(q:jb),s]);have gi:ex.length=32:=by rw[b8];exact pE _ _ _
  obtain⟨EX,c9⟩:=J ((ex.map v8).toArray);obtain⟨b9,ca⟩:=J (iY (bY g a m u) gP [(q:jb),s]);obtain⟨V,db⟩:∃y:jb,y=((aY 4 (gj ex):jc):jb):=⟨_,I⟩;obtain⟨bo,cc⟩:=J (gs Vu ex b9 (aA u q));have hD:N (bo.length=48):=O (by rw[cc,nO,fK u VA]);have cd:N (∀W v,dh W v [(q:jb),s]->bS W->jB jo 109 #[jh S,qn ⟨#[98,111,120]⟩,v] W λe w'=>e=jz (jh EX)/\jk W W w'):=O (λW v hv hW=>by
   rw[hV,c9,b8];exact sI seed hR gP [(q:jb),s] v W hv (GT L (by have:=ic.out;have:=ga.out;intro x C;simp at C;rcases C with rfl|rfl<;>exact⟨by omega,by omega⟩) ao) hW)
  have gk:N (∀W v Yf,aT (·<W.heap.size) W {bY g a m u with box:=Yf} ⟨A V9 m.length c1,A pq 10 cq,A pv i cv,A jf 0 0⟩->Yf.length<=1000000->dh W v [(q:jb),s]->bS W->jB jo 110 #[jh ((λv=>(aF (bY g a m u) ⟨A V9 m.length c1,A pq 10 cq,v,A jf 0 0⟩).toArray) (A pv i cv)),qn ⟨#[98,111,120]⟩,v] W λe w'=>∃D,e=jz (A (T ⟨D,0,jf⟩) 32 32)/\bj w' (A (T ⟨D,0,jf⟩) 32 32) b9/\jk W W w'):=O (λW v Yf hC hu hv hW=>by
   rw[ca];exact EA {bY g a m u with box:=Yf} _ gP [(q:jb),s] v W L hC hv ao ⟨g9,by show(dA u).length<=_;rw[lN];decide,hu,jN _⟩
    (DR (c:={bY g a m u with box:=Yf}) (nums:=[(q:jb),s]) (by have h1:=b6.fol.1;have h2:=b6.fol.2;exact⟨by show _ <=g.folder;omega,by show g.folder<_;omega⟩) (by have h1:=b6.ep;exact⟨by show _ <=g.epoch+1;omega,by show g.epoch+1<_;omega⟩) (by have:=ei.out;exact⟨by show _ <=a;omega,by show a<_;omega⟩) Yb (by have:=ic.out;have:=ga.out;intro x C;simp at C;rcases C with rfl|rfl<;>exact⟨by omega,by omega⟩) ao) hW)
  have gn:N (∀W vh vb,bj W vh b9->bj W vb (aA u q)->ly W->jB jo 108 #[jd je (Vu:jb),jh EX,vh,vb] W λe w'=>∃c,e=jz (jI #[jh #[jd je V,c],jd je 0])/\w'.ownsRow W 5 1 c 48 (bo.map v8)/\jk W W w'):=O (λW vh vb h1 h2 h3=>by
   have h:=Hu Vu hz ex b9 (aA u q) gi (by rw[ca];unfold iY;rw[eT];decide) (by rw[fK u VA];decide) vh vb W h1 h2 h3;rw[fK u VA]at h;rw[c9,db,cc];exact h)
  have UO:N (eE g a m u seed ((q:jb),s)=⟨s,(q:jb),V,bo⟩):=O (by rw[cc,db,ca,b8,<-k2];rfl);have k4:N ((jo.info? 37).map (·.size)=T ((λv=>(aF (bY g a m u) ⟨A V9 m.length c1,A pq 10 cq,v,A jf 0 0⟩).toArray) (A pv i cv)).size):=O (by rw[ju,dl _ _ Yb.out eM];exact mT);have lw:decide ((q:jb)<10)=ji:=by have:=ga.out;simp;omega
  have l6:(q:jb)<10:=aI ga;have k5:q<10:=aI ga;clear gi c9 ca db cc b8
  go_upto_region 27 with fail
  refine jL ?_;refine dj (λW'=>(W'.cell? ⟨bb,0,jf⟩=T (jd je s)/\W'.cell? ⟨bb,1,jf⟩=T (jd je (q:jb)))/\W'.heap[t+1+1+1]?=T (ja S 65 (0,0))/\W'.heap[(t+1+1+1+1)]?=T (ja ((λv=>(aF (bY g a m u) ⟨A V9 m.length c1,A pq 10 cq,v,A jf 0 0⟩).toArray) (A pv i cv)) 37 (0,0))) (.t 0 (.t 1 (.t 2 (.t 3 (.t 4 (.t 5 (.t 8 (.t 9 (.t 10 (.t 11 (.t 12 (.t 15 (.t 16 (.t 17 (.t 18 (.t 19 (.w 6 13 (.w 7 13 (.o 13 (.o 14 (.o 20 (.t 21 (.t 22 (.t 23 (.t 24 (.o 25 .done)))))))) (.o 7 (.o 14 (.o 20 (.t 21 (.t 22 (.t 23 (.t 24 (.o 25 .done))))))))) (.o 6 (.o 7 (.o 14 (.o 20 (.t 21 (.t 22 (.t 23 (.t 24 (.o 25 .done)))))))))))))))))))))))))) af af af L (λ_ _ _ _ h=>h) ⟨bh,Vh,Zz⟩ ?_;obtain⟨l0,UL⟩:=J k1.drew;have d:=bX k1;rw[<-UL]at d⊢;have gp:=aj bg d;have gv:=ae Zz d;have gw:=ae a6 d;have Zw:=aj U d;have gx:=bD Y9 d;have gy:=bD a2 d;have a5:=O (b5.below d);have bT:=ae Vh d;have cs:=ae a1 d;have bf:=O (And.intro (aC bh.1 d) (aC bh.2 d));clear d UL bg Zz a6 U Y9 a2 b5 Vh a1 bh;have bw:=gp;clear gp;have bs:=gv;clear gv;have bu:=gw;clear gw;have Us:=Zw;clear Zw;have bA:=gx;clear gx;have bB:=gy;clear gy;have ce:=a5;clear a5;have Wb:=bT;clear bT;have bK:=cs;clear cs;have cf:=bf;clear bf;refine wR ?_
  (refine aS (v:=jh S) I ai (λW' hS=>mx jW I hO I I hS.2.1) (G ?_))
  iterate 4 refine wR ?_
  (refine aS (v:=jh ((λv=>(aF (bY g a m u) ⟨A V9 m.length c1,A pq 10 cq,v,A jf 0 0⟩).toArray) (A pv i cv))) I ai (λW' hS=>mx ob I k4 I I hS.2.2) (G ?_))
  iterate 9 refine wR ?_
  apply FU (.o 14 (.o 20 (.t 21 (.t 22 (.t 23 (.t 24 (.o 25 .done)))))))
  rotate_left
  ·intro YK
   refine iZ ?_ ?_
   ·refine aE I (λK' z=>?_)
    go_simp;have d:=ap l0 (ja #[jd je (q:jb),jd je s] 3);have F:=mw l0 (q:jb) s;obtain⟨l1,C⟩:=J (l0.alloc (ja #[jd je (q:jb),jd je s] 3));rw[<-C]at d F⊢;obtain⟨b1,Q⟩:=J l0.heap.size;rw[<-Q]at F⊢;clear Q;have bg:=aj bw d;have Zz:=ae bs d;have a6:=ae bu d;have U:=aj Us d;have Y9:=bD bA d;have a2:=bD bB d;have b5:=O (ce.below d);have Vh:=ae Wb d;have a1:=ae bK d;have bh:=O (And.intro (aC cf.1 d) (aC cf.2 d));have b2:=O F;clear F C d;refine z _ _ ⟨bh,Vh,Zz⟩ λ_=>?_
    clear z;refine G ?_;refine iZ ?_ ?_
    ·refine aE I (λK' z=>?_)
     go_simp;refine(cd l1 _ b2.out (Wc.dig.below U)).mono ?_;rintro e l2 ⟨rfl,d⟩;have WZ:=aj bg d;have YT:=ae Zz d;have bi:=ae a6 d;have Ur:=aj U d;have a3:=bD Y9 d;have a4:=bD a2 d;have b0:=O (b5.below d);have UP:=ae Vh d;have bM:=ae a1 d;have bv:=O (And.intro (aC bh.1 d) (aC bh.2 d));have a5:=O (eu b2 d);clear bg Zz a6 U Y9 a2 b5 Vh a1 bh b2;clear d;refine z _ _ ⟨bv,UP,YT⟩ λ_=>?_
     clear z;refine G ?_;refine aE I (λK' z=>?_);go_simp;have d:=ap l2 (ja #[jd je (q:jb),jd je s] 3);have F:=mw l2 (q:jb) s;obtain⟨l3,C⟩:=J (l2.alloc (ja #[jd je (q:jb),jd je s] 3));rw[<-C]at d F⊢;obtain⟨bC,Q⟩:=J l2.heap.size;rw[<-Q]at F⊢;clear Q;have Y6:=aj WZ d;have WC:=ae YT d;have bk:=ae bi d;have Uu:=aj Ur d;have Z3:=bD a3 d;have Z2:=bD a4 d;have cb:=O (b0.below d);have VW:=ae UP d;have cy:=ae bM d;have bO:=O (And.intro (aC bv.1 d) (aC bv.2 d));have bl:=O (eu a5 d);clear WZ YT bi Ur a3 a4 b0 UP bM bv a5;have bf:=O F;clear F C d;refine z _ _ ⟨bO,VW,WC⟩ λ_=>?_
     clear z;refine G ?_;have hG:=(And.intro Y6 (And.intro WC (And.intro bk (And.intro Uu (And.intro Z3 (And.intro Z2 (And.intro cb (And.intro VW (And.intro cy (And.intro bO (And.intro bl bf)))))))))));exact YK b1 bC l3 hG
    refine aE I (λK' z=>?_);go_simp;have d:=ap l1 (ja #[jd je (q:jb),jd je s] 3);have F:=mw l1 (q:jb) s;obtain⟨l2,C⟩:=J (l1.alloc (ja #[jd je (q:jb),jd je s] 3));rw[<-C]at d F⊢;obtain⟨bC,Q⟩:=J l1.heap.size;rw[<-Q]at F⊢;clear Q;have WZ:=aj bg d;have YT:=ae Zz d;have bi:=ae a6 d;have Ur:=aj U d;have a3:=bD Y9 d;have a4:=bD a2 d;have b0:=O (b5.below d);have UP:=ae Vh d;have bM:=ae a1 d;have bv:=O (And.intro (aC bh.1 d) (aC bh.2 d));have a5:=O (eu b2 d);clear bg Zz a6 U Y9 a2 b5 Vh a1 bh b2;have b3:=O F;clear F C d;refine z _ _ ⟨bv,UP,YT⟩ λ_=>?_
    clear z;refine G ?_;refine aE I (λK' z=>?_);go_simp;refine(cd l2 _ a5.out (Wc.dig.below Ur)).mono ?_;rintro e l3 ⟨rfl,d⟩;have Y6:=aj WZ d;have WC:=ae YT d;have bk:=ae bi d;have Uu:=aj Ur d;have Z3:=bD a3 d;have Z2:=bD a4 d;have cb:=O (b0.below d);have VW:=ae UP d;have cy:=ae bM d;have bO:=O (And.intro (aC bv.1 d) (aC bv.2 d));have bl:=O (eu a5 d);have bf:=O (eu b3 d);clear WZ YT bi Ur a3 a4 b0 UP bM bv a5 b3;clear d;refine z _ _ ⟨bO,VW,WC⟩ λ_=>?_
    clear z;refine G ?_;have hG:=(And.intro Y6 (And.intro WC (And.intro bk (And.intro Uu (And.intro Z3 (And.intro Z2 (And.intro cb (And.intro VW (And.intro cy (And.intro bO (And.intro bl bf)))))))))));exact YK b1 bC l3 hG
   refine aE I (λK' z=>?_);go_simp;have d:=ap l0 (ja #[jd je (q:jb),jd je s] 3);have F:=mw l0 (q:jb) s;obtain⟨l1,C⟩:=J (l0.alloc (ja #[jd je (q:jb),jd je s] 3));rw[<-C]at d F⊢;obtain⟨bC,Q⟩:=J l0.heap.size;rw[<-Q]at F⊢;clear Q;have bg:=aj bw d;have Zz:=ae bs d;have a6:=ae bu d;have U:=aj Us d;have Y9:=bD bA d;have a2:=bD bB d;have b5:=O (ce.below d);have Vh:=ae Wb d;have a1:=ae bK d;have bh:=O (And.intro (aC cf.1 d) (aC cf.2 d));have g1:=O F;clear F C d;refine z _ _ ⟨bh,Vh,Zz⟩ λ_=>?_
   clear z;refine G ?_;refine aE I (λK' z=>?_);go_simp;have d:=ap l1 (ja #[jd je (q:jb),jd je s] 3);have F:=mw l1 (q:jb) s;obtain⟨l2,C⟩:=J (l1.alloc (ja #[jd je (q:jb),jd je s] 3));rw[<-C]at d F⊢;obtain⟨b1,Q⟩:=J l1.heap.size;rw[<-Q]at F⊢;clear Q;have WZ:=aj bg d;have YT:=ae Zz d;have bi:=ae a6 d;have Ur:=aj U d;have a3:=bD Y9 d;have a4:=bD a2 d;have b0:=O (b5.below d);have UP:=ae Vh d;have bM:=ae a1 d;have bv:=O (And.intro (aC bh.1 d) (aC bh.2 d));have b3:=O (eu g1 d);clear bg Zz a6 U Y9 a2 b5 Vh a1 bh g1;have a5:=O F;clear F C d;refine z _ _ ⟨bv,UP,YT⟩ λ_=>?_
   clear z;refine G ?_;refine aE I (λK' z=>?_);go_simp;refine(cd l2 _ a5.out (Wc.dig.below Ur)).mono ?_;rintro e l3 ⟨rfl,d⟩;have Y6:=aj WZ d;have WC:=ae YT d;have bk:=ae bi d;have Uu:=aj Ur d;have Z3:=bD a3 d;have Z2:=bD a4 d;have cb:=O (b0.below d);have VW:=ae UP d;have cy:=ae bM d;have bO:=O (And.intro (aC bv.1 d) (aC bv.2 d));have bf:=O (eu b3 d);have bl:=O (eu a5 d);clear WZ YT bi Ur a3 a4 b0 UP bM bv b3 a5;clear d;refine z _ _ ⟨bO,VW,WC⟩ λ_=>?_
   clear z;refine G ?_;have hG:=(And.intro Y6 (And.intro WC (And.intro bk (And.intro Uu (And.intro Z3 (And.intro Z2 (And.intro cb (And.intro VW (And.intro cy (And.intro bO (And.intro bl bf)))))))))));exact YK b1 bC l3 hG
  clear bw bs bu Us bA bB ce Wb bK cf;rintro b1 bC l3 ⟨Y6,WC,bk,Uu,Z3,Z2,cb,VW,cy,bO,bl,bf⟩;refine aE I (λK' z=>?_);go_simp;refine(gk l3 _ _ (RF Yb Z3 Z2 (P.later br Y6) (by rw[jw,qI];have:=Zx.out;omega)) (by rw[jw,qI];omega) bf (Wc.dig.below Uu)).mono ?_;rintro e l4 ⟨ih,rfl,cz,d⟩;have dd:=O cz;clear cz;have g2:=aj Y6 d;have dk:=ae WC d;have dr:=ae bk d;have UB:=aj Uu d;have ce:=bD Z3 d;have cf:=bD Z2 d;have ck:=O (cb.below d);have WQ:=ae VW d;have cj:=ae cy d;have bv:=O (And.intro (aC bO.1 d) (aC bO.2 d));have g3:=O (eu bl d);have g4:=O (eu bf d);clear Y6 WC bk Uu Z3 Z2 cb VW cy bO bl bf;clear d;refine z _ _ ⟨bv,WQ,dk⟩ λ_=>?_
  clear z;refine G ?_;refine aE I (λK' z=>?_);go_simp;refine(gn l4 _ _ dd.out (EL cj (λj aa hj=>hh q j aa k5 hj) (fK u VA q)) (hP.below UB)).mono ?_;rintro e l5 ⟨c,rfl,cg,d⟩;have VL:N (bb<l4.heap.size):=O (jA.1 dr).1;obtain⟨lb,hE⟩:=J l4.heap.size;rw[<-hE]at cg VL;have g5:=O cg;obtain⟨R,H,rfl⟩:=cO cg;clear cg;have g6:=aj g2 d;have dv:=ae dk d;have ea:=ae dr d;have UH:=aj UB d;have eq:=bD ce d;have ev:=bD cf d;have lc:=O (ck.below d);have Z9:=ae WQ d;have e5:=ae cj d;have g7:=O (And.intro (aC bv.1 d) (aC bv.2 d));have hF:=O (eu g3 d);have hH:=O (eu g4 d);have hI:=O (dd.below d);clear g2 dk dr UB ce cf ck WQ cj bv g3 g4 dd;clear d;refine z _ _ ⟨g7,Z9,dv⟩ λ_=>?_
  clear z;refine G ?_;iterate 4 refine wR ?_
  refine aE I (λK' z=>?_);rw[jr ai];refine qP 83 _ _ I bb 2 #[jd je V,A R 48 H] I I (sD (o:=2) (n:=2) ea ao) af (by simp[j4]) ?_;rw[show(#[jd je V,A R 48 H]:jq jl).toList=[jd je V,A R 48 H]from I];obtain⟨s1,s2⟩:=F2 (i:=2) (x:=jd je V) (y:=A R 48 H) ea;have s3:jk wr wr (l5.setCells bb 2 [jd je V,A R 48 H]):=Below.cellsFrom g6 bb (j5 gf) _ _;have eb:=nr (w':=l5.setCells bb 2 [jd je V,A R 48 H]) g5 (λk hk=>s2 k (aI VL));refine z _ _ ⟨⟨ah s1 I,ah s1 I⟩,(s2 (t+1+1+1) (dY c7 br)).trans Z9,(s2 (t+1+1+1+1) (dY c7 br)).trans dv⟩ λ_=>?_
  clear z;have ec:N ((l5.setCells bb 2 [jd je V,A R 48 H]).heap[bb]?=T (ja #[jd je s,jd je (q:jb),jd je V,A R 48 H] 85 (0,0))):=O s1;have ed:N (eF M2 (t+1+1+1+1) 37 85 4 Bx.cells Bx.body (λv=>(aF (bY g a m u) ⟨A V9 m.length c1,A pq 10 cq,v,A jf 0 0⟩).toArray) p2 (l5.setCells bb 2 [jd je V,A R 48 H]) i (A pv i cv) ((nl.take i).map (eE g a m u seed)) us):=O (P.later br s3);have eg:N (aH (λg=>M2<=g/\g<(l5.setCells bb 2 [jd je V,A R 48 H]).heap.size/\(qg pv i cv).ownBlock≠T g) (l5.setCells bb 2 [jd je V,A R 48 H]) (A R 48 H) 1 48 (bo.map v8)):=O (aH.of_own eb (λg Q=>by
   have h1:=eb.lt g Q;have h2:=VL.out;have h3:=c7.out;have lj:=gf.out;exact⟨by omega,h1.2,eV P.row.own (.inl Y)⟩))
  clear s1 s2 s3 eb;generalize l5.setCells bb 2 [jd je V,A R 48 H]=kc at ec ed eg⊢;have hJ:=ec;have cj:=ed;have hK:=eg;clear ec ed eg;refine G ?_;refine ow ?_;clear g6 dv ea UH eq ev lc Z9 e5 g7 g5 hI hF hH P cd gk gn;have bv:=ah cj.row.box (rV (bY g a m u) (A V9 m.length c1) (A pq 10 cq) (A pv i cv) (A jf 0 0) Yb eM).2.1
  go_upto_region 28 with fail
  refine jX ?_;iterate 2 refine ee ?_
  refine j8 I 85 _ I bb I 85 #[jd je s,jd je (q:jb),jd je V,A R 48 H] (0,0) _ hJ.out underlying85 I af ?_
  go_wp2_with (at_builtin;refine Hid.out ?_)
  refine O ?_;refine o8 I λ_ z=>MQ _ _ I M2 (A pv i cv) i _ I (cP cj.row.own (ap kc _)) _ 1 [jd je s,jd je (q:jb),jd je V,A R 48 H] I (lA kc [jd je s,jd je (q:jb),jd je V,A R 48 H] 85 (0,0) 4 1 1 I (jG _)) (by simp[j4]) Y (jD cj.row.sz' (ap kc _).size) λv' k9 U0=>z _ _ ?_
  clear z;have ck:=ap kc (ja #[jd je s,jd je (q:jb),jd je V,A R 48 H] 85);have bp:=cj.later br ck;have g7:=(aH.keep hK (w':=kc.alloc (ja #[jd je s,jd je (q:jb),jd je V,A R 48 H] 85)) (λg Q=>ck.block g Q.2.1)).mono (D':=λg=>M2<=g/\g<(kc.alloc (ja #[jd je s,jd je (q:jb),jd je V,A R 48 H] 85)).heap.size/\(qg pv i cv).ownBlock≠T g) (λg Q=>⟨Q.1,jJ Q.2.1 ck.size,Q.2.2⟩);have ct:=lg bp.row.box U0.grown (eV bp.row.own (.inr br));obtain⟨pn,cn,rfl⟩:=cO U0.own;have e9:N (eF M2 (t+1+1+1+1) 37 85 4 Bx.cells Bx.body (λv=>(aF (bY g a m u) ⟨A V9 m.length c1,A pq 10 cq,v,A jf 0 0⟩).toArray) p2 (k9.setCell ⟨(t+1+1+1+1),37,jf⟩ (A pn (i+1) cn)) (i+1) (A pn (i+1) cn) ((nl.take (i+1)).map (eE g a m u seed)) (us++[A R 48 H])):=O (by
   rw[hB,UO];exact eF.push (x:=(⟨s,(q:jb),V,bo⟩:Bx)) bp br (by show aH _ _ _ 1 bo.length (bo.map v8);rw[hD];exact g7) U0 (ia _ _))
  obtain⟨⟨vo,c3⟩,f3,-,-⟩:=ku (i:=37) (A pn (i+1) cn) ct (by rw[(rV (bY g a m u) (A V9 m.length c1) (A pq 10 cq) (A pv i cv) (A jf 0 0) Yb eM).2.2.2];decide);clear bp g7 U0 ct bv ck
  go_wp2_with fail
  go_roundw
  case rel=>exact⟨i+1,pn,cn,us++[A R 48 H],by go_num,by omega,e9⟩
  case measure=>simp only[jV];omega
 obtain rfl:nu=i:=Y;have hd:decide ((nu:jb)<(nu:jb))=jn:=by simp
 have UN:decide (nu<nu)=jn:=by simp
 rename jj=>p3;obtain⟨pb,cb,e4,ic⟩:∃(p:jF Addr) (c:jc),p=pv/\c=cv:=⟨_,_,I,I⟩;subst e4;subst ic;have cu:nl.take nu=nl:=qs (by rw[Zx];exact jG _);rw[cu]at P;have ad:=P.row.but;have U2:=O P.row.box;have Uu:N (jk w w p3):=O (Ur.trans (P.row.but.below (n:=w.heap.size) (by rw[HG];omega) (dY br HG)));have Z3:=O (kO a3 (λk bq ax=>ad.block k (by rw[VN];exact ax) (aI c6)));have Z2:=O (kO a4 (λk bq ax=>ad.block k (by rw[VN];exact ax) (aI Yp)));have VW:N (p3.heap[t+1+1+1]?=T (ja S 65 (0,0))):=O ((ad.block (t+1+1+1) (aI br) Y).trans UP);have Vg:N (p3.heap[(t+1+1+1+1+1)]?=T (ja SA 65 (0,0))):=O ((ad.block (t+1+1+1+1+1) (aI h6) Y).trans UQ);have Wj:=P;clear ad cu P Ur a3 a4 UP UQ UJ bM hq b0 e3 b7 hi ia Y8 hh h7 h8 h9;have s:N (∀W,EC.At W (A R nc H) m->jB jo 33 #[jd je a,A R nc H] W λe w'=>∃aa,e=jz aa/\EC.At w' aa (du a m)/\jk W W w'):=O (λW hW=>zx a m _ W hW Yo.once g9);obtain⟨wl,q⟩:=J (du a m);rw[<-q]at s;have ga:=O q;have hh:N (wl.length<=64):=O (by rw[q];have:=CI a m;have:=Yo.len;omega);clear q
 go_upto_region 30 with fail
 go_wp2_with fail
 refine(s p3 ((EK.At.of_sl (E:=EC) eB).below Uu)).mono ?_;rintro e p4 ⟨aa,rfl,hu,d⟩;have cy:=O hu;obtain⟨pw,h7,rfl,-,-⟩:=hu.form;clear hu;have Yk:=ae U2 d;have YH:=ae Vg d;have WQ:=ae VW d;have UB:=aj Uu d;have ce:=bD Z3 d;have cf:=bD Z2 d;have VO:=O (Wj.later br d);clear U2 Vg VW Uu Z3 Z2 Wj;clear d;obtain⟨nw,q⟩:=J wl.length;rw[<-q]at cy hh⊢;have YA:=O q;clear q s;obtain⟨M3,q⟩:=J p4.heap.size;have Wx:=O q;have bv:N ((t+1+1+1+1)<M3):=O (by rw[q];exact(jA.1 Yk).1);have e3:N ((t+1+1+1+1+1)<M3):=O (by rw[q];exact(jA.1 YH).1);have Y7:N (ln (λk=>M2<=k/\k<M3) p4 (A pb nu cb) (nl.map (eE g a m u seed))):=O (by
  obtain⟨s,h1,h2⟩:=VO.slice (by rw[jw];exact Zx) (D:=λk=>M2<=k/\k<M3) (λk bq ax=>⟨bq,by rw[q];exact ax⟩);exact⟨s,h1,h2⟩)
 have h8:N (∀aa v,((λv=>(aF (bY g a m u) ⟨A V9 m.length c1,A pq 10 cq,A pb nu cb,v⟩).toArray) aa).setIfInBounds 38 v=(λv=>(aF (bY g a m u) ⟨A V9 m.length c1,A pq 10 cq,A pb nu cb,v⟩).toArray) v):=O (λaa v=>Ev (bY g a m u) _ _ _ _ _ Yb.out);have s:N (eF M3 (t+1+1+1+1) 37 88 3 Wl.cells Wl.body (λv=>(aF (bY g a m u) ⟨A V9 m.length c1,A pq 10 cq,A pb nu cb,v⟩).toArray) p4 p4 0 (A jf 0 0) ((wl.take 0).map (fz g a m u init seed)) []):=O (eF.start Yk (j5 q));clear q VO
 go_wp2_with fail
 go_loopw [160] (λv wr=>∃(i:jc) (pv:jF Addr) (cv:jc) (us:jg jl),v=jd je i/\i<=nw/\N (eF M3 (t+1+1+1+1) 37 88 3 Wl.cells Wl.body (λv=>(aF (bY g a m u) ⟨A V9 m.length c1,A pq 10 cq,A pb nu cb,v⟩).toArray) p4 wr i (A pv i cv) ((wl.take i).map (fz g a m u init seed)) us)) (λv _=>nw-(jV v).toNat)
 case atStart=>exact⟨0,jf,0,[],I,jN _,s⟩
 clear s;obtain⟨i,pv,cv,us,rfl,hi,P⟩:=hrel;have ia:=hh.out
 by_cases b7:i<nw
 ·have hd2:=az ((i:jb)<(nw:jb))
  have hg:=az (i<nw);have h5:(i:jb)<(nw:jb):=Y;have WP:N (jk w w wr):=O (UB.trans (P.row.but.below (n:=w.heap.size) (by rw[HG];omega) (dY bv HG)));have ad:=P.row.but;have fe:=O (kO ce (λk bq ax=>ad.block k (by rw[Wx];exact ax) (aI c6)));have fm:=O (kO cf (λk bq ax=>ad.block k (by rw[Wx];exact ax) (aI Yp)));have bM:N (EC.At wr (A pw nw h7) wl):=O (PZ cy (j:=38) Yk P.row.box (λk hk hn=>ad.block k (by rw[Wx];exact hk) hn) (λj hj=>JX (bY g a m u) _ _ _ _ _ Yb.out j hj) ⟨_,_,_,(rV (bY g a m u) _ _ _ _ Yb.out eM).2.2.1⟩);have fo:N (wr.heap[t+1+1+1]?=T (ja S 65 (0,0))):=O ((ad.block (t+1+1+1) (aI bv) Y).trans WQ);have b0:N (wr.heap[(t+1+1+1+1+1)]?=T (ja SA 65 (0,0))):=O ((ad.block (t+1+1+1+1+1) e3 Y).trans YH);have hn:N (ln (·<wr.heap.size) wr (A pb nu cb) (nl.map (eE g a m u seed))):=O (Y7.keep (λk hk=>ad.block k hk.2 (aI br)) (λk hk=>by have:=P.row.sz';omega));obtain⟨-,-,Vq⟩:=bM.cells;obtain⟨g0,o,h9,bN⟩:=Vq Y;subst h9;obtain⟨⟨yk,q,yp,yv,yc⟩,C,fv⟩:=dK (l:=wl) (j:=i) (by rw[<-YA];exact b7);have d0:wr.cell? ⟨g0,o+i*5,jf⟩=T (jd je yk):=bN i _ C 0 _ I;have d1:wr.cell? ⟨g0,o+i*5+1,jf⟩=T (jd je q):=bN i _ C 1 _ I;have d2:wr.cell? ⟨g0,o+i*5+2,jf⟩=T (jd je yp):=bN i _ C 2 _ I;have d3:wr.cell? ⟨g0,o+i*5+3,jf⟩=T (jd je yv):=bN i _ C 3 _ I;have d4:wr.cell? ⟨g0,o+i*5+4,jf⟩=T (jd je yc):=bN i _ C 4 _ I;have Vm:=j3 C;rw[ga]at Vm;obtain⟨bh,Ys,b5⟩:=ID.1 Vm;have s:=Yo.each _ bh;have cx:bL yp:=by
   rcases s.2 with⟨_,b,_,_⟩|⟨a,_⟩|⟨_,b,_⟩
   ·exact b
   ·exact jv a Ys
   exact b
  have bO:0<=q/\q<512:=s.1;obtain⟨Vu,em⟩:=qH (show 0<=yp by have:=cx.1;omega);subst em;have hz:=O cx;have hq:=O bO;have hB:N ((wl.take (i+1)).map (fz g a m u init seed)=(wl.take i).map (fz g a m u init seed)++[fz g a m u init seed ⟨yk,q,(Vu:jb),yv,yc⟩]):=O (by rw[fv,mz];rfl);clear Vq bN C fv Vm bh Ys b5 s cx bO ad
  go_upto_region 34 with fail
  obtain⟨bb,b4⟩:=J wr.heap.size;have bn:=jy wr (ja #[jd je yk,jd je q,jd je (Vu:jb),jd je yv,jd je yc] 55);have d:=ap wr (ja #[jd je yk,jd je q,jd je (Vu:jb),jd je yv,jd je yc] 55);have s:=jy (wr.alloc (ja #[jd je yk,jd je q,jd je (Vu:jb),jd je yv,jd je yc] 55)) (ja #[jd je q,jd je 0,A jf 0 0] 88);have bh:=ap (wr.alloc (ja #[jd je yk,jd je q,jd je (Vu:jb),jd je yv,jd je yc] 55)) (ja #[jd je q,jd je 0,A jf 0 0] 88);rw[jp]at s;replace bn:=av bn bh;replace d:=d.trans (bh.mono d.size);have c7:N (M3<=bb):=O (by rw[b4];exact P.row.sz');rw[<-b4]at bn s⊢;obtain⟨k0,Zg⟩:=J ((wr.alloc (ja #[jd je yk,jd je q,jd je (Vu:jb),jd je yv,jd je yc] 55)).alloc (ja #[jd je q,jd je 0,A jf 0 0] 88));rw[<-Zg]at bn s d⊢;have bw:=O d;have bs:=O (av P.row.box d);have bO:=O bn;have bu:=O s;have Us:=aj WP d;have bA:=bD fe d;have bB:=bD fm d;have b5:=O (hn.below d);have Wb:=ae fo d;have cx:=ae b0 d;have gf:N (wr.heap.size=bb):=O b4.symm;clear bn s d bh Zg b4 WP fe fm bM fo b0 hn d0 d1 d2 d3 d4;obtain⟨ex,b8⟩:=J (dX seed kA [q]);have gi:ex.length=32:=by rw[b8];exact pE _ _ _
  obtain⟨EX,c9⟩:=J ((ex.map v8).toArray);obtain⟨b9,ca⟩:=J (iY (bY g a m u) kA [q]);obtain⟨V,db⟩:∃y:jb,y=((aY 4 (gj ex):jc):jb):=⟨_,I⟩;obtain⟨bo,cc⟩:=J (gs Vu ex b9 (dL g u init));have hD:N (bo.length=48):=O (by rw[cc,nO,lG]);have cd:N (∀W v,dh W v [q]->bS W->jB jo 109 #[jh S,qn ⟨#[119,101,108,99,111,109,101]⟩,v] W λe w'=>e=jz (jh EX)/\jk W W w'):=O (λW v hv hW=>by
   rw[hV,c9,b8];exact sI seed hR kA [q] v W hv (GT L (by have:=hq.out;intro x C;simp at C;rcases C with rfl;exact⟨by omega,by omega⟩) ao) hW)
  have gk:N (∀W v s,aT (·<W.heap.size) W {bY g a m u with box:=nl.map (eE g a m u seed),wel:=s} ⟨A V9 m.length c1,A pq 10 cq,A pb nu cb,A pv i cv⟩->s.length<=1000000->dh W v [q]->bS W->jB jo 110 #[jh ((λv=>(aF (bY g a m u) ⟨A V9 m.length c1,A pq 10 cq,A pb nu cb,v⟩).toArray) (A pv i cv)),qn ⟨#[119,101,108,99,111,109,101]⟩,v] W λe w'=>∃D,e=jz (A (T ⟨D,0,jf⟩) 32 32)/\bj w' (A (T ⟨D,0,jf⟩) 32 32) b9/\jk W W w'):=O (λW v s hC hu hv hW=>by
   rw[ca];exact EA {bY g a m u with box:=nl.map (eE g a m u seed),wel:=s} _ kA [q] v W L hC hv ao ⟨g9,by show(dA u).length<=_;rw[lN];decide,by show(nl.map (eE g a m u seed)).length<=_;rw[jw,<-Zx];have:=ib.out;omega,hu⟩
    (DR (c:={bY g a m u with box:=nl.map (eE g a m u seed),wel:=s}) (nums:=[q]) (by have h1:=b6.fol.1;have h2:=b6.fol.2;exact⟨by show _ <=g.folder;omega,by show g.folder<_;omega⟩) (by have h1:=b6.ep;exact⟨by show _ <=g.epoch+1;omega,by show g.epoch+1<_;omega⟩) (by have:=ei.out;exact⟨by show _ <=a;omega,by show a<_;omega⟩) Yb (by have:=hq.out;intro x C;simp at C;rcases C with rfl;exact⟨by omega,by omega⟩) ao) hW)
  have gn:N (∀W vh vb,bj W vh b9->bj W vb (dL g u init)->ly W->jB jo 108 #[jd je (Vu:jb),jh EX,vh,vb] W λe w'=>∃c,e=jz (jI #[jh #[jd je V,c],jd je 0])/\w'.ownsRow W 5 1 c 48 (bo.map v8)/\jk W W w'):=O (λW vh vb h1 h2 h3=>by
   have h:=Hu Vu hz ex b9 (dL g u init) gi (by rw[ca];unfold iY;rw[eT];decide) (by rw[lG];decide) vh vb W h1 h2 h3;rw[lG]at h;rw[c9,db,cc];exact h)
  have fe:N (fz g a m u init seed ⟨yk,q,(Vu:jb),yv,yc⟩=⟨q,V,bo⟩):=O (by rw[cc,db,ca,b8];rfl);have fm:N ((jo.info? 37).map (·.size)=T ((λv=>(aF (bY g a m u) ⟨A V9 m.length c1,A pq 10 cq,A pb nu cb,v⟩).toArray) (A pv i cv)).size):=O (by rw[ju,dl _ _ Yb.out eM];exact mT);clear gi c9 ca db cc b8
  go_upto_region 34 with fail
  refine jL ?_;refine dj (λW'=>W'.heap[bb]?=T (ja #[jd je yk,jd je q,jd je (Vu:jb),jd je yv,jd je yc] 55 (0,0))/\W'.heap[t+1+1+1]?=T (ja S 65 (0,0))/\W'.heap[(t+1+1+1+1)]?=T (ja ((λv=>(aF (bY g a m u) ⟨A V9 m.length c1,A pq 10 cq,A pb nu cb,v⟩).toArray) (A pv i cv)) 37 (0,0))) (.t 0 (.t 1 (.t 2 (.t 3 (.t 4 (.t 7 (.t 8 (.t 9 (.t 12 (.w 5 10 (.w 6 10 (.o 10 (.o 11 (.o 13 (.t 14 (.t 15 (.t 16 (.t 17 (.o 18 .done)))))))) (.o 6 (.o 11 (.o 13 (.t 14 (.t 15 (.t 16 (.t 17 (.o 18 .done))))))))) (.o 5 (.o 6 (.o 11 (.o 13 (.t 14 (.t 15 (.t 16 (.t 17 (.o 18 .done))))))))))))))))))) af af af L (λ_ _ _ _ h=>h) ⟨bO,Wb,bs⟩ ?_;obtain⟨l0,UL⟩:=J k0.drew;have d:=bX k0;rw[<-UL]at d⊢;have gp:=aj bw d;have gv:=ae bs d;have s:=ae bO d;have gw:=ae bu d;have Zw:=aj Us d;have gx:=bD bA d;have gy:=bD bB d;have bh:=O (b5.below d);have bT:=ae Wb d;have bn:=ae cx d;clear d UL bw bs bO bu Us bA bB b5 Wb cx;have bw:=gp;clear gp;have bs:=gv;clear gv;have bO:=s;clear s;have bu:=gw;clear gw;have Us:=Zw;clear Zw;have bA:=gx;clear gx;have bB:=gy;clear gy;have b5:=bh;clear bh;have Wb:=bT;clear bT;have cx:=bn;clear bn;iterate 2 refine vK ?_
  (refine aS (v:=jh S) I ai (λW' hS=>mx jW I hO I I hS.2.1) (G ?_))
  iterate 2 refine vK ?_
  (refine aS (v:=jh ((λv=>(aF (bY g a m u) ⟨A V9 m.length c1,A pq 10 cq,A pb nu cb,v⟩).toArray) (A pv i cv))) I ai (λW' hS=>mx ob I fm I I hS.2.2) (G ?_))
  iterate 3 refine vK ?_
  apply FU (.o 11 (.o 13 (.t 14 (.t 15 (.t 16 (.t 17 (.o 18 .done)))))))
  rotate_left
  ·intro YK
   refine iZ ?_ ?_
   ·refine aE I (λK' z=>?_)
    go_simp;have d:=ap l0 (ja #[jd je q] 3);have F:=ox l0 q;obtain⟨l1,C⟩:=J (l0.alloc (ja #[jd je q] 3));rw[<-C]at d F⊢;obtain⟨b1,Q⟩:=J l0.heap.size;rw[<-Q]at F⊢;clear Q;have bg:=aj bw d;have Zz:=ae bs d;have bn:=ae bO d;have a6:=ae bu d;have U:=aj Us d;have Y9:=bD bA d;have a2:=bD bB d;have b0:=O (b5.below d);have Vh:=ae Wb d;have b4:=ae cx d;have b2:=O F;clear F C d;refine z _ _ ⟨bn,Vh,Zz⟩ λ_=>?_
    clear z;refine G ?_;refine iZ ?_ ?_
    ·refine aE I (λK' z=>?_)
     go_simp;refine(cd l1 _ b2.out (Wc.dig.below U)).mono ?_;rintro e l2 ⟨rfl,d⟩;have WZ:=aj bg d;have YT:=ae Zz d;have s:=ae bn d;have bi:=ae a6 d;have Ur:=aj U d;have a3:=bD Y9 d;have a4:=bD a2 d;have Wq:=O (b0.below d);have UP:=ae Vh d;have bM:=ae b4 d;have a5:=O (eu b2 d);clear bg Zz bn a6 U Y9 a2 b0 Vh b4 b2;clear d;refine z _ _ ⟨s,UP,YT⟩ λ_=>?_
     clear z;refine G ?_;refine aE I (λK' z=>?_);go_simp;have d:=ap l2 (ja #[jd je q] 3);have F:=ox l2 q;obtain⟨l3,C⟩:=J (l2.alloc (ja #[jd je q] 3));rw[<-C]at d F⊢;obtain⟨bC,Q⟩:=J l2.heap.size;rw[<-Q]at F⊢;clear Q;have Y6:=aj WZ d;have WC:=ae YT d;have bh:=ae s d;have bk:=ae bi d;have Uu:=aj Ur d;have Z3:=bD a3 d;have Z2:=bD a4 d;have Wj:=O (Wq.below d);have VW:=ae UP d;have bN:=ae bM d;have bl:=O (eu a5 d);clear WZ YT s bi Ur a3 a4 Wq UP bM a5;have bf:=O F;clear F C d;refine z _ _ ⟨bh,VW,WC⟩ λ_=>?_
     clear z;refine G ?_;have hG:=(And.intro Y6 (And.intro WC (And.intro bh (And.intro bk (And.intro Uu (And.intro Z3 (And.intro Z2 (And.intro Wj (And.intro VW (And.intro bN (And.intro bl bf)))))))))));exact YK b1 bC l3 hG
    refine aE I (λK' z=>?_);go_simp;have d:=ap l1 (ja #[jd je q] 3);have F:=ox l1 q;obtain⟨l2,C⟩:=J (l1.alloc (ja #[jd je q] 3));rw[<-C]at d F⊢;obtain⟨bC,Q⟩:=J l1.heap.size;rw[<-Q]at F⊢;clear Q;have WZ:=aj bg d;have YT:=ae Zz d;have s:=ae bn d;have bi:=ae a6 d;have Ur:=aj U d;have a3:=bD Y9 d;have a4:=bD a2 d;have Wq:=O (b0.below d);have UP:=ae Vh d;have bM:=ae b4 d;have a5:=O (eu b2 d);clear bg Zz bn a6 U Y9 a2 b0 Vh b4 b2;have b3:=O F;clear F C d;refine z _ _ ⟨s,UP,YT⟩ λ_=>?_
    clear z;refine G ?_;refine aE I (λK' z=>?_);go_simp;refine(cd l2 _ a5.out (Wc.dig.below Ur)).mono ?_;rintro e l3 ⟨rfl,d⟩;have Y6:=aj WZ d;have WC:=ae YT d;have bh:=ae s d;have bk:=ae bi d;have Uu:=aj Ur d;have Z3:=bD a3 d;have Z2:=bD a4 d;have Wj:=O (Wq.below d);have VW:=ae UP d;have bN:=ae bM d;have bl:=O (eu a5 d);have bf:=O (eu b3 d);clear WZ YT s bi Ur a3 a4 Wq UP bM a5 b3;clear d;refine z _ _ ⟨bh,VW,WC⟩ λ_=>?_
    clear z;refine G ?_;have hG:=(And.intro Y6 (And.intro WC (And.intro bh (And.intro bk (And.intro Uu (And.intro Z3 (And.intro Z2 (And.intro Wj (And.intro VW (And.intro bN (And.intro bl bf)))))))))));exact YK b1 bC l3 hG
   refine aE I (λK' z=>?_);go_simp;have d:=ap l0 (ja #[jd je q] 3);have F:=ox l0 q;obtain⟨l1,C⟩:=J (l0.alloc (ja #[jd je q] 3));rw[<-C]at d F⊢;obtain⟨bC,Q⟩:=J l0.heap.size;rw[<-Q]at F⊢;clear Q;have bg:=aj bw d;have Zz:=ae bs d;have bn:=ae bO d;have a6:=ae bu d;have U:=aj Us d;have Y9:=bD bA d;have a2:=bD bB d;have b0:=O (b5.below d);have Vh:=ae Wb d;have b4:=ae cx d;have g1:=O F;clear F C d;refine z _ _ ⟨bn,Vh,Zz⟩ λ_=>?_
   clear z;refine G ?_;refine aE I (λK' z=>?_);go_simp;have d:=ap l1 (ja #[jd je q] 3);have F:=ox l1 q;obtain⟨l2,C⟩:=J (l1.alloc (ja #[jd je q] 3));rw[<-C]at d F⊢;obtain⟨b1,Q⟩:=J l1.heap.size;rw[<-Q]at F⊢;clear Q;have WZ:=aj bg d;have YT:=ae Zz d;have s:=ae bn d;have bi:=ae a6 d;have Ur:=aj U d;have a3:=bD Y9 d;have a4:=bD a2 d;have Wq:=O (b0.below d);have UP:=ae Vh d;have bM:=ae b4 d;have b3:=O (eu g1 d);clear bg Zz bn a6 U Y9 a2 b0 Vh b4 g1;have a5:=O F;clear F C d;refine z _ _ ⟨s,UP,YT⟩ λ_=>?_
   clear z;refine G ?_;refine aE I (λK' z=>?_);go_simp;refine(cd l2 _ a5.out (Wc.dig.below Ur)).mono ?_;rintro e l3 ⟨rfl,d⟩;have Y6:=aj WZ d;have WC:=ae YT d;have bh:=ae s d;have bk:=ae bi d;have Uu:=aj Ur d;have Z3:=bD a3 d;have Z2:=bD a4 d;have Wj:=O (Wq.below d);have VW:=ae UP d;have bN:=ae bM d;have bf:=O (eu b3 d);have bl:=O (eu a5 d);clear WZ YT s bi Ur a3 a4 Wq UP bM b3 a5;clear d;refine z _ _ ⟨bh,VW,WC⟩ λ_=>?_
   clear z;refine G ?_;have hG:=(And.intro Y6 (And.intro WC (And.intro bh (And.intro bk (And.intro Uu (And.intro Z3 (And.intro Z2 (And.intro Wj (And.intro VW (And.intro bN (And.intro bl bf)))))))))));exact YK b1 bC l3 hG
  clear bw bs bO bu Us bA bB b5 Wb cx;rintro b1 bC l3 ⟨Y6,WC,bh,bk,Uu,Z3,Z2,Wj,VW,bN,bl,bf⟩;refine aE I (λK' z=>?_);go_simp;refine(gk l3 _ _ (R4 Yb Z3 Z2 Wj (P.later bv Y6) (by rw[jw,qI];have:=YA.out;omega)) (by rw[jw,qI];omega) bf (Wc.dig.below Uu)).mono ?_;rintro e l4 ⟨ih,rfl,cz,d⟩;have dd:=O cz;clear cz;have g2:=aj Y6 d;have dk:=ae WC d;have s:=ae bh d;have dr:=ae bk d;have UB:=aj Uu d;have ce:=bD Z3 d;have cf:=bD Z2 d;have VO:=O (Wj.below d);have WQ:=ae VW d;have a5:=ae bN d;have g3:=O (eu bl d);have g4:=O (eu bf d);clear Y6 WC bh bk Uu Z3 Z2 Wj VW bN bl bf;clear d;refine z _ _ ⟨s,WQ,dk⟩ λ_=>?_
  clear z;refine G ?_;refine aE I (λK' z=>?_);go_simp;refine(gn l4 _ _ dd.out (EL a5 (λj aa hj=>by rw[hw,Nat.zero_add];simpa using hj) (lG _ _ _)) (hP.below UB)).mono ?_;rintro e l5 ⟨c,rfl,cg,d⟩;have VL:N (bb+1<l4.heap.size):=O (jA.1 dr).1;obtain⟨lb,hE⟩:=J l4.heap.size;rw[<-hE]at cg VL;have g5:=O cg;obtain⟨R,H,rfl⟩:=cO cg;clear cg;have g6:=aj g2 d;have dv:=ae dk d;have a6:=ae s d;have ea:=ae dr d;have UH:=aj UB d;have eq:=bD ce d;have ev:=bD cf d;have YC:=O (VO.below d);have Z9:=ae WQ d;have bg:=ae a5 d;have hF:=O (eu g3 d);have hH:=O (eu g4 d);have hI:=O (dd.below d);clear g2 dk s dr UB ce cf VO WQ a5 g3 g4 dd;clear d;refine z _ _ ⟨a6,Z9,dv⟩ λ_=>?_
  clear z;refine G ?_;iterate 4 refine vK ?_
  refine aE I (λK' z=>?_);rw[jr ai];refine qP 83 _ _ I (bb+1) 1 #[jd je V,A R 48 H] I I (sD (o:=1) (n:=2) ea ao) af (by simp[j4]) ?_;rw[show(#[jd je V,A R 48 H]:jq jl).toList=[jd je V,A R 48 H]from I];obtain⟨s1,s2⟩:=F2 (i:=1) (x:=jd je V) (y:=A R 48 H) ea;have s3:jk wr wr (l5.setCells (bb+1) 1 [jd je V,A R 48 H]):=Below.cellsFrom g6 (bb+1) (by rw[gf];omega) _ _;have eb:=nr (w':=l5.setCells (bb+1) 1 [jd je V,A R 48 H]) g5 (λk hk=>s2 k (aI VL));refine z _ _ ⟨(s2 bb Y).trans a6,(s2 (t+1+1+1) (dY c7 bv)).trans Z9,(s2 (t+1+1+1+1) (dY c7 bv)).trans dv⟩ λ_=>?_
  clear z;have ec:N ((l5.setCells (bb+1) 1 [jd je V,A R 48 H]).heap[bb+1]?=T (ja #[jd je q,jd je V,A R 48 H] 88 (0,0))):=O s1;have ed:N (eF M3 (t+1+1+1+1) 37 88 3 Wl.cells Wl.body (λv=>(aF (bY g a m u) ⟨A V9 m.length c1,A pq 10 cq,A pb nu cb,v⟩).toArray) p4 (l5.setCells (bb+1) 1 [jd je V,A R 48 H]) i (A pv i cv) ((wl.take i).map (fz g a m u init seed)) us):=O (P.later bv s3);have eg:N (aH (λg=>M3<=g/\g<(l5.setCells (bb+1) 1 [jd je V,A R 48 H]).heap.size/\(qg pv i cv).ownBlock≠T g) (l5.setCells (bb+1) 1 [jd je V,A R 48 H]) (A R 48 H) 1 48 (bo.map v8)):=O (aH.of_own eb (λg Q=>by
   have h1:=eb.lt g Q;have h2:=VL.out;have h3:=c7.out;have lj:=gf.out;exact⟨by omega,h1.2,eV P.row.own (.inl Y)⟩))
  clear s1 s2 s3 eb;generalize l5.setCells (bb+1) 1 [jd je V,A R 48 H]=kc at ec ed eg⊢;have hJ:=ec;have cj:=ed;have hK:=eg;clear ec ed eg;refine G ?_;refine ow ?_;clear g6 dv a6 ea UH eq ev YC Z9 bg g5 hI hF hH P cd gk gn;have s:=ah cj.row.box (rV (bY g a m u) (A V9 m.length c1) (A pq 10 cq) (A pb nu cb) (A pv i cv) Yb eM).2.2.1
  go_upto_region 35 with fail
  refine jX ?_;iterate 2 refine ee ?_
  refine j8 I 88 _ I (bb+1) I 88 #[jd je q,jd je V,A R 48 H] (0,0) _ hJ.out underlying88 I af ?_
  go_wp2_with (at_builtin;refine Hid.out ?_)
  refine O ?_;refine o8 I λ_ z=>Lx _ _ I M3 (A pv i cv) i _ I (cP cj.row.own (ap kc _)) _ 1 [jd je q,jd je V,A R 48 H] I (lA kc [jd je q,jd je V,A R 48 H] 88 (0,0) 3 1 1 I (jG _)) (by simp[j4]) Y (jD cj.row.sz' (ap kc _).size) λv' k9 U0=>z _ _ ?_
  clear z;have ck:=ap kc (ja #[jd je q,jd je V,A R 48 H] 88);have bp:=cj.later bv ck;have g7:=(aH.keep hK (w':=kc.alloc (ja #[jd je q,jd je V,A R 48 H] 88)) (λg Q=>ck.block g Q.2.1)).mono (D':=λg=>M3<=g/\g<(kc.alloc (ja #[jd je q,jd je V,A R 48 H] 88)).heap.size/\(qg pv i cv).ownBlock≠T g) (λg Q=>⟨Q.1,jJ Q.2.1 ck.size,Q.2.2⟩);have ct:=lg bp.row.box U0.grown (eV bp.row.own (.inr bv));obtain⟨pn,cn,rfl⟩:=cO U0.own;have e9:N (eF M3 (t+1+1+1+1) 37 88 3 Wl.cells Wl.body (λv=>(aF (bY g a m u) ⟨A V9 m.length c1,A pq 10 cq,A pb nu cb,v⟩).toArray) p4 (k9.setCell ⟨(t+1+1+1+1),38,jf⟩ (A pn (i+1) cn)) (i+1) (A pn (i+1) cn) ((wl.take (i+1)).map (fz g a m u init seed)) (us++[A R 48 H])):=O (by
   rw[hB,fe];exact eF.push (x:=(⟨q,V,bo⟩:Wl)) bp bv (by show aH _ _ _ 1 bo.length (bo.map v8);rw[hD];exact g7) U0 (h8 _ _))
  obtain⟨⟨vo,c3⟩,f3,-,-⟩:=ku (i:=38) (A pn (i+1) cn) ct (by rw[(rV (bY g a m u) (A V9 m.length c1) (A pq 10 cq) (A pb nu cb) (A pv i cv) Yb eM).2.2.2];decide);clear bp g7 U0 ct s ck
  go_wp2_with fail
  go_roundw
  case rel=>exact⟨i+1,pn,cn,us++[A R 48 H],by go_num,by omega,e9⟩
  case measure=>simp only[jV];omega
 obtain rfl:nw=i:=Y;have hd2:decide ((nw:jb)<(nw:jb))=jn:=by simp
 have hg:decide (nw<nw)=jn:=by simp
 rename jj=>p5;obtain⟨pe,bM,bN,bO⟩:∃(p:jF Addr) (c:jc),p=pv/\c=cv:=⟨_,_,I,I⟩;subst bN;subst bO;have cu:wl.take nw=wl:=qs (by rw[YA];exact jG _);rw[cu]at P;have ad:=P.row.but;have UH:N (jk w w p5):=O (UB.trans (P.row.but.below (n:=w.heap.size) (by rw[HG];omega) (dY bv HG)));have eq:=kO ce (λk bq ax=>ad.block k (by rw[Wx];exact ax) (aI c6));have ev:=kO cf (λk bq ax=>ad.block k (by rw[Wx];exact ax) (aI Yp));have ek:N (p5.heap[(t+1+1+1+1+1)]?=T (ja SA 65 (0,0))):=O ((ad.block (t+1+1+1+1+1) e3 Y).trans YH);have bi:ln (λk=>t+6<=k/\k<p5.heap.size) p5 (A pb nu cb) (nl.map (eE g a m u seed)):=Y7.keep (λk hk=>ad.block k hk.2 (aI br)) (λk hk=>⟨by have:=h6.out;omega,by have:=P.row.sz';omega⟩);have bk:=P.slice (by rw[jw];exact YA) (D:=λk=>t+6<=k/\k<p5.heap.size) (λk h1 h2=>⟨by have:=e3.out;omega,h2⟩);obtain⟨q,hq⟩:∃y:CQ,y=⟨A V9 m.length c1,A pq 10 cq,A pb nu cb,A pe nw bM⟩:=⟨_,I⟩;have bq:N (aT (λk=>t+6<=k/\k<p5.heap.size) p5 (mk1 g a m u init seed) q):=O (by
  rw[hx,hs]at bi;rw[ga]at bk;rw[hq];exact KQ Yb eq ev bi bk (λk h1 h2=>⟨by have:=c6.out;omega,h2⟩) (λk h1 h2=>⟨by have:=e8.out;omega,h2⟩))
 obtain⟨Y1,ax⟩:=J ((aF (mk1 g a m u init seed) q).toArray);have ej:N (p5.heap[(t+1+1+1+1)]?=T (ja Y1 37 (0,0))):=O (by rw[ax,hq,Tz];exact P.row.box);have bs:=Rt (x:=X) (init:=init) (seed:=seed) e0.symm (by rw[<-Ya];exact i5) kb VA Yb;obtain⟨bu,bw⟩:=MO bs;have bA:=O bu.encOk;have b0:=O bw.encOk;have b1:=O ax;have Yq:∀c:Cmt,c.parent.length=32->c.confirm.length=32->(jo.info? 37).map (·.size)=T (aF c q).toArray.size:=λc h1 h2=>by rw[ju,dl c q h1 h2];exact mT
 have Vh:N ((jo.info? 37).map (·.size)=T Y1.size):=O (by rw[ax];exact Yq _ (by rw[(ou ..).1];exact Yb) (ou ..).2);have b2:N (∀W,aT (·<W.heap.size) W (mk1 g a m u init seed) q->jB jo 25 #[jh Y1] W λe w'=>∃v,e=jz v/\vE W w' (mk1 g a m u init seed) v/\jk W W w'):=O (λW hW=>by
  obtain⟨l1,l2,l3,l4⟩:=bA.lens;rw[ax];exact tq _ q W hW l1 l2 l3 l4)
 obtain⟨bB,bf⟩:=J (c8 kP ((aP (mk1 g a m u init seed)).take 8));obtain⟨YM,bl⟩:=J ((bB.map v8).toArray);obtain⟨bg,bh⟩:=J (ko (dL g u init) bB);obtain⟨j,a6⟩:=J ((bg.map v8).toArray);have bn:bg.length=32:=by rw[bh];exact sW _ _
 have b3:N (mk2 g a m u init seed={mk1 g a m u init seed with confirm:=bg}):=O (by rw[bh,bf];exact Dv ..);have b4:N (∀W p H,aW (·<W.heap.size) W (vL ((aP (mk1 g a m u init seed)).take 8)) (A p 8 H)->bS W->jB jo 24 #[qn ⟨#[99,111,109,109,105,116,32,98,111,100,121]⟩,A p 8 H] W λe w'=>e=jz (jh YM)/\jk W W w'):=O (λW p H hv hW=>by
  rw[bl,bf];exact mN kP L _ _ W hv (bA.take (by rw[zC];decide) 8) hW.num hW.start)
 have b5:N (∀W,iH W->jB jo 111 #[jh SA,jh YM] W λe w'=>e=jz (jh j)/\jk W W w'):=O (λW hW=>by
  rw[a6,bh,hw,bl];exact Py _ _ (lG _ _ _) (by rw[bf];exact eT _ _) W hW)
 have bC:N (j.size=32):=O (by rw[a6,ju,jw,bn]);have b8:N (j.all (·.oneCell')=ji):=O (by rw[a6];exact ff _);have b9:N ((jo.info? 23).map (·.size)=T j.size):=O (by rw[bC];kernel_rfl);obtain⟨Y2,a5⟩:=J ((aF (mk2 g a m u init seed) q).toArray);have ca:N (mS Y1 39 j.toList=Y2):=O (by
  rw[a5,b3,a6,ax];exact Oj _ q bg (by rw[(ou ..).1];exact Yb) (ou ..).2 bn)
 have UP:N ((jo.info? 37).map (·.size)=T Y2.size):=O (by rw[a5];exact Yq _ (by rw[(pA ..).1];exact Yb) (pA ..).2);have cc:N (Y1.size=73):=O (by rw[ax,ju,dl _ _ (by rw[(ou ..).1];exact Yb) (ou ..).2]);have cd:N (Y2.size=73):=O (by rw[a5,ju,dl _ _ (by rw[(pA ..).1];exact Yb) (pA ..).2]);have cg:N (∀W,aT (·<W.heap.size) W (mk1 g a m u init seed) q->bS W->jB jo 36 #[jh Y2] W λe w'=>∃D,e=jz (A (T ⟨D,0,jf⟩) 32 32)/\bj w' (A (T ⟨D,0,jf⟩) 32 32) (dq (mk2 g a m u init seed))/\jk W W w'):=O (λW hC hW=>by
  rw[a5];exact Hw _ q W (Ed hC) b0 hW)
 obtain⟨sr,bo⟩:∃y:jb,y=((kt X (dq (mk2 g a m u init seed)):jc):jb):=⟨_,I⟩;obtain⟨ss,bp⟩:∃y:jb,y=((kH X (dq (mk2 g a m u init seed)):jc):jb):=⟨_,I⟩;have cj:N (∀W v,bj W v (dq (mk2 g a m u init seed))->bS W->jB jo 112 #[jd je (X:jb),v] W λe w'=>e=jz (jI #[jh #[jd je sr,jd je ss],jd je 0])/\jk W W w'):=O (λW v hv hW=>by
  rw[bo,bp];exact R0 X U5.1 U5.2 _ v (by unfold dq;rw[eT];decide) W hv hW)
 obtain⟨Y3,bb⟩:=J ((aF (mkC g a X m u init seed) q).toArray);have ck:N (mkC g a X m u init seed={mk2 g a m u init seed with r:=sr,s:=ss}):=O (by rw[bo,bp];exact GR ..);have cn:N (mS Y2 71 [jd je sr,jd je ss]=Y3):=O (by
  rw[bb,ck,a5];exact TU _ q sr ss (by rw[(pA ..).1];exact Yb) (pA ..).2)
 have VW:N ((jo.info? 37).map (·.size)=T Y3.size):=O (by rw[bb];exact Yq _ (by rw[(BM ..).1];exact Yb) (BM ..).2);have ct:N (Y3.all (·.oneCell')=ji):=O (by rw[bb,hq];exact zO _ _ _ _ _ _ _ _ _ _ _ _ _);have cx:=O bb;clear bk bi ev eq ad cu P Yq bs bu bw hq ax a5 bb bo bp bn a6 bh bl bf Y7 Yk YH WQ UB ce cf cy b1 b7 hi
 go_upto_region 37 with fail
 refine jL ?_;refine lK (λW'=>W'.heap[(t+1+1+1+1)]?=T (ja Y1 37 (0,0))/\W'.heap[(t+1+1+1+1+1)]?=T (ja SA 65 (0,0))) 7 [(0,ji),(1,ji),(2,jn),(3,ji),(4,jn),(5,jn),(6,ji),(7,jn)] af af af L (λ_ _ _ _ h=>h) ⟨ej,ek⟩ ?_;obtain⟨q0,UL⟩:=J p5.drew;have d:=bX p5;rw[<-UL]at d⊢;have UU:=ae ej d;have U1:=ae ek d;have Us:=aj UH d;have P:=O (bq.later d);clear d UL ej ek UH bq
 (refine fY (v:=jh SA) I ai (λW' hS=>mx jW I e6 I I hS.2) (G ?_))
 (refine fY (v:=jh Y1) I ai (λW' hS=>mx ob I Vh I I hS.1) (G ?_))
 refine dp I (λK' z=>?_);go_simp;refine(b2 q0 (P.mono (λk hk=>hk.2))).mono ?_;rintro e q1 ⟨v,rfl,ad,d⟩;obtain⟨gc,a6,rfl,Vq⟩:∃g H,v=A (T ⟨g,0,jf⟩) 11 H/\11<=H:=by
  obtain⟨us,ax,-⟩:=ad;obtain⟨g,c,h1,h2,-⟩:=vx ax L;exact⟨g,c,h1,h2⟩
 have bb:=O (ad.val 8 L).2;have g8:∀W,(Instr.sliceAt 77 (A (T ⟨gc,0,jf⟩) 11 a6) jf (T (jd je 8)) jf).run jo W=.ok (A (T ⟨gc,0,jf⟩) 8 a6) W:=λW=>wy 77 135 4 underlying77 wV gc 0 11 a6 8 Y W
 clear ad;have UM:=ae UU d;have UR:=ae U1 d;have U:=aj Us d;have ax:=O (P.later d);clear UU U1 Us P;clear d;refine z _ _ ⟨UM,UR⟩ λ_=>?_
 clear z;refine G ?_;refine EO ?_;refine dp I (λK' z=>?_);go_simp;refine(b4 q1 _ _ bb.out (Wc.dig.below U)).mono ?_;rintro e q2 ⟨rfl,d⟩;have UJ:=ae UM d;have UQ:=ae UR d;have Ur:=aj U d;have a5:=O (ax.later d);clear UM UR U ax bb;clear d;refine z _ _ ⟨UJ,UQ⟩ λ_=>?_
 clear z;refine G ?_;refine dp I (λK' z=>?_);go_simp;refine(b5 q2 (Wc.below Ur)).mono ?_;rintro e q3 ⟨rfl,d⟩;have U2:=ae UJ d;have Vg:=ae UQ d;have Uu:=aj Ur d;have bb:=O (a5.later d);clear UJ UQ Ur a5;clear d;refine z _ _ ⟨U2,Vg⟩ λ_=>?_
 clear z;refine G ?_;refine EO ?_;refine pD I (λK' z=>?_);rw[jr ai];refine qP 23 _ _ I (t+1+1+1+1) 39 j I I (sD (o:=39) U2.out (by rw[cc,bC];decide)) b9 b8 ?_;have s1:=yU j.toList 39 q3 Y1 U2;rw[ca]at s1;have ba:=O s1;have bc:=O ((tX (k:=(t+1+1+1+1+1)) (b:=(t+1+1+1+1)) Y j.toList 39 q3).trans Vg);have bd:=O (Below.cellsFrom Uu (t+1+1+1+1) (by rw[HG];omega) j.toList 39);have ad:N (aT (λk=>t+6<=k/\k<(q3.setCells (t+1+1+1+1) 39 j.toList).heap.size) (q3.setCells (t+1+1+1+1) 39 j.toList) (mk1 g a m u init seed) q):=O ((bb.keep (λk hk=>tX Y _ _ _)).mono (λk hk=>by rw[yt];exact hk));clear s1;generalize q3.setCells (t+1+1+1+1) 39 j.toList=r0 at ba bc bd ad⊢;clear U2 Vg Uu bb;refine z _ _ ?_;clear z;have UU:=ba;have U1:=bc;have Us:=bd;have P:=ad;clear ba bc bd ad;refine ow ?_
 go_upto_region 38 with fail
 refine jX ?_;refine ee ?_;refine j8 I 37 _ I (t+1+1+1+1) I 37 Y2 (0,0) _ UU.out ob I UP ?_
 go_wp2_with fail
 refine(cg r0 (P.mono (λk hk=>hk.2)) (Wc.dig.below Us)).mono ?_;rintro e r1 ⟨ih,rfl,cz,d⟩;have bb:=O cz;clear cz;have UM:=ae UU d;have UR:=ae U1 d;have U:=aj Us d;have ax:=O (P.later d);clear UU U1 Us P;clear d
 go_wp2_with fail
 refine(cj r1 _ bb.out (Wc.dig.below U)).mono ?_;rintro e r2 ⟨rfl,d⟩;have UJ:=ae UM d;have UQ:=ae UR d;have Ur:=aj U d;have a5:=O (ax.later d);clear UM UR U ax bb;clear d
 go_wp2_with (refine o8 I λ_ z=>qP 35 _ _ I (t+1+1+1+1) 71 #[jd je sr,jd je ss] I I (sD (o:=71) (n:=2) UJ.out (by rw[cd];decide)) af (by simp[j4]) (z _ _ ?_))
 have s1:=yU [jd je sr,jd je ss] 71 r2 Y2 UJ;rw[cn]at s1;have ba:=O s1;have bc:=O ((tX (k:=(t+1+1+1+1+1)) (b:=(t+1+1+1+1)) Y [jd je sr,jd je ss] 71 r2).trans UQ);have bd:=O (Below.cellsFrom Ur (t+1+1+1+1) (by rw[HG];omega) [jd je sr,jd je ss] 71);have ad:N (aT (λk=>t+6<=k/\k<(r2.setCells (t+1+1+1+1) 71 [jd je sr,jd je ss]).heap.size) (r2.setCells (t+1+1+1+1) 71 [jd je sr,jd je ss]) (mk1 g a m u init seed) q):=O ((a5.keep (λk hk=>tX Y _ _ _)).mono (λk hk=>by rw[yt];exact hk));clear s1;generalize r2.setCells (t+1+1+1+1) 71 [jd je sr,jd je ss]=U at ba bc bd ad⊢;clear UJ UQ Ur a5;have Zh:=ba;have ZZ:=bc;have VM:=bd;have ax:=ad;clear ba bc bd ad
 go_upto_region 41 with fail
 refine jL ?_;refine dj (λW'=>W'.heap[(t+1+1+1+1)]?=T (ja Y3 37 (0,0))/\W'.heap[(t+1+1+1+1+1)]?=T (ja SA 65 (0,0))) (.t 0 (.t 1 (.o 2 (.o 3 (.t 4 .done))))) af af af L (λ_ _ _ _ h=>h) ⟨Zh,ZZ⟩ ?_;obtain⟨V,UL⟩:=J U.drew;have d:=bX U;rw[<-UL]at d⊢;have cm:=ae Zh d;have cp:=ae ZZ d;have Zw:=aj VM d;have ad:=O (ax.later d);clear d UL Zh ZZ VM ax;have UU:=cm;clear cm;have U1:=cp;clear cp;have Us:=Zw;clear Zw;have P:=ad;clear ad
 (refine aS (v:=jh Y3) I ai (λW' hS=>mx ob I VW I I hS.1) (G ?_))
 (refine aS (v:=jh SA) I ai (λW' hS=>mx jW I e6 I I hS.2) (G ?_))
 refine aE I (λK' z=>?_);rw[jr ai];refine jR 37 _ _ I (t+1+1+1+1) Y3 I I 37 _ UU.out VW I ct ?_;rw[rx UU];refine z _ _ ⟨UU,U1⟩ λ_=>?_
 clear z;refine G ?_;refine aE I (λK' z=>?_);rw[jr ai];refine jR 65 _ _ I (t+1+1+1+1+1) SA I I 65 _ U1.out e6 I hZ ?_;rw[rx U1];refine z _ _ ⟨UU,U1⟩ λ_=>?_
 clear z;refine G ?_;refine aK ?_;refine ow ?_
 go_wp2_with fail
 refine qj (F9 I _ _ (t+1+1+1+1) (t+1+1+1+1+1) 37 65 Y3 SA (0,0) (0,0) _ _ I I UU U1 ob I VW jW I e6) I ⟨λ_=>⟨q,?_,?_⟩,λh=>jv ka h,Us⟩
 ·rw[cx,hw,qJ]
  rfl
 rw[qJ];exact(Ri (x:=X) P).mono (λk hk=>⟨by have h1:=HG.out;have h2:=hk.1;omega,hk.2⟩)
noncomputable def VY:VarT jo:=⟨65,32,(cI.map v8).toArray,_,jW,I,by kernel_rfl,by rfl,λ_=>by kernel_rfl⟩
def kzA(b:nv 8):jq jl:=((kz b).map v8).toArray
def kzN(n:jb):jq jl:=(jH .u8 n::sy 31 (jH .u8 0)).toArray
theorem Mc(b:nv 8):kzA b=kzN b.toNat:=by unfold kzA kzN kz;rw[j1,List.map_replicate];rfl
theorem JY(b:nv 8)(c:C.op=.build 65 #[(0,Q)])(d:m.eval Q=v8 b)(W:jj):(jQ m.eval C).run jo W=.ok (.value (jh (kzA b))) W:=by
 have h:∀n:jb,(Instr.build 65 #[(0,jd .u8 n)]).run jo W=.ok (jh (kzN n)) W:=λn=>by kernel_rfl
 rw[Mc];have e:m.eval Q=jd .u8 (b.toNat:jb):=d;simp only[jQ,c,pz,j1,jY,e,Sem.run_bind,h,Result.andThen_ok,Sem.run_pure]
theorem De(b:nv 8)(w:jj):jB jo 50 #[v8 b] w λe w'=>e=jz (jh (kzA b))/\jk w w w':=by
 obtain⟨K,a⟩:=J (kzA b);have c:N (K.size=VY.n):=O (by rw[a];rfl);have f:N (K.all (·.oneCell')=ji):=O (by rw[a,jS];exact λg d=>iu (kz b) g (by unfold kzA at d;simpa using d));have d:=O a;rw[<-a];clear a
 go_enter func50,ntmps50
 go_upto_region 1 with(first|(refine VY.made I I (G ?_)))
 go_wp2_with (first|(refine eD (v:=jh K) ai (by rw[d];exact JY b I I _) ?_;refine G ?_)|(refine VY.first I I I K I c f (G ?_)))
 obtain⟨x1,g,a,h,i,j⟩:=cX w K VY.t;rw[<-a];exact r7 (v:=jh K) (r8 I _ _ w.heap.size VY.t _ (0,0) _ I (h▸i.out) jW I (by rw[c];exact VY.hi)) I ⟨I,j⟩
theorem Pf{y:j0}(b:C.op=.build 55 #[(0,.const (jd je 2)),(1,Q),(4,y)])(f:m.eval Q=jd je d)(g:m.eval y=jd je H)(W:jj):
 (jQ m.eval C).run jo W=.ok (.value (jh (ar.cells ⟨2,d,0,0,H⟩).toArray)) W:=by
 have h:∀d H:jb,(Instr.build 55 #[(0,jd je 2),(1,jd je d),(4,jd je H)]).run jo W=.ok (jh (ar.cells ⟨2,d,0,0,H⟩).toArray) W:=λd H=>by kernel_rfl
 have e:m.eval (.const (jd je 2))=jd je 2:=I;simp only[jQ,b,pz,j1,jY,f,g,e,Sem.run_bind,h,Result.andThen_ok,Sem.run_pure]
theorem Ew(x:ar):x.cells.toArray.size=VH.n/\x.cells.toArray.all (·.oneCell')=ji:=⟨I,by
 rw[jS];exact λa b=>EC.one x a (show a∈ar.cells _ by simpa using b)⟩
theorem GB(d c:jb)(w:jj):jB jo 15 #[jd je d,jd je c] w λe w'=>e=jz (jh (ar.cells ⟨2,d,0,0,c⟩).toArray)/\jk w w w':=by
 obtain⟨K,b⟩:=J ((ar.cells ⟨2,d,0,0,c⟩).toArray);have a:=O (Ew ⟨2,d,0,0,c⟩);have f:=O b;rw[<-b]at a⊢;clear b
 go_enter func15,ntmps15
 go_upto_region 1 with(first|(refine VH.made I I (G ?_)))
 go_wp2_with (first|(refine eD (v:=jh K) ai (by rw[f];exact Pf I I I _) ?_;refine G ?_)|(refine VH.first I I I K I a.1 a.2 (G ?_)))
 obtain⟨x1,g,b,h,i,j⟩:=cX w K VH.t;rw[<-b];exact r7 (v:=jh K) (r8 I _ _ w.heap.size VH.t _ (0,0) _ I (h▸i.out) r6 I (by rw[a.1];exact VH.hi)) I ⟨I,j⟩
theorem Mi{y z:j0}{q:jb}(b:C.op=.build 55 #[(0,.const (jd je 1)),(1,Q),(2,y),(3,z)])(c:m.eval Q=jd je d)(f:m.eval y=jd je H)(g:m.eval z=jd je q)(W:jj):
 (jQ m.eval C).run jo W=.ok (.value (jh (ar.cells ⟨1,d,H,q,0⟩).toArray)) W:=by
 have h:∀d H q:jb,(Instr.build 55 #[(0,jd je 1),(1,jd je d),(2,jd je H),(3,jd je q)]).run jo W=.ok (jh (ar.cells ⟨1,d,H,q,0⟩).toArray) W:=λd H q=>by kernel_rfl
 have e:m.eval (.const (jd je 1))=jd je 1:=I;simp only[jQ,b,pz,j1,jY,c,f,g,e,Sem.run_bind,h,Result.andThen_ok,Sem.run_pure]
theorem FQ(d:jc)(q:d<512)(w:jj):jB jo 14 #[jd je d] w λe w'=>e=jz (jh (cR d).cells.toArray)/\jk w w w':=by
 obtain⟨x1,c,j,k,a,l⟩:=cX w chZ.cells.toArray VH.t;have f:N (∀W,jB jo 51 #[jd je ((d:jb)+2)] W λe w'=>e=jz (jI #[jd je (aY 4 (d+2):jc),jd je 0])/\jk W W w'):=O (λW=>by
  rw[show(d:jb)+2=((d+2:jc):jb) by omega];exact Ac (d+2) Y Y W)
 obtain⟨p,g⟩:∃y:jb,y=((aY 4 (d+2):jc):jb):=⟨_,I⟩;obtain⟨K,h⟩:=J ((cR d).cells.toArray);have n:N (K=(ar.cells ⟨1,d,p,p,0⟩).toArray):=O (by rw[h,g];rfl);have b:=O (Ew (cR d));rw[<-g]at f;rw[<-h]at b⊢;have o:=O j;have m:=O k;have i:=O l;clear g h j k l
 go_enter func14,ntmps14
 go_upto_region 1 with(first|(refine VH.made I I (G ?_)))
 change Code.wp _ _ _ _ (w.alloc (ja chZ.cells.toArray VH.t));rw[<-o,<-m]
 go_wp2_with fail
 refine(f _).mono ?_;rintro e h ⟨rfl,g⟩;replace a:=ae a g;replace i:=aj i g;clear g f;have f:=O (jT h c _ K _ _ a.out);have g:=O (n0 i (j5 m.symm) K)
 go_wp2_with (first|(refine eD (v:=jh K) ai (by rw[n];exact Mi I I I I _) ?_;refine G ?_)|(refine VH.store I I I K I b.1 b.2 a I (G ?_)))
 generalize h.setRow c K=j at f g⊢;exact r7 (v:=jh K) (r8 I _ _ c VH.t _ (0,0) _ I f r6 I (by rw[b.1];exact VH.hi)) I ⟨I,g⟩
section
section
variable {P:o1} {ops:jq jK} {Q:Exit->Act->jj->Prop} {md:Region.Mode} {S:jj->Prop}
def te(P:o1)(ops:jq jK)(S:jj->Prop):jg jc->(Act->jj->Prop)->Act->jj->Prop
 |[],K,a,w=>K a w
 |i::r,K,a,w=>∃o v,ops[i]?=T o/\fQ P ops S o v a/\te P ops S r K (a.put o.dst v) w
def vG(md:Region.Mode)(ops:jq jK):jg jc->jq jC->jC
 |[],_=>ji
 |i::r,a=>Region.free md ops a i&&(Region.ready md ops a).contains i&&vG md ops r (a.setIfInBounds i ji)
def ot:jg jc->jq jC->jq jC
 |[],a=>a
 |i::r,a=>ot r (a.setIfInBounds i ji)
theorem Il(k:Region.noSelect ops=ji)(m:∀c a b w,Q (.panic c) a w->Q (.panic c) b w){K:Act->jj->Prop}{n:jc}{g:jq jC}(p:∀a w,K a w->ip P md ops Q S ops.size n g a w):
 ∀(l:jg jc) (b:jq jC) (a:Act) (w:jj),vG md ops l b=ji->ot l b=g->S w->te P ops S l K a w->ip P md ops Q S ops.size (n+l.length) b a w
 |[],b,a,w,_,e,_,h=>by
  have d:b=g:=e;rw[d];exact p a w h
 |i::r,b,a,w,f,e,q,⟨o,v,s,t,h⟩=>by
  simp only[vG,j7]at f;refine wg s (Region.noSelect_spec k) (λc a d v w=>m c _ a w) (n+r.length) b a w (Region.free_spec s f.1.1) (λj c d u _=>(Ek j c d u).elim) (ak f.1.2) t q (Il k m p r _ _ _ f.2 e q h)
def kX(md:Region.Mode)(ops:jq jK)(e f:jc)(g:jq jC):jc->jg (jc×jC)->jC->jC->jq jC->jC
 |0,b,c,d,a=>b.isEmpty&&c&&d&&(a==g)
 |n+1,b,c,d,a=>match b.head? with
  |some (k,ji)=>Region.free md ops a k&&(Region.ready md ops a).contains k&&kX md ops e f g n b.tail c d (a.setIfInBounds k ji)
  |_=> !(Region.ready md ops a).isEmpty&&(Region.ready md ops a).all λi=>
   (b.head?==T (i,jn)&&kX md ops e f g n b.tail c d (a.setIfInBounds i ji))||(i==e&& !c&&kX md ops e f g n b ji d (a.setIfInBounds i ji))||(i==f&& !d&&kX md ops e f g n b c ji (a.setIfInBounds i ji))
theorem tP{s t:jc}{u:jq jC}{l:jg (jc×jC)}{fe:jc}(x:Region.noSelect ops=ji)(y:∀c a r w,Q (.panic c) a w->Q (.panic c) r w)(g:jc->jC->jC->Act->jj->Prop)(q:∀j b f a w,g j b f a w->S w)
 (z:∀j i,l[j]?=T (i,ji)->∀b f a w,g j b f a w->∃o v,ops[i]?=T o/\fQ P ops S o v a/\g (j+1) b f (a.put o.dst v) w) (B:∀j i,l[j]?=T (i,jn)->∀b f a w,g j b f a w->wpOp P ops Q i (g (j+1) b f) a w) (C:∀j f a w,g j jn f a w->wpOp P ops Q s (g j ji f) a w) (D:∀j b a w,g j b jn a w->wpOp P ops Q t (g j b ji) a w)
 (E:∀a w,g l.length ji ji a w->ip P md ops Q S ops.size fe u a w):
 ∀(n j:jc) (b f:jC) (p:jq jC) (a:Act) (w:jj),j<=l.length->kX md ops s t u n (l.drop j) b f p=ji->g j b f a w->ip P md ops Q S ops.size (fe+n) p a w
 |0,j,b,f,p,a,w,F,m,h=>by
  simp only[kX,j7,beq_iff_eq,List.isEmpty_iff,List.drop_eq_nil_iff]at m;obtain⟨⟨⟨d,rfl⟩,rfl⟩,rfl⟩:=m;obtain rfl:j=l.length:=Y;exact E a w h
 |n+1,j,b,f,p,a,w,F,m,h=>by
  rw[kX,List.head?_drop]at m
  by_cases K:∃k,l[j]?=T (k,ji)
  ·obtain⟨k,e⟩:=K
   rw[e]at m;simp only[j7]at m;have H:j<l.length:=(jU.1 e).1;obtain⟨o,v,M,R,U⟩:=z j k e b f a w h;rw[sA]at m;refine wg M (Region.noSelect_spec x) (λc a d v w=>y c _ a w) (fe+n) p a w (Region.free_spec M m.1.1) (λj c F d _=>(Ek j c F d).elim) (ak m.1.2) R (q _ _ _ _ _ h) (tP x y g q z B C D E n (j+1) b f _ _ w H m.2 U)
  have d:(!(Region.ready md ops p).isEmpty&&(Region.ready md ops p).all λi=>
   (l[j]?==T (i,jn)&&kX md ops s t u n (l.drop j).tail b f (p.setIfInBounds i ji))||(i==s&& !b&&kX md ops s t u n (l.drop j) ji f (p.setIfInBounds i ji))||(i==t&& !f&&kX md ops s t u n (l.drop j) b ji (p.setIfInBounds i ji)))=ji:=by
   split at m
   ·rename_i k e
    exact jv ⟨k,e⟩ K
   exact m
  simp only[j7,sB]at d;refine λ_=>⟨λv=>(by rw[v]at d;simp at d),λi M=>?_⟩
  have o:=d.2 i M;simp only[vi,j7,beq_iff_eq,Bool.not_eq_true']at o
  rcases o with(⟨e,k⟩|⟨⟨rfl,rfl⟩,k⟩)|⟨⟨rfl,rfl⟩,k⟩
  ·rw[sA]at k
   have H:j<l.length:=(jU.1 e).1;exact wpOp_mono (λr w' c=>⟨.inr (q _ _ _ _ _ c),tP x y g q z B C D E n (j+1) b f _ r w' H k c⟩) (B j i e b f a w h)
  ·exact wpOp_mono (λr w' c=>⟨.inr (q _ _ _ _ _ c),tP x y g q z B C D E n j ji f _ r w' F k c⟩) (C j f a w h)
  exact wpOp_mono (λr w' c=>⟨.inr (q _ _ _ _ _ c),tP x y g q z B C D E n j b ji _ r w' F k c⟩) (D j b a w h)
theorem uw{r:jc}{a:Act}{w:jj}(S:jj->Prop)(g:jg jc)(b:jg (jc×jC))(h k:jc)(t:bE)(d:jc->jC->jC->Act->jj->Prop)(s:P.follows .mixedOrders=ji)(l:Region.noSelect ops=ji)
 (u:vG .any ops g (qe ops.size jn)=ji) (x:kX .any ops h k (ot (b.map Prod.fst++[h,k]) (ot g (qe ops.size jn))) (b.length+2) b jn jn (ot g (qe ops.size jn))=ji)
 (y:gC .any ops t (ot (b.map Prod.fst++[h,k]) (ot g (qe ops.size jn)))=ji) (H:g.length+(b.length+2)+t.len<=ops.size) (m:∀c a p w,Q (.panic c) a w->Q (.panic c) p w)
 (z:S w.drew) (q:∀j c e a w,d j c e a w->S w)
 (B:∀j i,b[j]?=T (i,ji)->∀c e a w,d j c e a w->∃o v,ops[i]?=T o/\fQ P ops S o v a/\d (j+1) c e (a.put o.dst v) w) (o:∀j i,b[j]?=T (i,jn)->∀c e a w,d j c e a w->wpOp P ops Q i (d (j+1) c e) a w) (i:∀j e a w,d j jn e a w->wpOp P ops Q h (d j ji e) a w) (v:∀j c a w,d j c jn a w->wpOp P ops Q k (d j c ji) a w)
 (j:∀a w,d b.length ji ji a w->eJ P ops Q S t a w) (C:te P ops S g (d 0 jn jn) a w.drew):(Code.region r ops ji).wp P Q a w:=by
 refine wp_region_any s (rQ (S:=S) (f:=ops.size) _ _ _ _ (iP.zero _) ?_);have e:ops.size=(ops.size-g.length-(b.length+2))+(b.length+2)+g.length:=Y;have key:=Il (md:=.any) (S:=S) l m (K:=d 0 jn jn) (n:=ops.size-g.length-(b.length+2)+(b.length+2)) (λp w' D=>tP (md:=.any) (fe:=ops.size-g.length-(b.length+2)) l m d q B o i v (λE F c=>kG l m t _ _ _ _ Y y (bE.waits_size t) (.inr (q _ _ _ _ _ c)) (eO.toF t _ _ (j E F c))) (b.length+2) 0 jn jn _ p w' (jN _) x D) g _ a w.drew u I z C;rw[<-e]at key;exact key
theorem nL{i:jc}{o:jK}{v:jl}{r:jg jc}{K:Act->jj->Prop}{a:Act}{w:jj}(b:ops[i]?=T o)(c:Region.wanted o (yielded ops a.tmps)=ji)
 (d:∀w,S w->(jQ a.eval o).run P w=.ok (.value v) w) (h:te P ops S r K (a.put o.dst v) w):te P ops S (i::r) K a w:=
 ⟨o,v,b,.inl ⟨c,λw e=>.inl (d w e)⟩,h⟩
end
end
theorem kzl(b:nv 8):(kz b).length=32:=by unfold kz;simp
structure gJ(w:jj):Prop where
 t:ly w
 s:iH w
theorem gJ.below(h:gJ w)(a:jk w w w'):gJ w':=⟨h.t.below a,h.s.below a⟩
abbrev ptr(g:jc):jl:=jt (T ⟨g,0,jf⟩)
def iB(c:jM)(Z:jq jl)(d:jj)(b:jC)(a:jl)(W:jj):Prop:=
 (b=ji->∃g,a=ptr g/\W.heap[g]?=T (ja Z c (0,0))/\d.heap.size<=g)/\(b=jn->a=jm)
theorem iB.keep{a:jM}{Z:jq jl}{c d:jj}{b:jC}{f:jl}(h:iB a Z c b f W)(i:jk W W d):iB a Z c b f d:=
 ⟨λe=>let⟨g,j,k,l⟩:=h.1 e;⟨g,j,av k i,l⟩,h.2⟩
theorem iB.ne{X:jq jl}{b:jC}(h:iB p X w b j W){g:jc}(i:W.heap.size<=g):j≠ptr g:=by
 cases b with
 |true=>
  obtain⟨k,rfl,f,-⟩:=h.1 I;intro e;injection e with e
  injection e with e
  injection e with e
  have:=(jA.1 f).1;omega
 |false=>rw[h.2 I];intro e;cases e
def PI(b:jj)(M:jc)(e:jq jl)(d:jc)(V:jl)(f:jF Addr)(h cl:jc)(i l:jq jl)(c:Cmt)(k:jq jl)(j:jc)(m n:jC)(a:Act)(W:jj):Prop:=
 ∃WE T12 T16 T23 T24 T26 T27 T28 T29 T30,a={tmps:=#[jh e,jd je (d:jb),V,A f h cl,ptr M,jm,jm,jm,ptr (M+1),ptr (M+2),.bool jn,WE,T12,jm,jm,jm,T16,jh e,jd je (d:jb),jd je (d:jb),jd je ((d:jb)+2),A f h cl,V,T23,T24,V,T26,T27,T28,T29,T30,jm,jm,jm,jm,jm,jm,jm,jm,jm,jm,jm,jm,jm,jm],defers:=[]}/\jk b b W/\(1<=j->T23=jh i)/\(2<=j->T24=jh l)/\(3<=j->T26=jh i)/\
  (4<=j->∃(q:CQ) (D:jc->Prop),(T27=jI #[jh (aF c q).toArray,jh k,jd je 0]/\(5<=j->T16=T27)/\(6<=j->T28=jh (aF c q).toArray)/\(7<=j->T29=jh k)/\(8<=j->T30=jd je 0))/\aT D W c q/\∀g,D g->b.heap.size<=g/\g<W.heap.size/\WE≠ptr g/\T12≠ptr g)/\
  iB VC.t VC.Z b m WE W/\iB VY.t VY.Z b n T12 W
theorem RE(g:Grp)(vm vt:jl)(d:jc)(m:d<512)(b:nv 8)(vl:jl)(ch:jg ar)(w:jj)(j:bH w g vm vt)(p:aH (·<w.heap.size) w vl 5 ch.length (ch.flatMap ar.cells))(hT:gJ w)(t:ie g (d:jb) ((d+2:jc):jb) ch=0)
 (c:Cmt) (V:c=mkC g (d:jb) (d+2) ch (kz b) (kz 1) (kz b)) (X:cC g c=0) (hE:cT (aP c)) (u:g.mem.length<=900000) (z:g.tree.length<=600000) (a6:ch.length<=1000000):
 jB jo 13 #[jh (aD g vm vt).toArray,jd je (d:jb),v8 b,vl] w λe w'=>∃q x y,e=jz (jI #[jh (aF c q).toArray,jh (aD (aB g c) x y).toArray,.bool ji])/\
  aT (λk=>w.heap.size<=k/\k<w'.heap.size) w' c q/\bH w' (aB g c) x y/\Fr w.heap.size x/\Fr w.heap.size y/\jk w w w':=by
 obtain⟨pl,cl,rfl⟩:=p.form;obtain⟨nl,B⟩:=J ch.length;obtain⟨S,i⟩:=J ((aD g vm vt).toArray);obtain⟨KA,C⟩:=J (kzA b);obtain⟨K1,D⟩:=J (kzA 1);obtain⟨s,l⟩:=J (((dL g (kz b) (kz 1)).map v8).toArray);obtain⟨NG,E⟩:=J (aB g c);have bm:N (S.size=VG.n):=O (by rw[i,ju];exact eX j.llen);have bn:N (∀W,jk w w W->jB jo 49 #[jh S,jd je (d:jb),jd je ((d:jb)+2),A pl nl cl,jh KA,jh K1,jh KA] W λe w'=>(∃q,e=jz (jI #[jh (aF c q).toArray,jh s,jd je 0])/\aT (λk=>W.heap.size<=k/\k<w'.heap.size) w' c q)/\jk W W w'):=O (λW a=>by
  have h:=RP g vm vt (A pl ch.length cl) (d:jb) ((d+2:jc):jb) ch (kz b) (kz 1) (kz b) W (j.below a) ((p.keep λk n=>a.block k n).mono λk (n:k<w.heap.size)=>jJ n a.size) (kzl _) (kzl _) (kzl _) (hT.t.below a) (hT.s.below a) u z a6 t;rw[t]at h;rw[i,C,D,l,B,show(d:jb)+2=((d+2:jc):jb) by omega];refine h.mono ?_;rintro e w' ⟨h1,-,f⟩;have r:=h1 I;rw[qJ,<-V]at r;exact⟨r,f⟩)
 have ZR:N (∀W q,jk w w W->aT (·<W.heap.size) W c q->jB jo 9 #[jh S,jh (aF c q).toArray] W λe w'=>(∃vm vt,e=jz (jI #[jh (aD NG vm vt).toArray,jd je 0])/\bH w' NG vm vt/\Fr W.heap.size vm/\Fr W.heap.size vt)/\jk W W w'):=O (λW q a r=>by
  rw[i,E];refine(yV g vm vt c q W (j.below a) r hE (hT.s.dig.below a) u z).mono ?_;rintro e w' ⟨h1,-,f⟩;exact⟨h1 X,f⟩)
 have au:N (∀W,jB jo 50 #[v8 b] W λe w'=>e=jz (jh KA)/\jk W W w'):=O (λW=>by rw[C];exact De b W);have bo:N (∀W,jB jo 50 #[jd .u8 1] W λe w'=>e=jz (jh K1)/\jk W W w'):=O (λW=>by rw[D];exact De 1 W);have ba:N (s.size=VY.n/\s.all (·.oneCell')=ji):=O ⟨by rw[l,ju,jw,lG];rfl,by rw[l,jS];exact λa2 hu=>iu _ a2 (ak hu)⟩;rw[<-i];rw[<-B];obtain⟨P,F⟩:∃P:Ending->jj->Prop,P=λe w'=>∃q x y,e=jz (jI #[jh (aF c q).toArray,jh (aD (aB g c) x y).toArray,.bool ji])/\
  aT (λk=>w.heap.size<=k/\k<w'.heap.size) w' c q/\bH w' (aB g c) x y/\Fr w.heap.size x/\Fr w.heap.size y/\jk w w w':=⟨_,I⟩
 have HP:N (∀e w',(∃q x y,e=jz (jI #[jh (aF c q).toArray,jh (aD NG x y).toArray,.bool ji])/\aT (λk=>w.heap.size<=k/\k<w'.heap.size) w' c q/\bH w' NG x y/\Fr w.heap.size x/\Fr w.heap.size y/\jk w w w')->P e w'):=O (by
  rw[F,E];exact λe w' h=>h)
 rw[<-F];obtain⟨x1,M,H,K,U5,f⟩:=cX w S VG.t;obtain⟨x2,M1,ax,Q,Vj,aa⟩:=cX x1 VC.Z VC.t;obtain⟨x3,M2,YU,R,bb,a⟩:=cX x2 VG.Z VG.t;have e1:M1=M+1:=by rw[Q,H,jp,K]
 have e2:M2=M+2:=by rw[R,ax,jp,<-Q,e1]
 subst e1;subst e2;have U:=f.trans (aa.mono f.size);replace U5:=O (av (av U5 aa) a);replace Vj:=ae Vj a;have HB:N (jk w w x3):=O (U.trans (a.mono U.size));have HW:N (x3=((w.alloc (ja S VG.t)).alloc (ja VC.Z VC.t)).alloc (ja VG.Z VG.t)):=O (by rw[YU,ax,H]);have HM:=O K;have Zy:N (x3.heap.size=M+3):=O (by rw[YU,jp,<-R]);clear H ax YU K Q R f aa a U i C D l E F j p hT t V X hE u z a6 B
 go_enter func13,ntmps13
 go_upto_region 1 with(first|(refine VC.made I I (G ?_))|(refine VG.made I I (G ?_)))
 rw[show((w.alloc (ja S 29)).alloc (ja VC.Z VC.t)).alloc (ja VG.Z VG.t)=x3 from HW.symm]
 try simp only[jp]
 try rw[show w.heap.size+1+1=w.heap.size+2 from I]
 rw[<-HM];clear HW;obtain⟨V,a⟩:=J (v8 b);rw[<-a]at au⊢;clear a;have f:=bX x3;obtain⟨x4,hx⟩:=J x3.drew;rw[<-hx]at f;have bp:=O hx;replace U5:=ae U5 f;replace Vj:=ae Vj f;replace bb:=ae bb f;replace HB:=aj HB f;have bq:N (M+3<=x4.heap.size):=O (by rw[<-Zy];exact f.size);clear hx f Zy;refine jL ?_;refine uw (λt=>t.heap[M]?=T (ja S VG.t (0,0))) [0,1,2,3,4,5,8] [(6,jn),(7,jn),(9,jn),(10,jn),(11,ji),(12,ji),(13,ji),(14,ji)] 15 16 (.o 17 (.o 18 (.t 19 .done))) (PI x4 M S d V pl nl cl KA K1 c s) af af af af af L (λ_ _ _ _ h=>h) (by rw[<-bp];exact U5) ?hI ?hT ?hC ?h1 ?h2 ?hE ?h0
 case hI=>
  rintro j U b2 a W ⟨WE,T12,T16,T23,T24,T26,T27,T28,T29,T30,rfl,l,-⟩;exact av U5 l
 case h1=>
  rintro j b2 a W ⟨WE,T12,T16,T23,T24,T26,T27,T28,T29,T30,rfl,l,E,F,H,R,z,B⟩;refine qa (o:=_) I (λX u=>?_);rw[jr ai];refine gM VC.t I VC.Z VC.hal ?_;have f:=ap W (ja VC.Z VC.t);refine u _ _ ⟨ptr W.heap.size,T12,T16,T23,T24,T26,T27,T28,T29,T30,I,l.trans (f.mono l.size),E,F,H,λe=>?_,⟨λ_=>⟨_,I,jy _ _,l.size⟩,λh=>(by cases h)⟩,B.keep f⟩;obtain⟨q,D,K,r,m⟩:=R e;exact⟨q,D,K,r.keep λg p=>f.block g (m g p).2.1,λg p=>⟨(m g p).1,jJ (m g p).2.1 f.size,(λe=>by injection e with e;injection e with e;injection e with e;have:=(m g p).2.1;omega),(m g p).2.2.2⟩⟩
 case h2=>
  rintro j U a W ⟨WE,T12,T16,T23,T24,T26,T27,T28,T29,T30,rfl,l,E,F,H,R,z,B⟩;refine qa (o:=_) I (λX u=>?_);rw[jr ai];refine gM VY.t I VY.Z VY.hal ?_;have f:=ap W (ja VY.Z VY.t);refine u _ _ ⟨WE,ptr W.heap.size,T16,T23,T24,T26,T27,T28,T29,T30,I,l.trans (f.mono l.size),E,F,H,λe=>?_,z.keep f,⟨λ_=>⟨_,I,jy _ _,l.size⟩,λh=>(by cases h)⟩⟩;obtain⟨q,D,K,r,m⟩:=R e;exact⟨q,D,K,r.keep λg p=>f.block g (m g p).2.1,λg p=>⟨(m g p).1,jJ (m g p).2.1 f.size,(m g p).2.2.1,(λe=>by injection e with e;injection e with e;injection e with e;have:=(m g p).2.1;omega)⟩⟩
 case h0=>
  rw[<-bp]
  (refine nL (v:=jh S) I ai (λt Q=>cM VG.hu VG.hd (by rw[bm];exact VG.hi) I I Q) ?_;refine G ?_)
  iterate 2 (refine nL (v:=jd je (d:jb)) I ai (λt Q=>by go_simp;try with_reducible rfl) ?_;refine G ?_)
  (refine nL (v:=jd je ((d:jb)+2)) I ai (λt Q=>by have e:=wrap_small ((d:jb)+2) Y Y;go_simp;try rw[e];try with_reducible rfl) ?_;refine G ?_)
  (refine nL (v:=A pl nl cl) I ai (λt Q=>by go_simp;try with_reducible rfl) ?_;refine G ?_)
  iterate 2 (refine nL (v:=V) I ai (λt Q=>by go_simp;try with_reducible rfl) ?_;refine G ?_)
  exact⟨jm,jm,jm,jm,jm,jm,jm,jm,jm,jm,I,qb _ _,λh=>jv h L,λh=>jv h L,λh=>jv h L,λh=>jv h L,⟨λh=>(by cases h),λ_=>rfl⟩,⟨λh=>(by cases h),λ_=>rfl⟩⟩
 case hT=>
  rintro j i C U b2 a W ⟨WE,T12,T16,T23,T24,T26,T27,T28,T29,T30,rfl,l,E,F,H,R,z,B⟩
  rcases j with _ |_ |_ |_ |_ |_ |_ |_ |j
  iterate 4 (·simp at C)
  ·obtain rfl:i=11:=ak C.symm
   obtain⟨q,D,K,r,m⟩:=R Y;refine⟨_,T27,I,.inl ⟨by rfl,λt Q=>.inl (by go_simp;try with_reducible rfl)⟩,?_⟩;exact⟨WE,T12,T27,T23,T24,T26,T27,T28,T29,T30,I,l,λ_=>E Y,λ_=>F Y,λ_=>H Y,λ_=>⟨q,D,⟨K.1,λ_=>rfl,(λh=>jv h Y),(λh=>jv h Y),(λh=>jv h Y)⟩,r,m⟩,z,B⟩
  ·obtain rfl:i=12:=ak C.symm
   obtain⟨q,D,⟨rfl,ad,ay,a1,a3⟩,r,m⟩:=R Y;obtain rfl:=ad Y;refine⟨_,jh (aF c q).toArray,I,.inl ⟨by rfl,λt Q=>.inl (by go_simp;try with_reducible rfl)⟩,?_⟩;exact⟨WE,T12,_,T23,T24,T26,_,_,T29,T30,I,l,λ_=>E Y,λ_=>F Y,λ_=>H Y,λ_=>⟨q,D,⟨I,λ_=>rfl,λ_=>rfl,(λh=>jv h Y),(λh=>jv h Y)⟩,r,m⟩,z,B⟩
  ·obtain rfl:i=13:=ak C.symm
   obtain⟨q,D,⟨rfl,ad,ay,a1,a3⟩,r,m⟩:=R Y;obtain rfl:=ad Y;refine⟨_,jh s,I,.inl ⟨by rfl,λt Q=>.inl (by go_simp;try with_reducible rfl)⟩,?_⟩;exact⟨WE,T12,_,T23,T24,T26,_,T28,_,T30,I,l,λ_=>E Y,λ_=>F Y,λ_=>H Y,λ_=>⟨q,D,⟨I,λ_=>rfl,λ_=>ay Y,λ_=>rfl,(λh=>jv h Y)⟩,r,m⟩,z,B⟩
  ·obtain rfl:i=14:=ak C.symm
   obtain⟨q,D,⟨rfl,ad,ay,a1,a3⟩,r,m⟩:=R Y;obtain rfl:=ad Y;refine⟨_,jd je 0,I,.inl ⟨by rfl,λt Q=>.inl (by go_simp;try with_reducible rfl)⟩,?_⟩;exact⟨WE,T12,_,T23,T24,T26,_,T28,T29,_,I,l,λ_=>E Y,λ_=>F Y,λ_=>H Y,λ_=>⟨q,D,⟨I,λ_=>rfl,λ_=>ay Y,λ_=>a1 Y,λ_=>rfl⟩,r,m⟩,z,B⟩
  simp at C
 case hC=>
  rintro j i C U b2 a W ⟨WE,T12,T16,T23,T24,T26,T27,T28,T29,T30,rfl,l,E,F,H,R,z,B⟩
  rcases j with _ |_ |_ |_ |_ |_ |_ |_ |j
  ·obtain rfl:i=6:=ak C.symm
   refine qa (o:=_) I (λX u=>?_);go_simp;refine(au W).mono ?_;rintro e t ⟨rfl,f⟩;exact u _ _ ⟨WE,T12,T16,_,T24,T26,T27,T28,T29,T30,I,l.trans (f.mono l.size),λ_=>rfl,(λh=>jv h Y),(λh=>jv h Y),λe=>jv e Y,z.keep f,B.keep f⟩
  ·obtain rfl:i=7:=ak C.symm
   refine qa (o:=_) I (λX u=>?_);go_simp;refine(bo W).mono ?_;rintro e t ⟨rfl,f⟩;exact u _ _ ⟨WE,T12,T16,_,_,T26,T27,T28,T29,T30,I,l.trans (f.mono l.size),λ_=>rfl,λ_=>rfl,(λh=>jv h Y),λe=>jv e Y,z.keep f,B.keep f⟩
  ·obtain rfl:i=9:=ak C.symm
   refine qa (o:=_) I (λX u=>?_);go_simp;refine(au W).mono ?_;rintro e t ⟨rfl,f⟩;exact u _ _ ⟨WE,T12,T16,_,_,_,T27,T28,T29,T30,I,l.trans (f.mono l.size),λ_=>rfl,λ_=>rfl,λ_=>rfl,λe=>jv e Y,z.keep f,B.keep f⟩
  ·obtain rfl:i=10:=ak C.symm
   obtain rfl:=E Y;obtain rfl:=F Y;obtain rfl:=H Y;refine qa (o:=_) I (λX u=>?_);go_simp;refine(bn W (HB.trans (l.mono HB.size))).mono ?_;rintro e t ⟨⟨q,rfl,r⟩,f⟩;exact u _ _ ⟨WE,T12,T16,_,_,_,_,T28,T29,T30,I,l.trans (f.mono l.size),λ_=>rfl,λ_=>rfl,λ_=>rfl,λ_=>⟨q,_,⟨I,(λh=>jv h Y),(λh=>jv h Y),(λh=>jv h Y),(λh=>jv h Y)⟩,r,λg p=>⟨jD l.size p.1,p.2,z.ne p.1,B.ne p.1⟩⟩,z.keep f,B.keep f⟩
  iterate 5 (·simp at C)
 rintro a W ⟨WE,T12,T16,T23,T24,T26,T27,T28,T29,T30,rfl,l,E,F,H,R,z,B⟩;obtain⟨q,D,⟨rfl,ad,ay,a1,a3⟩,r,m⟩:=R L;obtain rfl:=ad L;obtain rfl:=ay L;obtain rfl:=a1 L;obtain rfl:=a3 L;obtain rfl:=E L;obtain rfl:=F L;obtain rfl:=H L;obtain⟨C,rfl,hC,bh⟩:=z.1 I;obtain⟨K,rfl,u,br⟩:=B.1 I;have bi:C≠K:=by
  rintro rfl;rw[hC]at u;simp[VC,VY]at u
 have bc:w.heap.size<=x4.heap.size:=HB.size;have bk:=bq.out;obtain⟨i,j⟩:=J ((aF c q).toArray);have Y4:N (i.size=VC.n):=O (by rw[j,ju];exact dl _ _ r.plen r.clen);have bs:N (i.all (·.oneCell')=ji):=O (by
  rw[j,jS];exact λa2 hu=>nD r a2 (ak hu))
 have UM:=O (jT W C _ i _ _ hC);have bu:=(js W C K i (Ne.symm bi)).trans u;have UJ:=O ((js (W.setRow C i) K C s bi).trans UM);have bd:∀k,k<x4.heap.size->((W.setRow C i).setRow K s).heap[k]?=x4.heap[k]?:=λk n=>(js _ K k s Y).trans ((js W C k i Y).trans (l.block k n))
 have bf:N (((W.setRow C i).setRow K s).heap[M]?=T (ja S VG.t (0,0))):=O ((bd M Y).trans U5);have a4:N (((W.setRow C i).setRow K s).heap[M+1]?=T (ja VC.Z VC.t (0,0))):=O ((bd (M+1) Y).trans Vj);have a5:N (((W.setRow C i).setRow K s).heap[M+2]?=T (ja VG.Z VG.t (0,0))):=O ((bd (M+2) Y).trans bb);have Ur:N (jk w w ((W.setRow C i).setRow K s)):=O (n0 (n0 (HB.trans (l.mono bc)) (jD bc bh) i) (jD bc br) s);have bl:((W.setRow C i).setRow K s).heap.size=W.heap.size:=by rw[setRow_size,setRow_size]
 have bg:N (aT (λk=>x4.heap.size<=k/\k<((W.setRow C i).setRow K s).heap.size) ((W.setRow C i).setRow K s) c q):=O ((r.keep λg p=>(js _ K g s (λe=>(m g p).2.2.2 (by rw[e]))).trans (js W C g i (λe=>(m g p).2.2.1 (by rw[e])))).mono λg p=>⟨(m g p).1,by rw[bl];exact(m g p).2.1⟩);have Vx:N (C<((W.setRow C i).setRow K s).heap.size):=O (by rw[bl];exact(jA.1 hC).1);have bv:=O j;rw[<-j];refine aE I (λX U=>?_);rw[jr ai];refine jR VC.t _ _ I C i I I VC.t VC.Z hC (by rw[Y4];exact VC.hi) (VC.hZ.trans Y4.symm) bs ?_;refine U _ _ ((js W C M i Y).trans ((l.block M Y).trans U5)) λ_=>?_
 clear U;refine G ?_;refine aE I (λX U=>?_);rw[jr ai];refine jR VY.t _ _ I K s I I VY.t VY.Z bu (by rw[ba.1];exact VY.hi) (VY.hZ.trans ba.1.symm) ba.2 ?_;refine U _ _ bf.out λ_=>?_
 clear U;refine G ?_;have UU:=O bh;generalize(W.setRow C i).setRow K s=y1 at UJ bf a4 a5 Ur bg Vx⊢;clear hC u bh br l E F H R ad ay a1 a3 z B r m bi j bu bd bl UM U5 Vj bb bn au bo ba bc bk;refine aK ?_;refine ow ?_
 go_wp2_with (first|(refine VG.loadA ai I I S bm bf (G ?_))|(refine VC.loadA ai I I i Y4 UJ (G ?_)))
 have au:=ZR y1 q Ur (bg.mono λk n=>n.2);rw[<-bv]at au;refine au.mono ?_;rintro e y2 ⟨⟨x,y,rfl,ZE,ba,bb⟩,f⟩;obtain⟨j,p⟩:=J ((aD NG x y).toArray);have YP:N (j.size=VG.n):=O (by rw[p,ju];exact eX ZE.llen);have Vy:N (j.all (·.oneCell')=ji):=O (by rw[p,jS];exact λa2 hu=>mc ZE a2 (ak hu));have bl:=O p;have bh:=O (dN.of ZE ba bb);have bi:N (aT (λk=>x4.heap.size<=k/\k<y2.heap.size) y2 c q):=O ((bg.keep λk n=>f.block k n.2).mono λk n=>⟨n.1,jJ n.2 f.size⟩);have HF:N (Fr y1.heap.size x/\Fr y1.heap.size y):=O ⟨ba,bb⟩;replace UJ:=ae UJ f;replace a4:=ae a4 f;replace a5:=ae a5 f;have Uu:=aj Ur f;have bc:N (x4.heap.size<=y1.heap.size/\y1.heap.size<=y2.heap.size):=O ⟨by have:=Vx.out;have:=UU.out;omega,f.size⟩;rw[<-p];clear au ZE ba bb p f bf Ur bg
 go_upto_region 3 with(first|(refine VG.made I I (G ?_))|(refine VG.first I I I j I YP Vy (G ?_)))
 obtain⟨y3,bx,hx,hb,bf,f⟩:=cX y2 j VG.t;rw[<-hx,<-hb];have aa:=bX y3;obtain⟨p,ba⟩:=J y3.drew;rw[<-ba]at aa;have au:jk y2 y2 p:=f.trans (aa.mono f.size);have bb:=av bf aa;have bd:=av UJ au;have ax:=av a4 au;have YU:=av a5 au;refine jL ?_;refine fN (λt=>t.heap[C]?=T (ja i VC.t (0,0))/\t.heap[bx]?=T (ja j VG.t (0,0))) 10 (.t 0 (.t 1 (.t 2 (.t 3 (.t 4 (.t 5 (.t 6 (.t 7 (.o 8 (.o 9 (.o 10 .done))))))))))) af af af af L (λ_ _ _ _ h=>h) (by rw[<-ba];exact⟨bd,bb⟩) ?_;rw[<-ba];have bg:bx=y2.heap.size:=hb;have bn:N (aT (λk=>x4.heap.size<=k/\k<y2.heap.size) p c q):=O (bi.keep λk n=>au.block k n.2);have bo:N (dN (λk=>y1.heap.size<=k/\k<y2.heap.size) p NG x y):=O (bh.keep λk n=>au.block k n.2);have UB:=aj Uu au;have WQ:=O au.size;clear hx hb f aa ba au bf bi bh Uu UJ a4 a5
 (refine cL (v:=jh i) I ai (λt Q=>cM VC.hu VC.hd (by rw[Y4];exact VC.hi) I I Q.1) ?_;refine G ?_)
 (refine cL (v:=jh j) I ai (λt Q=>cM VG.hu VG.hd (by rw[YP];exact VG.hi) I I Q.2) ?_;refine G ?_)
 iterate 6 refine cr ?_
 have bk:=bq.out;have Vq:=UU.out;have a6:=Vx.out;have a5:=bc.1;have Q:C≠M+1:=Y;have n2:C≠M+2:=Y;have n3:bx≠M+1:=by have:=bc.2;omega
 have n4:bx≠M+2:=by have:=bc.2;omega
 have r1:=(js p (M+1) C i Q).trans bd;have r2:=(js p (M+1) bx i n3).trans bb;have r3:=jT p (M+1) _ i _ _ ax;have h:=(js p (M+1) (M+2) i Y).trans YU;refine cY I (λX U=>?_);rw[jr ai];refine jR VC.t _ _ I (M+1) i I I VC.t VC.Z ax (by rw[Y4];exact VC.hi) (VC.hZ.trans Y4.symm) bs ?_;refine U _ _ ⟨r1,r2⟩ λ_=>?_
 clear U;refine G ?_;have s1:=(js (p.setRow (M+1) i) (M+2) C j n2).trans r1;have s2:=(js (p.setRow (M+1) i) (M+2) bx j n4).trans r2;have Vh:=O ((js (p.setRow (M+1) i) (M+2) (M+1) j Y).trans r3);have UP:=O (jT (p.setRow (M+1) i) (M+2) _ j _ _ h);refine cY I (λX U=>?_);rw[jr ai];refine jR VG.t _ _ I (M+2) j I I VG.t VG.Z h (by rw[YP];exact VG.hi) (VG.hZ.trans YP.symm) Vy ?_;refine U _ _ ⟨s1,s2⟩ λ_=>?_
 clear U;refine G ?_;refine nH I L af (λX u=>?_);go_simp;refine u _ _ ?_;clear u;refine G ?_;refine fa ?_;have t:∀k,M+3<=k->((p.setRow (M+1) i).setRow (M+2) j).heap[k]?=p.heap[k]?:=λk n=>(js _ _ k _ Y).trans (js _ _ k _ Y)
 have ba:w.heap.size=M:=HM.symm;have U:N (jk w w ((p.setRow (M+1) i).setRow (M+2) j)):=O (n0 (n0 UB Y i) Y j);have X:((p.setRow (M+1) i).setRow (M+2) j).heap.size=p.heap.size:=by rw[setRow_size,setRow_size]
 have aa:N (aT (λk=>w.heap.size<=k/\k<((p.setRow (M+1) i).setRow (M+2) j).heap.size) ((p.setRow (M+1) i).setRow (M+2) j) c q):=O ((bn.keep λk n=>t k (cV n.1)).mono λk n=>⟨by have:=n.1;omega,by rw[X];exact jJ n.2 WQ⟩);have au:N (bH ((p.setRow (M+1) i).setRow (M+2) j) NG x y):=O (bo.keep λk n=>t k (cV n.1)).grp;have a4:N (Fr w.heap.size x/\Fr w.heap.size y):=O ⟨HF.1.mono Y,HF.2.mono Y⟩;clear t ba X s1 s2 r1 r2 r3 h Q n2 n3 n4 bd bb ax YU bk Vq a6 a5 bg;generalize(p.setRow (M+1) i).setRow (M+2) j=h at Vh UP U aa au⊢;refine‹∀(a:Act) (w:jj),Code.wp jo Code.ret (bodyPost jo _ P) a w->_› _ _ ?_;refine wp_ret ?_;show bodyPost _ _ P .ret _ _;refine qj (F9 I _ _ (M+1) (M+2) VC.t VG.t i j (0,0) (0,0) _ _ I I Vh UP ob I (by rw[Y4];exact VC.hi) qO I (by rw[YP];exact VG.hi)) I (HP _ _ ⟨q,x,y,by rw[bv,bl];rfl,aa,au,a4.1,a4.2,U⟩)
section
open Go.RowKit Go.ChangeShapes Go.WideShapes Go.Deep
theorem EU{H:Type}{enc:jM×jl->H}{d:DataW H}{p:jg MemPlace}(h:DataW.Trod enc jo w 0 (λ_=>ji) ji 37 j d p)(i:Value.okWide jo w .any b 37 j):
 ∃(c:Cmt) (q:CQ),j=.agg (aF c q).toArray/\aT (·<w.heap.size) w c q/\wQ c/\c.chg.length<=maxLen/\c.box.length<=maxLen/\c.wel.length<=maxLen:=by
 obtain⟨v,rfl,o⟩:=okWide_struct ob i;obtain⟨cl⟩:=v;obtain⟨fuel,a⟩:=h;have k:(Value.agg ⟨cl⟩).cells.toList=cl:=I;rw[k]at a;obtain⟨c,q,e,l,m,base,n,f,g⟩:=Kp a;exact⟨c,q,by rw[e],l,⟨m,base.2,n.2,f.2,g.2⟩,base.1,f.1,g.1⟩
theorem Lo(a:laidMetH jo sZ w):gJ w:=by
 obtain⟨t,s⟩:=LQ a;exact⟨t,s⟩
end
theorem C5(x y:jb):cE x y<0↔x<y:=by
 unfold cE
 split
 ·constructor<;>intro<;>first|assumption|decide
 split
 ·constructor
  ·intro h;exact jv h L
  intro h;omega
 constructor
 ·intro h;exact jv h L
 intro h;omega
theorem Bu(x y:jb):cE x y=0↔x=y:=by
 unfold cE
 split
 ·constructor
  ·intro h;exact jv h L
  intro h;omega
 split
 ·constructor
  ·intro h;exact jv h L
  intro h;omega
 constructor
 ·intro h;omega
 intro h;rfl
theorem CZ{b:aR}(h:x.com.author≠b.com.author):(iE x b<0↔x.since<b.since\/x.since=b.since/\x.com.author<b.com.author):=by
 unfold iE
 by_cases d:x.since=b.since
 ·rw[jE (by rw[(Bu _ _).2 d];exact λh=>h I),jr (λe=>h ((Bu _ _).1 e)),C5]
  constructor
  ·exact λc=>.inr ⟨d,c⟩
  rintro(c|c)
  ·omega
  exact c.2
 rw[jr (λe=>d ((Bu _ _).1 e)),C5]
 constructor
 ·exact .inl
 rintro(c|c)
 ·exact c
 exact jv c.1 d
def gT(g:Grp)(a b:Cmt):Prop:=dW g a.author<dW g b.author\/dW g a.author=dW g b.author/\a.author<b.author
theorem B6{b:Cmt}(h:o.author≠b.author):¬gT a o b↔gT a b o:=by
 unfold gT;omega
theorem TD{b:Cmt}(h:aG o≠aG b):bV [o,b] 2=[0,1]:=by
 have d:aQ [o,b] 0=o:=I;have e:aQ [o,b] 1=b:=I;have f:bV [o,b] 0=[]:=I;rw[mP,mP,f,jr (λj c=>jv c (q9 j)),jr ?_]
 ·rfl
 intro j c;obtain rfl:j=0:=Y;rw[d];show aG o≠aG (aQ [o,b] 1);rw[e];exact h
noncomputable def bQ(g:Grp)(c:Cmt)(i:jc):aR:=⟨i,c,aG c,dW g c.author,aB g c⟩
theorem Nk{b:Cmt}(h:aG o≠aG b)(c:cC a o=0)(d:cC a b=0):eH a [o,b]=[bQ a o 0,bQ a b 1]:=by
 have e:aQ [o,b] 0=o:=I;have f:aQ [o,b] 1=b:=I;have i:eh a [o,b] 0=T (bQ a o 0):=by
  unfold eh bQ;rw[e,jr ⟨(fW.1 c).par,c⟩]
 have j:eh a [o,b] 1=T (bQ a b 1):=by
  unfold eh bQ;rw[f,jr ⟨(fW.1 d).par,d⟩]
 unfold eH;rw[show [o,b].length=2 from I,TD h,jP,i,jP,j,qh]
theorem EI(x y:aR):[x,y].mergeSort leC=if leC x y=ji then [x,y]else [y,x]:=by
 cases h:leC x y with
 |true=>simp[wi,List.MergeSort.Internal.splitInTwo,List.merge,h]
 |false=>simp[wi,List.MergeSort.Internal.splitInTwo,List.merge,h]
theorem yB{y:aR}(h:x.com.author≠y.com.author)(a:gS x.com y.com.author=ji):([x,y].foldl fT ([],jf)).2=T x:=by
 have b:fT ([],jf) x=([x],T x):=by
  unfold fT;rw[jE (by unfold rR;rw[List.any_nil];decide)];unfold wu;rw[jr I];rfl
 have c:fT ([x],T x) y=([x],T x):=by
  unfold fT;rw[jr];unfold rR;rw[List.any_cons,a,bne_iff_ne.2 h];rfl
 rw[rk,rk,rn,b,c]
theorem IF{b:Cmt}(h:aG o≠aG b)(c:o.author≠b.author)(j:cC a o=0)(k:cC a b=0)(l:gS o b.author=ji)(rb:gS b o.author=ji):
 (gT a o b->et a [o,b]=T (bQ a o 0))/\(gT a b o->et a [o,b]=T (bQ a b 1)):=by
 have f:(iE (bQ a b 1) (bQ a o 0)<0)↔gT a b o:=by
  rw[CZ (by unfold bQ;exact λe=>c e.symm)];unfold bQ gT;exact Iff.rfl
 have i:et a [o,b]=((if leC (bQ a o 0) (bQ a b 1)=ji then [bQ a o 0,bQ a b 1]else [bQ a b 1,bQ a o 0]).foldl fT ([],jf)).2:=by
  unfold et eS;rw[Nk h j k,EI]
 constructor
 ·intro d
  have m:¬iE (bQ a b 1) (bQ a o 0)<0:=λe=>(B6 c).2 (f.1 e) d
  rw[i,jr (by unfold leC;rw[decide_eq_false m];rfl)];exact yB (x:=bQ a o 0) (y:=bQ a b 1) c l
 intro d;rw[i,jE (by unfold leC;rw[ql (f.2 d)];decide)];exact yB (x:=bQ a b 1) (y:=bQ a o 0) (λe=>c e.symm) rb
theorem C1(h:gz a o)(b:gS o d=ji):cD (aB a o).mem d=jn:=by
 unfold gS at b;obtain⟨y,e,g⟩:=wq.1 b;rw[j7,beq_iff_eq,beq_iff_eq]at g;have f:=If h ((td h.form.once d y).2 ⟨e,g.2⟩) g.1;rw[<-uG,f.2];rfl
noncomputable def tR(l:jg Cmt)(S:jg aR)(k:jc):jg aR:=match S[k]? with|none=>S|some c=>S++eS c.leads l
noncomputable def eG(l:jg Cmt)(c:aR):jc->jg aR
 |0=>[c]
 |k+1=>tR l (eG l c k) k
noncomputable def sO(l:jg Cmt)(c:aR):jg aR:=eG l c l.length
theorem GY(h:S.length<=b):tR e S b=S:=by
 unfold tR;rw[List.getElem?_eq_none h]
theorem rh{l:jg Cmt}{k:jc}{c:aR}(h:S[k]?=T c):tR l S k=S++eS c.leads l:=by
 unfold tR;rw[h]
structure fc(l:jg Cmt)(g:Grp)(c:aR):Prop where
 ok:nX g l c
 par:c.com.parent=g.last
 least:∀j,j<c.ix->aG (aQ l j)≠c.id
theorem fc.ofU(h:x∈eH a e):fc e a x:=by
 obtain⟨g,b,-,d⟩:=vz h;exact⟨g,b,d⟩
theorem fc.com{g':Grp}{d:aR}(h:fc e a x)(b:fc e g' d)(l:x.id=d.id):x.com=d.com:=by
 have f:x.ix=d.ix:=by
  rcases wt x.ix d.ix with g|g|g
  ·exact jv (by rw[<-h.ok.com,<-h.ok.id];exact l) (b.least _ g)
  ·exact g
  exact jv (by rw[<-b.ok.com,<-b.ok.id];exact l.symm) (h.least _ g)
 rw[h.ok.com,b.ok.com,f]
theorem fc.last{l:jg Cmt}{g:Grp}{c:aR}(h:fc l g c):c.leads.last=c.id:=by rw[h.ok.leads,AK,h.ok.id]
theorem fc.epoch(h:fc e a x):x.leads.epoch=a.epoch+1/\x.com.epoch=a.epoch+1:=by
 have g:=(ud h.ok).ep;exact⟨by rw[h.ok.leads,iG];exact g,g⟩
theorem La(g:Grp)(l:jg Cmt):((eH g l).map aR.id).Nodup:=by
 unfold eH;have n:(bV l l.length).Nodup:=by
  unfold bV;exact(List.nodup_range).filter _
 have key:∀(a:jg jc),a.Nodup->(∀i∈a,i∈bV l l.length)->((a.filterMap (eh g l)).map aR.id).Nodup:=by
  intro a
  induction a with
  |nil=>intro _ _;rw[qh,jY];exact List.nodup_nil
  |cons i a o=>
   intro f h;rw[wv]at f;have k:=o f.2 λj e=>h j (qx _ e)
   rw[jP]
   cases hc:eh g l i with
   |none=>exact k
   |some c=>
    dsimp only;rw[j1,wv];refine⟨λp=>?_,k⟩;obtain⟨d,q,he⟩:=qc.1 p;obtain⟨j,e,r⟩:=List.mem_filterMap.1 q;obtain⟨y,s,t,-⟩:=tT hc;obtain⟨z,u,v,-⟩:=tT r;have w:=(oW.1 (h i (qw ..))).2;have x:=(oW.1 (h j (qx _ e))).2;have m:aG (aQ l j)=aG (aQ l i):=by rw[<-u,<-v,<-s,<-t];exact he
    rcases wt i j with b|b|b
    ·exact x i b m.symm
    ·exact f.1 (b▸e)
    exact w j b m
 exact key _ n λi b=>b
theorem Qg(g:Grp)(l:jg Cmt):((eS g l).map aR.id).Nodup:=((List.mergeSort_perm (eH g l) leC).map aR.id).nodup_iff.2 (La g l)
structure tJ(l:jg Cmt)(a:Grp)(b:aR)(S:jg aR)(k:jc):Prop where
 head:S[0]?=T b
 par:∀i c,S[i]?=T c->0<i->∃n x,n<k/\n<i/\S[n]?=T x/\fc l x.leads c
 all:∀n x,n<k->S[n]?=T x->∀c∈eH x.leads l,c∈S
 ids:(S.map aR.id).Nodup
 ep:∀c∈S,a.epoch+1<=c.leads.epoch
theorem tJ.at{l:jg Cmt}{b:Grp}{d:aR}{k:jc}(h:tJ l b d S k)(e:fc l b d){i:jc}{c:aR}(a:S[i]?=T c):∃g,fc l g c/\(i=0->g=b):=by
 rcases i with _|i
 ·rw[h.head]at a
  injection a with a
  exact⟨b,by rw[<-a];exact e,λ_=>rfl⟩
 obtain⟨n,x,-,-,-,f⟩:=h.par _ c a (Nat.succ_pos i);exact⟨_,f,λh=>jv h (Nat.succ_ne_zero i)⟩
theorem Qw(h:(S.map aR.id).Nodup){i j:jc}{c d:aR}(a:S[i]?=T c)(b:S[j]?=T d)(e:c.id=d.id):i=j:=by
 have f:(S.map aR.id)[i]?=T c.id:=by rw[qQ,a];rfl
 have g:(S.map aR.id)[j]?=T c.id:=by rw[qQ,b,Option.map_some,e]
 obtain⟨m,k⟩:=jU.1 f;obtain⟨n,l⟩:=jU.1 g;exact(List.getElem_inj h).1 (k.trans l.symm)
theorem BJ(p:fc e a x):∀k,tJ e a x (eG e x k) k
 |0=>by
  rw[eG];refine⟨by simp,?_,λn s t=>jv t (q9 n),by simp,?_⟩
  ·intro i c h f
   cases i with
   |zero=>exact jv f (Nat.lt_irrefl 0)
   |succ i=>simp at h
  intro c h;rw[jO]at h;rw[h,(p.epoch).1];omega
 |k+1=>by
  have h:=BJ p k;rw[eG];generalize eG e x k=S at h⊢
  cases hx:S[k]? with
  |none=>
   have v:=List.getElem?_eq_none_iff.1 hx;rw[GY v];refine⟨h.head,?_,?_,h.ids,h.ep⟩
   ·intro i c f q
    obtain⟨n,s,j,r⟩:=h.par i c f q;exact⟨n,s,by omega,r⟩
   intro n s t b c o;have:=(jU.1 b).1;exact h.all n s Y b c o
  |some s=>
   rw[rh hx];have w:=(jU.1 hx).1;obtain⟨R,D,-⟩:=h.at p hx;refine⟨by rw[p6 Y];exact h.head,?_,?_,?_,?_⟩
   ·intro i c f q
    by_cases v:i<S.length
    ·rw[p6 v]at f
     obtain⟨n,y,j,r,z,b⟩:=h.par i c f q;exact⟨n,y,by omega,r,by rw[p6 Y];exact z,b⟩
    rw[List.getElem?_append_right Y]at f;exact⟨k,s,Nat.lt_succ_self k,by omega,by rw[p6 w];exact hx,fc.ofU (sJ.1 (j3 f))⟩
   ·intro n y t m c o
    by_cases v:n=k
    ·rw[v,p6 w,hx]at m
     injection m with m
     rw[<-m]at o;exact sx _ (sJ.2 o)
    have b:n<k:=Y;rw[p6 Y]at m;exact sv _ (h.all n y b m c o)
   ·rw[mz,List.nodup_append]
    refine⟨h.ids,Qg _ _,?_⟩;intro v E b F l;obtain⟨c,H,rfl⟩:=qc.1 E;obtain⟨d,K,rfl⟩:=qc.1 F;have u:=fc.ofU (sJ.1 K);obtain⟨i,f⟩:=wx.1 H;obtain⟨g,B,M⟩:=h.at p f;have C:=B.com u l
    by_cases q:i=0
    ·have P:=M q
     subst P;have j:=B.epoch.2;rw[C,u.epoch.2]at j;have r:=h.ep s (j3 hx);omega
    obtain⟨n,y,t,-,m,P⟩:=h.par i c f Y;obtain⟨U,Q,-⟩:=h.at p m;have j:y.id=s.id:=by rw[<-Q.last,<-D.last,<-P.par,<-u.par,C]
    have:=Qw h.ids m hx j;omega
   intro c o
   rcases oj.1 o with j|j
   ·exact h.ep c j
   have r:=(fc.ofU (sJ.1 j)).epoch.1;have z:=h.ep s (j3 hx);omega
theorem Q2(h:(S.map aR.id).Nodup)(f:∀c∈S,∃g,fc e g c):S.length<=e.length:=by
 have j:(S.map aR.ix).Nodup:=by
  refine xa.2 ?_;refine List.Pairwise.imp_of_mem ?_ (xa.1 h);intro a b k m n l;obtain⟨o,d⟩:=f a k;obtain⟨gb,i⟩:=f b m;exact n (by rw[d.ok.id,i.ok.id,d.ok.com,i.ok.com,l])
 have b:S.map aR.ix⊆List.range e.length:=by
  intro i a;obtain⟨c,l,rfl⟩:=qc.1 a;obtain⟨g,d⟩:=f c l;exact List.mem_range.2 d.ok.lt
 have a:=List.Nodup.length_le_of_subset j b;rw[jw,List.length_range]at a;exact a
theorem tJ.len(h:tJ e a x S b)(d:fc e a x):S.length<=e.length:=by
 refine Q2 h.ids λc l=>?_
 obtain⟨i,f⟩:=wx.1 l;obtain⟨g,j,-⟩:=h.at d f;exact⟨g,j⟩
theorem Gy(h:(eG e x b).length<=b):∀m,b<=m->eG e x m=eG e x b
 |0,k=>by
  obtain rfl:b=0:=Y
  rfl
 |m+1,k=>by
  by_cases l:b=m+1
  ·rw[l]
  have c:=Gy h m Y;rw[eG,c,GY Y]
theorem Nm(d:fc e a x){k:jc}(h:(eG e x k).length<=k)(c:k<=e.length):sO e x=eG e x k:=Gy h _ c
section
theorem mf{g:Grp}{l:jg Cmt}{i:jc}(h:cC g (aQ l i)≠0):eh g l i=jf:=by
 unfold eh;rw[jE λe=>h e.2]
theorem zR{g:Grp}{l:jg Cmt}{i:jc}{c:Cmt}(e:aQ l i=c)(h:cC g c=0):eh g l i=T (bQ g c i):=by
 unfold eh bQ;rw[e,jr ⟨(fW.1 h).par,h⟩]
theorem mj{g:Grp}{c:Cmt}(h:c.epoch≠g.epoch+1):cC g c≠0:=λe=>h (fW.1 e).ep
theorem wH{a b c d:Cmt}(k:aG a≠aG b)(l:aG a≠aG c)(m:aG a≠aG d)(n:aG b≠aG c)(o:aG b≠aG d)(p:aG c≠aG d):bV [a,b,c,d] 4=[0,1,2,3]:=by
 have q:bV [a,b,c,d] 0=[]:=I;have f:aQ [a,b,c,d] 0=a:=I;have g:aQ [a,b,c,d] 1=b:=I;have h:aQ [a,b,c,d] 2=c:=I;have i:aQ [a,b,c,d] 3=d:=I;have r:∀j,j<1->aG (aQ [a,b,c,d] j)≠aG (aQ [a,b,c,d] 1):=λj e=>by
  obtain rfl:j=0:=Y;rw[f,g];exact k
 have s:∀j,j<2->aG (aQ [a,b,c,d] j)≠aG (aQ [a,b,c,d] 2):=λj e=>by
  rcases(by omega:j=0\/j=1)with rfl|rfl
  ·rw[f,h];exact l
  rw[g,h];exact n
 have t:∀j,j<3->aG (aQ [a,b,c,d] j)≠aG (aQ [a,b,c,d] 3):=λj e=>by
  rcases(by omega:j=0\/j=1\/j=2)with rfl|rfl|rfl
  ·rw[f,i];exact m
  ·rw[g,i];exact o
  rw[h,i];exact p
 rw[mP,jr t,mP,jr s,mP,jr r,mP,jr (λj e=>jv e (q9 j)),q]
 rfl
structure dU(fol:jb)(y s o f:Cmt):Prop where
 ys:aG y≠aG s
 yo:aG y≠aG o
 yf:aG y≠aG f
 so:aG s≠aG o
 sf:aG s≠aG f
 of:aG o≠aG f
 hf:cC (aM fol) f=0
 hs:cC (aB (aM fol) f) s=0
 hy:cC (aB (aB (aM fol) f) s) y=0
 ho:cC (aB (aB (aM fol) f) s) o=0
 auth:o.author≠y.author
 ahead:gT (aB (aB (aM fol) f) s) o y
 ro:gS o y.author=ji
section
variable {fol:jb} {y s o f:Cmt}
theorem dU.eps(h:dU fol y s o f):f.epoch=1/\s.epoch=2/\y.epoch=3/\o.epoch=3:=by
 have d:f.epoch=(aM fol).epoch+1:=(fW.1 h.hf).ep;have a:=(fW.1 h.hs).ep;have b:=(fW.1 h.hy).ep;have c:=(fW.1 h.ho).ep;rw[iG]at a b c;have e:(aM fol).epoch=0:=I;exact⟨by omega,by omega,by omega,by omega⟩
theorem dU.first(h:dU fol y s o f):fC fol (aG f) [y,s,o,f]=T ⟨3,f,aG f,0,aB (aM fol) f⟩:=by
 have b:aQ [y,s,o,f] 0=y:=I;have c:aQ [y,s,o,f] 1=s:=I;have d:aQ [y,s,o,f] 2=o:=I;have a:aQ [y,s,o,f] 3=f:=I;unfold fC;rw[show [y,s,o,f].length=4 from I,wH h.ys h.yo h.yf h.so h.sf h.of,
  rv (by rw[b,decide_eq_true_eq];exact h.yf),rv (by rw[c,decide_eq_true_eq];exact h.sf),
  rv (by rw[d,decide_eq_true_eq];exact h.of),List.find?_cons_of_pos (by rw[a,decide_eq_true_eq]),Option.bind_some,a,jr h.hf]
theorem dU.cand1(h:dU fol y s o f):eH (aB (aM fol) f) [y,s,o,f]=[bQ (aB (aM fol) f) s 1]:=by
 obtain⟨e,g,i,j⟩:=h.eps;have a:cC (aB (aM fol) f) (aQ [y,s,o,f] 0)≠0:=mj (c:=y) (by rw[iG];omega);have b:cC (aB (aM fol) f) (aQ [y,s,o,f] 2)≠0:=mj (c:=o) (by rw[iG];omega);have d:cC (aB (aM fol) f) (aQ [y,s,o,f] 3)≠0:=mj (c:=f) (by rw[iG];omega);unfold eH;rw[show [y,s,o,f].length=4 from I,wH h.ys h.yo h.yf h.so h.sf h.of,jP,mf a,jP,zR (c:=s) I h.hs,jP,mf b,
  jP,mf d,qh]
theorem dU.cand2(h:dU fol y s o f):eH (aB (aB (aM fol) f) s) [y,s,o,f]=[bQ (aB (aB (aM fol) f) s) y 0,bQ (aB (aB (aM fol) f) s) o 2]:=by
 obtain⟨d,e,g,i⟩:=h.eps;have a:cC (aB (aB (aM fol) f) s) (aQ [y,s,o,f] 1)≠0:=mj (c:=s) (by rw[iG];omega);have b:cC (aB (aB (aM fol) f) s) (aQ [y,s,o,f] 3)≠0:=mj (c:=f) (by rw[iG];omega);unfold eH;rw[show [y,s,o,f].length=4 from I,wH h.ys h.yo h.yf h.so h.sf h.of,jP,zR (c:=y) I h.hy,jP,mf a,jP,zR (c:=o) I h.ho,
  jP,mf b,qh]
theorem dU.cand3(h:dU fol y s o f){g:Grp}(i:g.epoch=3):eH g [y,s,o,f]=[]:=by
 obtain⟨j,k,l,m⟩:=h.eps;have a:cC g (aQ [y,s,o,f] 0)≠0:=mj (c:=y) Y;have b:cC g (aQ [y,s,o,f] 1)≠0:=mj (c:=s) Y;have d:cC g (aQ [y,s,o,f] 2)≠0:=mj (c:=o) Y;have e:cC g (aQ [y,s,o,f] 3)≠0:=mj (c:=f) Y;unfold eH;rw[show [y,s,o,f].length=4 from I,wH h.ys h.yo h.yf h.so h.sf h.of,jP,mf a,jP,mf b,jP,mf d,
  jP,mf e,qh]
theorem dU.list2(h:dU fol y s o f):eS (aB (aB (aM fol) f) s) [y,s,o,f]=[bQ (aB (aB (aM fol) f) s) o 2,bQ (aB (aB (aM fol) f) s) y 0]:=by
 have a:(iE (bQ (aB (aB (aM fol) f) s) o 2) (bQ (aB (aB (aM fol) f) s) y 0)<0)↔gT (aB (aB (aM fol) f) s) o y:=by
  rw[CZ (by unfold bQ;exact h.auth)];unfold bQ gT;exact Iff.rfl
 unfold eS;rw[h.cand2,EI,jE];unfold leC;rw[ql (a.2 h.ahead)]
 decide
theorem dU.win1(h:dU fol y s o f):et (aB (aM fol) f) [y,s,o,f]=T (bQ (aB (aM fol) f) s 1):=by
 unfold et eS;rw[h.cand1,xd,rk,rn];unfold fT;rw[jE (by unfold rR;rw[List.any_nil];decide)];unfold wu;rw[jr I]
theorem dU.win2(h:dU fol y s o f):et (aB (aB (aM fol) f) s) [y,s,o,f]=T (bQ (aB (aB (aM fol) f) s) o 2):=by
 unfold et;rw[h.list2];exact yB (x:=bQ (aB (aB (aM fol) f) s) o 2) (y:=bQ (aB (aB (aM fol) f) s) y 0) h.auth h.ro
theorem dU.win3(h:dU fol y s o f){g:Grp}(a:g.epoch=3):et g [y,s,o,f]=jf:=by
 unfold et eS;rw[h.cand3 a,xe,rn]
theorem rM(g:Grp)(c:Cmt)(i:jc):(bQ g c i).leads=aB g c:=by unfold bQ;dsimp only
theorem dU.chain(h:dU fol y s o f):ft fol (aG f) [y,s,o,f]=[⟨3,f,aG f,0,aB (aM fol) f⟩,bQ (aB (aM fol) f) s 1,bQ (aB (aB (aM fol) f) s) o 2]:=by
 obtain⟨c,d,e,a⟩:=h.eps;have b:(bQ (aB (aB (aM fol) f) s) o 2).leads.epoch=3:=by rw[rM,iG];exact a
 rw[zk,h.first];dsimp only;rw[vW];dsimp only;rw[h.win1];dsimp only;rw[vW,rM,h.win2];dsimp only;rw[vW,h.win3 b]
theorem dU.all(h:dU fol y s o f):sO [y,s,o,f] ⟨3,f,aG f,0,aB (aM fol) f⟩=[⟨3,f,aG f,0,aB (aM fol) f⟩,bQ (aB (aM fol) f) s 1,bQ (aB (aB (aM fol) f) s) o 2,bQ (aB (aB (aM fol) f) s) y 0]:=by
 obtain⟨j,l,b,d⟩:=h.eps;have e:eS (aB (aM fol) f) [y,s,o,f]=[bQ (aB (aM fol) f) s 1]:=by unfold eS;rw[h.cand1,xd]
 have a:∀g:Grp,g.epoch=3->eS g [y,s,o,f]=[]:=λg i=>by unfold eS;rw[h.cand3 i,xe]
 have s1:eG [y,s,o,f] ⟨3,f,aG f,0,aB (aM fol) f⟩ 1=[⟨3,f,aG f,0,aB (aM fol) f⟩,bQ (aB (aM fol) f) s 1]:=by
  rw[eG,eG,rh (c:=⟨3,f,aG f,0,aB (aM fol) f⟩) I];dsimp only;rw[e];rfl
 have s2:eG [y,s,o,f] ⟨3,f,aG f,0,aB (aM fol) f⟩ 2=[⟨3,f,aG f,0,aB (aM fol) f⟩,bQ (aB (aM fol) f) s 1,bQ (aB (aB (aM fol) f) s) o 2,bQ (aB (aB (aM fol) f) s) y 0]:=by
  rw[eG,s1,rh (c:=bQ (aB (aM fol) f) s 1) I,rM,h.list2];rfl
 unfold sO;show eG _ _ 4=_;rw[eG,eG,s2,rh (k:=2) (c:=bQ (aB (aB (aM fol) f) s) o 2) I,a _ (by rw[rM,iG];exact d),qG,
  rh (k:=3) (c:=bQ (aB (aB (aM fol) f) s) y 0) rfl,a _ (by rw[rM,iG];exact b),qG]
end
end
theorem Oy:bL 4:=by
 refine⟨by decide,by decide,?_⟩;rw[<-wA _ QN 62 L]
 decide+kernel
theorem SQ:bL 16:=by
 refine⟨by decide,by decide,?_⟩;rw[<-wA _ QN 62 L]
 decide+kernel
theorem Ny(a:0<=d)(b:d<512)(x:jb):lE (512+d) x=decide (x∈(512+d)::bW d):=by
 by_cases h:x∈(512+d)::bW d
 ·rw[ql h,ui ((pj d a b x).1 h)]
 rw[decide_eq_false h,Ex (λc=>h ((pj d a b x).2 c))]
def kY(t:jg (jb×jb))(d:jb):jg (jb×jb):=t.filter λe=> !decide (e.1∈(512+d)::bW d)
theorem ze(a:0<=d)(b:d<512)(t:jg (jb×jb)):dI t d=kY t d:=by
 unfold dI kY;refine List.filter_congr λe _=>?_
 rw[Ny a b]
def vd(b:jg (jb×jb))(d:jb)(l:jg jb):jc->jg (jb×jb)
 |0=>b
 |k+1=>en ((512+d)/2^k,l.getD k 0) (vd b d l k)
theorem Ei(t:jg (jb×jb))(d:jb)(l:jg jb):∀k,eL t d l k=vd (dI t d) d l k
 |0=>rfl
 |k+1=>by unfold eL vd;rw[Ei t d l k]
def pV:jg (jb×jb)->jC
 |[]=>ji
 |[_]=>ji
 |x::y::r=>decide (x.1<y.1)&&pV (y::r)
theorem Ig:∀{t:jg (jb×jb)} {x:jb×jb},pV (x::t)=ji->∀e∈t,x.1<e.1
 |[],x,_,e,he=>by cases he
 |y::r,x,h,e,he=>by
  simp only[pV,j7,decide_eq_true_eq]at h
  rcases List.mem_cons.1 he with rfl|he
  ·exact h.1
  have:=Ig h.2 e he;omega
theorem G2:∀{t:jg (jb×jb)},pV t=ji->Str t
 |[],_=>List.Pairwise.nil
 |[x],_=>List.pairwise_singleton _ _
 |x::y::r,h=>by
  refine sn.2 ⟨Ig h,G2 ?_⟩;simp only[pV,j7]at h;exact h.2
def ED(t:jg (jb×jb)):jC:=
 pV t&&t.all λe=>decide (1<=e.1)&&decide (e.1<=1023)&&(decide (e.2=4)||decide (e.2=16))&&t.any λf=>decide (512<=f.1)&&decide (f.1<=1023)&&decide (e.1∈f.1::bW (f.1-512))
theorem Qo(h:ED t=ji):fV t:=by
 unfold ED at h;simp only[j7,sB,wq,decide_eq_true_eq,vi]at h;refine⟨G2 h.1,λe he=>?_⟩;obtain⟨⟨⟨b,c⟩,a⟩,f,d,⟨g,j⟩,i⟩:=h.2 e he;refine⟨b,c,?_,f,d,g,?_⟩
 ·rcases a with a|a
  ·rw[a];exact Oy
  rw[a];exact SQ
 have:=(pj (f.1-512) Y Y e.1).1;rw[show 512+(f.1-512)=f.1 by omega]at this;exact this i
theorem Gb:df []=0:=tx (Qo (by decide+kernel))
theorem wh(n:jc):bL ((aY 4 n:jc):jb):=pi (a:=4) mY n
theorem Fc(h:b<512):oS (cR b):=⟨⟨by show(0:jb)<=(b:jb);omega,by show(b:jb)<512;omega⟩,.inl ⟨I,wh _,wh _,I⟩⟩
theorem D3(h:b<512)(a:M<=1048576):oS (dJ b M):=⟨⟨by show(0:jb)<=(b:jb);omega,by show(b:jb)<512;omega⟩,.inr (.inl ⟨I,I,I,by show(0:jb)<=(M:jb);omega,by show(M:jb)<=1048576;omega⟩)⟩
theorem uk{x:ar}(h:oS x):eU [x]:=⟨λy a=>by
 rw[jO]at a;rw[a];exact h,by simp,by simp⟩
theorem SP:cA []=[]:=by decide+kernel
theorem JA(a:kp d):dC (aM d) where
 fol:=a
 ep:=⟨Int.le_refl _,by show(0:jb)<=1099511627776;omega⟩
 tree:=Gb
 zero:=λ_=>⟨I,I⟩
 dev:=SP.symm
 ok:=λm b=>by cases b
theorem oM{l:jg aJ}{o:jF aJ}(h:cZ l d=o):cD l d=o.isSome:=by rw[<-uG,h]
theorem rH{m:aJ}(h:cZ a.mem d=T m):dP a d f=m.ver:=by
 unfold dP;have e:(a.mem.find? λm=>m.dev==d)=T m:=h;rw[e]
theorem Co{m:aJ}(h:cZ a.mem d=T m):dW a d=m.since:=by
 unfold dW;rw[h];rfl
theorem zG{x:ar}:m7 [x] x.d=T x:=by unfold m7;simp
theorem zv{x:ar}(h:x.d≠d):m7 [x] d=jf:=by unfold m7;simp[h]
theorem A9{x:ar}(c:cD a.mem d=ji)(g:0<a.epoch)(e:cD a.mem x.d=decide (x.k≠1))(f:x.d≠d):gN a d [x]:=
 ⟨by rw[c,ql g],λh=>by omega,λy b=>by
  rw[jO]at b;rw[b];exact⟨e,λ_=>f⟩⟩
theorem wO(e:a.epoch<1099511627776)(c:dt a d f=0)(x:1<=b)(i:b<2305843009213688669)(g:dP a d f=((aY 4 b:jc):jb)):ie a d (b:jb) f=0:=by
 unfold ie;rw[jE Y,jE (λh=>h c),jE Y,jE (λh=>h (by rw[g,qJ]))]
theorem uJ{g g':Grp}{a:jb}{x:jc}{c:jg ar}{b init:LBy}{d:jg Bx}{e:jg Wl}(h:g.folder=g'.folder)(f:g.epoch=g'.epoch)(i:g.last=g'.last):mkF g a x c b init d e=mkF g' a x c b init d e:=by
 have j:nB g a c b init d e=nB g' a c b init d e:=by unfold nB;rw[h,f,i]
 have k:dL g b init=dL g' b init:=by unfold dL;rw[f]
 have l:lH g a c b init d e=lH g' a c b init d e:=by unfold lH;rw[j,k]
 unfold mkF;rw[l]
noncomputable def bF:Cmt:=mkC (aM 3) 1 3 [cR 1] (kz 1) (kz 1) (kz 1)
noncomputable def gS1:Grp:=aB (aM 3) bF
noncomputable def bU:Cmt:=mkC gS1 1 3 [cR 0] (kz 2) (kz 1) (kz 2)
noncomputable def cW:Grp:=aB gS1 bU
noncomputable def cS3:Cmt:=mkC cW 0 2 [dJ 1 5] (kz 3) (kz 1) (kz 3)
noncomputable def cN:Cmt:=mkC cW 1 3 [dJ 0 5] (kz 4) (kz 1) (kz 4)
theorem uA(b:nv 8):(kz b).length=32:=by unfold kz;simp
theorem A7:dt (aM 3) 1 [cR 1]=0:=lC.2 ⟨JA L,uk (Fc L),⟨I,λ_=>⟨_,_,I,I⟩,λy a=>by
 rw[jO]at a;rw[a];exact⟨I,λh=>by cases h⟩⟩⟩
theorem lT:gz (aM 3) bF:=se A7 (by show(0:jb)<1099511627776;omega) I (uA _)
theorem mr:bF.chg=[cR 1]/\bF.author=1/\bF.epoch=1:=by
 refine⟨?_,?_,lT.ep.trans I⟩<;>rfl
theorem lZ:cZ gS1.mem 1=T ⟨1,1,((aY 4 3:jc):jb)⟩/\cZ gS1.mem 0=jf/\gS1.epoch=1:=by
 have a:=Ft lT (d:=1) (y:=cR 1) (by rw[mr.1];exact zG) L;have b:=zM lT (d:=0) (by rw[mr.1];exact zv L);rw[mr.2.2]at a;exact⟨a.1,b.trans I,(iG _ _).trans mr.2.2⟩
theorem A8:dt gS1 1 [cR 0]=0:=lC.2 ⟨gY lT,uk (Fc L),
 A9 (oM lZ.1) (by rw[lZ.2.2];decide) (by rw[show(cR 0).d=0 from I,oM lZ.2.1];rfl) L⟩
theorem li:gz gS1 bU:=se A8 (by rw[lZ.2.2];decide) (rH lZ.1) (uA _)
theorem nS:bU.chg=[cR 0]/\bU.author=1/\bU.epoch=2:=by
 refine⟨I,I,?_⟩;rw[li.ep,lZ.2.2];rfl
theorem fu:cZ cW.mem 1=T ⟨1,1,((aY 4 3:jc):jb)⟩/\cZ cW.mem 0=T ⟨0,2,((aY 4 2:jc):jb)⟩/\cW.epoch=2:=by
 have a:=Ft li (d:=0) (y:=cR 0) (by rw[nS.1];exact zG) L;have b:=zM li (d:=1) (by rw[nS.1];exact zv L);rw[nS.2.2]at a;exact⟨b.trans lZ.1,a.1,(iG _ _).trans nS.2.2⟩
theorem yK:dt cW 0 [dJ 1 5]=0:=lC.2 ⟨gY li,uk (D3 L L),
 A9 (oM fu.2.1) (by rw[fu.2.2];decide) (by rw[show(dJ 1 5).d=1 from I,oM fu.1];rfl) L⟩
theorem D9:gz cW cS3:=se yK (by rw[fu.2.2];decide) (rH fu.2.1) (uA _)
theorem zA:dt cW 1 [dJ 0 5]=0:=lC.2 ⟨gY li,uk (D3 L L),
 A9 (oM fu.1) (by rw[fu.2.2];decide) (by rw[show(dJ 0 5).d=0 from I,oM fu.2.1];rfl) L⟩
theorem mU:gz cW cN:=se zA (by rw[fu.2.2];decide) (rH fu.1) (uA _)
theorem iO:cS3.chg=[dJ 1 5]/\cS3.author=0/\cN.chg=[dJ 0 5]/\cN.author=1:=⟨I,I,I,I⟩
theorem SF:gT cW cN cS3:=by
 left
 rw[iO.2.2.2,iO.2.1,Co fu.1,Co fu.2.1]
 decide
theorem wn:ie (aM 3) 1 (3:jc) [cR 1]=0/\ie gS1 1 (3:jc) [cR 0]=0/\ie cW 0 (2:jc) [dJ 1 5]=0/\ie cW 1 (3:jc) [dJ 0 5]=0:=
 ⟨wO (by show(0:jb)<1099511627776;omega) A7 L L rfl,wO (by rw[lZ.2.2];decide) A8 L L (rH lZ.1),
  wO (by rw[fu.2.2];decide) yK L L (rH fu.2.1),wO (by rw[fu.2.2];decide) zA L L (rH fu.1)⟩
theorem Jq(a:aG cS3≠aG bU)(b:aG cS3≠aG cN)(c:aG cS3≠aG bF)(d:aG bU≠aG cN)(e:aG bU≠aG bF)(f:aG cN≠aG bF):dU 3 cS3 bU cN bF where
 ys:=a
 yo:=b
 yf:=c
 so:=d
 sf:=e
 of:=f
 hf:=fW.2 lT
 hs:=fW.2 li
 hy:=fW.2 D9
 ho:=fW.2 mU
 auth:=by rw[iO.2.2.2,iO.2.1];decide
 ahead:=SF
 ro:=by unfold gS;rw[iO.2.2.1,iO.2.1];decide
theorem Jv(g:Grp)(c:Cmt)(i:jc):(bQ g c i).id=aG c:=by unfold bQ;dsimp only
theorem Jl(g:Grp)(c:Cmt)(i:jc):(bQ g c i).com=c:=by unfold bQ;dsimp only
theorem ML(h:dU 3 cS3 bU cN bF)(a:jb):eI (aG bU) 0 a jn (ft 3 (aG bF) [cS3,bU,cN,bF])=decide (a<=5):=by
 have b:cD (aB (aB (aM 3) bF) bU).mem 0=ji:=oM fu.2.1;have c:¬aG bF=aG bU:=λe=>h.sf e.symm
 have d:(cN.chg.find? λx=>x.d==0&&x.k !=1)=T (dJ 0 5):=by rw[iO.2.2.1];rfl
 rw[h.chain,eI];dsimp only;rw[jE c,eI,jr (Jv _ _ _),rM,jr b,eI,Jl,d]
 rfl
theorem Ts(h:dU 3 cS3 bU cN bF):(aB cW cN).mem.length=1:=by
 have n:=gY mU;have o:=If mU (d:=0) (y:=dJ 0 5) (by rw[iO.2.2.1];exact zG) I;have g:=zM mU (d:=1) (by rw[iO.2.2.1];exact zv L);rw[fu.1]at g;have c:∀m∈(aB cW cN).mem,m=⟨1,1,((aY 4 3:jc):jb)⟩:=λm j=>by
  rcases(pI mU m).1 j with⟨f,i⟩|⟨x,a,b,rfl⟩
  ·rcases(pI li m).1 f with⟨k,p⟩|⟨x,a,b,rfl⟩
   ·rcases(pI lT m).1 k with⟨l,-⟩|⟨x,a,b,rfl⟩
    ·cases l
    rw[mr.1,jO]at a;subst a;rw[mr.2.2];rfl
   rw[nS.1,jO]at a;subst a;exact jv I (i (dJ 0 5) (by rw[iO.2.2.1];exact jO.2 I))
  rw[iO.2.2.1,jO]at a;subst a;exact jv I b
 have i:=((sV (sd mU) _ _).1 g).1;have f:=sd mU
 cases e:(aB cW cN).mem with
 |nil=>rw[e]at i;cases i
 |cons m l=>
  rcases l with _|⟨k,p⟩
  ·rfl
  rw[e]at c f;have a:=c m (qw ..);have b:=c k (qx _ (qw ..));rw[a,b]at f;simp at f
theorem Mg(a:df t=0)(b:0<=d)(c:d<512):dF t d jn=0:=by
 unfold dF;rw[jr a,jE];rintro(h|h|⟨h,-⟩)
 ·omega
 ·omega
 cases h
theorem MD(a:df t=0)(b:0<=d)(c:d<512)(e:bL H):gK t d H=0:=by
 unfold gK;rw[jr (Mg a b c),jr (gF e)]
theorem C0(c:df t=0)(a:0<=d)(b:d<512)(e:bL H):kU t d H=en (512+d,H) (kY t d):=by
 unfold kU;rw[jr (MD c a b e),ze a b]
theorem Rm(a:df t=0)(c:0<=d)(e:d<512)(b:bG t (512+d)≠jf):dF t d ji=0:=by
 unfold dF;rw[jr a,jE];rintro(h|h|⟨-,h⟩)
 ·omega
 ·omega
 exact b h
theorem Gu(c:df t=0)(a:0<=d)(b:d<512)(e:bG t (512+d)≠jf):kK t d=kY t d:=by
 unfold kK;rw[jr (Rm c a b e),ze a b]
theorem FC{l:jg jb}(h:eZ t d l=0)(a:0<=d)(b:d<512):gr t d l=vd (kY t d) d l 10:=by
 unfold gr;rw[jr h,Ei,ze a b]
theorem CH(a:LBy):∃b c d e f g h i j k:jb,dA a=[b,c,d,e,f,g,h,i,j,k]:=by
 unfold dA;exact⟨_,_,_,_,_,_,_,_,_,_,I⟩
theorem Fy(g:Grp)(c:Cmt):(aB g c).tree=gr (aX g.tree c.chg) c.author c.path:=by unfold aB;dsimp only
theorem GH:aX (aM 3).tree [cR 1]=[(513,((aY 4 3:jc):jb))]:=by
 show kU [] 1 ((aY 4 3:jc):jb)=_;rw[C0 Gb L L (wh _)]
 rfl
theorem M4:∃a b c d f g i j k l:jb,gS1.tree=[(1,l),(2,k),(4,j),(8,i),(16,g),(32,f),(64,d),(128,c),(256,b),(513,a)]:=by
 obtain⟨a,b,c,d,f,g,i,j,k,l,m⟩:=CH (kz 1);refine⟨a,b,c,d,f,g,i,j,k,l,?_⟩;have h:=lT.ren;have e:gS1.tree=gr (aX (aM 3).tree bF.chg) bF.author bF.path:=Fy _ _;have n:bF.path=dA (kz 1):=(yI (aM 3) 1 3 [cR 1] (kz 1) (kz 1) (kz 1)).2.2.2.2.2;rw[mr.1,mr.2.1,n]at h e;rw[e,FC h L L,GH,m];generalize((aY 4 3:jc):jb)=q;have:kY [(513,q)] 1=[]:=by
  unfold kY;rw[qK (by show ¬(!decide ((513:jb)∈(512+1)::bW 1))=ji;decide+kernel),qi]
 rw[this]
 rfl
theorem pz0:bW 0=[256,128,64,32,16,8,4,2,1]:=by decide+kernel
theorem pz1:bW 1=[256,128,64,32,16,8,4,2,1]:=by decide+kernel
theorem Bh:∃a:jb,aX gS1.tree [cR 0]=[(512,((aY 4 2:jc):jb)),(513,a)]:=by
 obtain⟨a,c,d,f,g,h,i,j,k,l,e⟩:=M4;have b:df gS1.tree=0:=(gY lT).tree;refine⟨a,?_⟩;show kU gS1.tree 0 ((aY 4 2:jc):jb)=_;rw[C0 b L L (wh _),e];generalize((aY 4 2:jc):jb)=q;unfold kY;rw[pz0]
 rfl
theorem Sw:∃a r1 r2 r3 b c d f g i:jb,cW.tree=[(1,i),(2,g),(4,f),(8,d),(16,c),(32,b),(64,r3),(128,r2),(256,r1),(512,((aY 4 2:jc):jb)),(513,a)]:=by
 obtain⟨m,j⟩:=Bh;obtain⟨a,r1,r2,r3,b,c,d,f,g,i,k⟩:=CH (kz 2);refine⟨a,r1,r2,r3,b,c,d,f,g,i,?_⟩;have h:=li.ren;have e:cW.tree=gr (aX gS1.tree bU.chg) bU.author bU.path:=Fy _ _;have l:bU.path=dA (kz 2):=(yI gS1 1 3 [cR 0] (kz 2) (kz 1) (kz 2)).2.2.2.2.2;rw[nS.1,nS.2.1,l]at h e;rw[e,FC h L L,j,k];generalize((aY 4 2:jc):jb)=q;unfold kY;rw[pz1]
 rfl
theorem Nn:aX cW.tree [dJ 1 5]=[(512,((aY 4 2:jc):jb))]/\∃a:jb,aX cW.tree [dJ 0 5]=[(513,a)]:=by
 obtain⟨a,r1,r2,r3,c,d,f,g,i,j,e⟩:=Sw;have b:df cW.tree=0:=(gY li).tree;refine⟨?_,a,?_⟩
 ·show kK cW.tree 1=_
  rw[Gu b L L (by rw[e];exact λh=>by cases h),e];generalize((aY 4 2:jc):jb)=q;unfold kY;rw[pz1]
  rfl
 show kK cW.tree 0=_;rw[Gu b L L (by rw[e];exact λh=>by cases h),e];generalize((aY 4 2:jc):jb)=q;unfold kY;rw[pz0]
 rfl
theorem mK(h:fV t){x:jb}(a:1<=x)(b:x<=1023):fb t x=di (bG t) (hgt x.toNat) x.toNat:=by
 have e:lS t x=0:=by unfold lS;rw[jr (tx h),jE Y]
 unfold fb;rw[jr e]
theorem R6:ig 0=[513,257,129,65,33,17,9,5,3]:=by decide+kernel
theorem zY:ig 1=[512,257,129,65,33,17,9,5,3]:=by decide+kernel
theorem wM(h:fV t)(c:ig d=[H,257,129,65,33,17,9,5,3])(a:1<=H)(e:H<=1023){r:jg (jg jb)}(f:(([H,257,129,65,33,17,9,5,3]:jg jb).map λx=>di (bG t) (hgt x.toNat) x.toNat)=r):
 eo t d=(r.zipIdx 1).flatMap λx=>x.1.map λn=>((x.2:jb),n):=by
 unfold eo fw;rw[c,<-f];simp only[j1,jY,List.zipIdx_cons,List.zipIdx_nil,List.flatMap_cons,List.flatMap_nil];rw[mK h a e,mK h (x:=257) L L,mK h (x:=129) L L,mK h (x:=65) L L,mK h (x:=33) L L,
  mK h (x:=17) L L,mK h (x:=9) L L,mK h (x:=5) L L,mK h (x:=3) L L]
theorem uU(h:dt a d f=0):fV (aX a.tree f):=by
 obtain⟨b,c,g⟩:=lC.1 h;exact(oX f _ (lP b.tree) (rm b c g)).1
theorem FG:∀p:jb,(([512,257,129,65,33,17,9,5,3]:jg jb).map λx=>di (bG [(513,p)]) (hgt x.toNat) x.toNat)=[[],[],[],[],[],[],[],[],[]]:=by intro p;kernel_rfl
theorem Tu:∀p:jb,(([513,257,129,65,33,17,9,5,3]:jg jb).map λx=>di (bG [(512,p)]) (hgt x.toNat) x.toNat)=[[],[],[],[],[],[],[],[],[]]:=by intro p;kernel_rfl
theorem Ud:∀p q:jb,(([512,257,129,65,33,17,9,5,3]:jg jb).map λx=>di (bG [(512,p),(513,q)]) (hgt x.toNat) x.toNat)=[[512],[],[],[],[],[],[],[],[]]:=by intro p q;kernel_rfl
theorem wS:eo (aX (aM 3).tree [cR 1]) 1=[]/\eo (aX gS1.tree [cR 0]) 1=[(1,512)]/\eo (aX cW.tree [dJ 1 5]) 0=[]/\eo (aX cW.tree [dJ 0 5]) 1=[]:=by
 obtain⟨e,b⟩:=Bh;obtain⟨c,f,d⟩:=Nn;refine⟨?_,?_,?_,?_⟩
 ·have a:(([512,257,129,65,33,17,9,5,3]:jg jb).map λx=>di (bG (aX (aM 3).tree [cR 1])) (hgt x.toNat) x.toNat)=[[],[],[],[],[],[],[],[],[]]:=by rw[GH];exact FG _
  rw[wM (uU A7) zY L L a]
  rfl
 ·have a:(([512,257,129,65,33,17,9,5,3]:jg jb).map λx=>di (bG (aX gS1.tree [cR 0])) (hgt x.toNat) x.toNat)=[[512],[],[],[],[],[],[],[],[]]:=by rw[b];exact Ud _ _
  rw[wM (uU A8) zY L L a]
  rfl
 ·have a:(([513,257,129,65,33,17,9,5,3]:jg jb).map λx=>di (bG (aX cW.tree [dJ 1 5])) (hgt x.toNat) x.toNat)=[[],[],[],[],[],[],[],[],[]]:=by rw[c];exact Tu _
  rw[wM (uU yK) R6 L L a]
  rfl
 have a:(([512,257,129,65,33,17,9,5,3]:jg jb).map λx=>di (bG (aX cW.tree [dJ 0 5])) (hgt x.toNat) x.toNat)=[[],[],[],[],[],[],[],[],[]]:=by rw[d];exact FG _
 rw[wM (uU zA) zY L L a]
 rfl
theorem wI:du 1 [cR 1]=[]/\du 1 [cR 0]=[cR 0]/\du 0 [dJ 1 5]=[]/\du 1 [dJ 0 5]=[]:=by
 refine⟨?_,?_,?_,?_⟩
 ·unfold du kZ
  rw[qK L,qi];simp[fh]
 ·unfold du kZ
  rw[List.filter_cons_of_pos L,qi];simp[fh]
 ·unfold du kZ
  rw[qK L,qi];simp[fh]
 unfold du kZ;rw[qK L,qi];simp[fh]
end Go.Proofs.YtpmlopbaafjefaaGreatDoor
