/- Contracts of functions that the law reaches, part 6 of 10; no condition. -/
import Derived.Test.YtjbiancnijgmgaaGreatDoorZJ5
namespace Go.Proofs.YtjbiancnijgmgaaGreatDoor
set_option maxHeartbeats 64000000
set_option maxRecDepth 100000
set_option linter.unusedVariables false
set_option linter.unusedSimpArgs false
set_option linter.unusedSectionVars false
open Go.RowKit
open Go.Proofs.Tryz
open _root_ renaming rfl->I,Int->jb,Nat->jc,List->jg,Array->jq,if_pos->jr,absurd->ju,Bool->jC,if_neg->jF,Option->jG,BitVec->n0,congrArg->ql,of_decide_eq_true->qL,decide_eq_true->qO
open Go.RowKit renaming Hid->N,Below->jk
open _root_.Option renaming some->T,none->jf,bind_some->r6,none_or->xa,bind_none->xd
open Go.Value renaming slice->A,agg->jh,pointer->jt,tuple->jI,string->qn
open Go.Obj renaming cells->ja
open Go.Value renaming int->jd
open Go.IntKind renaming i64->je
open _root_.Bool renaming true->ji,false->jn,and_eq_true->nv,or_eq_true->xj
open Go renaming World->jj,Value->jl,undef->jm,setRow_other->js,Calls->jB,Oper->jK,wp_region_noPanic->jL,TypeId->jM,execOp->jQ,wp_store_row->jR,setRow_heap->jT,wp_region_lit->jX,Operand->j0,wpList_load_row->j7,below_setRow->ob,Program->p6,wpList_plain->qa,wpOp_step->qd,bodyPost_ret_by->qk,callsIn_wide->qM,run_takeDeferred->qN,wp_store_mid->qQ,callsIn_of_wp_marks->sl,bodyPost_ret->sq,results_cell_row->sv
open Go.Proofs.Tryz renaming prog->jo
open Go.World renaming size_alloc->jp,alloc_heap_new->jy,putObj_heap_other->nn,cell?_of_block->qv,ownsRow_nil->qX
open _root_.List renaming size_toArray->jv,length_map->jw,filterMap_cons->jN,mem_singleton->jP,getElem?_eq_some_iff->jU,map_nil->jY,length_cons->jZ,map_cons->j1,mem_of_getElem?->j3,getElem?_toArray->ms,map_append->mz,mem_append->ow,mem_cons_self->o1,mem_cons_of_mem->o3,length_append->o5,getElem?_append_left->o8,map_toArray->qb,filterMap_nil->qc,mem_map->qf,nil_append->qg,filter_nil->qj,take_of_length_le->qs,find?_eq_none->qt,length_nil->qw,push_toArray->qB,append_toArray->qC,cons_append->qD,append_nil->qE,getElem?_cons_succ->qF,find?_cons->qG,length_take->qI,filter_cons_of_neg->qK,find?_append->qS,getElem?_map->qT,append_assoc->qV,append_inj'->qY,setIfInBounds_toArray->qZ,set_cons_zero->q7,set_cons_succ->q8,mem_of_getLast?->rk,find?_nil->rv,getD_eq_getElem?_getD->r4,foldl_cons->r7,foldl_nil->r8,find?_cons_of_neg->r9,take_append_drop->sx,getElem?_eq_getElem->sy,pairwise_cons->vi,getElem?_append_right->wq,filter_congr->wt,mem_range->wv,length_singleton->wx,mem_append_left->xe,mem_append_right->xf,replicate->xg,tail_drop->xh,all_eq_true->xi,mergeSort->xk,nodup_cons->xm,mem_iff_getElem?->xo,pairwise_map->xq,mergeSort_singleton->xr,mergeSort_nil->xt
open Go.Ending renaming returned->jz
open _root_.Array renaming getElem?_eq_some_iff->jA,all_eq_true_iff_forall_mem->jS,size_append->j8,all_append->j9,replicate->qh,replicate_succ->qz,replicate_zero->qA,toArray_toList->qU
open _root_.Nat renaming le_refl->jD,le_trans->jE,lt_of_lt_of_le->jJ,zero_le->jO,le_of_eq->j5,le_succ->j6,add_assoc->qo,add_comm->qu,reduceAdd->qx,reduceSub->qy,succ_pos->qW,le_add_right->q9,lt_irrefl->rn,lt_trichotomy->xl,not_lt_zero->xn
open Go.Value renaming int->jH,oneCell'->j4,slice->qi,ownBlock->wi
open Go.Proofs renaming intOf->jV
open Go.Proofs.Tryz renaming underlying63->jW,underlying34->oj,underlying45->qP,underlying80->sh,underlying56->sn
open Go.NoPanic renaming normal->pz
open Go.RowKit.Below renaming refl->qe
open _root_.Int renaming eq_ofNat_of_zero_le->qH,toNat_natCast->qJ
variable{o:Act}{U:CQ}{j:Cmt}{i:Exit->Act->jj->Prop}{e:Grp}{p seed:LBy}{P Q:Prop}{H:Type}{x:aN}{R:j0}{C:jK}{r:jM}{K d:jb}{B M b:jc}{D E Ψ:jc->Prop}{t:jg (jb×jb)}{a:jg Cmt}{S:jg aN}{f:jg ap}{u:jg jl}{W w w':jj}{m:jl}{V:jq jK}
theorem M8(l:jg Cmt)(P:jg jc)(d:LBy)(k:d.length=32)(v:jl)(w:jj)(h:cF w v 32 P.length (iX l P))(H:P.length<=1000000):
 jB jo 108 #[v,jh (d.map v8).toArray] w λe w'=>∃r,e=jz (jd je r)/\m9 (λi=>decide (aG (aP l i)=d)) P r/\jk w w w':=by
 obtain⟨-,q,c,rfl,K,-,p⟩:=h;have x:=O p;obtain⟨n,o⟩:=J P.length;have B:=O o;rw[<-o]at H K x⊢;obtain⟨a,f⟩:=J ((d.map v8).toArray);have M:=O f;have Q:N (a.size=VD.n):=O (by rw[f,jv,jw,k];rfl);obtain⟨m,g⟩:=J (w.alloc (ja a 23));have b:N (jk w w m):=O (by rw[g];exact ao _ _);have R:N (m.heap[w.heap.size]?=T (ja a VD.t (0,0))):=O (by rw[g];exact jy _ _);have s:=O g;have S:=O k;rw[<-f];clear o p f g k
 go_enter func108,ntmps108
 go_upto_region 1 with fail
 rw[<-s];clear s
 go_wp2_with fail
 go_loopw [8] (λi wr=>∃k:jc,i=jd je k/\k<=n/\N (∀y∈P.take k,decide (aG (aP l y)=d)=jn)/\N (jk m m wr)) (λi _=>n-(jV i).toNat)
 case atStart=>exact⟨0,I,jO _,O ar,O (qe _ _)⟩
 obtain⟨k,rfl,hk,p,i⟩:=hrel
 by_cases V:k<n
 ·have W:=aA ((k:jb)<(n:jb))
  have X:=aA (k<n);obtain⟨e,he,C⟩:=dL (l:=P) (j:=k) (by rw[<-B];exact V);obtain⟨g,o,rfl,D⟩:=x Y;have E:N (wr.rangeAt g (o+k*32) ((aG (aP l e)).map v8)):=O λt u ht=>by
   rw[qo];exact aB (D _ u (BC he ht)) (b.trans (i.mono b.size))
  have Wp:=O (av R i);obtain⟨r,f⟩:=J (decide (aG (aP l e)=d));obtain⟨U,s⟩:=J (((aG (aP l e)).map v8).toArray);have ad:∀z,(Op.equalIn 10000 23 (jh a) (jh U)).run jo z=.ok r z:=by
   rw[M,s,f,show decide (aG (aP l e)=d)=decide (d=aG (aP l e))from decide_eq_decide.2 ⟨Eq.symm,Eq.symm⟩];exact λz=>nZ _ _ S.out (dX _) z
  have F:=O f;have HU:=O s;have VO:=O C;have HE:=O he;have aa:N (((aG (aP l e)).map v8).length=VD.n):=O (by rw[jw,dX];rfl);clear D he C f s
  go_upto_region 4 with fail
  refine jL ?_;refine fb (λf=>f.heap[w.heap.size]?=T (ja a VD.t (0,0))/\f.rangeAt g (o+k*32) ((aG (aP l e)).map v8)) 6 (.t 0 (.t 1 (.t 2 (.t 3 (.t 4 (.t 5 .done)))))) af af af af G (λ_ _ _ _ h=>h) ⟨Wp,E⟩ ?_
  (refine cD (v:=jh a) I aj (λf s=>cU VD.hu VD.hd (by rw[Q];exact VD.hi) I I s.1) ?_;refine L ?_)
  iterate 3 refine bX ?_
  (refine cD (v:=jh U) I aj (λf s=>by rw[HU];exact fk _ _ VD.t _ I _ _ I _ VD.d s.2 VD.hu VD.hd (by rw[aa];exact VD.hi)) ?_;refine L ?_)
  refine bX ?_;refine eH ?_;have f:=bV wr;obtain⟨D,s⟩:=J wr.drew;rw[<-s]at f⊢;have C:=ah i f;clear f s E
  rcases r with _|_
  ·go_wp2_with fail
   exact⟨⟨k+1,by go_num,by omega,O (by
    rw[VO];intro y f
    rcases ow.1 f with f|f
    ·exact p y f
    rw[jP]at f;rw[f];exact F.symm),C⟩,by simp only[jV];omega⟩
  go_wp2_with fail
  go_ret;exact⟨_,I,.inr ⟨k,_,I,HE,F.symm,p⟩,b.trans (C.mono b.size)⟩
 have W:=az ((k:jb)<(n:jb));have X:=az (k<n);obtain rfl:k=n:=Y
 go_wp2_with fail
 go_ret;exact⟨_,I,.inl ⟨I,by have h:=p.out;rw[qs (by rw[<-B];exact jD _)]at h;exact h⟩,b.trans (i.mono b.size)⟩
def dc(a:jb)(b:LBy):jg jl:=jd je a::b.map v8
noncomputable def VF:VarT jo:=⟨25,33,(dc 0 cH).toArray,_,underlying25,I,by kernel_rfl,rfl,λ_=>by kernel_rfl⟩
theorem Bg{P:p6}{S:jj->Prop}{x y:bE}(d:cV P V i S b (.o M x) o w)(e:cV P V i S b (.o B y) o w):cV P V i S b (.w M B x y) o w:=⟨d,e⟩
theorem Na(b:C.op=.build 45 #[(0,R)])(c:o.eval R=jd je d)(W:jj):
 (jQ o.eval C).run jo W=.ok (.value (jh (aD (aJ d) (A jf 0 0) (A jf 0 0)).toArray)) W:=by
 have f:=uG (P:=jo) (t:=45) (zero:=jh VG.Z) (places:=#[(0,1),(1,1),(2,32),(34,1),(35,1)]) (λw=>by kernel_rfl) VG.hu (λw=>by kernel_rfl) (parts:=#[(0,jd je d)]) (X:=(aD (aJ d) (A jf 0 0) (A jf 0 0)).toArray) af W;simp only[jQ,b,qb,j1,jY,c,Sem.run_bind,f,Result.andThen_ok,Sem.run_pure]
theorem m9.find{p:H->jC}{l:jg H}(h:m9 p l d):(d= -1/\l.find? p=jf)\/∃(k:jc) (x:H),d=k/\l[k]?=T x/\l.find? p=T x:=by
 rcases h with⟨b,a⟩|⟨k,x,b,a,c,r⟩
 ·exact .inl ⟨b,qt.2 λx e=>by rw[a x e];decide⟩
 refine .inr ⟨k,x,b,a,?_⟩;have g:=(jU.1 a).1;have e:l=l.take k++x::l.drop (k+1):=by
  rw[<-(jU.1 a).2,List.getElem_cons_drop,sx]
 rw[e,qS,qt.2 λy f=>by rw[r y f];decide];simp[c]
theorem G6(a:jb)(w:jj):bU w (aJ a) (A jf 0 0) (A jf 0 0):=⟨EK.At.nil,oM w,I⟩
theorem yy(k:Q)(h:Q->P:=by intro k;refine cD (v:=?_) rfl aj (λW' hS=>?_) ?_;rotate_left;(have b1:=ai (i:=0) hS.1 rfl;clear hS;go_simp;with_reducible rfl);refine L ?_;exact k):P:=h k
theorem tX(k:Q)(h:Q->P:=by intro k;refine cD (v:=?_) rfl aj (λW' hS=>?_) ?_;rotate_left;(have b1:=ai (i:=2) hS.1 rfl;clear hS;go_simp;with_reducible rfl);refine L ?_;exact k):P:=h k
theorem ue(k:Q)(h:Q->P:=by intro k;refine cD (v:=?_) rfl aj (λW' hS=>?_) ?_;rotate_left;(have b1:=hS.2.2.2.1;clear hS;go_simp;with_reducible rfl);refine L ?_;exact k):P:=h k
theorem Fx(Ux:jg CP)(v1 v2 v3:jl)(x:jb)(UJ:LBy)(i:UJ.length=32)(w:jj)(q:io (·<w.heap.size) w v1 v2 v3 Ux)(V:∀p∈Ux,cY (aR p.1))(W:bQ w)(hn:Ux.length<=1000):
 jB jo 48 #[jh #[v1,v2,v3],jh (dc x UJ).toArray] w λe w'=>∃f o,e=jz (jI #[jh f,.bool o])/\f.size=VK.n/\f.all (·.oneCell')=ji/\
  (o=ji->∃k,f=(aK k).toArray/\KD (λb=>w.heap.size<=b/\b<w'.heap.size) Ux w' k/\eI x UJ (Ux.map (·.1))=T k.cand)/\(o=jn->eI x UJ (Ux.map (·.1))=jf)/\jk w w w':=by
 obtain⟨l,r⟩:∃l:jg Cmt,l=Ux.map (·.1):=⟨_,I⟩;obtain⟨PL,z⟩:=J (bH l l.length);have K:l.length=Ux.length:=by rw[r,jw]
 have bl:PL.length<=1000:=by rw[z];have:=sd l l.length;omega
 have R:=q.ids;have B:=q.at_;rw[<-r,<-K,<-z]at R B;obtain⟨p1,k1,rfl⟩:=q.list.form;obtain⟨p2,k2,rfl⟩:=R.form;obtain⟨p3,k3,rfl⟩:=B.form;have HL:=O q.list;have HI:=O R;have HA:=O B;have HE:=O V;have HT:=O W;have bm:=O r;have WE:=O z;have bg:=O i;obtain⟨n,C⟩:=J Ux.length;obtain⟨F,D⟩:=J PL.length;have ZJ:=O C;have bn:=O D;have VR:N (l.length=n):=O (K.trans C.symm);rw[<-C]at hn⊢;rw[<-D]at bl HI HA⊢;rw[<-r];obtain⟨FA,y⟩:=J ((dc x UJ).toArray);have ZK:N (FA.size=VF.n):=O (by rw[y,jv];unfold dc;rw[jZ,jw,i];rfl);have bo:N (FA[0]?=T (jd je x)):=O (by rw[y];rfl);have Z5:N (∀(j:jc) u,(UJ.map v8)[j]?=T u->FA[1+j]?=T u):=O λj u hj=>by
  rw[y,qu]
  simpa [dc]using hj
 have Yo:N ((UJ.map v8).length=VD.n):=O (by rw[jw,i];rfl);rw[<-y];obtain⟨M,d⟩:=J w.heap.size;have HM:=O d;obtain⟨W0,c⟩:=J (((w.alloc (ja #[A p1 n k1,A p2 F k2,A p3 F k3] 76)).alloc (ja FA 25)).alloc (ja VK.Z VK.t));have P:=ao w (ja #[A p1 n k1,A p2 F k2,A p3 F k3] 76);have Q:=P.trans ((ao (w.alloc (ja #[A p1 n k1,A p2 F k2,A p3 F k3] 76)) (ja FA 25)).mono P.size);have E:=ao ((w.alloc (ja #[A p1 n k1,A p2 F k2,A p3 F k3] 76)).alloc (ja FA 25)) (ja VK.Z VK.t);have S:N (W0.heap[M]?=T (ja #[A p1 n k1,A p2 F k2,A p3 F k3] 76 (0,0))):=O (by rw[c,d];exact av (av (jy w _) (ao _ _)) E);have U:N (W0.heap[M+1]?=T (ja FA VF.t (0,0))):=O (by
  have h:=jy (w.alloc (ja #[A p1 n k1,A p2 F k2,A p3 F k3] 76)) (ja FA 25);rw[jp]at h;rw[c,d];exact av h E)
 have X:N (W0.heap[M+2]?=T (ja VK.Z VK.t (0,0))):=O (by
  have h:=jy ((w.alloc (ja #[A p1 n k1,A p2 F k2,A p3 F k3] 76)).alloc (ja FA 25)) (ja VK.Z VK.t);rw[jp,jp]at h;rw[c,d];exact h)
 have UB:N (jk w w W0):=O (by rw[c];exact Q.trans (E.mono Q.size));have bp:N (W0.heap.size=M+3):=O (by rw[c,d,jp,jp,jp]);have HW:=O c;have aa:N (W0.rangeAt (M+1) 1 (UJ.map v8)):=O λt u m=>ai U (Z5 t u m)
 have H:=M8 l PL UJ i (A p2 PL.length k2) W0 ((R.keep λg hg=>UB.block g hg).row) Y;rw[<-D]at H;obtain⟨TF,g⟩:=J ((UJ.map v8).toArray);rw[<-g]at H;have au:=O g;have ad:=O H;clear g;clear H P Q E c d y C D r K z R B q V W i
 go_enter func48,ntmps48
 go_upto_region 1 with(first|(refine VK.made I I (L ?_)))
 rw[<-HW];simp only[jp];rw[show w.heap.size+1+1=w.heap.size+2 from I,<-HM];clear HW;have g:=ai (i:=1) S I
 go_upto_region 2 with(first|(refine VD.load aj I I (UJ.map v8) Yo aa ?_;rw[<-au];refine L ?_))
 refine ad.mono ?_;rintro e x1 ⟨r,rfl,d,c⟩;have HB:=O c;have V:N (jk w w x1):=ah UB c;have H:=ae S c;have K:=ae U c;have y:=ae X c;have bq:=d.find;clear d c ad aa S U X g
 rcases bq with⟨rfl,c⟩|⟨kk,i,rfl,g,c⟩
 ·have HF:N (eI x UJ l=jf):=O (by unfold eI;rw[<-WE,c];rfl)
  clear c
  go_wp2_with (first|(refine VK.loadA aj I I VK.Z VK.hZ y (L ?_))|(refine VK.store I I I VK.Z I VK.hZ af y VK.hZ ?_;rw[setRow_self _ _ _ _ _ y.out];refine L ?_))
  refine qk (fQ I _ _ (M+2) VK.t VK.Z (0,0) _ I y sh I (by rw[VK.hZ];exact VK.hi)) I ?_;exact⟨_,_,I,VK.hZ,by kernel_rfl,(λh=>by cases h),(λ_=>HF),V⟩
 have HF:N (eI x UJ l=if cA (aJ x) (aP l i)=0 then T ⟨i,aP l i,UJ,0,aC (aJ x) (aP l i)⟩else jf):=O (by unfold eI;rw[<-WE,c];rfl);have bw:kk<F:=by rw[bn];exact(jU.1 g).1
 have br:i<n:=by
  have h:=j3 g;rw[WE]at h;have R:=(lY.1 h).1;rw[VR]at R;exact R
 have hd:decide ((kk:jb)<0)=jn:=by simp<;>omega
 have bA:=aA (kk<F);have hd2:=aA (i<n);obtain⟨ga,oa,ka,e3,D,-,E⟩:=HA.at1 Y;injection e3 with e1 z e2
 subst e1;subst e2;clear z;obtain⟨⟨q,qm⟩,d⟩:∃p,Ux[i]?=T p:=⟨_,sy (by rw[<-ZJ];exact br)⟩;obtain⟨W,ol,kl,e5,S,-,-,U⟩:=HL.elem d;injection e5 with e1 z e2
 subst e1;subst e2;clear z;have z:=j3 d;have P:N (x1.cell? ⟨ga,oa+kk,jf⟩=T (jd je (i:jc))):=O (aB (E kk _ (by unfold iV;rw[qT,g];rfl)) V);have Q:N (x1.rangeAt W (ol+i*73) (aF q qm)):=O λj u hj=>aB (U j u hj) V
 have HQ:=O (HL.all _ z);have bh:=O (HE _ z);have bi:=O d;have a5:N (aP l i=q):=O (by unfold aP;rw[bm];simp[List.getD,d]);have VJ:N ((aF q qm).length=VC.n):=O (dx q qm HQ.plen HQ.clen);obtain⟨C,B⟩:=J ((aF q qm).toArray);have WZ:=O B;have VU:N (C.size=VC.n):=O (by rw[B,jv];exact VJ);obtain⟨G0,X⟩:=J ((aD (aJ x) (A jf 0 0) (A jf 0 0)).toArray);have a6:=O X;have ay:N (cA (aJ x) (aP l i)=cA (aJ x) q/\aC (aJ x) (aP l i)=aC (aJ x) q):=O (by rw[a5];exact⟨I,I⟩);have Zo:N (ga<M/\W<M):=O ⟨by rw[HM];exact D,by rw[HM];exact S⟩;clear B X z d U E D S c g
 go_upto_region 4 with fail
 refine jL ?_;refine fb (λg=>g.heap[M]?=T (ja #[A (T ⟨W,ol,jf⟩) n k1,A p2 F k2,A (T ⟨ga,oa,jf⟩) F k3] 76 (0,0))/\g.heap[M+1]?=T (ja FA VF.t (0,0))/\g.heap[M+2]?=T (ja VK.Z VK.t (0,0))/\g.cell? ⟨ga,oa+kk,jf⟩=T (jd je (i:jc))/\g.rangeAt W (ol+i*73) (aF q qm)) 19
  (.t 0 (.t 1 (.t 2 (.t 3 (.t 4 (.t 5 (.t 6 (.t 7 (.t 8 (.t 9 (.t 10 (.t 11 (.w 12 16 (.t 13 (.t 14 (.t 15 (.o 16 (.o 17 (.t 18 .done)))))) (.o 12 (.t 13 (.t 14 (.t 15 (.o 17 (.t 18 .done))))))))))))))))))) af af af af G (λ_ _ _ _ h=>h) ⟨H,K,y,P,Q⟩ ?_
 have c:=bV x1;obtain⟨x2,hx⟩:=J x1.drew;rw[<-hx]at c⊢;replace HB:=ah HB c;replace V:=ah V c;replace H:=ae H c;replace K:=ae K c;replace y:=ae y c;replace P:=O (aB P c);replace Q:N (x2.rangeAt W (ol+i*73) (aF q qm)):=O (λt u m=>aB (Q t u m) c);have a4:N (M+3<=x2.heap.size):=O (by rw[<-bp];exact HB.size);clear hx c;refine bX ?_
 (refine cD (v:=?_) I aj (λg S=>?_) ?_;rotate_left;(have d:=ai (i:=0) S.2.1 bo;clear S;go_simp;with_reducible rfl);refine L ?_)
 (refine cD (v:=jh G0) I aj (λg S=>by rw[a6];exact Na I I g) ?_;refine L ?_)
 refine bX ?_;refine yy ?_;refine bX ?_;refine tX ?_;iterate 2 refine bX ?_
 refine ue ?_;refine bX ?_
 (refine cD (v:=jh C) I aj (λg S=>by rw[WZ];exact fk _ _ VC.t _ I _ _ I _ VC.d S.2.2.2.2 VC.hu VC.hd (by rw[VJ];exact VC.hi)) ?_;refine L ?_)
 refine Bg ?_ ?_
 ·refine cO I (λK' B=>?_)
  go_simp;have hN:=AY (aJ x) (A jf 0 0) (A jf 0 0) q qm x2 (G6 x _) (HQ.below V) bh (HT.below V) (jO _) (jO _);rw[<-a6,<-WZ]at hN;refine hN.mono ?_;clear hN;rintro e x3 ⟨X,er,rfl,hN⟩;have z:=O hN;clear hN;have U:=O z.bel;refine B _ _ ⟨av H (U),av K (U),av y (U),aB P (U),λt u m=>aB (Q t u m) (U)⟩ λ_=>?_
  clear B;refine L ?_;iterate 3 refine bX ?_
  refine cO I (λK' B=>?_);rw[jr aj];refine fS VG.t I VG.Z VG.hal ?_;have d:=U.trans ((ao x3 (ja VG.Z VG.t)).mono U.size);refine B _ _ ⟨av H (d),av K (d),av y (d),aB P (d),λt u m=>aB (Q t u m) (d)⟩ λ_=>?_
  clear B d;refine L ?_;refine cO I (λK' B=>?_);rw[jr aj];refine jR VG.t _ _ I x3.heap.size X I I VG.t VG.Z (jy x3 _) (by rw[z.sz];exact VG.hi) (VG.hZ.trans z.sz.symm) z.one ?_;rw[yq];obtain⟨x5,b7,hx,d,Wz,aa⟩:=dl x3 X VG.t;rw[<-hx,<-d];have Z3:N (M+3<=b7):=O (by rw[d];exact jE a4 U.size);have VE:N (er=0->∃D E,X=(aD (aC (aJ x) q) D E).toArray/\dN (λk=>M+3<=k/\k<x5.heap.size) x5 (aC (aJ x) q) D E):=O λh=>by
   obtain⟨D,E,e1,R⟩:=z.new h;exact⟨D,E,e1,(R.below aa).mono λb d=>⟨jE a4 d.1,d.2⟩⟩
  have c:=U.trans (aa.mono U.size);refine B _ _ ⟨av H (c),av K (c),av y (c),aB P (c),λt u m=>aB (Q t u m) (c)⟩ λ_=>?_
  replace HB:=ah HB c;replace V:=ah V c;replace H:=ae H c;replace K:=ae K c;replace y:=ae y c;replace P:=O (aB P c);replace Q:N (x5.rangeAt W (ol+i*73) (aF q qm)):=O (λt u m=>aB (Q t u m) c);clear c;clear B hx d aa;refine L ?_;refine bX ?_;refine eH ?_;obtain⟨o,ho⟩:=J (decide (er=0));have a1:=O ho;have bs:(er==0)=o:=by rw[ho];by_cases h:er=0<;>simp[h]
  have bu:decide (er=0)=o:=ho.symm;clear ho
  go_upto_region 5 with fail
  refine jL ?_;refine fb (λg=>g.heap[M]?=T (ja #[A (T ⟨W,ol,jf⟩) n k1,A p2 F k2,A (T ⟨ga,oa,jf⟩) F k3] 76 (0,0))/\g.heap[M+1]?=T (ja FA VF.t (0,0))/\g.heap[b7]?=T (ja X VG.t (0,0))/\g.cell? ⟨ga,oa+kk,jf⟩=T (jd je (i:jc))/\g.rangeAt W (ol+i*73) (aF q qm)) 22
   (.t 0 (.t 1 (.t 2 (.t 3 (.t 4 (.t 5 (.t 6 (.t 7 (.t 8 (.t 9 (.t 10 (.t 11 (.t 12 (.t 13 (.t 14 (.t 15 (.t 16 (.t 17 (.t 18 (.t 19 (.o 20 (.t 21 .done)))))))))))))))))))))) af af af af G (λ_ _ _ _ h=>h) ⟨H,K,Wz,P,Q⟩ ?_
  have c:=bV x5;obtain⟨x6,hx⟩:=J x5.drew;rw[<-hx]at c⊢;replace V:=ah V c;replace H:=ae H c;replace K:=ae K c;replace y:=ae y c;replace Wz:=ae Wz c;replace P:=O (aB P c);replace Q:N (x6.rangeAt W (ol+i*73) (aF q qm)):=O (λt u m=>aB (Q t u m) c);have ba:=O c;clear hx c;refine bX ?_;refine tX ?_;iterate 2 refine bX ?_
  refine ue ?_;refine bX ?_;refine yy ?_;refine bX ?_;refine tX ?_;iterate 2 refine bX ?_
  refine ue ?_;refine bX ?_
  (refine cD (v:=jh C) I aj (λg S=>by rw[WZ];exact fk _ _ VC.t _ I _ _ I _ VC.d S.2.2.2.2 VC.hu VC.hd (by rw[VJ];exact VC.hi)) ?_;refine L ?_)
  refine bX ?_
  (refine cD (v:=jh TF) I aj (λg S=>by rw[au];exact fk _ _ VD.t _ I (M+1) 1 I _ VD.d (λt u m=>ai S.2.1 (Z5 t u m)) VD.hu VD.hd (by rw[Yo];exact VD.hi)) ?_;refine L ?_)
  (refine cD (v:=jh X) I aj (λg S=>cU VG.hu VG.hd (by rw[z.sz];exact VG.hi) I I S.2.2.1) ?_;refine L ?_)
  have Zy:N (TF.size=32):=O (by rw[au,jv];exact Yo);obtain⟨f,hY⟩:=J ((#[jH .i64 (i:jc)]++C++TF++ #[jH .i64 (0:jb)]++X))
  (refine cD (v:=jh f) I aj (λg S=>by rw[hY];exact zA (i:=(i:jc)) (s:=0) (C:=C) (I0:=TF) (G0:=X) VU Zy z.sz I af g) ?_;refine L ?_)
  have YA:N (f.size=VK.n):=O (by rw[hY,j8,j8,j8,j8,VU,Zy,z.sz];rfl);have a2:N (f.all (·.oneCell')=ji):=O (by
   have Wq:C.all (·.oneCell')=ji:=by rw[WZ,jS];exact λu hu=>lU HQ u (ak hu)
   have Vp:TF.all (·.oneCell')=ji:=by rw[au];exact fi _
   rw[hY,j9,j9,j9,j9,z.one,Wq,Vp];simp[j4])
  have bb:=O hY;clear hY;iterate 2 refine bX ?_
  refine cO I (λK' B=>?_);rw[jr aj];refine jR VK.t _ _ I (M+2) f I I VK.t VK.Z y.out (by rw[YA];exact VK.hi) (VK.hZ.trans YA.symm) a2 ?_;have aa:∀b,b≠M+2->(x6.setRow (M+2) f).heap[b]?=x6.heap[b]?:=λb d=>js _ _ _ _ d
  have ax:jk w w (x6.setRow (M+2) f):=iP V.out (by rw[<-HM];omega) f;have ad:(x6.setRow (M+2) f).heap.size=x6.heap.size:=setRow_size _ _ _;have a3:N ((x6.setRow (M+2) f).heap[M+2]?=T (ja f VK.t (0,0))):=O (jT _ _ _ _ _ _ y.out);generalize x6.setRow (M+2) f=x7 at aa ax ad a3⊢;refine B _ _ ⟨(aa M Y).trans H,(aa (M+1) Y).trans K,(aa b7 (aI Z3)).trans Wz,(qv (a:=⟨ga,oa+kk,jf⟩) (aa ga (cT Zo.1))).trans P,λt u m=>(qv (a:=⟨W,ol+i*73+t,jf⟩) (aa W (cT Zo.2))).trans (Q t u m)⟩ λ_=>?_
  have bc:N (er=0->∃D E,X=(aD (aC (aJ x) q) D E).toArray/\dN (λk=>M+3<=k/\k<x7.heap.size) x7 (aC (aJ x) q) D E):=O λh=>by
   obtain⟨D,E,e1,R⟩:=VE h;exact⟨D,E,e1,((R.below ba).keep λb d=>aa b Y).mono λb d=>⟨d.1,by rw[ad];exact d.2⟩⟩
  have bd:=O ax;clear B aa ad ax VE;refine L ?_;refine bX ?_;refine eH ?_
  go_wp2_with fail
  refine qk (fQ I _ _ (M+2) VK.t f (0,0) _ I a3 sh I (by rw[YA];exact VK.hi)) I ?_;refine⟨f,o,I,YA,a2,λh=>?_,λh=>?_,bd⟩
  ·have h0:er=0:=qL (a1.out▸h)
   obtain⟨D,E,e1,R⟩:=bc h0;refine⟨⟨i,(q,qm),UJ,0,aC (aJ x) q,D,E⟩,?_,KD.of bi (R.mono λb d=>⟨by rw[<-HM];omega,d.2⟩) bg,?_⟩
   ·rw[bb,WZ,au,e1,<-Ar,qU]
   rw[HF,ay.1,ay.2,jr (z.eq.symm.trans h0),a5];exact ql T CK.cand_of.symm
  have h0:¬er=0:=of_decide_eq_false (a1.out▸h);rw[HF,ay.1,jF (λe=>h0 (z.eq.trans e))]
 refine cO I (λK' B=>?_);rw[jr aj];refine fS VG.t I VG.Z VG.hal ?_;obtain⟨x3,b7,hx,d,bv,bf⟩:=dl x2 VG.Z VG.t;rw[<-hx,<-d];have UX:N (b7=x2.heap.size/\x3.heap.size=b7+1):=O ⟨d,by rw[hx,d,jp]⟩;have U:=O bf;have bk:=ah V bf;refine B _ _ ⟨av H (U),av K (U),av y (U),aB P (U),λt u m=>aB (Q t u m) (U)⟩ λ_=>?_
 clear B hx d bf;refine L ?_;refine cO I (λK' B=>?_);go_simp;have hN:=AY (aJ x) (A jf 0 0) (A jf 0 0) q qm x3 (G6 x _) (HQ.below bk) bh (HT.below bk) (jO _) (jO _);rw[<-a6,<-WZ]at hN;refine hN.mono ?_;clear hN;rintro e x4 ⟨X,er,rfl,hN⟩;have z:=O hN;clear hN;have UK:=O (U.trans (z.bel.mono U.size));have bf:=O (av bv z.bel);refine B _ _ ⟨av H (UK),av K (UK),av y (UK),aB P (UK),λt u m=>aB (Q t u m) (UK)⟩ λ_=>?_
 clear B;refine L ?_;iterate 3 refine bX ?_
 refine cO I (λK' B=>?_);rw[jr aj];refine jR VG.t _ _ I b7 X I I VG.t VG.Z bf.out (by rw[z.sz];exact VG.hi) (VG.hZ.trans z.sz.symm) z.one ?_;have Wz:N ((x4.setRow b7 X).heap[b7]?=T (ja X VG.t (0,0))):=O (jT _ _ _ _ _ _ bf.out);have c:jk x2 x2 (x4.setRow b7 X):=iP UK.out (by rw[UX.1];exact jD _) X;have YQ:∀b,x3.heap.size<=b->(x4.setRow b7 X).heap[b]?=x4.heap[b]?:=λb d=>js _ _ _ _ (cT UX.2)
 have ad:(x4.setRow b7 X).heap.size=x4.heap.size:=setRow_size _ _ _;generalize x4.setRow b7 X=x5 at Wz c YQ ad⊢;have Z3:N (M+3<=b7):=O (by rw[UX.1];exact a4);have VE:N (er=0->∃D E,X=(aD (aC (aJ x) q) D E).toArray/\dN (λk=>M+3<=k/\k<x5.heap.size) x5 (aC (aJ x) q) D E):=O λh=>by
  obtain⟨D,E,e1,R⟩:=z.new h;exact⟨D,E,e1,(R.keep λb d=>YQ b d.1).mono λb d=>⟨jE a4 (jE U.size d.1),by rw[ad];exact d.2⟩⟩
 refine B _ _ ⟨av H (c),av K (c),av y (c),aB P (c),λt u m=>aB (Q t u m) (c)⟩ λ_=>?_
 replace HB:=ah HB c;replace V:=ah V c;replace H:=ae H c;replace K:=ae K c;replace y:=ae y c;replace P:=O (aB P c);replace Q:N (x5.rangeAt W (ol+i*73) (aF q qm)):=O (λt u m=>aB (Q t u m) c);clear c;clear B YQ ad;refine L ?_;refine bX ?_;refine eH ?_;obtain⟨o,ho⟩:=J (decide (er=0));have a1:=O ho;have bs:(er==0)=o:=by rw[ho];by_cases h:er=0<;>simp[h]
 have bu:decide (er=0)=o:=ho.symm;clear ho
 go_upto_region 5 with fail
 refine jL ?_;refine fb (λg=>g.heap[M]?=T (ja #[A (T ⟨W,ol,jf⟩) n k1,A p2 F k2,A (T ⟨ga,oa,jf⟩) F k3] 76 (0,0))/\g.heap[M+1]?=T (ja FA VF.t (0,0))/\g.heap[b7]?=T (ja X VG.t (0,0))/\g.cell? ⟨ga,oa+kk,jf⟩=T (jd je (i:jc))/\g.rangeAt W (ol+i*73) (aF q qm)) 22
  (.t 0 (.t 1 (.t 2 (.t 3 (.t 4 (.t 5 (.t 6 (.t 7 (.t 8 (.t 9 (.t 10 (.t 11 (.t 12 (.t 13 (.t 14 (.t 15 (.t 16 (.t 17 (.t 18 (.t 19 (.o 20 (.t 21 .done)))))))))))))))))))))) af af af af G (λ_ _ _ _ h=>h) ⟨H,K,Wz,P,Q⟩ ?_
 have c:=bV x5;obtain⟨x6,hx⟩:=J x5.drew;rw[<-hx]at c⊢;replace V:=ah V c;replace H:=ae H c;replace K:=ae K c;replace y:=ae y c;replace Wz:=ae Wz c;replace P:=O (aB P c);replace Q:N (x6.rangeAt W (ol+i*73) (aF q qm)):=O (λt u m=>aB (Q t u m) c);have ba:=O c;clear hx c;refine bX ?_;refine tX ?_;iterate 2 refine bX ?_
 refine ue ?_;refine bX ?_;refine yy ?_;refine bX ?_;refine tX ?_;iterate 2 refine bX ?_
 refine ue ?_;refine bX ?_
 (refine cD (v:=jh C) I aj (λg S=>by rw[WZ];exact fk _ _ VC.t _ I _ _ I _ VC.d S.2.2.2.2 VC.hu VC.hd (by rw[VJ];exact VC.hi)) ?_;refine L ?_)
 refine bX ?_
 (refine cD (v:=jh TF) I aj (λg S=>by rw[au];exact fk _ _ VD.t _ I (M+1) 1 I _ VD.d (λt u m=>ai S.2.1 (Z5 t u m)) VD.hu VD.hd (by rw[Yo];exact VD.hi)) ?_;refine L ?_)
 (refine cD (v:=jh X) I aj (λg S=>cU VG.hu VG.hd (by rw[z.sz];exact VG.hi) I I S.2.2.1) ?_;refine L ?_)
 have Zy:N (TF.size=32):=O (by rw[au,jv];exact Yo);obtain⟨f,hY⟩:=J ((#[jH .i64 (i:jc)]++C++TF++ #[jH .i64 (0:jb)]++X))
 (refine cD (v:=jh f) I aj (λg S=>by rw[hY];exact zA (i:=(i:jc)) (s:=0) (C:=C) (I0:=TF) (G0:=X) VU Zy z.sz I af g) ?_;refine L ?_)
 have YA:N (f.size=VK.n):=O (by rw[hY,j8,j8,j8,j8,VU,Zy,z.sz];rfl);have a2:N (f.all (·.oneCell')=ji):=O (by
  have Wq:C.all (·.oneCell')=ji:=by rw[WZ,jS];exact λu hu=>lU HQ u (ak hu)
  have Vp:TF.all (·.oneCell')=ji:=by rw[au];exact fi _
  rw[hY,j9,j9,j9,j9,z.one,Wq,Vp];simp[j4])
 have bb:=O hY;clear hY;iterate 2 refine bX ?_
 refine cO I (λK' B=>?_);rw[jr aj];refine jR VK.t _ _ I (M+2) f I I VK.t VK.Z y.out (by rw[YA];exact VK.hi) (VK.hZ.trans YA.symm) a2 ?_;have aa:∀b,b≠M+2->(x6.setRow (M+2) f).heap[b]?=x6.heap[b]?:=λb d=>js _ _ _ _ d
 have ax:jk w w (x6.setRow (M+2) f):=iP V.out (by rw[<-HM];omega) f;have ad:(x6.setRow (M+2) f).heap.size=x6.heap.size:=setRow_size _ _ _;have a3:N ((x6.setRow (M+2) f).heap[M+2]?=T (ja f VK.t (0,0))):=O (jT _ _ _ _ _ _ y.out);generalize x6.setRow (M+2) f=x7 at aa ax ad a3⊢;refine B _ _ ⟨(aa M Y).trans H,(aa (M+1) Y).trans K,(aa b7 (aI Z3)).trans Wz,(qv (a:=⟨ga,oa+kk,jf⟩) (aa ga (cT Zo.1))).trans P,λt u m=>(qv (a:=⟨W,ol+i*73+t,jf⟩) (aa W (cT Zo.2))).trans (Q t u m)⟩ λ_=>?_
 have bc:N (er=0->∃D E,X=(aD (aC (aJ x) q) D E).toArray/\dN (λk=>M+3<=k/\k<x7.heap.size) x7 (aC (aJ x) q) D E):=O λh=>by
  obtain⟨D,E,e1,R⟩:=VE h;exact⟨D,E,e1,((R.below ba).keep λb d=>aa b Y).mono λb d=>⟨d.1,by rw[ad];exact d.2⟩⟩
 have bd:=O ax;clear B aa ad ax VE;refine L ?_;refine bX ?_;refine eH ?_
 go_wp2_with fail
 refine qk (fQ I _ _ (M+2) VK.t f (0,0) _ I a3 sh I (by rw[YA];exact VK.hi)) I ?_;refine⟨f,o,I,YA,a2,λh=>?_,λh=>?_,bd⟩
 ·have h0:er=0:=qL (a1.out▸h)
  obtain⟨D,E,e1,R⟩:=bc h0;refine⟨⟨i,(q,qm),UJ,0,aC (aJ x) q,D,E⟩,?_,KD.of bi (R.mono λb d=>⟨by rw[<-HM];omega,d.2⟩) bg,?_⟩
  ·rw[bb,WZ,au,e1,<-Ar,qU]
  rw[HF,ay.1,ay.2,jr (z.eq.symm.trans h0),a5];exact ql T CK.cand_of.symm
 have h0:¬er=0:=of_decide_eq_false (a1.out▸h);rw[HF,ay.1,jF (λe=>h0 (z.eq.trans e))]
theorem Ca:∀(l:jg jb) (a b:jb),l.Pairwise (·<·)->(∀x∈l,a<=x/\x<=b)->(l.length:jb)<=max 0 (b-a+1)
 |[],a,b,_,_=>by simp;omega
 |x::l,a,b,h,c=>by
  rw[vi]at h;have e:=c x (o1 ..);have f:=Ca l (x+1) b h.2 λy d=>⟨by have:=h.1 y d;omega,(c y (o3 _ d)).2⟩
  rw[jZ];omega
theorem oU(h:dA e):e.mem.length<=512/\e.tree.length<=1023:=by
 constructor
 ·have a:=ql List.length h.dev
  rw[jw]at a;have:=Gm e.tree;omega
 have b:=lQ h.tree;have a:=Ca (e.tree.map (·.1)) 1 1023 b.1.keys λx c=>by
  obtain⟨g,he,rfl⟩:=qf.1 c;exact⟨(b.2 g he).1,(b.2 g he).2.1⟩
 rw[jw]at a;omega
section
variable{b:CK}{e:jl}
section
variable {P:p6} {F:Fence} {nF:jc} {ops:jq jK} {rest:jg jK} {o:jK} {a:Act} {w:jj} {Q:Exit->Act->jj->Prop} (V:VarT P)
theorem VarT.madeI(d:o.guard=jf)(b:o.op=.alloc V.t)(h:wpListIn F nF P ops Q rest (a.put o.dst (jt (T ⟨w,0,jf⟩))) (w.alloc (ja V.Z V.t))):wpListIn F nF P ops Q (o::rest) a w:=by
 refine wpListIn_plain d λg e=>?_
 unfold Oper.wpIn;refine⟨by simp[Oper.about,b],?_⟩;rw[Oper.semAt_plain F _ _ (by rw[b];intro c f;cases f)];simp only[jQ,b,Sem.run_bind,V.hal,Result.andThen_ok,Sem.run_pure];exact e _ _ h
theorem VarT.storeI(d:o.guard=jf){x y:j0}(e:o.op=.store V.t x y){g:jc}(f:a.eval x=jt (T ⟨g,0,jf⟩))(C:jq jl)(i:a.eval y=jh C)(c:C.size=V.n)(j:C.all (·.oneCell')=ji)
 {b:jq jl} (k:w.heap[g]?=T (ja b V.t (0,0))) (l:b.size=V.n) (h:wpListIn F nF P ops Q rest (a.put o.dst jm) (w.setRow g C)):wpListIn F nF P ops Q (o::rest) a w:=
 As d V.t x y e g C f i V.t b k (by rw[c];exact V.hi) (l.trans c.symm) j h
theorem VarT.firstI(b:o.guard=jf){x y:j0}(c:o.op=.store V.t x y)(d:a.eval x=jt (T ⟨w,0,jf⟩))(C:jq jl)(e:a.eval y=jh C)(f:C.size=V.n)(g:C.all (·.oneCell')=ji)
 (h:wpListIn F nF P ops Q rest (a.put o.dst jm) (w.alloc (ja C V.t))):wpListIn F nF P ops Q (o::rest) a (w.alloc (ja V.Z V.t)):=
 V.storeI b c d C e f g (jy w _) V.hZ (by rw[yq];exact h)
theorem VarT.loadI(e:Region.wanted o (yielded ops a.tmps)=ji){x:j0}(d:o.op=.load V.t x){g f:jc}(i:a.eval x=jt (T ⟨g,f,jf⟩))(b:jg jl)(j:b.length=V.n)(k:w.rangeAt g f b)
 (h:wpListIn F nF P ops Q rest (a.put o.dst (jh b.toArray)) w):wpListIn F nF P ops Q (o::rest) a w:=by
 refine wpListIn_step λn l=>?_
 rw[jr e];unfold Oper.wpIn;refine⟨by simp[Oper.about,d],?_⟩;rw[Oper.semAt_plain F _ _ (by rw[d];intro c m;cases m),fk o a V.t x d g f i b V.d k V.hu V.hd (by rw[j];exact V.hi)];exact l _ _ h
theorem VarT.loadAI(b:Region.wanted o (yielded ops a.tmps)=ji){x:j0}(c:o.op=.load V.t x){g:jc}(d:a.eval x=jt (T ⟨g,0,jf⟩))(C:jq jl)(e:C.size=V.n){t:jM}(f:w.heap[g]?=T (ja C t (0,0)))
 (h:wpListIn F nF P ops Q rest (a.put o.dst (jh C)) w):wpListIn F nF P ops Q (o::rest) a w:=by
 refine V.loadI b c d C.toList (by rw[Array.length_toList];exact e) (λj v i=>?_) (by rw[qU];exact h);rw[Nat.zero_add];exact ai f (ak i)
end
theorem Is{w:jj}{g o:jc}(h:w.cell? ⟨g,o,jf⟩=T e):∃c t f,w.heap[g]?=T (ja c t f):=by
 unfold World.cell? at h
 cases ho:w.heap[g]? with
 |none=>simp[ho]at h
 |some a=>
  cases a with
  |cells c t f=>exact⟨c,t,f,I⟩
  |_=>simp[ho]at h
theorem cF.cellsB{w:jj}{sz n:jc}{xs:jg jl}(h:cF w e sz n xs)(i:0<sz):kW (λb=>∃c t f,w.heap[b]?=T (ja c t f)) e:=by
 obtain⟨f,p,c,rfl,-,-,j⟩:=h;rintro r k s v d a rfl;injection v with b l t
 subst l;obtain⟨g,o,rfl,m⟩:=j d;injection b with b
 subst b;have q:0<xs.length:=by rw[f];exact Nat.mul_pos d i
 exact Is (m 0 _ (sy q))
theorem bJ.cellsB{w:jj}{t:jg (jb×jb)}(h:bJ w e t):kW (λb=>∃c t f,w.heap[b]?=T (ja c t f)) e:=by
 obtain⟨p,c,rfl,-,-,f,-⟩:=h;rintro l k m v d a rfl;injection v with b i n
 subst i;obtain⟨g,o,rfl,j⟩:=f d;injection b with b
 subst b;exact Is (j 0 d).1
theorem dN.cellsOnly{D:jc->Prop}{w:jj}{g:Grp}{vt:jl}(h:dN D w g e vt):dN (λb=>D b/\∃c t f,w.heap[b]?=T (ja c t f)) w g e vt:=by
 refine⟨h.grp,λp k c vm b a d=>⟨h.bm p k c vm b a d,?_⟩,λp k c vm b a d=>⟨h.bt p k c vm b a d,?_⟩⟩
 ·exact cF.cellsB h.grp.mem G p k c vm b a d
 exact bJ.cellsB h.grp.tree p k c vm b a d
def gb(k:CK)(b:jc):Prop:=(∃a n c,k.vm=A (T a) n c/\0<n/\a.block=b)\/∃a n c,k.vt=A (T a) n c/\0<n/\a.block=b
theorem KD.own{D:jc->Prop}{f:jg CP}{w:jj}(h:KD D f w b):KD (λk=>gb b k/\D k) f w b:=
 ⟨h.at_,⟨h.grp.grp,λp n c e k a d=>⟨.inl ⟨a,n,c,by rw[e,d],k,I⟩,h.grp.bm p n c e k a d⟩,λp n c e k a d=>⟨.inr ⟨a,n,c,by rw[e,d],k,I⟩,h.grp.bt p n c e k a d⟩⟩,h.idl⟩
theorem rM{D:jc->Prop}{f:jg CP}{w:jj}(h:KD D f w b){k:jc}(g:gb b k):D k:=by
 rcases g with⟨a,n,c,e,d,rfl⟩|⟨a,n,c,e,d,rfl⟩
 ·exact h.grp.bm _ _ _ e d a I
 exact h.grp.bt _ _ _ e d a I
def GK(a:jg CP)(Ψ:jc->Prop)(W:jj)(k:CK):Prop:=KD (λb=>gb k b/\¬Ψ b/\∃c t f,W.heap[b]?=T (ja c t f)) a W k
theorem GK.of{D:jc->Prop}{a:jg CP}{Ψ:jc->Prop}{W:jj}{k:CK}(h:KD D a W k)(d:∀b,D b->¬Ψ b):GK a Ψ W k:=
 KD.own ⟨h.at_,h.grp.cellsOnly.mono λb c=>⟨d b c.1,c.2⟩,h.idl⟩
theorem GK.keep{g:jg CP}{Ψ i:jc->Prop}{d B:jj}{k:CK}(h:GK g Ψ d k)(e:∀b,gb k b->¬Ψ b->(∃c t f,d.heap[b]?=T (ja c t f))->B.heap[b]?=d.heap[b]?/\¬i b):GK g i B k:=
 (KD.keep h λb a=>(e b a.1 a.2.1 a.2.2).1).mono λb a=>⟨a.1,(e b a.1 a.2.1 a.2.2).2,by obtain⟨c,t,f,j⟩:=a.2.2;exact⟨c,t,f,(e b a.1 a.2.1 a.2.2).1.trans j⟩⟩
theorem GK.turns{B0:jc}{i:jg CP}{Ψ a:jc->Prop}{e B:jj}(h:GK i Ψ e b)(l:bP B0 a e B)(m:∀b,a b->Ψ b\/e.heap.size<=b):GK i a B b:=
 h.keep λk p n o=>by
  obtain⟨c,t,f,g⟩:=o;have d:¬a k:=λd=>by
   rcases m k d with j|j
   ·exact n j
   have:=(jA.1 g).1;omega
  exact⟨(l.cells g d).trans g.symm,d⟩
theorem Do(B0:jc)(a:jg CP):bZ B0 (fun(ys:jg CK) Ψ W=>∀x∈ys,GK a Ψ W x):=
 λs Ψ f g B b c _ d x e=>(b x e).turns c d
structure fj(w0 w:jj)(a m:jc)(Ψ:jc->Prop)(W:jj):Prop where
 lt:∀k,Ψ k->k<W.heap.size
 old:∀k,m<=k->k<w.heap.size->Ψ k
 kept:∀k,m<=k->k<w.heap.size->W.heap[k]?=w.heap[k]?
 bel:jk a w0 W
 low:∀k,Ψ k->m<=k
 sz:w.heap.size<=W.heap.size
theorem fj.below{w0 w W c:jj}{b m:jc}{Ψ:jc->Prop}(h:fj w0 w b m Ψ W)(e:b<=w.heap.size)(a:jk W W c):fj w0 w b m Ψ c:=
 ⟨λk f=>jJ (h.lt k f) a.size,h.old,λk g d=>(a.block k (jJ d h.sz)).trans (h.kept k g d),h.bel.trans (a.mono (jE e h.sz)),h.low,jE h.sz a.size⟩
theorem fj.yield{w0 w W b:jj}{c m:jc}{Ψ:jc->Prop}(h:fj w0 w c m Ψ W)(d:jk c W b)(f:∀k,Ψ k->b.heap[k]?=W.heap[k]?):fj w0 w c m Ψ b:=
 ⟨λk a=>jJ (h.lt k a) d.size,h.old,λk a e=>(f k (h.old k a e)).trans (h.kept k a e),h.bel.trans d,h.low,jE h.sz d.size⟩
theorem fj.more{w0 w W:jj}{c m b:jc}{Ψ:jc->Prop}(h:fj w0 w c m Ψ W)(d:b<W.heap.size)(e:m<=b):fj w0 w c m (λk=>Ψ k\/k=b) W:=
 ⟨λk a=>by rcases a with a|rfl;exact h.lt k a;exact d,λk f g=>.inl (h.old k f g),h.kept,h.bel,λk a=>by rcases a with a|rfl;exact h.low k a;exact e,h.sz⟩
theorem fj.pool{w0 w W:jj}{d m:jc}{Ψ:jc->Prop}{f g:jl}{a:jg CP}(h:fj w0 w d m Ψ W)(i:w0.heap.size<=d)(j:cC w0 e a)(k:aH (λb=>m<=b/\b<w.heap.size) w f 32 (bH (a.map (·.1)) a.length).length (iX (a.map (·.1)) (bH (a.map (·.1)) a.length)))
 (l:aH (λb=>m<=b/\b<w.heap.size) w g 1 (bH (a.map (·.1)) a.length).length (iV (bH (a.map (·.1)) a.length))):io (·<W.heap.size) W e f g a:=
 ⟨j.below (h.bel.mono i),(k.keep λb c=>h.kept b c.1 c.2).mono λb c=>jJ c.2 h.sz,(l.keep λb c=>h.kept b c.1 c.2).mono λb c=>jJ c.2 h.sz⟩
noncomputable def uD(l:jg Cmt):jG CK->jg aN
 |none=>[]
 |some k=>ff l k.cand
noncomputable def yF(l:jg Cmt)(k:CK):jg aN:=match dJ k.g l with|none=>[]|some w=>ff l w
theorem La(l:jg Cmt)(k:CK):uD l (T k)=k.cand::yF l k:=lX l k.cand
structure CSt(a:jg CP)(e:jb)(f:LBy)(w W:jj)(Ψ:jc->Prop)(b:jc)(c:jq jl)(ys:jg CK)(d:jG CK):Prop where
 box:W.heap[b]?=T (ja c VK.t (0,0))
 sz:c.size=VK.n
 one:c.all (·.oneCell')=ji
 mine:Ψ b
 low:w.heap.size<=b
 now:∀k,d=T k->c=(aK k).toArray/\GK a Ψ W k/\∃g,gT g (a.map (·.1)) k.cand
 rest:ys.map CK.cand++uD (a.map (·.1)) d=dU e f (a.map (·.1))
noncomputable def chM(l:jg Cmt)(a ok:jl)(W:jj):jc:=
 match ok,a with
 | .bool ji,jt (T ⟨b,_,_⟩)=>(l.countP λc=>decide (((W.cell? ⟨b,108,jf⟩).map jV).getD 0<c.epoch))+1
 |_,_=>0
theorem G1{a:jg CP}{d:jb}{v:LBy}{w W:jj}{Ψ:jc->Prop}{k:jc}{f:jq jl}{ys:jg CK}(h:CSt a d v w W Ψ k f ys (T b))(g:cC W e a):
 chM (a.map (·.1)) (jt (T ⟨k,0,jf⟩)) (.bool ji) W=iD (a.map (·.1)) b.g+1:=by
 obtain⟨i,j,-⟩:=h.now b I;have c:=KD.kin j g;have l:W.cell? ⟨k,108,jf⟩=T (jd je b.g.epoch):=ai h.box (by
  rw[i,ms];exact(nM c 2).trans (lR (vm:=b.vm) (vt:=b.vt) c.leads.llen).2.1)
 unfold chM;simp only[l]
 rfl
theorem yw(d:jg CP)(K V X:jl)(r:jb)(q:LBy)(j:q.length=32)(w0 w:jj)(s m bp bf:jc)(v:w0.heap.size<=s)(E:jk s w0 w)(y:s<=m)(l:m<=w.heap.size)(F:cC w0 K d)
 (H:aH (λb=>m<=b/\b<w.heap.size) w V 32 (bH (d.map (·.1)) d.length).length (iX (d.map (·.1)) (bH (d.map (·.1)) d.length))) (Q:aH (λb=>m<=b/\b<w.heap.size) w X 1 (bH (d.map (·.1)) d.length).length (iV (bH (d.map (·.1)) d.length)))
 (o:w.heap[bp]?=T (ja #[K,V,X] VP.t (0,0))) (u:w.heap[bf]?=T (ja (dc r q).toArray VF.t (0,0))) (R:m<=bp) (S:m<=bf) (C:∀p∈d,cY (aR p.1)) (U:bQ w0) (D:d.length<=1000) (aa:∀p∈d,p.1.chg.length<=1000000):
 Aa jo 56 #[jt (T ⟨bp,0,jf⟩),jt (T ⟨bf,0,jf⟩)] (λk:CK=>#[jh (aK k).toArray]) (λk=>m<=k/\k<w.heap.size) s (λxs=>xs.map CK.cand=dU r q (d.map (·.1))) (λa=>∃c,a.map CK.cand++c=dU r q (d.map (·.1)))
  (λys Ψ e=>(∃a x,ys=a++[x]/\GK d Ψ e x)/\∃c,ys.map CK.cand++c=dU r q (d.map (·.1))) (λys Ψ B=>∀x∈ys,GK d Ψ B x) gb w:=by
 intro lp M Jx W c p B hG hY ad;have e:fj w0 w s m (λk=>m<=k/\k<w.heap.size) W:=⟨λk g=>jJ g.2 c.size,λk a b=>⟨a,b⟩,λk _ g=>c.block k g,E.trans (c.mono (jE y l)),λk g=>g.1,c.size⟩;obtain⟨PA,f⟩:=J (#[K,V,X]);obtain⟨FA,i⟩:=J ((dc r q).toArray);have bl:N (PA.size=VP.n):=O (by rw[f];rfl);have ZK:N (FA.size=VF.n):=O (by rw[i,jv];unfold dc;rw[jZ,jw,j];rfl);rw[<-f]at o;rw[<-i]at u;have Zg:N (∀Ψ z,fj w0 w s m Ψ z->z.heap[bp]?=T (ja PA VP.t (0,0))):=O λΨ z h=>(h.kept bp R (jA.1 o).1).trans o
 have bB:N (∀Ψ z,fj w0 w s m Ψ z->z.heap[bf]?=T (ja FA VF.t (0,0))):=O λΨ z h=>(h.kept bf S (jA.1 u).1).trans u
 have YN:N (∀Ψ z,fj w0 w s m Ψ z->io (·<z.heap.size) z K V X d):=O λΨ z h=>h.pool v F H Q
 have bm:N (∀Ψ z,fj w0 w s m Ψ z->bQ z):=O λΨ z h=>U.below (h.bel.mono v)
 have bC:=O f;have b8:=O i;have HE:=O C;have HN:=O D;have VS:=O aa;have ZC:=O e;have P:=O p;have b9:=O B;have HG:=O hG;have HY:=O hY;have x:=O ad;have YK:=O (jE y l);have bn:=O l;have bb:=O c.size;have ca:=O j;have WW:=O (Zg _ _ e);have Vn:=O (bB _ _ e);have t:=Fx d K V X r q j W (YN _ _ e) C (bm _ _ e) D;rw[<-f,<-i]at t;replace t:=O t;clear c p B hG hY ad e f i o u v E y l F H Q R S C U D aa j;refine(qM (n:=0)).1 ?_;refine callsIn_of_wp func56 I trivial ?_ I;simp only[ntmps56,jv,jZ,qw,qx,qy,qz,qA,qB,qC,qg,qD]
 gi_wp2_with (first|(refine VP.loadAI aj I I PA bl WW (L ?_))|(refine VF.loadAI aj I I FA ZK Vn (L ?_)))
 refine⟨trivial,I,(callsIn_wide.2 t).mono ?_⟩;rintro e x1 ⟨p,o,rfl,c,au,f,i,v⟩;obtain⟨l,rfl,y,B⟩:∃l:jG CK,o=l.isSome/\(∀k,l=T k->p=(aK k).toArray/\KD (λb=>W.heap.size<=b/\b<x1.heap.size) d x1 k/\eI r q (d.map (·.1))=T k.cand)/\(l=jf->eI r q (d.map (·.1))=jf):=by
  rcases o with _|_
  ·exact⟨jf,I,(λk g=>by cases g),(λ_=>i I)⟩
  obtain⟨k,D,Q,h3⟩:=f I;exact⟨T k,I,λj g=>by injection g with g;subst g;exact⟨D,Q,h3⟩,λh=>by cases h⟩
 have E:=O c;have F:=O au;have u:=O y;have H:=O B;have UA:=O v;clear c au f i y B v WW Vn t;obtain⟨ok,c⟩:=J l.isSome;rw[<-c];have bI:=O c;clear c
 gi_wp2_with (first|(refine VK.madeI I I (L ?_))|(refine VK.firstI I I I p I E F (L ?_)))
 obtain⟨x2,b4,hx,v,R,t⟩:=dl x1 p VK.t;rw[<-hx,<-v];have y:=UA.trans (t.mono UA.size);obtain⟨B,f⟩:∃B:jc->Prop,B=λk=>(m<=k/\k<w.heap.size)\/k=b4:=⟨_,I⟩
 have aa:W.heap.size<=b4:=by rw[v];exact UA.size
 have S:∀b,(W.heap.size<=b/\b<x1.heap.size)->¬B b:=λb bo h=>by
  rw[f]at h;have:=bb.out
  rcases h with h|h
  ·omega
  omega
 have ad:N (fj w0 w s m B x2):=O (by rw[f];exact(ZC.below YK y).more (by rw[v];have h:=(jA.1 R).1;rw[v]at h;exact h) (ee bb bn));have Vd:N (M [] B x2):=O (P _ _ B _ _ x.out (bP.ofBelow y λk g _=>g) (λk g=>by rw[f];exact .inl g) (λk g=>by
  rw[f]at g
  rcases g with g|g
  ·exact .inl g
  exact .inr (by rw[g];exact aa)))
 have Wg:N (∀k,l=T k->M [] (λi=>B i\/gb k i) x2):=O λk g=>P _ _ (λi=>B i\/gb k i) _ _ x.out (bP.ofBelow y λk g _=>g) (λi c=>by rw[f];exact .inl (.inl c)) (λi c=>by
  rw[f]at c
  rcases c with(c|c)|c
  ·exact .inl c
  ·exact .inr (by rw[c];exact aa)
  exact .inr (rM (u k g).2.1 c).1)
 have C:N (CSt d r q w x2 B b4 p [] l):=O ⟨R,E,F,by rw[f];exact .inr I,jE bb aa,λk g=>by
  obtain⟨U,e2,e3⟩:=u k g;refine⟨U,GK.of (e2.keep λb bo=>t.block b bo.2) S,_,(Ao e3).1⟩,by
  rw[ov,jY,qg]
  rcases l with _|k
  ·rw[H I];rfl
  rw[(u k I).2.2];rfl⟩
 have Vj:N (W.heap.size<=x2.heap.size):=O y.size;clear hx v t y aa S f u H UA R E F x ZC
 gi_loopw [4,5] (λf ok wr=>W.heap.size<=wr.heap.size/\∃(b:jc) (p:jq jl) (ys:jg CK) (l:jG CK) (Ψ:jc->Prop),f=jt (T ⟨b,0,jf⟩)/\ok=.bool l.isSome/\N (fj w0 w s m Ψ wr)/\N (M ys Ψ wr)/\N (∀k,l=T k->M ys (λi=>Ψ i\/gb k i) wr)/\N (CSt d r q w wr Ψ b p ys l)) (λf ok wr=>chM (d.map (·.1)) f ok wr)
 case atStart=>exact⟨Vj,b4,p,[],l,B,I,by rw[bI],ad,Vd,Wg,C⟩
 obtain⟨cb,b,p,ys,l,Ψ,rfl,rfl,ad,Vd,Wg,C⟩:=hrel
 rcases l with _|k
 ·have t:N (ys.map CK.cand=dU r q (d.map (·.1))):=O (by have h:=C.rest;unfold uD at h;rw[qE]at h;exact h)
  gi_wp2_with fail
  refine⟨(λf h=>by cases h),?_⟩
  gi_wp2_with fail
  refine bodyPost_end (results_none I _ _ _) I ?_;exact⟨⟨_,I⟩,.inl ⟨_,_,t,Vd⟩⟩
 obtain⟨f,t,g0,u⟩:=C.now k I;have bK:=O t;have ZX:=O u;have bM:=O f;have bq:N (cC wr K d):=O (YN _ _ ad.out).list;have bN:=O (G1 C bq);have Vh:N ((ys++[k]).map CK.cand++yF (d.map (·.1)) k=dU r q (d.map (·.1))):=O (by
  rw[<-C.rest,mz,qV,La]
  rfl)
 have UX:=O C.box;have ay:=O C.sz;have UA:=O C.one;have br:=HY ys k Ψ wr Vd (Wg k I) ad.lt ⟨⟨ys,k,I,t⟩,_,Vh⟩;rw[<-f]at br;obtain⟨fn,tmps,assign,body,au,x⟩:=br;have HR:=O x;clear x f t u
 gi_wp2_with (first|(refine VK.loadAI aj I I p ay UX (L ?_)))
 refine⟨I,HR.mono ?_⟩;rintro e W3 (⟨rfl,Zj,y,Vk⟩|⟨rfl,ZV,y,Vk⟩)
 ·have u:=O (ad.yield y Vk)
  have U:=O (HG _ _ _ Zj k ar);have a1:=O Zj;have Wx:=O ((Vk b C.mine).trans UX);have WH:=y.size;clear Zj y Vk HR au ad bK Vd Wg UX bq
  gi_upto_region 2 with(first|(refine VK.loadAI aj I I p ay Wx (L ?_))|(refine VK.madeI I I (L ?_))|(refine VK.firstI I I I p I ay UA (L ?_)))
  obtain⟨E,x,hx,v,R,F⟩:=dl W3 p VK.t;rw[<-hx,<-v];obtain⟨f,t⟩:∃f:jc->Prop,f=λi=>Ψ i\/i=x:=⟨_,I⟩
  have Zc:x<E.heap.size:=(jA.1 R).1;have ax:N (fj w0 w s m f E):=O (by rw[t];exact(u.below YK F).more Zc (by rw[v];have:=u.sz;have:=bn.out;omega));have H:∀i,f i->Ψ i\/W3.heap.size<=i:=λi c=>by
   rw[t]at c
   rcases c with c|c
   ·exact .inl c
   exact .inr (by rw[c,v];exact jD _)
  have S:bP W.heap.size f W3 E:=bP.ofBelow F λi c _=>c
  have bs:N (M (ys++[k]) f E):=O (P _ _ f _ _ a1.out S (λi c=>by rw[t];exact .inl c) H);have bO:N (GK d f E k):=O (U.turns S H);have a2:N (f x):=O (by rw[t];exact .inr I);have bc:N (w.heap.size<=x):=O (by rw[v];exact u.sz);have Yd:N (W.heap.size<=E.heap.size/\W.heap.size<=x):=O ⟨by have:=F.size;omega,by rw[v];omega⟩;clear hx v F t Zc H S u U a1 Wx WH;have bd:=O (YN _ _ ax.out);have WW:=O (Zg _ _ ax.out);have Z7:=O (KD.kin bO bd.list);have bu:=O (oU (iw (rX ZX)));have Wu:N ((aD k.g k.vm k.vt).length=VG.n):=O (eE Z7.leads.llen);have bT:N (E.rangeAt x 107 (aD k.g k.vm k.vt)):=O λt u ht=>ai R (by
   rw[bM,ms];have h:=nM Z7 (1+t);rw[<-qo,qu 1 t,qF]at h;exact h.trans ht)
  have a3:=uk d K V X k.g k.vm k.vt E bd Z7.leads HE (bm _ _ ax.out) HN (by have h:=bu.1;rw[<-ZX.leads]at h;have Q:k.g.mem.length<=512:=h;omega) (by have h:=bu.2;rw[<-ZX.leads]at h;have Q:k.g.tree.length<=1023:=h;omega) VS;obtain⟨GA,F⟩:=J ((aD k.g k.vm k.vt).toArray);rw[<-F,<-bC]at a3;have Zo:=O F;replace a3:=O a3;clear F
  gi_wp2_with (first|(refine VP.loadAI aj I I PA bl WW (L ?_))|(refine VG.loadI aj I I (aD k.g k.vm k.vt) Wu bT ?_;rw[<-Zo];refine L ?_))
  refine⟨trivial,I,(callsIn_wide.2 a3).mono ?_⟩;rintro e x5 ⟨wk,rfl,a4,a5,S⟩;obtain⟨F,H⟩:=J (x5.setRow x (dj wk));have bg:=ax.lt;have aa:=bg x a2;have bh:=av R S;have a6:=sO (wk:=wk) λj h=>(a4 j h).kin (bd.list.below S)
  have b0:=S.size;have bi:∀i,i≠x->F.heap[i]?=x5.heap[i]?:=λi c=>by rw[H];exact js _ _ _ _ c
  have ba:F.heap.size=x5.heap.size:=by rw[H];exact setRow_size _ _ _
  have U:=ax.below YK S;have bv:N (fj w0 w s m f F):=O ⟨λi c=>by rw[ba];exact U.lt i c,U.old,λi D Q=>(bi i (aI bc)).trans (U.kept i D Q),by rw[H];exact iP U.bel (jE YK bc) _,U.low,by rw[ba];exact U.sz⟩;have b1:N (M (ys++[k]) f F):=O (by
   have D:=P.keep bs (bP.ofBelow S λi c _=>c);rw[H];exact P.keep D (bP.setRow _ _ _ a2.out))
  have b2:N (∀j,wk=T j->M (ys++[k]) (λi=>f i\/gb j i) F):=O λj h=>by
   have D:=P _ _ (λi=>f i\/gb j i) _ _ bs.out (bP.ofBelow S λi c _=>c) (λi c=>.inl c) (λi c=>by
    rcases c with c|c
    ·exact .inl c
    exact .inr (rM (a4 j h) c).1)
   rw[H];exact P.keep D (bP.setRow _ _ _ (.inl a2))
  have bk:∀j,wk=T j->gT k.g (d.map (·.1)) j.cand:=λj h=>by
   rw[h]at a5;exact(oE (rK a5.symm)).1
  have bw:N (CSt d r q w F f x (dj wk) (ys++[k]) wk):=O ⟨by rw[H];exact jT _ _ _ _ _ _ bh,a6.1,a6.2,a2,bc,λj h=>by
   refine⟨by rw[h];rfl,GK.of ((a4 j h).keep λi c=>bi i Y) (λi c h3=>by have:=bg i h3;omega),_,bk j h⟩,by
   rw[<-Vh];refine ql (_ ++·) ?_;unfold uD yF;rw[<-a5]
   cases wk<;>rfl⟩
  have b3:N (chM (d.map (·.1)) (jt (T ⟨x,0,jf⟩)) (.bool wk.isSome) F<chM (d.map (·.1)) (jt (T ⟨b,0,jf⟩)) (.bool ji) wr):=O (by
   rw[bN]
   cases hwk:wk with
   |none=>exact qW _
   |some j=>
    have D:=G1 (hwk▸bw.out) (YN _ _ bv.out).list;have Q:=sV (bk j hwk);have h3:iD (d.map (·.1)) j.g<iD (d.map (·.1)) k.g:=Q;show chM _ _ (.bool ji) _ <_;rw[D];omega)
  have b5:=O bh;have bA:=O a6;have b6:=O H;have b7:N (W.heap.size<=F.heap.size):=O (by rw[ba];have:=Yd.out;omega);clear bg aa bh a6 b0 bi ba U bk a4 a5 S H
  gi_wp2_with (first|(refine VK.storeI I I I (dj wk) I bA.1 bA.2 b5 ay ?_;rw[<-b6];refine L ?_))
  exact⟨⟨b7,x,dj wk,ys++[k],wk,f,I,I,bv,b1,b2,bw⟩,b3⟩
 have a1:=O ZV;clear ZV y Vk HR au
 gi_wp2_with fail
 refine bodyPost_end (results_none I _ _ _) I ?_;exact⟨⟨_,I⟩,.inr ⟨_,_,⟨_,Vh⟩,a1⟩⟩
end
theorem Sg{P:p6}{i:Exit->Act->jj->Prop}{b M B:jc}{o:Act}{w:jj}(S:jj->Prop)(f:jc)(t:bE)(g:P.follows .mixedOrders=ji)(d:Region.noSelect V=ji)(j:rR V=ji)
 (k:gB .any V t (qh V.size jn)=ji) (m:t.waits .any V f=ji) (a:t.len<=V.size) (p:∀c o h w,i (.panic c) o w->i (.panic c) h w) (c:¬LetsOut i)
 (q:S w.drew) (h:cV P V i S f t o w.drew):(Code.region B V ji).wpIn (Fence.wide.inRound b) M P i o w:=
 wpIn_region_any g (yC c j _ _ _ _ (rS _ _ _ _ (iM.zero _) (kF d p t _ _ _ _ a k m (.inr q) h)))
theorem zS(a b:jq jl)(w:jj):jB jo 21 #[jh a,jh b] w λe w'=>
 e=jz (.func (.func 56) #[] #[jt (T ⟨w,0,jf⟩),jt (T ⟨w.heap.size+1,0,jf⟩)])/\w'=(w.alloc (ja a 76)).alloc (ja b 25):=by
 go_enter func21,ntmps21
 go_wp2_with fail
 go_ret;exact⟨I,I⟩
theorem zM(t:jq jl)(p:Tmp)(v:jl):(#[p].zip #[v]).foldl (λt (p,v)=>t.setIfInBounds p v) t=t.setIfInBounds p v:=by simp
theorem zi(l:jg Cmt):∀(n:jc) (c:jG aN),(kV l n c).length<=n
 |0,_=>jD _
 |_ +1,jf=>jO _
 |n+1,T c=>Nat.succ_le_succ (zi l n _)
noncomputable def RG:dQ jo:=.of 37 45 36 96 (jh VG.Z) underlying37 af VG.hZ G G G
theorem bP.more(h:bP b D w W):bP b (λB0=>D B0\/E B0) w W:=⟨h.os,h.tape,h.output,h.size,λk B0 d=>h.block k B0 λe=>d (.inl e)⟩
theorem bZ.more{c:H->(jc->Prop)->jj->Prop}(h:bZ b c)(d:H->jc->Prop):bZ b (λs Ψ W=>c s (λB0=>Ψ B0\/d s B0) W):=
 λs Ψ j B0 B e f g i=>h s _ _ B0 B e f.more (λk a=>a.imp (g k) id) λk a=>a.elim (λa=>(i k a).imp .inl id) λa=>.inl (.inr a)
def gbs(ys:jg CK)(b:jc):Prop:=∃k∈ys,gb k b
def ChI(a:jg CP)(M:jc)(w:jj)(ys:jg CK)(Ψ:jc->Prop)(W:jj):Prop:=(∀x∈ys,GK a Ψ W x)/\gP (M+1) 28 (M+1) RI.e RI.k ys.length (ys.map λk=>jH .i64 (k.ix:jc)) (λ_=>True) (λb=>Ψ b\/gbs ys b) W/\gP (M+2) 37 (M+1) RG.e RG.k ys.length (ys.flatMap λk=>aD k.g k.vm k.vt) (λ_=>True) (λb=>Ψ b\/gbs ys b) W/\(jk w w W/\∀k,Ψ k->w.heap.size<=k)
theorem Fu(a:jg CP)(M:jc)(w:jj)(B0:jc)(h:w.heap.size<=B0):bZ B0 (ChI a M w):=
 (Do _ _).and (((ni _ _ _ _ _ _ (λys:jg CK=>ys.length) (λys=>ys.map λk=>jH .i64 (k.ix:jc)) (λ_ _=>True)).more gbs).and (((ni _ _ _ _ _ _ (λys:jg CK=>ys.length) (λys=>ys.flatMap λk=>aD k.g k.vm k.vt) (λ_ _=>True)).more gbs).and (kK _ _ w (jD _) h)))
def Off(B M:jc)(t e:jM)(k:jc)(x:CK)(Ψ:jc->Prop)(W:jj):Prop:=∃n xs,gP B t M e k n xs (λ_=>True) (λb=>Ψ b\/gb x b) W
theorem Off.stable(B M:jc)(t e:jM)(k B0:jc):bZ B0 (Off B M t e k):=by
 rintro x Ψ a b W ⟨n,xs,h⟩ c d f;exact⟨n,xs,((ni B0 B t M e k (λ_:CK=>n) (λ_=>xs) (λ_ _=>True)).more gb) x Ψ a b W h c d f⟩
theorem Off.sep{e:jM}{x:CK}(h:Off b M r e B x D w)(k:Boxed w b r m):¬gb x b/\∀j,m.ownBlock=T j->¬gb x j:=by
 obtain⟨n,xs,u,c,d,-,f,-⟩:=h;have e:m=u:=by have a:T (Obj.cells #[m] r (0,0))=T (ja #[u] r (0,0)):=k.symm.trans c;injection a with a;injection a with a;simpa using a
 exact⟨λh=>d (.inr h),λj g h=>f j (by rw[<-e];exact g) (.inr h)⟩
theorem gP.less{e:jM}{n:jc}{a:jl->Prop}(h:gP b r M e B n u a D w)(d:∀k,E k->D k):gP b r M e B n u a E w:=by
 obtain⟨v,f,g,i,k,l⟩:=h;exact⟨v,f,λh=>g (d _ h),i,λj m h=>k j m (d _ h),l⟩
theorem uf{F:jg CK}{x:CK}(h:gbs (F++[x]) b):gbs F b\/gb x b:=by
 obtain⟨k,a,h⟩:=h
 rcases ow.1 a with a|a
 ·exact .inl ⟨k,a,h⟩
 rw[jP]at a;exact .inr (a▸h)
def DD(a:jg CP)(M:jc)(c:jc->CK->jq jl)(x:CK)(d:Act)(Ψ:jc->Prop)(W:jj):Prop:=(∃b,d={tmps:=c b x,defers:=[]}/\W.heap[b]?=T (ja (aK x).toArray VK.t (0,0))/\¬Ψ b/\GK a Ψ W x)/\Off (M+1) (M+1) 28 RI.e RI.k x Ψ W/\Off (M+2) (M+1) 37 RG.e RG.k x Ψ W
theorem Uf(i:jg CP)(M:jc)(j:jc->CK->jq jl)(B0:jc):bZ B0 (fun(s:CK×Act) Ψ W=>DD i M j s.1 s.2 Ψ W):=by
 rintro⟨x,p⟩ Ψ k q B ⟨⟨b,e,d,l,m⟩,n,o⟩ a f c;have g:¬k b:=λh=>by
  rcases c b h with h|h
  ·exact l h
  have:=(jA.1 d).1;omega
 exact⟨⟨b,e,a.cells d g,g,m.turns a c⟩,Off.stable _ _ _ _ _ B0 _ _ _ _ _ n a f c,Off.stable _ _ _ _ _ B0 _ _ _ _ _ o a f c⟩
theorem vB{k:jc}(h:w.ownsRow b r M m B u){o:Obj}(d:w.heap[k]?=T o)(c:o.isCells=jn):m.ownBlock≠T k:=λa=>by
 rcases h.2 with f|⟨g,j,l,i,-,n,-⟩
 ·rw[f.1]at a;cases a
 rw[i]at a;obtain rfl:g=k:=by injection a
 rw[d]at n;injection n with n
 rw[n]at c
 cases c
theorem ChI.step{E:jg CP}{n:jc}{a F l:jj}{i:jg CK}{x:CK}{u1 u2 m o y1 y2:jl}(H:∀k∈i++[x],GK E Ψ a k)(hB:jk w w a)(q:jk a a F)(hw:w.heap.size<=M+1)
 (hΨ:∀k,Ψ k->w.heap.size<=k) (hl:∀k,Ψ k->k<a.heap.size) (v:Boxed a (M+1) 28 u1) (K:Boxed a (M+2) 37 u2) (P:¬(Ψ (M+1)\/gbs (i++[x]) (M+1))) (Q:¬(Ψ (M+2)\/gbs (i++[x]) (M+2)))
 (R:∀j,u1.ownBlock=T j->¬(Ψ j\/gbs (i++[x]) j)) (S:∀j,u2.ownBlock=T j->¬(Ψ j\/gbs (i++[x]) j)) (ad:∀j,u1.ownBlock=T j->M+1<=j) (UM:∀j,u2.ownBlock=T j->M+1<=j) (U:n=i.length)
 (V:u1.ownBlock≠T (M+1)/\u2.ownBlock≠T (M+1)) (W:u1.ownBlock≠T (M+2)/\u2.ownBlock≠T (M+2)) (Zn:y1.cells.toList=[jd je (x.ix:jc)]) (au:y2.cells.toList=aD x.g x.vm x.vt)
 (d:zU RI RG (M+1) F l u1 u2 m o (n+1) (n+1) (i.map (λk=>jH .i64 (k.ix:jc))++y1.cells.toList) (i.flatMap (λk=>aD k.g k.vm k.vt)++y2.cells.toList)):
 ChI E M w (i++[x]) Ψ ((l.setCell ⟨M+1,0,jf⟩ m).setCell ⟨M+2,0,jf⟩ o)/\jk (M+1) a ((l.setCell ⟨M+1,0,jf⟩ m).setCell ⟨M+2,0,jf⟩ o)/\
  ∀k,k<a.heap.size->k≠M+1->k≠M+2->u1.ownBlock≠T k->u2.ownBlock≠T k->((l.setCell ⟨M+1,0,jf⟩ m).setCell ⟨M+2,0,jf⟩ o).heap[k]?=a.heap[k]?:=by
 have y:l.heap[M+1]?=T (ja #[u1] 28 (0,0)):=(d.heap _ (jJ v.lt q.size) V.1 V.2).trans (av v q);have k2:l.heap[M+2]?=T (ja #[u2] 37 (0,0)):=(d.heap _ (jJ K.lt q.size) W.1 W.2).trans (av K q);have z:∀k,k≠M+1->k≠M+2->((l.setCell ⟨M+1,0,jf⟩ m).setCell ⟨M+2,0,jf⟩ o).heap[k]?=l.heap[k]?:=λk B r=>(dz _ r).trans (dz _ B)
 have C:∀k,k<a.heap.size->k≠M+1->k≠M+2->u1.ownBlock≠T k->u2.ownBlock≠T k->((l.setCell ⟨M+1,0,jf⟩ m).setCell ⟨M+2,0,jf⟩ o).heap[k]?=a.heap[k]?:=λk h B r s X=>
  (z k B r).trans ((d.heap k (jJ h q.size) s X).trans (q.block k h))
 have aa:jk (M+1) a ((l.setCell ⟨M+1,0,jf⟩ m).setCell ⟨M+2,0,jf⟩ o):=by
  have h:=(q.mono (jO _)).trans d.bel;have r:=(h.setCell (p:=⟨M+1,0,jf⟩) (jO _) m).setCell (p:=⟨M+2,0,jf⟩) (jO _) o;refine⟨r.os,r.tape,r.output,r.size,λk u=>?_⟩;have s:=v.lt;exact C k Y Y Y (λe=>by have:=ad k e;omega) (λe=>by have:=UM k e;omega)
 have D:∀j,(Ψ j\/gbs (i++[x]) j)->j<a.heap.size:=by
  rintro j (h|⟨k,u,h⟩)
  ·exact hl j h
  obtain⟨-,-,c,t,f,s⟩:=rM (H k u) h;exact(jA.1 s).1
 have hz:=q.size;refine⟨⟨λk u=>(H k u).keep λb hb s X=>⟨?_,s⟩,⟨m,?_,P,?_,?_,trivial⟩,⟨o,?_,Q,?_,?_,trivial⟩,hB.trans (aa.mono hw),hΨ⟩,aa,C⟩
 ·have c:Ψ b\/gbs (i++[x]) b:=.inr ⟨k,u,hb⟩
  exact C b (D b c) (λe=>P (e▸c)) (λe=>Q (e▸c)) (λe=>R b e c) (λe=>S b e c)
 ·exact(dz _ (show M+1≠M+2 by omega)).trans (ft m y)
 ·have h:=iz d.own1 λg f=>z g (λe=>cQ d.own1 y G (e▸f)) (λe=>cQ d.own1 k2 G (e▸f))
  rw[Zn,U]at h;rw[o5,mz];exact h
 ·intro j t c
  rcases d.lie1 with h|h
  ·exact R j (h▸t) c
  have:=h j t;have:=D j c;omega
 ·exact ft o ((dz _ (show M+2≠M+1 by omega)).trans k2)
 ·have h:=iz d.own2 λg f=>z g (λe=>cQ d.own2 y G (e▸f)) (λe=>cQ d.own2 k2 G (e▸f))
  rw[au,U]at h;rw[o5,List.flatMap_append,List.flatMap_singleton];exact h
 intro j t c
 rcases d.lie2 with h|h
 ·exact S j (h▸t) c
 have:=h j t;have:=D j c;omega
theorem uF(d:jg CP)(v:jl)(ax:jb)(UJ:LBy)(n:UJ.length=32)(w:jj)(q:cC w v d)(t:∀p∈d,cY (aR p.1))(u:bQ w)(S:d.length<=1000)(x:∀p∈d,p.1.chg.length<=1000000):
 jB jo 6 #[jh (dc ax UJ).toArray,v] w λe w'=>∃(u1 u2:jl) (Ks:jg CK),e=jz (jI #[u1,u2])/\Ks.map CK.cand=dU ax UJ (d.map (·.1))/\aH (λb=>w.heap.size<=b/\b<w'.heap.size) w' u1 1 Ks.length (Ks.map λk=>jH .i64 k.ix)/\
  aH (λb=>w.heap.size<=b/\b<w'.heap.size) w' u2 36 Ks.length (Ks.flatMap λk=>aD k.g k.vm k.vt)/\(∀k∈Ks,KD (λb=>b<w'.heap.size) d w' k)/\jk w w w':=by
 obtain⟨p1,k1,rfl⟩:=q.form;obtain⟨r,j⟩:=J ((dc ax UJ).toArray);have ZK:N (r.size=VF.n):=O (by rw[j,jv];unfold dc;rw[jZ,jw,n];rfl);rw[<-j];obtain⟨M,f⟩:=J w.heap.size;obtain⟨x0,a⟩:=J (((w.alloc (ja r 25)).alloc (ja #[A jf 0 0] 28)).alloc (ja #[A jf 0 0] 37));have l:=ao w (ja r 25);have s:=l.trans ((ao (w.alloc (ja r 25)) (ja #[A jf 0 0] 28)).mono l.size);have m:=ao ((w.alloc (ja r 25)).alloc (ja #[A jf 0 0] 28)) (ja #[A jf 0 0] 37);have c:N (x0.heap[M]?=T (ja r VF.t (0,0))):=O (by rw[a,f];exact av (av (jy w _) (ao _ _)) m);have Vf:N (x0.heap[M+1]?=T (ja #[A jf 0 0] 28 (0,0))):=O (by
  have h:=jy (w.alloc (ja r 25)) (ja #[A jf 0 0] 28);rw[jp]at h;rw[a,f];exact av h m)
 have Vt:N (x0.heap[M+2]?=T (ja #[A jf 0 0] 37 (0,0))):=O (by
  have h:=jy ((w.alloc (ja r 25)).alloc (ja #[A jf 0 0] 28)) (ja #[A jf 0 0] 37);rw[jp,jp]at h;rw[a,f];exact h)
 have H:N (jk w w x0):=O (by rw[a];exact s.trans (m.mono s.size));have bk:N (x0.heap.size=M+3):=O (by rw[a,f,jp,jp,jp]);obtain⟨xF,g⟩:=J (w.alloc (ja r 25));have ay:N (xF.heap.size=M+1):=O (by rw[g,f,jp]);have ba:N (jk w w xF):=O (by rw[g];exact l);have U:N (jk (M+1) xF x0):=O (by
  have h:=(ao xF (ja #[A jf 0 0] 28)).trans ((ao (xF.alloc (ja #[A jf 0 0] 28)) (ja #[A jf 0 0] 37)).mono (ao xF _).size);rw[ay,g,<-a]at h;rw[g];exact h)
 have HL:=O q;have HE:=O t;have HT:=O u;have HN:=O S;have VS:=O x;have HM:=O f;have y:=O a;have bl:=O j;have bm:=O n;clear g l s m j f a q t u S x n;refine(qM (n:=0)).1 ?_;refine sl func6 I trivial ?_ I;refine wpIn_wide.2 ?_;simp only[ntmps6,jv,jZ,qw,qx,qy,qz,qA,qB,qC,qg,qD]
 go_upto_region 1 with fail
 rw[<-y]
 try simp only[jp]
 try rw[show w.heap.size+1+1=w.heap.size+2 from I]
 rw[<-HM];clear y;refine jL ?_;refine fb (λg=>g.heap[M]?=T (ja r VF.t (0,0))) 4 (.t 0 (.t 2 (.o 1 (.o 3 .done)))) af af af af G (λ_ _ _ _ h=>h) c ?_;have a:=bV x0;obtain⟨x1,V⟩:=J x0.drew;rw[<-V]at a⊢;have bb:N (M+3<=x1.heap.size):=O (by rw[<-bk];exact a.size);replace H:=ah H a;replace c:=ae c a;replace Vf:=ae Vf a;replace U:=O (U.trans (a.mono (by have:=U.size;have:=ay.out;omega)));replace Vt:=ae Vt a;clear V a;refine bX ?_
 (refine cD (v:=jh r) I aj (λg m=>cU VF.hu VF.hd (by rw[ZK];exact VF.hi) I I m) ?_;refine L ?_)
 refine cO I (λK' f=>?_);go_simp;refine(pZ d _ x1 (HL.below H) HE (HT.below H) HN).mono ?_;rintro e x2 ⟨v2,v3,rfl,j,a⟩;have l:=O (j.mono (E:=λb=>M+3<=b/\b<x2.heap.size) λb q=>⟨jE bb q.1,q.2⟩);have Zm:N (M+3<=x2.heap.size):=O (jE bb a.size);replace H:=ah H a;replace c:=ae c a;replace Vf:=ae Vf a;replace U:=O (U.trans (a.mono (by have:=U.size;have:=ay.out;omega)));replace Vt:=ae Vt a;refine f _ _ c.out λ_=>?_
 clear f j a;refine L ?_;refine cO I (λK' f=>?_);go_simp;refine(zS _ r x2).mono ?_;rintro e s ⟨rfl,j⟩;have a:jk x2 x2 s:=by rw[j];exact(ao _ _).trans ((ao _ _).mono (ao _ _).size)
 have Zg:N (s.heap[x2.heap.size]?=T (ja #[A p1 d.length k1,v2,v3] VP.t (0,0))):=O (by rw[j];exact av (jy x2 _) (ao _ _));have bc:N (s.heap[x2.heap.size+1]?=T (ja r VF.t (0,0))):=O (by
  have h:=jy (x2.alloc (ja #[A p1 d.length k1,v2,v3] 76)) (ja r 25);rw[jp]at h;rw[j];exact h)
 have ZL:N (s.heap.size=x2.heap.size+2):=O (by rw[j,jp,jp]);replace H:=ah H a;replace Vf:=ae Vf a;replace U:=O (U.trans (a.mono (by have:=U.size;have:=ay.out;omega)));replace Vt:=ae Vt a;have t:N (aH (λb=>M+3<=b/\b<s.heap.size) s v2 32 (bH (d.map (·.1)) d.length).length (iX (d.map (·.1)) (bH (d.map (·.1)) d.length))):=O ((l.ids.keep λb q=>a.block b q.2).mono λb q=>⟨q.1,by have:=ZL.out;omega⟩);have u:N (aH (λb=>M+3<=b/\b<s.heap.size) s v3 1 (bH (d.map (·.1)) d.length).length (iV (bH (d.map (·.1)) d.length))):=O ((l.at_.keep λb q=>a.block b q.2).mono λb q=>⟨q.1,by have:=ZL.out;omega⟩);refine f _ _ (av c a) λ_=>?_
 clear f j a c l;refine L ?_;refine eH ?_
 go_wp2_with fail
 obtain⟨bp,c⟩:=J x2.heap.size;rw[<-c]at Zg bc Zm ZL⊢;have j:=yw d (A p1 d.length k1) v2 v3 ax UJ bm xF s (M+1) (M+3) bp (bp+1) (j5 ay) U Y (ee ZL Zm) (HL.below ba) t u Zg.out (by rw[<-bl];exact bc) Zm (aI Zm) HE (HT.below ba) HN VS;have bn:=O j;clear j c t u;refine(wpIn_wide (n:=0)).1 ?_;refine rL (n:=0) (gf:=56) (lb:=#[jt (T ⟨bp,0,jf⟩),jt (T ⟨bp+1,0,jf⟩)]) I (enters_of func56 af I) bn (ee ZL Zm) (λ_=>rfl) (λk l=>l.2)
  (ChI d M w)
  (λ_ _ _ _=>False) ?hI (λys Ψ B h=>h.1) (λ_=>fq _ _) ?h0
  (DD d M λb x=>#[jh r,A p1 d.length k1,jt (T ⟨M,0,jf⟩),jm,jt (T ⟨M+1,0,jf⟩),jt (T ⟨M+2,0,jf⟩),jt (T ⟨b,0,jf⟩),A p1 d.length k1,jh #[A p1 d.length k1,v2,v3],jh r,.func (.func 56) #[] #[jt (T ⟨bp,0,jf⟩),jt (T ⟨bp+1,0,jf⟩)],jh (aK x).toArray,jm,jm,jm,jm,jm,jm,jm,jm,jm,jm,jm,jm]) ?hAx ?assign ?body ?done ?stop
 case hI=>exact Fu _ _ _ _ H.size
 case h0=>exact⟨(λx V=>by cases V),⟨_,Vf,λh=>h.elim (λh=>by have h:=h.1;omega) fun⟨_,l,_⟩=>(by cases l),qX _ _ _ _,by simp[wi],trivial⟩,⟨_,Vt,λh=>h.elim (λh=>by have h:=h.1;omega) fun⟨_,l,_⟩=>(by cases l),qX _ _ _ _,by simp[wi],trivial⟩,H,λk l=>by have:=HM.out;omega⟩
 case stop=>
  intro D c UD Ψ W _ _ h;exact h.elim
 case hAx=>exact Uf _ _ _ _
 case assign=>
  intro l' UD x Ψ t K hI y hV hΨ f;have aa:GK d Ψ t x:=by
   obtain⟨⟨j,u,e,h⟩,-⟩:=hV;have e2:=(qY e I).2;injection e2 with e2
   rw[e2];exact h
  have Q:=KD.kin aa (HL.below hI.2.2.2.1);obtain⟨X,j⟩:=J ((aK x).toArray);have z:X.size=VK.n:=by rw[j,jv];exact Q.len
  have B:X.all (·.oneCell')=ji:=by rw[j,jS];exact λu hu=>Q.ones u (ak hu)
  have F:=O z;have Vf:=O B;have C:=O j;have P:=O f;have R:=O hI;have Wi:N (Off (M+1) (M+1) 28 RI.e RI.k x Ψ t):=O ⟨_,_,y.2.1.less λk l=>.inl l⟩;have Vw:N (Off (M+2) (M+1) 37 RG.e RG.k x Ψ t):=O ⟨_,_,y.2.2.1.less λk l=>.inl l⟩;have ad:=O aa;have HΨ:=O hΨ;rw[<-j];clear j z B f hI y aa hV Q hΨ;rw[zM];simp only[qZ,q7,q8]
  gi_wp2_with (first|(refine VK.madeI I I (L ?_))|(refine VK.firstI I I I X I F Vf (L ?_)))
  have y:=ao t (ja X VK.t);refine P _ _ y (Fu d M w w.heap.size (jD _) _ _ _ _ _ R.out (bP.ofBelow y λ_ h _=>h) (λ_ h=>h) λ_ h=>.inl h) ?_;have z:bP 0 Ψ t (t.alloc (ja X VK.t)):=bP.ofBelow y λ_ h _=>h
  refine⟨⟨t.heap.size,by rw[C],by rw[<-C];exact jy _ _,λh=>by have:=HΨ _ h;omega,ad.turns z λ_ h=>.inl h⟩,Off.stable _ _ _ _ _ 0 _ _ _ _ _ Wi.out z (λ_ h=>h) λ_ h=>.inl h,Off.stable _ _ _ _ _ 0 _ _ _ _ _ Vw.out z (λ_ h=>h) λ_ h=>.inl h⟩
 case body=>
  rintro l' UD x Ψ bA a5 ⟨aa,⟨u1,y,a3,C,ad,-⟩,⟨u2,B,Vs,F,au,-⟩,a1,hΨ⟩ ⟨⟨b,rfl,a6,bB,bd⟩,bo,bq⟩ hV YC br hl bf bs;obtain⟨K,P,rfl⟩:=cN C;obtain⟨q2,c2,rfl⟩:=cN F;obtain⟨n,S⟩:=J UD.length;rw[<-S]at y B C F ad au;have Q:=KD.kin bd (HL.below a1);obtain⟨X,j⟩:=J ((aK x).toArray);have bu:N (X[0]?=T (jd je (x.ix:jc))):=O (by rw[j];simpa using(mR Q).1);have bv:N (∀z:jj,z.heap[b]?=T (ja X VK.t (0,0))->z.rangeAt b 107 (aD x.g x.vm x.vt)):=O λz hz t u ht=>ai hz (by
   rw[j,ms];have h:=nM Q (1+t);rw[<-qo,qu 1 t,qF]at h;exact h.trans ht)
  have Wu:N ((aD x.g x.vm x.vt).length=VG.n):=O (eE Q.leads.llen);have VN:N (∀u∈aD x.g x.vm x.vt,u.oneCell'=ji):=O (mi Q.leads);obtain⟨GA,R⟩:=J ((aD x.g x.vm x.vt).toArray);have Zo:=O R;have a2:=O S;have bg:N (n<=1000000):=O (by
   obtain⟨-,-,-,a4,hV⟩:=hV;have h1:=ql List.length hV;have h2:(dU ax UJ (d.map (·.1))).length<=(d.map (·.1)).length+1:=zi _ _ _;have h3:=HN.out;have h4:=a2.out;rw[o5,jw,o5]at h1;rw[jw]at h2
   omega)
  dsimp only;rw[<-j]at a6⊢;clear j R S Q
  gi_upto_region 3 with fail
  refine Sg (λg=>g.heap[M+1]?=T (ja #[A K n P] 28 (0,0))/\g.heap[M+2]?=T (ja #[A q2 n c2] 37 (0,0))/\g.heap[b]?=T (ja X VK.t (0,0))) 10
   (.t 0 (.t 1 (.t 2 (.t 5 (.t 6 (.t 7 (sc id (.o 10 (.o 11 .done))))))))) af af af af af G (λ_ _ _ _ h=>h) (fun⟨_,_,h⟩=>h) ⟨y,B,a6⟩ ?_
  have a:=bV a5;obtain⟨A1,V⟩:=J a5.drew;rw[<-V]at a⊢;have y1:=av y a;have y2:=av B a;have yb:=av a6 a;have R1:=cK C a;have R2:=cK F a;have bC:a5.heap.size<=A1.heap.size:=a.size;clear V
  (refine cD (v:=?_) I aj (λg m=>?_) ?_;rotate_left;(have b1:=ai (i:=0) m.1 I;clear m;go_simp;with_reducible rfl);refine L ?_)
  refine bX ?_
  (refine cD (v:=?_) I aj (λg m=>?_) ?_;rotate_left;(have b1:=ai (i:=0) m.2.2 bu;clear m;go_simp;with_reducible rfl);refine L ?_)
  (refine cD (v:=?_) I aj (λg m=>?_) ?_;rotate_left;(have b1:=ai (i:=0) m.2.1 I;clear m;go_simp;with_reducible rfl);refine L ?_)
  refine bX ?_
  (refine cD (v:=jh GA) I aj (λg m=>by rw[Zo];exact fk _ _ VG.t _ I _ _ I _ VG.d (bv g m.2.2) VG.hu VG.hd (by rw[Wu];exact VG.hi)) ?_;refine L ?_)
  refine Ag RI RG (T0:=id) (E:=id) (r1:=15) (r2:=16) (rb:=20) (r3:=21) (s1:=14) (s2:=19) (t1:=12) (t2:=17) af (λ_ _ _ _ h=>h) af af
   rfl rfl rfl rfl rfl rfl rfl rfl rfl rfl rfl rfl rfl rfl rfl rfl (show 15<24 by decide) (show 20<24 by decide) G G G G G G
   (λj v=>rfl) (λj=>rfl) (λj=>rfl) (λj=>rfl) (λj w' R h Q=>Q)
   (x1:=jd je (x.ix:jc)) (x2:=jh GA) (u1:=A K n P) (u2:=A q2 n c2) rfl rfl rfl rfl rfl (by rw[Zo];exact Wu) (by simp[Value.cells,j4]) (λu hu=>VN u (by rw[Zo]at hu;simpa [Value.cells]using hu)) R1 R2 (AQ R1 R2 G) bg bg (by have:=(jA.1 y1).1;omega) ?_ ?_
  ·intro w' l br
   exact⟨(l _ (jA.1 y1).1 (cQ R1 y1 G) (cQ R2 y1 G)).trans y1,(l _ (jA.1 y2).1 (cQ R1 y2 G) (cQ R2 y2 G)).trans y2,
    (l _ (jA.1 yb).1 (cQ R1 yb G) (cQ R2 yb G)).trans yb⟩
  rintro z1 z2 bI a4 A2 j;obtain⟨bK,d1,rfl⟩:=cN j.own1;obtain⟨bM,d2,rfl⟩:=cN j.own2;have bh:=(j.heap _ (jA.1 y1).1 (cQ R1 y1 G) (cQ R2 y1 G)).trans y1;have bi:=(j.heap _ (jA.1 y2).1 (cQ R1 y2 G) (cQ R2 y2 G)).trans y2;have Q:=ai (i:=0) bh I;have R:=ai (i:=0) bi I;have f1:=gs (o:=0) bh;have f2:=gs (o:=0) bi;have bw:=O j;clear j;refine L ?_;refine nL I G af (λK' f=>?_);go_simp;refine f _ _ ?_;clear f;refine L ?_;refine nL I G af (λK' f=>?_);go_simp;refine f _ _ ?_;clear f Q R f1 f2;refine L ?_;show((_ /\_)/\_ /\_)/\_;have R:=bo.sep y;have g2:=bq.sep B;obtain⟨s1,s2,s3⟩:=ChI.step (y1:=jd je (x.ix:jc)) (y2:=jh GA) (λk l=>by
   rcases ow.1 l with l|l
   ·exact aa k l
   ·rw[jP]at l;rw[l];exact bd) a1 a (by rw[<-HM];exact j6 _) hΨ YC y B
   (λh=>h.elim (λh=>a3 (.inl h)) λh=>(uf h).elim (λh=>a3 (.inr h)) R.1) (λh=>h.elim (λh=>Vs (.inl h)) λh=>(uf h).elim (λh=>Vs (.inr h)) g2.1)
   (λj Q h=>h.elim (λh=>ad j Q (.inl h)) λh=>(uf h).elim (λh=>ad j Q (.inr h)) (R.2 j Q)) (λj Q h=>h.elim (λh=>au j Q (.inl h)) λh=>(uf h).elim (λh=>au j Q (.inr h)) (g2.2 j Q))
   (λj Q=>(C.lt j Q).1) (λj Q=>(F.lt j Q).1) a2 ⟨cQ C y G,cQ F y G⟩ ⟨cQ C B G,cQ F B G⟩ rfl (by rw[Zo];rfl) bw
  have Q:=ZL.out;have bN:=Zm.out;obtain⟨rl,j⟩:=bs;refine⟨⟨⟨s3 _ Y Y Y (vB C bf I) (vB F bf I),s3 _ Y Y Y (vB C j I) (vB F j I)⟩,s2,λk l=>s3 k (YC k l) (λe=>a3 (.inl (e▸l))) (λe=>Vs (.inl (e▸l))) (λe=>ad k e (.inl l)) (λe=>au k e (.inl l))⟩,s1⟩
 rintro D xs Ψ W rfl m ⟨aa,⟨u1,y,a3,C,ad,-⟩,⟨u2,B,Vs,F,au,-⟩,a1,hΨ⟩ a6;obtain⟨K,P,rfl⟩:=cN C;obtain⟨q2,c2,rfl⟩:=cN F;obtain⟨n,S⟩:=J xs.length;rw[<-S]at y B C F ad au;have a2:=O S;clear S;have x:=y.cell;have z:=y.frozen;have Q:=B.cell;have S:=B.frozen
 go_upto_region 4 with fail
 refine jL ?_;refine fb (λg=>g.heap[M+1]?=T (ja #[A K n P] 28 (0,0))/\g.heap[M+2]?=T (ja #[A q2 n c2] 37 (0,0))) 4 (.t 0 (.t 1 (.o 2 (.o 3 .done)))) af af af af G (λ_ _ _ _ h=>h) ⟨y,B⟩ ?_;have a:=bV W;obtain⟨u,V⟩:=J W.drew;rw[<-V]at a⊢;have X:=av y a;have a4:=av B a;have j:=ai (i:=0) X I;have e2:=ai (i:=0) a4 I;have R:=gs (o:=0) X;have g2:=gs (o:=0) a4;clear x z Q S V
 (refine cD (v:=?_) I aj (λg m=>?_) ?_;rotate_left;(have b1:=ai (i:=0) m.1 I;clear m;go_simp;with_reducible rfl);refine L ?_)
 (refine cD (v:=?_) I aj (λg m=>?_) ?_;rotate_left;(have b1:=ai (i:=0) m.2 I;clear m;go_simp;with_reducible rfl);refine L ?_)
 have w1:=ft (i:=0) (A K n P) X;have x:=(dz (w:=u) (b:=M+1) (i:=0) (A K n P) (show M+2≠M+1 by omega)).trans a4;refine cO I (λK' f=>?_);go_simp;refine f _ _ ⟨w1,x⟩ λ_=>?_
 clear f j e2 R g2;refine L ?_;have bd:∀k,(u.setCell ⟨M+1,0,jf⟩ (A K n P)).heap[k]?=u.heap[k]?:=λk=>by
  by_cases e:k=M+1
  ·rw[e,w1,X];rfl
  exact dz _ e
 have bf:jk w w (u.setCell ⟨M+1,0,jf⟩ (A K n P)):=(a1.trans (a.mono a1.size)).setCell (p:=⟨M+1,0,jf⟩) (by rw[<-HM];exact j6 _) _;generalize u.setCell ⟨M+1,0,jf⟩ (A K n P)=z at w1 x bd bf⊢;have a5:z.heap[M+1]?=T (ja #[A K n P] 28 (0,0)):=w1;have j:=ai (i:=0) a5 I;have e2:=ai (i:=0) x I;have R:=gs (o:=0) a5;have g2:=gs (o:=0) x;have Q:=ft (i:=0) (A q2 n c2) x;have w4:=(dz (w:=z) (b:=M+2) (i:=0) (A q2 n c2) (show M+1≠M+2 by omega)).trans a5;refine cO I (λK' f=>?_);go_simp;refine f _ _ ⟨w4,Q⟩ λ_=>?_
 clear f j e2 R g2;refine L ?_;have S:∀k,(z.setCell ⟨M+2,0,jf⟩ (A q2 n c2)).heap[k]?=u.heap[k]?:=λk=>by
  refine Eq.trans ?_ (bd k)
  by_cases e:k=M+2
  ·rw[e,Q,x];rfl
  exact dz _ e
 have bg:jk w w (z.setCell ⟨M+2,0,jf⟩ (A q2 n c2)):=bf.setCell (p:=⟨M+2,0,jf⟩) (by rw[<-HM];exact q9 _ _) _;generalize z.setCell ⟨M+2,0,jf⟩ (A q2 n c2)=W3 at Q w4 S bg⊢;refine eH ?_
 go_wp2_with fail
 have j:W3.heap[s.heap.size]?=T (.deferred (T [])):=(S _).trans (av a6 a);have bh:M+1≠s.heap.size:=λe=>by rw[<-e,w4]at j;cases j
 have bi:M+2≠s.heap.size:=λe=>by rw[<-e,Q]at j;cases j
 have z1:=ai (i:=0) ((nn (w:=W3) (o:=.deferred jf) bh).trans w4) I;have z2:=ai (i:=0) ((nn (w:=W3) (o:=.deferred jf) bi).trans Q) I;have r1:=ownsRow_putObj (iz (cK C a) λb _=>S b) (.deferred jf) j I;have r2:=ownsRow_putObj (iz (cK F a) λb _=>S b) (.deferred jf) j I;have bo:w.heap.size<=s.heap.size:=H.size;refine⟨by simp,.inl ⟨_,_,I,qN (b:=s.heap.size) (ds:=[]) j,?_⟩⟩;refine⟨jI #[A K n P,A q2 n c2],by simp[results,results6,go_sem,z1,z2],_,_,I,xs,m,?_,?_,?_,?_⟩
 ·rw[<-a2];exact aH.of_own r1 λg f=>⟨by have:=(r1.lt g f).1;rw[<-HM];omega,(r1.lt g f).2⟩
 ·rw[<-a2];exact aH.of_own r2 λg f=>⟨by have:=(r2.lt g f).1;rw[<-HM];omega,(r2.lt g f).2⟩
 ·intro k l
  have h:=aa k l;have g:∀b,(gb k b/\¬Ψ b/\∃c t f,W.heap[b]?=T (ja c t f))->(W3.putObj s.heap.size (.deferred jf)).heap[b]?=W.heap[b]?:=λb q=>by
   obtain⟨-,-,c,t,f,q⟩:=q;refine(nn (λe=>by rw[e,a6]at q;cases q)).trans ((S b).trans (a.block b (jA.1 q).1))
  refine(KD.keep h g).mono λb q=>?_
  obtain⟨h0,h1,c,t,f,h2⟩:=q;exact(jA.1 ((g b ⟨h0,h1,c,t,f,h2⟩).trans h2)).1
 exact bg.trans (iy bo)
section
def BxI(a:jg CP)(w:jj)(V:jg CK->jc->jG Obj)(ys:jg CK)(Ψ:jc->Prop)(W:jj):Prop:=(∀x∈ys,GK a Ψ W x)/\(∀b o,V ys b=T o->o.isCells=ji/\W.heap[b]?=T o/\¬(Ψ b\/gbs ys b))/\(jk w w W/\∀k,Ψ k->w.heap.size<=k)
theorem BxI.stable(j:jg CP)(w:jj)(V:jg CK->jc->jG Obj)(B0:jc)(h:w.heap.size<=B0):bZ B0 (BxI j w V):=by
 refine(Do _ _).and (bZ.and ?_ (kK _ _ w (jD _) h));intro ys Ψ k r B l m s n b o p;obtain⟨d,c,f⟩:=l b o p;have q:=(jA.1 c).1;have g:¬(k b\/gbs ys b):=λh=>h.elim (λh=>(n b h).elim (λh=>f (.inl h)) λh=>by omega) λh=>f (.inr h)
 refine⟨d,?_,g⟩
 rcases m.block b q λh=>g (.inl h)with e|⟨-,t,a,i⟩
 ·exact e.trans c
 rw[c]at a;injection a with a;rw[<-a,d]at i;cases i
def EAx(a:jg CP)(E:jc->Prop)(c:jc->CK->jq jl)(x:CK)(d:Act)(Ψ:jc->Prop)(W:jj):Prop:=∃b,d={tmps:=c b x,defers:=[]}/\W.heap[b]?=T (ja (aK x).toArray VK.t (0,0))/\¬Ψ b/\GK a Ψ W x/\∀e,E e->¬gb x e
theorem EAx.stable(g:jg CP)(E:jc->Prop)(i:jc->CK->jq jl)(B0:jc):bZ B0 (fun(s:CK×Act) Ψ W=>EAx g E i s.1 s.2 Ψ W):=by
 rintro⟨x,n⟩ Ψ j o B ⟨b,e,a,k,l,m⟩ c p d;have f:¬j b:=λh=>by
  rcases d b h with h|h
  ·exact k h
  have:=(jA.1 a).1;omega
 exact⟨b,e,c.cells a f,f,l.turns c d,m⟩
theorem BxI.step{l:jg CP}{g B:jj}{V:jg CK->jc->jG Obj}{i:jg CK}{x:CK}{n:jc}(h:BxI l w V i Ψ g)(r:GK l Ψ g x)(s:∀e,E e->¬gb x e)(m:∀b o,V (i++[x]) b=T o->E b/\o.isCells=ji/\B.heap[b]?=T o)
 (u:∀b,E b->∃o,V i b=T o) (v:∀k,Ψ k->k<g.heap.size) (y:jk n g B) (z:w.heap.size<=n) (p:∀k,k<g.heap.size->¬E k->B.heap[k]?=g.heap[k]?):BxI l w V (i++[x]) Ψ B/\∀k,Ψ k->B.heap[k]?=g.heap[k]?:=by
 have he:∀e,E e->¬(Ψ e\/gbs i e):=λe a=>by obtain⟨o,j⟩:=u e a;exact(h.2.1 e o j).2.2
 have C:∀k∈i++[x],GK l Ψ g k:=λk a=>by
  rcases ow.1 a with a|a
  ·exact h.1 k a
  rw[jP]at a;rw[a];exact r
 have q:∀e,E e->¬(Ψ e\/gbs (i++[x]) e):=λe a d=>d.elim (λd=>he e a (.inl d)) λd=>(uf d).elim (λd=>he e a (.inr d)) (s e a)
 refine⟨⟨λk a=>(C k a).keep λb d D ⟨c,t,f,F⟩=>⟨p b (jA.1 F).1 λH=>q b H (.inr ⟨k,a,d⟩),D⟩,λb o j=>⟨(m b o j).2.1,(m b o j).2.2,q b (m b o j).1⟩,h.2.2.1.trans (y.mono z),h.2.2.2⟩,λk a=>p k (v k a) λd=>he k d (.inl a)⟩
noncomputable def kR:jG CK->jq jl
 |none=>VG.Z
 |some k=>(aD k.g k.vm k.vt).toArray
theorem Ud{P:p6}{fn:Func}{p q:Tmp}{c i:jM}(h:fn.results= #[.cell p c,.cell q i])(tmps:jq jl)(w:jj)(g j:jc)(t:jM)(f:jq jl)(x:jl)(k:jc×jc)(d:TypeDesc)
 (l:tmps.getD p jm=jt (T ⟨g,0,jf⟩)) (m:tmps.getD q jm=jt (T ⟨j,0,jf⟩)) (n:w.heap[g]?=T (ja f t k)) (o:(loadVar i ⟨j,0,jf⟩).run P w=.ok x w)
 (r:P.underlying c=T d) (s:(match d with| .struct _ | .array _ _=>ji|_=>jn)=ji) (u:(P.info? c).map (·.size)=T f.size):
 (results fn tmps).run P w=.ok (jI #[jh f,x]) w:=by
 have e:(results fn tmps).run P w=((asAddr (tmps.getD p jm)).run P w).andThen λa y=>((loadVar c a).run P y).andThen λv z=>((asAddr (tmps.getD q jm)).run P z).andThen λb B=>((loadVar i b).run P B).andThen λC D=>.ok (jI #[v,C]) D:=by
  simp only[results,h];simp[Sem.run_bind,Result.andThen]
 rw[e,l];simp only[asAddr,Sem.run_pure,Result.andThen_ok,run_loadVar_row w g t c f k d n r s u,m,o]
theorem Qc{n:jC}{f:jc×jc}(h:w.heap[b]?=T (ja #[.bool n] r f)):(loadVar 4 ⟨b,0,jf⟩).run jo w=.ok (.bool n) w:=by
 have c:=ai (i:=0) h I;go_simp
noncomputable def cuV(M:jc)(ys:jg CK)(b:jc):jG Obj:=if b=M+1 then T (ja (kR ys.getLast?) VG.t (0,0))else if b=M+2 then T (ja #[.bool ys.getLast?.isSome] 4 (0,0))else jf
def cuE(M b:jc):Prop:=b=M+1\/b=M+2
theorem uw(M:jc)(ys:jg CK):cuV M ys (M+1)=T (ja (kR ys.getLast?) VG.t (0,0)):=jr I
theorem vx(M:jc)(ys:jg CK):cuV M ys (M+2)=T (ja #[.bool ys.getLast?.isSome] 4 (0,0)):=(jF Y).trans (jr I)
theorem Ea{F:jg CK}{o:Obj}(h:cuV b F M=T o):(M=b+1/\o=ja (kR F.getLast?) VG.t (0,0))\/(M=b+2/\o=ja #[.bool F.getLast?.isSome] 4 (0,0)):=by
 unfold cuV at h
 split at h
 ·rename_i e;injection h with h;exact .inl ⟨e,h.symm⟩
 split at h
 ·rename_i e;injection h with h;exact .inr ⟨e,h.symm⟩
 cases h
theorem Im{a:jg CP}{v:jl}{k:jG CK}(h:∀x,k=T x->GK a Ψ W x)(c:cC W v a):(kR k).size=VG.n/\(kR k).all (·.oneCell')=ji:=by
 rcases k with _|k
 ·exact⟨VG.hZ,by kernel_rfl⟩
 have b:=KD.kin (h k I) c;refine⟨by unfold kR;rw[jv];exact eE b.leads.llen,?_⟩;unfold kR;rw[jS];exact λu d=>mi b.leads u (ak d)
attribute [local go_sem] Oper.semAt_some
theorem BW(d:jg CP)(v:jl)(aa:jb)(UJ:LBy)(r:UJ.length=32)(w:jj)(t:cC w v d)(u:∀p∈d,cY (aR p.1))(y:bQ w)(z:d.length<=1000)(B:∀p∈d,p.1.chg.length<=1000000):
 jB jo 15 #[jh (dc aa UJ).toArray,v] w λe w'=>∃k:jG CK,e=jz (jI #[jh (kR k),.bool k.isSome])/\k.map CK.cand=(dU aa UJ (d.map (·.1))).getLast?/\(∀x,k=T x->KD (λb=>b<w'.heap.size) d w' x)/\jk w w w':=by
 obtain⟨p1,k1,rfl⟩:=t.form;obtain⟨j,l⟩:=J ((dc aa UJ).toArray);have ZK:N (j.size=VF.n):=O (by rw[l,jv];unfold dc;rw[jZ,jw,r];rfl);rw[<-l];obtain⟨M,f⟩:=J w.heap.size;obtain⟨C,a⟩:=J (((w.alloc (ja j 25)).alloc (ja VG.Z VG.t)).alloc (ja #[.bool jn] 4));have P:=ao w (ja j 25);have UM:=P.trans ((ao (w.alloc (ja j 25)) (ja VG.Z VG.t)).mono P.size);have o:=ao ((w.alloc (ja j 25)).alloc (ja VG.Z VG.t)) (ja #[.bool jn] 4);have c:N (C.heap[M]?=T (ja j VF.t (0,0))):=O (by rw[a,f];exact av (av (jy w _) (ao _ _)) o);have s:N (C.heap[M+1]?=T (ja VG.Z VG.t (0,0))):=O (by
  have h:=jy (w.alloc (ja j 25)) (ja VG.Z VG.t);rw[jp]at h;rw[a,f];exact av h o)
 have Q:N (C.heap[M+2]?=T (ja #[.bool jn] 4 (0,0))):=O (by
  have h:=jy ((w.alloc (ja j 25)).alloc (ja VG.Z VG.t)) (ja #[.bool jn] 4);rw[jp,jp]at h;rw[a,f];exact h)
 have m:N (jk w w C):=O (by rw[a];exact UM.trans (o.mono UM.size));have a6:N (C.heap.size=M+3):=O (by rw[a,f,jp,jp,jp]);obtain⟨R,g⟩:=J (w.alloc (ja j 25));have ad:N (R.heap.size=M+1):=O (by rw[g,f,jp]);have ay:N (jk w w R):=O (by rw[g];exact P);have q:N (jk (M+1) R C):=O (by
  have h:=(ao R (ja VG.Z VG.t)).trans ((ao (R.alloc (ja VG.Z VG.t)) (ja #[.bool jn] 4)).mono (ao R _).size);rw[ad,g,<-a]at h;rw[g];exact h)
 have HL:=O t;have HE:=O u;have HT:=O y;have HN:=O z;have VS:=O B;have HM:=O f;have D:=O a;have ba:=O l;have bb:=O r;clear g P UM o l f a t u y z B r;refine(qM (n:=0)).1 ?_;refine sl func15 I trivial ?_ I;refine wpIn_wide.2 ?_;simp only[ntmps15,jv,jZ,qw,qx,qy,qz,qA,qB,qC,qg,qD]
 go_upto_region 1 with(first|(refine VG.made I I (L ?_)))
 rw[<-D]
 try simp only[jp]
 try rw[show w.heap.size+1+1=w.heap.size+2 from I]
 rw[<-HM];clear D;refine jL ?_;refine fb (λS=>S.heap[M]?=T (ja j VF.t (0,0))) 4 (.t 0 (.t 2 (.o 1 (.o 3 .done)))) af af af af G (λ_ _ _ _ h=>h) c ?_;have a:=bV C;obtain⟨x1,U⟩:=J C.drew;rw[<-U]at a⊢;have a1:N (M+3<=x1.heap.size):=O (by rw[<-a6];exact a.size);replace m:=ah m a;replace c:=ae c a;replace s:=ae s a;replace q:=O (q.trans (a.mono (by have:=q.size;have:=ad.out;omega)));replace Q:=ae Q a;clear U a;refine bX ?_
 (refine cD (v:=jh j) I aj (λS F=>cU VF.hu VF.hd (by rw[ZK];exact VF.hi) I I F) ?_;refine L ?_)
 refine cO I (λK' f=>?_);go_simp;refine(pZ d _ x1 (HL.below m) HE (HT.below m) HN).mono ?_;rintro e x2 ⟨v2,v3,rfl,l,a⟩;have r:=O (l.mono (E:=λb=>M+3<=b/\b<x2.heap.size) λb g=>⟨jE a1 g.1,g.2⟩);have Zm:N (M+3<=x2.heap.size):=O (jE a1 a.size);replace m:=ah m a;replace c:=ae c a;replace s:=ae s a;replace q:=O (q.trans (a.mono (by have:=q.size;have:=ad.out;omega)));replace Q:=ae Q a;refine f _ _ c.out λ_=>?_
 clear f l a;refine L ?_;refine cO I (λK' f=>?_);go_simp;refine(zS _ j x2).mono ?_;rintro e l ⟨rfl,o⟩;have a:jk x2 x2 l:=by rw[o];exact(ao _ _).trans ((ao _ _).mono (ao _ _).size)
 have Zg:N (l.heap[x2.heap.size]?=T (ja #[A p1 d.length k1,v2,v3] VP.t (0,0))):=O (by rw[o];exact av (jy x2 _) (ao _ _));have a2:N (l.heap[x2.heap.size+1]?=T (ja j VF.t (0,0))):=O (by
  have h:=jy (x2.alloc (ja #[A p1 d.length k1,v2,v3] 76)) (ja j 25);rw[jp]at h;rw[o];exact h)
 have ZL:N (l.heap.size=x2.heap.size+2):=O (by rw[o,jp,jp]);replace m:=ah m a;replace s:=ae s a;replace q:=O (q.trans (a.mono (by have:=q.size;have:=ad.out;omega)));replace Q:=ae Q a;have t:N (aH (λb=>M+3<=b/\b<l.heap.size) l v2 32 (bH (d.map (·.1)) d.length).length (iX (d.map (·.1)) (bH (d.map (·.1)) d.length))):=O ((r.ids.keep λb g=>a.block b g.2).mono λb g=>⟨g.1,by have:=ZL.out;omega⟩);have u:N (aH (λb=>M+3<=b/\b<l.heap.size) l v3 1 (bH (d.map (·.1)) d.length).length (iV (bH (d.map (·.1)) d.length))):=O ((r.at_.keep λb g=>a.block b g.2).mono λb g=>⟨g.1,by have:=ZL.out;omega⟩);refine f _ _ (av c a) λ_=>?_
 clear f o a c r;refine L ?_;refine eH ?_
 go_wp2_with fail
 obtain⟨bp,c⟩:=J x2.heap.size;rw[<-c]at Zg a2 Zm ZL⊢;have o:=yw d (A p1 d.length k1) v2 v3 aa UJ bb R l (M+1) (M+3) bp (bp+1) (j5 ad) q Y (ee ZL Zm) (HL.below ay) t u Zg.out (by rw[<-ba];exact a2) Zm (aI Zm) HE (HT.below ay) HN VS;have bc:=O o;clear o c t u;refine(wpIn_wide (n:=0)).1 ?_;refine rL (n:=0) (gf:=56) (lb:=#[jt (T ⟨bp,0,jf⟩),jt (T ⟨bp+1,0,jf⟩)]) I (enters_of func56 af I) bc (ee ZL Zm) (λ_=>rfl) (λk r=>r.2)
  (BxI d w (cuV M)) (λ_ _ _ _=>False) ?hI (λys Ψ B h=>h.1) (λ_=>fq _ _) ?h0
  (EAx d (cuE M) λb x=>#[jh j,A p1 d.length k1,jt (T ⟨M,0,jf⟩),jm,jt (T ⟨M+1,0,jf⟩),jt (T ⟨M+2,0,jf⟩),jt (T ⟨b,0,jf⟩),A p1 d.length k1,jh #[A p1 d.length k1,v2,v3],jh j,.func (.func 56) #[] #[jt (T ⟨bp,0,jf⟩),jt (T ⟨bp+1,0,jf⟩)],jh (aK x).toArray,jm,jm,jm,jm]) ?hAx ?assign ?body ?done ?stop
 case hI=>exact BxI.stable _ _ _ _ m.size
 case h0=>
  refine⟨(λx U=>by cases U),λb o g=>?_,m,λk r=>by have:=HM.out;have:=r.1;omega⟩
  rcases Ea g with⟨rfl,rfl⟩|⟨rfl,rfl⟩
  ·exact⟨I,s,λh=>h.elim (λh=>by have h:=h.1;omega) fun⟨_,r,_⟩=>(by cases r)⟩
  exact⟨I,Q,λh=>h.elim (λh=>by have h:=h.1;omega) fun⟨_,r,_⟩=>(by cases r)⟩
 case stop=>
  intro D c z Ψ W _ _ h;exact h.elim
 case hAx=>exact EAx.stable _ _ _ _
 case assign=>
  intro l' z x Ψ t K hI y hV hΨ f;have V:GK d Ψ t x:=by
   obtain⟨⟨u,B,e,h⟩,-⟩:=hV;have e2:=(qY e I).2;injection e2 with e2
   rw[e2];exact h
  have B:=KD.kin V (HL.below hI.2.2.1);obtain⟨X,H⟩:=J ((aK x).toArray);have ax:N (X.size=VK.n):=O (by rw[H,jv];exact B.len);have s:N (X.all (·.oneCell')=ji):=O (by rw[H,jS];exact λu hu=>B.ones u (ak hu));have au:=O H;have HK:=O f;have HI:=O hI;have HO:N (∀e,cuE M e->¬gb x e):=O (by
   rintro e (rfl|rfl) h
   ·exact(y.2.1 _ _ (uw M z)).2.2 (.inl (.inr h))
   exact(y.2.1 _ _ (vx M z)).2.2 (.inl (.inr h)))
  have a3:=O V;have HΨ:=O hΨ;rw[<-H];clear H f hI y V hV B hΨ;rw[zM];simp only[qZ,q7,q8]
  gi_wp2_with (first|(refine VK.madeI I I (L ?_))|(refine VK.firstI I I I X I ax s (L ?_)))
  have y:=ao t (ja X VK.t);have V:∀B0,bP B0 Ψ t (t.alloc (ja X VK.t)):=λB0=>bP.ofBelow y λ_ h _=>h
  refine HK _ _ y (BxI.stable d w _ w.heap.size (jD _) _ _ _ _ _ HI.out (V _) (λ_ h=>h) λ_ h=>.inl h) ?_;exact⟨t.heap.size,by rw[au],by rw[<-au];exact jy _ _,λh=>by have:=HΨ _ h;omega,a3.turns (V 0) (λ_ h=>.inl h),HO⟩
 case body=>
  rintro l' z x Ψ bh K hI ⟨b,rfl,a4,bi,ax,a5⟩ hV YC bk hl bl bm;have B:=KD.kin ax (HL.below hI.2.2.1);have P:=(hI.2.1 _ _ (uw M z)).2.1;have UM:=(hI.2.1 _ _ (vx M z)).2.1;have a3:=(Im (k:=z.getLast?) (λy V=>hI.1 y (rk V)) (HL.below hI.2.2.1)).1;obtain⟨X,H⟩:=J ((aK x).toArray);have bd:N (K.rangeAt b 107 (aD x.g x.vm x.vt)):=O λt u ht=>ai a4 (by
   rw[ms];have h:=nM B (1+t);rw[<-qo,qu 1 t,qF]at h;exact h.trans ht)
  have Wu:N ((aD x.g x.vm x.vt).length=VG.n):=O (eE B.leads.llen);obtain⟨GA,au⟩:=J ((aD x.g x.vm x.vt).toArray);have bf:N (GA.size=VG.n):=O (by rw[au,jv];exact Wu);have VN:N (GA.all (·.oneCell')=ji):=O (by rw[au,jS];exact λu hu=>mi B.leads u (ak hu));have Zo:=O au;have k2:(K.setRow (M+1) GA).heap[M+2]?=T (ja #[.bool z.getLast?.isSome] 4 (0,0)):=(js _ _ _ _ Y).trans UM;have c2:=ai (i:=0) k2 I;have f2:=gs (o:=0) k2;have UA:=O P;have bg:=O a3;dsimp only;rw[<-H];clear H au P a3 B UM
  gi_wp2_with (first|(refine VG.loadI aj I I (aD x.g x.vm x.vt) Wu bd ?_;rw[<-Zo];refine L ?_)|(refine VG.storeI I I I GA I bf VN UA bg (L ?_)))
  have B:∀k,k≠M+1->k≠M+2->((K.setRow (M+1) GA).setCell ⟨M+2,0,jf⟩ (.bool ji)).heap[k]?=K.heap[k]?:=λk h1 h2=>(dz _ h2).trans (js _ _ _ _ h1)
  have H:jk (M+1) K ((K.setRow (M+1) GA).setCell ⟨M+2,0,jf⟩ (.bool ji)):=(iP (qe _ K) (jD _) GA).setCell (p:=⟨M+2,0,jf⟩) (j6 _) _;have au:(z++[x]).getLast?=T x:=List.getLast?_concat;obtain⟨s1,s2⟩:=BxI.step (E:=cuE M) hI ax a5 (λb o ho=>by
   rcases Ea ho with⟨rfl,rfl⟩|⟨rfl,rfl⟩
   ·rw[au]
    exact⟨.inl I,I,(dz _ Y).trans (by rw[jT _ _ _ _ _ _ UA.out,Zo];rfl)⟩
   rw[au];exact⟨.inr I,I,ft _ k2⟩) (by rintro b (rfl|rfl);exact⟨_,uw _ _⟩;exact⟨_,vx _ _⟩) YC H (by rw[<-HM];exact j6 _) (λk _ r=>B k (λe=>r (.inl e)) λe=>r (.inr e))
  have r:=ZL.out;have a3:=Zm.out;refine⟨⟨⟨B _ Y Y,B _ Y Y⟩,H,s2⟩,s1⟩
 rintro D xs Ψ W rfl F hI a3;have X:=(hI.2.1 _ _ (uw M xs)).2.1;have Wv:=(hI.2.1 _ _ (vx M xs)).2.1;have x:=Im (k:=xs.getLast?) (λy V=>hI.1 y (rk V)) (HL.below hI.2.2.1);obtain⟨u,z⟩:=J (xs.getLast?);have bd:∀y,u=T y->GK d Ψ W y:=λy V=>hI.1 y (rk (z.symm.trans V))
 have bf:u.map CK.cand=(dU aa UJ (d.map (·.1))).getLast?:=by rw[z,<-F,List.getLast?_map]
 have a4:=hI.2.2.1;rw[<-z]at X Wv x;obtain⟨r,hG⟩:=J (kR u);obtain⟨ok,Yb⟩:=J u.isSome;rw[<-hG]at X x;rw[<-Yb]at Wv;have au:=O x;clear hI z x
 go_upto_region 4 with fail
 refine jL ?_;refine fb (λS=>S.heap[M+1]?=T (ja r VG.t (0,0))/\S.heap[M+2]?=T (ja #[.bool ok] 4 (0,0))) 4 (.t 0 (.t 1 (.o 2 (.o 3 .done)))) af af af af G (λ_ _ _ _ h=>h) ⟨X,Wv⟩ ?_;have a:=bV W;obtain⟨x,U⟩:=J W.drew;rw[<-U]at a⊢;have v1:=av X a;have z:=av Wv a;have e2:=ai (i:=0) z I;have g2:=gs (o:=0) z;clear U
 (refine cD (v:=jh r) I aj (λS F=>cU VG.hu VG.hd (by rw[au.1];exact VG.hi) I I F.1) ?_;refine L ?_)
 (refine cD (v:=?_) I aj (λS F=>?_) ?_;rotate_left;(have K:=ai (i:=0) F.2 I;clear F;go_simp;with_reducible rfl);refine L ?_)
 refine cO I (λK' f=>?_);rw[jr aj];refine jR VG.t _ _ I (M+1) r I I VG.t r v1 (by rw[au.1];exact VG.hi) I au.2 ?_;rw[setRow_self _ _ _ _ _ v1];refine f _ _ ⟨v1,z⟩ λ_=>?_
 clear f;refine L ?_;refine cO I (λK' f=>?_);go_simp;have K:(x.setCell ⟨M+2,0,jf⟩ (.bool ok)).heap[M+2]?=T (ja #[.bool ok] 4 (0,0)):=ft (i:=0) (.bool ok) z;have ax:∀k,(x.setCell ⟨M+2,0,jf⟩ (.bool ok)).heap[k]?=x.heap[k]?:=λk=>by
  by_cases e:k=M+2
  ·rw[e,K,z]
  exact dz _ e
 have H:jk w w (x.setCell ⟨M+2,0,jf⟩ (.bool ok)):=(a4.trans (a.mono a4.size)).setCell (p:=⟨M+2,0,jf⟩) (by rw[<-HM];exact q9 _ _) _;rw[<-Yb];generalize x.setCell ⟨M+2,0,jf⟩ (.bool ok)=W3 at K ax H⊢;have B:=(ax _).trans v1;refine f _ _ ⟨B,K⟩ λ_=>?_
 clear f e2 g2;refine L ?_;refine eH ?_
 go_wp2_with fail
 have S:W3.heap[l.heap.size]?=T (.deferred (T [])):=(ax _).trans (av a3 a);have bg:M+1≠l.heap.size:=λe=>by rw[<-e,B]at S;cases S
 have bh:M+2≠l.heap.size:=λe=>by rw[<-e,K]at S;cases S
 have z1:=(nn (w:=W3) (o:=.deferred jf) bg).trans B;have z2:=(nn (w:=W3) (o:=.deferred jf) bh).trans K;have bi:w.heap.size<=l.heap.size:=m.size;refine⟨by simp,.inl ⟨_,_,I,qN (b:=l.heap.size) (ds:=[]) S,?_⟩⟩;refine⟨jI #[jh r,.bool ok],Ud I _ _ (M+1) (M+2) VG.t r _ (0,0) _ I I z1 (Qc z2) VG.hu I (by rw[au.1];exact VG.hi),u,by rw[hG,Yb],bf,λy V=>?_,H.trans (iy bi)⟩;have h:=bd y V;have a5:∀b,(gb y b/\¬Ψ b/\∃c t f,W.heap[b]?=T (ja c t f))->(W3.putObj l.heap.size (.deferred jf)).heap[b]?=W.heap[b]?:=λb g=>by
  obtain⟨-,-,c,t,f,g⟩:=g;refine(nn (λe=>by rw[e,a3]at g;cases g)).trans ((ax b).trans (a.block b (jA.1 g).1))
 refine(KD.keep h a5).mono λb g=>?_
 obtain⟨h0,h1,c,t,f,h2⟩:=g;exact(jA.1 ((a5 b ⟨h0,h1,c,t,f,h2⟩).trans h2)).1
end
theorem Cp{P:aN->Prop}(h:∀c,(∀w,dJ c.leads a=T w->P w)->P c):∀(n:jc) (c:aN),iD a c.leads<=n->P c
 |0,c,b=>h c λw l=>ju (sV (oE (rK l)).1) Y
 |n+1,c,b=>h c λw l=>Cp h n w (by have:=sV (oE (rK l)).1;omega)
theorem G8{l:jg Cmt}{P:aN->Prop}(h:∀c,(∀w,dJ c.leads l=T w->P w)->P c)(c:aN):P c:=Cp h _ c (jD _)
theorem Rc{l:jg Cmt}(c:aN):∀(g:Grp),gT g l c->∀(k:jc) (x:aN),(ff l c)[k]?=T x->gT (mV g (ff l c) k) l x/\(0<k->dJ (mV g (ff l c) k) l=T x):=by
 refine G8 (l:=l) (P:=λc=>∀(g:Grp),gT g l c->∀(k:jc) (x:aN),(ff l c)[k]?=T x->gT (mV g (ff l c) k) l x/\(0<k->dJ (mV g (ff l c) k) l=T x)) (λc d g b k x a=>?_) c;rw[lX]at a⊢
 rcases k with _|k
 ·simp at a
  rw[mV,<-a];exact⟨b,λh=>ju h (rn _)⟩
 rw[mV]
 cases hw:dJ c.leads l with
 |none=>rw[hw]at a;simp at a
 |some w=>
  rw[hw]at a;dsimp only at a⊢;rw[qF]at a;have f:=(oE (rK hw)).1;have b:=d w hw c.leads f k x a;refine⟨b.1,λ_=>?_⟩
  rcases k with _|k
  ·rw[lX]at a
   simp at a;have e:mV c.leads (ff l w) 0=c.leads:=by rw[mV]
   rw[e,hw,a]
  exact b.2 (qW k)
def eJ(b:LBy)(a d:jb):jC->jg aN->jC
 |ok,[]=>ok
 |true,c::e=>match c.com.chg.find? λx=>x.d==a&&x.k !=1 with|some x=>decide (d<=x.c)|none=>eJ b a d ji e
 |false,c::e=>if c.id=b then(if cL c.leads.mem a=ji then eJ b a d ji e else jn)else eJ b a d jn e
theorem Ek{β:Type}{f g:H->jG β}:∀{l:jg H},(∀x∈l,f x=g x)->l.filterMap f=l.filterMap g
 |[],_=>by rw[qc,qc]
 |x::l,h=>by
  rw[jN,jN,h x (o1 ..),Ek λy a=>h y (o3 _ a)]
theorem Ef{p q:H->jC}:∀{l:jg H},(∀x∈l,p x=q x)->l.find? p=l.find? q
 |[],_=>by rw[rv,rv]
 |x::l,h=>by
  rw[qG,qG,h x (o1 ..),Ef λy a=>h y (o3 _ a)]
theorem oq(h:b<a.length):aP (a++[j]) b=aP a b:=by
 unfold aP;rw[r4,r4,o8 h]
theorem CN(l:jg Cmt)(c:Cmt):aP (l++[c]) l.length=c:=by
 unfold aP;rw[r4,wq (jD _),Nat.sub_self,List.getElem?_cons_zero,Option.getD_some]
theorem F4(l:jg Cmt)(c:Cmt):∀n,n<=l.length->bH (l++[c]) n=bH l n:=by
 intro n d;unfold bH;refine wt λi b=>?_
 have b:=wv.1 b;rw[decide_eq_decide]
 constructor
 ·intro h j a
  have:=h j a
  rwa [oq Y,oq Y]at this
 intro h j a;rw[oq Y,oq Y];exact h j a
theorem MN(h:b<a.length):dR e (a++[j]) b=dR e a b:=by
 unfold dR;rw[oq h]
theorem Tj(h:cA e j≠0):ez e (a++[j])=ez e a:=by
 unfold ez;have l:dR e (a++[j]) a.length=jf:=by
  unfold dR;rw[CN,jF λg=>h g.2]
 rw[o5,wx,mS,F4 a j _ (jD _),List.filterMap_append];have b:(bH a a.length).filterMap (dR e (a++[j]))=(bH a a.length).filterMap (dR e a):=by
  refine Ek λi d=>?_
  exact MN (lY.1 d).1
 rw[b]
 split
 ·rw[jN,l];simp
 simp
theorem RF(h:cA e j≠0):dJ e (a++[j])=dJ e a:=by
 unfold dJ eS;rw[Tj h]
theorem Lc(h:aG j≠p):eI d p (a++[j])=eI d p a:=by
 unfold eI;rw[o5,wx,mS,F4 a j _ (jD _),qS];have e:((bH a a.length).find? λi=>decide (aG (aP (a++[j]) i)=p))=(bH a a.length).find? λi=>decide (aG (aP a i)=p):=by
  refine Ef λi b=>?_
  rw[oq (lY.1 b).1]
 rw[e]
 cases hf:(bH a a.length).find? λi=>decide (aG (aP a i)=p)with
 |none=>
  have f:((if∀c,c<a.length->aG (aP (a++[j]) c)≠aG (aP (a++[j]) a.length)then [a.length]else []).find? λi=>decide (aG (aP (a++[j]) i)=p))=jf:=by
   split
   ·rw[qG,CN,decide_eq_false h,rv]
   rfl
  rw[xa,f,xd,xd]
 |some i=>
  have b:=(lY.1 (List.mem_of_find?_eq_some hf)).1;rw[Option.some_or,r6,r6,oq b]
theorem Kx{l:jg Cmt}(x:aN):(∀y∈ff l x,cA y.leads j≠0)->ff (l++[j]) x=ff l x:=by
 refine G8 (l:=l) (P:=λx=>(∀y∈ff l x,cA y.leads j≠0)->ff (l++[j]) x=ff l x) (λx a h=>?_) x;have b:cA x.leads j≠0:=h x (by rw[lX];exact o1 ..);rw[lX,lX l,RF b]
 cases hw:dJ x.leads l with
 |none=>dsimp only
 |some w=>
  dsimp only;rw[a w hw λy d=>h y (by rw[lX,hw];exact o3 _ d)]
theorem Mo(e:aG j≠p)(b:∀y∈dU d p a,cA y.leads j≠0):dU d p (a++[j])=dU d p a:=by
 rw[ov]at b;rw[ov,ov,Lc e]
 cases hf:eI d p a with
 |none=>dsimp only
 |some x=>
  rw[hf]at b;exact Kx x b
section
def okS(id:LBy)(ys:jg CK):jC:=ys.any λk=>decide (k.id=id)
def AccP(id:LBy)(dev ctr:jb)(ys:jg CK):Prop:=∀a,eJ id dev ctr jn (ys.map CK.cand++a)=eJ id dev ctr (okS id ys) a
theorem rJ(id:LBy)(ys:jg CK)(x:CK):okS id (ys++[x])=(okS id ys||decide (x.id=id)):=by unfold okS;simp
section
variable {id:LBy} {dev ctr:jb} {ys:jg CK} {x:CK} (h:AccP id dev ctr ys)
include h
theorem AccP.at(a:jg aN):eJ id dev ctr jn ((ys++[x]).map CK.cand++a)=eJ id dev ctr (okS id ys) (x.cand::a):=by
 rw[mz,qV];exact h _
theorem AccP.on(a:okS id ys=ji)(b:x.p.1.chg.find? (λy=>y.d==dev&&y.k !=1)=jf):AccP id dev ctr (ys++[x]):=λc=>by
 rw[h.at,rJ,a,eJ,show x.cand.com=x.p.1 from I,b];rfl
theorem AccP.off{y:ap}(a:okS id ys=ji)(b:x.p.1.chg.find? (λy=>y.d==dev&&y.k !=1)=T y)(c:jg aN):eJ id dev ctr jn ((ys++[x]).map CK.cand++c)=decide (ctr<=y.c):=by
 rw[h.at,a,eJ,show x.cand.com=x.p.1 from I,b]
theorem AccP.ne(b:okS id ys=jn)(a:x.id≠id):AccP id dev ctr (ys++[x]):=λc=>by
 rw[h.at,rJ,b,eJ,jF (show ¬x.cand.id=id from a),decide_eq_false a];rfl
theorem AccP.met(b:okS id ys=jn)(a:x.id=id)(c:cL x.g.mem dev=ji):AccP id dev ctr (ys++[x]):=λd=>by
 rw[h.at,rJ,b,eJ,jr (show x.cand.id=id from a),jr (show cL x.cand.leads.mem dev=ji from c),qO a];rfl
theorem AccP.gone(a:okS id ys=jn)(b:x.id=id)(c:cL x.g.mem dev=jn)(d:jg aN):eJ id dev ctr jn ((ys++[x]).map CK.cand++d)=jn:=by
 rw[h.at,a,eJ,jr (show x.cand.id=id from b),jF (show ¬cL x.cand.leads.mem dev=ji by show ¬cL x.g.mem dev=ji;rw[c];decide)]
end
theorem N8{α:Type}{q:α->jC}{l:jg α}{j:jc}{y:α}(h:∀z∈l.take j,q z=jn)(a:l[j]?=T y)(b:q y=ji):l.find? q=T y:=by
 rw[<-sx j l,qS,qt.2 (λz c=>by rw[h z c];decide),xa,List.drop_eq_getElem_cons (jU.1 a).1,(jU.1 a).2,qG,b]
theorem N4{α:Type}{q:α->jC}{l:jg α}(h:∀z∈l.take l.length,q z=jn):l.find? q=jf:=qt.2 λz a=>by
 rw[h z (by rw[List.take_length];exact a)];decide
theorem Ug(d:jb)(c:jq jl)(b:jc)(x:aL)(w:jj)(f:w.heap[b]?=T (ja c 68 (0,0)))(g:c[33]?=T (jd je d)):
 jB jo 54 #[jh x.cells.toArray,jt (T ⟨b,0,jf⟩)] w λe w'=>e=jz (.bool (x.dev==d))/\jk w w w':=by
 have a:=ao w (ja x.cells.toArray 103);have j:=ai (i:=33) (av f a) g;have h:=O a;clear a f g;obtain⟨x1,x2,g⟩:=x;unfold aL.cells at*;obtain⟨r,a⟩:=J ((x1==d));show jB _ _ _ _ λe w'=>e=jz (.bool (x1==d))/\_
 rw[<-a];have f:=O a;clear a
 go_enter func54,ntmps54
 go_wp2_with fail
 go_ret;exact⟨iu f.symm,h⟩
theorem Oq(d:jb)(a:jq jl)(b c:jc)(e:b<c)(f:a[33]?=T (jd je d)):fU EM 54 #[jt (T ⟨b,0,jf⟩)] c (λW=>W.heap[b]?=T (ja a 68 (0,0))) (λm=>m.dev==d) where
 enter _ _:=I
 keep w w' hn h hB:=(hB.block b e).trans h
 call x w hn h:=Ug d a b x w h f
def chZ:ap:=⟨0,0,0,0,0⟩
noncomputable def VH:VarT jo:=⟨56,5,chZ.cells.toArray,_,sn,I,by kernel_rfl,rfl,λ_=>by kernel_rfl⟩
def acV(M:jc)(a:jq jl)(id:LBy)(ys:jg CK)(b:jc):jG Obj:=if b=M+1 then T (ja a 68 (0,0))else if b=M+2 then T (ja #[.bool (okS id ys)] 4 (0,0))else jf
theorem zu(M:jc)(a:jq jl)(id:LBy)(ys:jg CK):acV M a id ys (M+1)=T (ja a 68 (0,0)):=jr I
theorem ua(M:jc)(a:jq jl)(id:LBy)(ys:jg CK):acV M a id ys (M+2)=T (ja #[.bool (okS id ys)] 4 (0,0)):=(jF Y).trans (jr I)
theorem ET{M b:jc}{a:jq jl}{id:LBy}{ys:jg CK}{o:Obj}(h:acV M a id ys b=T o):(b=M+1/\o=ja a 68 (0,0))\/(b=M+2/\o=ja #[.bool (okS id ys)] 4 (0,0)):=by
 unfold acV at h
 split at h
 ·rename_i e;injection h with h;exact .inl ⟨e,h.symm⟩
 split at h
 ·rename_i e;injection h with h;exact .inr ⟨e,h.symm⟩
 cases h
def AcX(w:jj)(M:jc)(id:LBy)(dev ctr:jb)(c:Code)(ys:jg CK)(Ψ:jc->Prop)(W:jj):Prop:=(∃r,c=.ret/\(Boxed W (M+2) 4 (.bool r)/\¬Ψ (M+2))/\∀a,eJ id dev ctr jn (ys.map CK.cand++a)=r)/\(jk w w W/\∀k,Ψ k->w.heap.size<=k)
theorem AcX.stable(w:jj)(M:jc)(id:LBy)(dev ctr:jb)(c:Code)(B0:jc)(h:w.heap.size<=B0):bZ B0 (AcX w M id dev ctr c):=by
 refine bZ.and ?_ (kK _ _ w (jD _) h);rintro ys Ψ a b B ⟨r,d,e,f⟩ g i j;exact⟨r,d,iQ B0 (M+2) 4 (λ_:Unit=>.bool r) () Ψ a b B e g i j,f⟩
attribute [local go_sem] Oper.semAt_some
theorem Dx(d:jg CP)(v:jl)(ad:jb)(UJ:LBy)(m:UJ.length=32)(C:jq jl)(f:LBy)(dev ctr:jb)(q:f.length=32)(r:∀t u,(f.map v8)[t]?=T u->C[1+t]?=T u)(s:C[33]?=T (jd je dev))(x:C[34]?=T (jd je ctr))
 (w:jj) (n:cC w v d) (y:∀p∈d,cY (aR p.1)) (z:bQ w) (B:d.length<=1000) (D:∀p∈d,p.1.chg.length<=1000000) (H:∀k,k∈dU ad UJ (d.map (·.1))->k.leads.mem.length<=1000000):
 jB jo 18 #[jh (dc ad UJ).toArray,v,jh C] w λe w'=>e=jz (.bool (eJ f dev ctr jn (dU ad UJ (d.map (·.1)))))/\jk w w w':=by
 obtain⟨p1,k1,rfl⟩:=n.form;obtain⟨F,i⟩:=J ((dc ad UJ).toArray);have ZK:N (F.size=VF.n):=O (by rw[i,jv];unfold dc;rw[jZ,jw,m];rfl);rw[<-i];obtain⟨M,b⟩:=J w.heap.size;obtain⟨x0,a⟩:=J (((w.alloc (ja F 25)).alloc (ja C 68)).alloc (ja #[.bool jn] 4));have S:=ao w (ja F 25);have U:=S.trans ((ao (w.alloc (ja F 25)) (ja C 68)).mono S.size);have j:=ao ((w.alloc (ja F 25)).alloc (ja C 68)) (ja #[.bool jn] 4);have c:N (x0.heap[M]?=T (ja F VF.t (0,0))):=O (by rw[a,b];exact av (av (jy w _) (ao _ _)) j);have Vf:N (x0.heap[M+1]?=T (ja C 68 (0,0))):=O (by
  have h:=jy (w.alloc (ja F 25)) (ja C 68);rw[jp]at h;rw[a,b];exact av h j)
 have Vt:N (x0.heap[M+2]?=T (ja #[.bool jn] 4 (0,0))):=O (by
  have h:=jy ((w.alloc (ja F 25)).alloc (ja C 68)) (ja #[.bool jn] 4);rw[jp,jp]at h;rw[a,b];exact h)
 have Q:N (jk w w x0):=O (by rw[a];exact U.trans (j.mono U.size));have bI:N (x0.heap.size=M+3):=O (by rw[a,b,jp,jp,jp]);obtain⟨xF,g⟩:=J (w.alloc (ja F 25));have ax:N (xF.heap.size=M+1):=O (by rw[g,b,jp]);have bl:N (jk w w xF):=O (by rw[g];exact S);have UX:N (jk (M+1) xF x0):=O (by
  have h:=(ao xF (ja C 68)).trans ((ao (xF.alloc (ja C 68)) (ja #[.bool jn] 4)).mono (ao xF _).size);rw[ax,g,<-a]at h;rw[g];exact h)
 have HL:=O n;have HE:=O y;have HT:=O z;have HN:=O B;have VS:=O D;have HM:=O b;have K:=O a;have bK:=O i;have bM:=O m;have WU:=O r;have Yh:=O s;have bm:=O x;have bn:=O q;have Zb:=O H;obtain⟨bo,o⟩:=J (eJ f dev ctr jn (dU ad UJ (d.map (·.1))));rw[<-o];have ZD:=O o;clear g S U j i b a n y z B D m r s x q H o;refine(qM (n:=0)).1 ?_;refine sl func18 I trivial ?_ I;refine wpIn_wide.2 ?_;simp only[ntmps18,jv,jZ,qw,qx,qy,qz,qA,qB,qC,qg,qD]
 go_upto_region 1 with fail
 rw[<-K]
 try simp only[jp]
 try rw[show w.heap.size+1+1=w.heap.size+2 from I]
 rw[<-HM];clear K;refine jL ?_;refine fb (λb=>b.heap[M]?=T (ja F VF.t (0,0))) 4 (.t 0 (.t 2 (.o 1 (.o 3 .done)))) af af af af G (λ_ _ _ _ h=>h) c ?_;have a:=bV x0;obtain⟨x1,hx⟩:=J x0.drew;rw[<-hx]at a⊢;have bq:N (M+3<=x1.heap.size):=O (by rw[<-bI];exact a.size);replace Q:=ah Q a;replace c:=ae c a;replace Vf:=ae Vf a;replace UX:=O (UX.trans (a.mono (by have:=UX.size;have:=ax.out;omega)));replace Vt:=ae Vt a;clear hx a;refine bX ?_
 (refine cD (v:=jh F) I aj (λb hS=>cU VF.hu VF.hd (by rw[ZK];exact VF.hi) I I hS) ?_;refine L ?_)
 refine cO I (λj hK=>?_);go_simp;refine(pZ d _ x1 (HL.below Q) HE (HT.below Q) HN).mono ?_;rintro e x2 ⟨v2,v3,rfl,g,a⟩;have i:=O (g.mono (E:=λb=>M+3<=b/\b<x2.heap.size) λb m=>⟨jE bq m.1,m.2⟩);have Zm:N (M+3<=x2.heap.size):=O (jE bq a.size);replace Q:=ah Q a;replace c:=ae c a;replace Vf:=ae Vf a;replace UX:=O (UX.trans (a.mono (by have:=UX.size;have:=ax.out;omega)));replace Vt:=ae Vt a;refine hK _ _ c.out λ_=>?_
 clear hK g a;refine L ?_;refine cO I (λj hK=>?_);go_simp;refine(zS _ F x2).mono ?_;rintro e q ⟨rfl,g⟩;have a:jk x2 x2 q:=by rw[g];exact(ao _ _).trans ((ao _ _).mono (ao _ _).size)
 have Zg:N (q.heap[x2.heap.size]?=T (ja #[A p1 d.length k1,v2,v3] VP.t (0,0))):=O (by rw[g];exact av (jy x2 _) (ao _ _));have br:N (q.heap[x2.heap.size+1]?=T (ja F VF.t (0,0))):=O (by
  have h:=jy (x2.alloc (ja #[A p1 d.length k1,v2,v3] 76)) (ja F 25);rw[jp]at h;rw[g];exact h)
 have ZL:N (q.heap.size=x2.heap.size+2):=O (by rw[g,jp,jp]);replace Q:=ah Q a;replace Vf:=ae Vf a;replace UX:=O (UX.trans (a.mono (by have:=UX.size;have:=ax.out;omega)));replace Vt:=ae Vt a;have j:N (aH (λb=>M+3<=b/\b<q.heap.size) q v2 32 (bH (d.map (·.1)) d.length).length (iX (d.map (·.1)) (bH (d.map (·.1)) d.length))):=O ((i.ids.keep λb m=>a.block b m.2).mono λb m=>⟨m.1,by have:=ZL.out;omega⟩);have o:N (aH (λb=>M+3<=b/\b<q.heap.size) q v3 1 (bH (d.map (·.1)) d.length).length (iV (bH (d.map (·.1)) d.length))):=O ((i.at_.keep λb m=>a.block b m.2).mono λb m=>⟨m.1,by have:=ZL.out;omega⟩);refine hK _ _ (av c a) λ_=>?_
 clear hK g a c i;refine L ?_;refine eH ?_
 go_wp2_with fail
 obtain⟨bp,a⟩:=J x2.heap.size;rw[<-a]at Zg br Zm ZL⊢;have c:=yw d (A p1 d.length k1) v2 v3 ad UJ bM xF q (M+1) (M+3) bp (bp+1) (j5 ax) UX Y (ee ZL Zm) (HL.below bl) j o Zg.out (by rw[<-bK];exact br) Zm (aI Zm) HE (HT.below bl) HN VS;have bN:=O c;clear c a j o;refine(wpIn_wide (n:=0)).1 ?_;refine rL (n:=0) (gf:=56) (lb:=#[jt (T ⟨bp,0,jf⟩),jt (T ⟨bp+1,0,jf⟩)]) I (enters_of func56 af I) bN (ee ZL Zm) (λ_=>rfl) (λk s=>s.2)
  (λys Ψ W=>BxI d w (acV M C f) ys Ψ W/\AccP f dev ctr ys) (AcX w M f dev ctr) ?hI (λys Ψ B h=>h.1.1) (λc=>AcX.stable _ _ _ _ _ _ _ Q.size) ?h0
  (EAx d (cuE M) λb x=>#[jh F,A p1 d.length k1,jh C,jt (T ⟨M,0,jf⟩),jm,jt (T ⟨M+1,0,jf⟩),jt (T ⟨M+2,0,jf⟩),jt (T ⟨b,0,jf⟩),jm,jm,A p1 d.length k1,jh #[A p1 d.length k1,v2,v3],jh F,.func (.func 56) #[] #[jt (T ⟨bp,0,jf⟩),jt (T ⟨bp+1,0,jf⟩)],jh (aK x).toArray,jm,jm,jm,jm,jm,jm,jm,jm,jm,jm,jm,jm,jm,jm,jm,jm,jm,jm,jm,jm,jm,jm,jm,jm,jm,jm,jm,jm,jm,jm,jm,jm,jm,jm,jm,jm,jm]) ?hAx ?assign ?body ?done ?stop
 case hI=>exact(BxI.stable _ _ _ _ Q.size).and (fq _ _)
 case h0=>
  refine⟨⟨(λx hx=>by cases hx),λb o m=>?_,Q,λk s=>by have:=HM.out;have:=s.1;omega⟩,λa1=>rfl⟩
  rcases ET m with⟨rfl,rfl⟩|⟨rfl,rfl⟩
  ·exact⟨I,Vf,λh=>h.elim (λh=>by have h:=h.1;omega) fun⟨_,s,_⟩=>(by cases s)⟩
  exact⟨I,Vt,λh=>h.elim (λh=>by have h:=h.1;omega) fun⟨_,s,_⟩=>(by cases s)⟩
 case stop=>
  rintro D c P Ψ W rfl ⟨V,a⟩ ⟨⟨r,rfl,⟨U,R⟩,g⟩,bb,z⟩ ay;have HR:N (r=bo):=O (by rw[ZD,<-a];exact(g V).symm);have bc:M+2≠q.heap.size:=λe=>by rw[<-e,U]at ay;cases ay
  have z2:=(nn (w:=W) (o:=.deferred jf) bc).trans U;have bd:w.heap.size<=q.heap.size:=Q.size;refine wpIn_wide.2 ?_
  go_wp2_with fail
  refine⟨by simp,.inl ⟨_,_,I,qN (b:=q.heap.size) (ds:=[]) ay,?_⟩⟩;have zc:=ai (i:=0) z2 I;exact⟨.bool r,by simp[results,results18,go_sem,zc],by rw[HR],bb.trans (iy bd)⟩
 case hAx=>exact EAx.stable _ _ _ _
 case assign=>
  intro l' P x Ψ a K hI y hV z hK;have H:GK d Ψ a x:=by
   obtain⟨⟨g,j,e,h⟩,-⟩:=hV;have e2:=(qY e I).2;injection e2 with e2
   rw[e2];exact h
  have g:=KD.kin H (HL.below hI.1.2.2.1);obtain⟨X,j⟩:=J ((aK x).toArray);have a2:N (X.size=VK.n):=O (by rw[j,jv];exact g.len);have Vf:N (X.all (·.oneCell')=ji):=O (by rw[j,jS];exact λu hu=>g.ones u (ak hu));have aa:=O j;have HK:=O hK;have HI:=O hI;have HO:N (∀e,cuE M e->¬gb x e):=O (by
   rintro e (rfl|rfl) h
   ·exact(y.1.2.1 _ _ (zu M C f P)).2.2 (.inl (.inr h))
   exact(y.1.2.1 _ _ (ua M C f P)).2.2 (.inl (.inr h)))
  have a3:=O H;have HΨ:=O z;rw[<-j];clear j hK hI y H hV g z;rw[zM];simp only[qZ,q7,q8]
  gi_wp2_with (first|(refine VK.madeI I I (L ?_))|(refine VK.firstI I I I X I a2 Vf (L ?_)))
  have y:=ao a (ja X VK.t);have au:∀B0,bP B0 Ψ a (a.alloc (ja X VK.t)):=λB0=>bP.ofBelow y λ_ h _=>h
  refine HK _ _ y ⟨BxI.stable d w _ w.heap.size (jD _) _ _ _ _ _ HI.1 (au _) (λ_ h=>h) λ_ h=>.inl h,HI.2⟩ ?_;exact⟨a.heap.size,by rw[aa],by rw[<-aa];exact jy _ _,λh=>by have:=HΨ _ h;omega,a3.turns (au 0) (λ_ h=>.inl h),HO⟩
 case body=>
  rintro l' P x Ψ b3 a ⟨hI,hP⟩ ⟨b,rfl,K,bs,z,aa⟩ hV YC a4 hl ba bf;have g:=KD.kin z (HL.below hI.2.2.1);have S:=(hI.2.1 _ _ (zu M C f P)).2.1;have U:=(hI.2.1 _ _ (ua M C f P)).2.1;have a2:x.cand∈dU ad UJ (d.map (·.1)):=by
   obtain⟨-,-,-,V,hV⟩:=hV;rw[<-hV,mz];exact xe _ (xf _ (jP.2 I))
  have a5:x.g.mem.length<=1000000:=Zb _ a2;have a6:x.p.1.chg.length<=1000000:=VS _ (j3 z.at_);have bg:=ZL.out;have bh:=Zm.out;have a3:∀B,(∀k,k<a.heap.size->k≠M+2->B.heap[k]?=a.heap[k]?)->jk (M+1) a B->B.heap[M+2]?=T (ja #[.bool (okS f (P++[x]))] 4 (0,0))->AccP f dev ctr (P++[x])->
   ((B.heap[q.heap.size]?=a.heap[q.heap.size]?/\B.heap[q.heap.size+1]?=a.heap[q.heap.size+1]?)/\jk (M+1) a B/\∀k,Ψ k->B.heap[k]?=a.heap[k]?)/\(BxI d w (acV M C f) (P++[x]) Ψ B/\AccP f dev ctr (P++[x])):=λB s y H hA=>by
   obtain⟨s1,s2⟩:=BxI.step (E:=cuE M) (B:=B) hI z aa (λc o V=>by
    rcases ET V with⟨rfl,rfl⟩|⟨rfl,rfl⟩
    ·exact⟨.inl I,I,(s _ (jA.1 S).1 Y).trans S⟩
    exact⟨.inr I,I,H⟩) (by rintro c (rfl|rfl);exact⟨_,zu _ _ _ _⟩;exact⟨_,ua _ _ _ _⟩) YC y (by rw[<-HM];exact j6 _) (λk V c=>s k V λe=>c (.inr e))
   exact⟨⟨⟨s _ Y Y,s _ Y Y⟩,y,s2⟩,s1,hA⟩
  have c:∀B r,(∀k,k<a.heap.size->k≠M+2->B.heap[k]?=a.heap[k]?)->jk (M+1) a B->B.heap[M+2]?=T (ja #[.bool r] 4 (0,0))->(∀a1,eJ f dev ctr jn ((P++[x]).map CK.cand++a1)=r)->
   ((B.heap[q.heap.size]?=a.heap[q.heap.size]?/\B.heap[q.heap.size+1]?=a.heap[q.heap.size+1]?)/\jk (M+1) a B/\∀k,Ψ k->B.heap[k]?=a.heap[k]?)/\AcX w M f dev ctr .ret (P++[x]) Ψ B:=λB r s y H hA=>by
   have R:=(hI.2.1 _ _ (ua M C f P)).2.2;exact⟨⟨⟨s _ Y Y,s _ Y Y⟩,y,λk V=>s k (YC k V) λe=>R (.inl (e▸V))⟩,⟨r,I,⟨H,λh=>R (.inl h)⟩,hA⟩,hI.2.2.1.trans (y.mono (by rw[<-HM];exact j6 _)),hI.2.2.2⟩
  have Wo:=O a3;have bu:=O c;have HP:=O hP;have UA:=O S;have YX:N (jk w w a):=O hI.2.2.1;have Vj:N (M+3<=a.heap.size):=O Y;clear a3 c hI hV YC a4 hl ba bf aa bs a2 bh bg z;obtain⟨X,j⟩:=J ((aK x).toArray);have c:=O (mR g);have R:N (∀i:jc,X[i]?=(aK x)[i]?):=O λi=>by rw[j,ms]
  have U1:N (a.rangeAt b 74 (x.id.map v8)):=O λt u ht=>ai K (by rw[ms];exact(BI g (by have h:=(jU.1 ht).1;rwa [jw,g.idl]at h)).trans ht)
  have UZ:N (a.rangeAt (M+1) 1 (f.map v8)):=O λt u ht=>ai S (WU t u ht)
  have bv:N ((x.id.map v8).length=VD.n):=O (by rw[jw,g.idl];rfl);have bw:N ((f.map v8).length=VD.n):=O (by rw[jw,bn];rfl);have bA:∀z,(Op.equalIn 10000 23 (jh (x.id.map v8).toArray) (jh (f.map v8).toArray)).run jo z=.ok (decide (x.id=f)) z:=λz=>nZ x.id f g.idl bn z
  obtain⟨T1,y⟩:=J ((x.id.map v8).toArray);obtain⟨T2,au⟩:=J ((f.map v8).toArray);rw[<-y,<-au]at bA;have VO:=O y;have YY:=O au;have a2:a.cell? ⟨b,36,jf⟩=T x.p.2.vc:=ai K (by rw[ms];exact c.2.2.1);have bf:a.cell? ⟨b,141,jf⟩=T x.vm:=ai K (by rw[ms];exact c.2.2.2.2.1);have bg:a.cell? ⟨M+1,33,jf⟩=T (jd je dev):=ai S Yh;have bh:a.cell? ⟨M+1,34,jf⟩=T (jd je ctr):=ai S bm;have a3:=ai (i:=0) U I;have bi:=gs (o:=0) U;have a4:N (EC.At a x.p.2.vc x.p.1.chg):=O (EK.At.of_sl g.com.chg);have bk:N (EM.At a x.vm x.g.mem):=O g.leads.mem;obtain⟨pc,cc,e1,-⟩:=a4.form;obtain⟨pm,cm,e2,-⟩:=bk.form;rw[e1]at a2 a4;rw[e2]at bf bk;have UC:=O U;have bO:=O a6;have Wu:=O a5;dsimp only;rw[<-j];clear j g K S e1 e2 y au c R U hP a6 a5;obtain⟨bT,Yb⟩:=J (okS f P);rw[<-Yb]at a3 UC;have aa:=O Yb;clear Yb
  cases bT with
  |true=>
   as_aux_lemma=>
    obtain⟨n,c⟩:=J x.p.1.chg.length;have ZJ:=O c;rw[<-c]at a2 a4;have bs:n<=1000000:=by rw[c];exact bO
    clear c bf
    gi_wp2_with fail
    gi_loopw [20] (λi wr=>∃j:jc,i=jd je j/\j<=n/\N (∀y∈x.p.1.chg.take j,(y.d==dev&&y.k !=1)=jn)/\N (jk a a wr)) (λi _=>n-(jV i).toNat)
    case atStart=>exact⟨0,I,jO _,O ar,O (qe _ _)⟩
    obtain⟨j,rfl,hj,HG,R⟩:=hrel;clear a2 a3 bi bg bh
    by_cases b0:j<n
    case neg=>
     have hd:=az ((j:jb)<(n:jb));have UY:=az (j<n);obtain rfl:j=n:=Y
     gi_wp2_with fail
     exact Wo wr (λk s _=>R.block k s) (R.mono (aI Vj)) (by rw[rJ,<-aa];exact av UC R) (HP.on aa.symm (N4 (by rw[<-ZJ];exact HG)))
    have hd:=aA ((j:jb)<(n:jb));have UY:=aA (j<n);obtain⟨⟨K,c,xp,xv,xc⟩,he,Vp⟩:=dL (l:=x.p.1.chg) (j:=j) (by rw[<-ZJ];exact b0);obtain⟨g,o,rfl,ba⟩:=(a4.below R).cells.2.2 Y;have Vm:N (wr.rangeAt g (o+j*5) (ap.cells ⟨K,c,xp,xv,xc⟩)):=O λt u ht=>ba j _ he t u ht
    have HE:=O he;have bB:=O Vp;obtain⟨X5,a5⟩:=J ((ap.cells ⟨K,c,xp,xv,xc⟩).toArray);have a6:=O a5;have b1:N (X5.size=VH.n):=O (by rw[a5];rfl);have b2:N (X5.all (·.oneCell')=ji):=O (by rw[a5,jS];exact λu hu=>EC.one ⟨K,c,xp,xv,xc⟩ u (show u∈ap.cells _ by simpa using hu));clear ba he Vp a5
    gi_upto_region 7 with(first|(refine VH.loadI aj I I (ap.cells ⟨K,c,xp,xv,xc⟩) I Vm ?_;rw[<-a6];refine L ?_)|(refine VH.madeI I I (L ?_))|(refine VH.firstI I I I X5 I b1 b2 (L ?_)))
    obtain⟨x4,b4,hx,m,YV,bC⟩:=dl wr X5 VH.t;rw[<-hx,<-m];have UK:N (jk a a x4):=ah R bC;have cd:=ai (i:=1) (v:=jd je c) YV.out (by rw[a6];rfl);have ck:=ai (i:=0) (v:=jd je K) YV.out (by rw[a6];rfl);have b5:=ai (i:=4) (v:=jd je xc) YV.out (by rw[a6];rfl);have bg:=ai (av UA UK) Yh;have bh:=ai (av UA UK) bm;have a5:=av UC UK;have a3:=ai (i:=0) a5 I;have bi:=gs (o:=0) a5;have ba:=O a5;clear hx m bC YV R Vm a5
    by_cases V:c=dev
    case neg=>
     have e1:(c==dev)=jn:=ak V;have a5:decide (c=dev)=jn:=ak V;have VM:N (∀y∈x.p.1.chg.take (j+1),(y.d==dev&&y.k !=1)=jn):=O (by
      rw[bB];intro y R
      rcases ow.1 R with R|R
      ·exact HG y R
      rw[jP]at R;rw[R];show(c==dev&&_)=jn;rw[e1];rfl)
     clear V
     gi_wp2_with fail
     exact⟨⟨j+1,by go_num,by omega,VM,UK⟩,by simp only[jV];omega⟩
    have e1:(c==dev)=ji:=ak V;have a5:decide (c=dev)=ji:=ak V;clear V
    by_cases H:K=1
    case pos=>
     have e2:(K !=1)=jn:=by simp[H]
     have bC:decide (K≠1)=jn:=by simp[H]
     have VM:N (∀y∈x.p.1.chg.take (j+1),(y.d==dev&&y.k !=1)=jn):=O (by
      rw[bB];intro y R
      rcases ow.1 R with R|R
      ·exact HG y R
      rw[jP]at R;rw[R];show(c==dev&&(K !=1))=jn;rw[e2,Bool.and_false])
     clear H
     gi_wp2_with fail
     exact⟨⟨j+1,by go_num,by omega,VM,UK⟩,by simp only[jV];omega⟩
    have e2:(K !=1)=ji:=by simp[H]
    have bC:decide (K≠1)=ji:=by simp[H]
    have R:N (x.p.1.chg.find? (λy=>y.d==dev&&y.k !=1)=T ⟨K,c,xp,xv,xc⟩):=O (N8 HG HE (by show(c==dev&&(K !=1))=ji;rw[e1,e2];rfl));clear H;obtain⟨r,y⟩:=J (decide (ctr<=xc));have HR:=O y;have b6:decide (ctr<=xc)=r:=y.symm;clear y
    gi_wp2_with fail
    refine bu _ r (λk s H=>(dz _ H).trans (UK.block k s)) ((UK.mono (aI Vj)).setCell (p:=⟨M+2,0,jf⟩) (j6 _) _) (ft _ ba.out) (λa1=>?_);rw[HR];exact HP.off aa.symm R.out a1
  |false=>
   as_aux_lemma=>
    obtain⟨R,g⟩:=J (decide (x.id=f));rw[<-g]at bA;have c:=O g;clear g
    rcases R with _|_
    ·gi_wp2_with (first|(refine VD.loadI aj I I (x.id.map v8) bv U1 ?_;rw[<-VO];refine L ?_)|(refine VD.loadI aj I I (f.map v8) bw UZ ?_;rw[<-YY];refine L ?_))
     exact Wo a (λ_ _ _=>rfl) (qe _ _) (by rw[rJ,<-aa,<-c];exact UC) (HP.ne aa.symm (of_decide_eq_false c.symm))
    have y:=O (Au (Oq dev C (M+1) a.heap.size (aI Vj) Yh) x.g.mem _ a bk UA (jD _) Wu);obtain⟨V,g⟩:=J (x.g.mem.any λm=>m.dev==dev);rw[<-g]at y;have K:=O g;clear g
    gi_wp2_with (first|(refine VD.loadI aj I I (x.id.map v8) bv U1 ?_;rw[<-VO];refine L ?_)|(refine VD.loadI aj I I (f.map v8) bw UZ ?_;rw[<-YY];refine L ?_))
    refine⟨trivial,I,(callsIn_wide.2 y).mono ?_⟩;rintro e x5 ⟨rfl,m⟩;have g:=av UC m;have a1:=ai (i:=0) g I;have a5:=gs (o:=0) g;have j:=O m;have ba:=O g;clear m g a2 bf bg bh a3 bi y
    cases V with
    |true=>
     gi_wp2_with fail
     exact Wo _ (λk s H=>(dz _ H).trans (j.block k s)) ((j.mono (aI Vj)).setCell (p:=⟨M+2,0,jf⟩) (j6 _) _) (by rw[rJ,<-aa,<-c];exact ft _ ba.out) (HP.met aa.symm (qL c.symm) K.symm)
    |false=>
     gi_wp2_with fail
     exact bu _ jn (λk s H=>(dz _ H).trans (j.block k s)) ((j.mono (aI Vj)).setCell (p:=⟨M+2,0,jf⟩) (j6 _) _) (ft _ ba.out) (HP.gone aa.symm (qL c.symm) K.symm)
 rintro D xs Ψ W rfl hS ⟨hI,hP⟩ ay;have a:=(hI.2.1 _ _ (ua M C f xs)).2.1;have bb:=hI.2.2.1;obtain⟨ok,Yb⟩:=J (okS f xs);have HR:N (ok=bo):=O (by
  have h:=hP [];rw[qE,hS,eJ,<-Yb]at h;rw[ZD];exact h.symm)
 rw[<-Yb]at a;have m:=ai (i:=0) a I;have r:=gs (o:=0) a;clear hI hP hS Yb
 go_wp2_with fail
 have c:(W.setCell ⟨M+2,0,jf⟩ (.bool ok)).heap[M+2]?=T (ja #[.bool ok] 4 (0,0)):=ft (i:=0) (.bool ok) a;have h:∀k,(W.setCell ⟨M+2,0,jf⟩ (.bool ok)).heap[k]?=W.heap[k]?:=λk=>by
  by_cases e:k=M+2
  ·rw[e,c,a]
  exact dz _ e
 have j:jk w w (W.setCell ⟨M+2,0,jf⟩ (.bool ok)):=bb.setCell (p:=⟨M+2,0,jf⟩) (by rw[<-HM];exact q9 _ _) _;have g:(W.setCell ⟨M+2,0,jf⟩ (.bool ok)).heap[q.heap.size]?=T (.deferred (T [])):=(h _).trans ay;have bc:M+2≠q.heap.size:=λe=>by rw[<-e,c]at g;cases g
 have z2:=(nn (w:=W.setCell ⟨M+2,0,jf⟩ (.bool ok)) (o:=.deferred jf) bc).trans c;have bd:w.heap.size<=q.heap.size:=Q.size;refine⟨by simp,.inl ⟨_,_,I,qN (b:=q.heap.size) (ds:=[]) g,?_⟩⟩;have zc:=ai (i:=0) z2 I;exact⟨.bool ok,by simp[results,results18,go_sem,zc],by rw[HR],j.trans (iy bd)⟩
end
def vD(g:Grp)(a:jb)(b:jg ap)(c init:LBy)(d:jg Bx)(e:jg Wl):Cmt:=⟨g.folder,g.epoch+1,g.last,a,b,dy c,d,e,cH,0,0⟩
def pM(g:Grp)(a:jb)(c:jg ap)(b init:LBy)(d:jg Bx)(e:jg Wl):Cmt:=
 {vD g a c b init d e with confirm:=iZ (dK g b init) (cZ kO ((aR (vD g a c b init d e)).take 8))}
def mkX(g:Grp)(a:jb)(x:jc)(b:jg ap)(c init:LBy)(d:jg Bx)(e:jg Wl):Cmt:=
 {pM g a b c init d e with r:=(kq x (dp (pM g a b c init d e)):jc),s:=(kG x (dp (pM g a b c init d e)):jc)}
def kz(b:n0 8):LBy:=b::xg 31 0#8
def cR(d:jc):ap:=⟨1,(d:jb),((aY 4 (d+2):jc):jb),((aY 4 (d+2):jc):jb),0⟩
def dI(d a:jc):ap:=⟨2,(d:jb),0,0,(a:jb)⟩
def uI(g:Grp)(a:jb)(c:jg ap)(b seed:LBy)(x:jb×jb)(p:jc):Bx:=
 ⟨x.2,x.1,(aY 4 (gj (dZ seed gO [x.1,x.2])):jc),gr p (dZ seed gO [x.1,x.2]) (iW (bY g a c b) gO [x.1,x.2]) (aw b x.1.toNat)⟩
theorem Mp{g:Grp}{a:jb}{b:jg ap}{c:LBy}{x:jb×jb}{p:jc}(h:tI (aX g.tree b) x.2=p):eD g a b c seed x=uI g a b c seed x p:=by
 unfold eD uI;rw[h]
def pwN:jc->jc->jc->jc
 |0,_,_=>1%PN
 |f+1,a,n=>if n%2=1 then a*pwN f (a*a%PN) (n/2)%PN else pwN f (a*a%PN) (n/2)
theorem Co:∀(f a n:jc),n<2^f->pwN f a n=a^n%PN
 |0,a,n,h=>by
  obtain rfl:n=0:=ak h;rw[pwN,Nat.pow_zero]
 |f+1,a,n,h=>by
  have c:n/2<2^f:=by rw[Nat.pow_succ]at h;omega
  have e:a^n=(a*a)^(n/2)*a^(n%2):=by
   rw[<-Nat.pow_two,<-Nat.pow_mul,<-Nat.pow_add,Nat.div_add_mod]
  rw[pwN,Co f _ _ c]
  split
  ·rename_i b
   rw[e,b,Nat.pow_one,Nat.mul_comm _ a,Nat.mul_mod a,<-Nat.pow_mod,Nat.mod_mod,<-Nat.mul_mod,Nat.mul_comm]
  have b:n%2=0:=Y;rw[e,b,Nat.pow_zero,Nat.mul_one,<-Nat.pow_mod]
def pw(a n:jc):jc:=if n<2^64 then pwN 64 a n else aY a n
theorem nz(a n:jc):aY a n=pw a n:=by
 unfold pw
 split
 ·rename_i h
  rw[Co 64 a n h]
  rfl
 rfl
def mh(a:LBy):jg jb:=(List.range 10).map λi=>((pw 4 (aT (aw a i)):jc):jb)
def nB(x:jc)(msg:LBy):jc:=(iS x msg+rN (pw 4 (iS x msg)) (pw 4 x) msg*x%QN)%QN
def rB(a:jc)(seed b body:LBy):LBy:=oT (oh a (pw 4 (gj seed)) (pw a (gj seed))) sE b body
def iY(g:Grp)(a:jb)(b:jg ap)(c:LBy):Cmt:=⟨g.folder,g.epoch+1,g.last,a,b,mh c,[],[],cH,0,0⟩
def pA(g:Grp)(a:jb)(c:jg ap)(b seed:LBy)(x:jb×jb)(p:jc):Bx:=
 ⟨x.2,x.1,(pw 4 (gj (dZ seed gO [x.1,x.2])):jc),rB p (dZ seed gO [x.1,x.2]) (iW (iY g a c b) gO [x.1,x.2]) (aw b x.1.toNat)⟩
def oY(g:Grp)(a:jb)(c:jg ap)(b init seed:LBy)(y:ap):Wl:=
 ⟨y.d,(pw 4 (gj (dZ seed ku [y.d])):jc),rB y.p.toNat (dZ seed ku [y.d]) (iW (iY g a c b) ku [y.d]) (dK g b init)⟩
def nH(g:Grp)(a:jb)(b:jg ap)(c init:LBy)(d:jg Bx)(e:jg Wl):Cmt:=⟨g.folder,g.epoch+1,g.last,a,b,mh c,d,e,cH,0,0⟩
def lI(g:Grp)(a:jb)(c:jg ap)(b init:LBy)(d:jg Bx)(e:jg Wl):Cmt:=
 {nH g a c b init d e with confirm:=iZ (dK g b init) (cZ kO ((aR (nH g a c b init d e)).take 8))}
def mkF(g:Grp)(a:jb)(x:jc)(b:jg ap)(c init:LBy)(d:jg Bx)(e:jg Wl):Cmt:=
 {lI g a b c init d e with r:=(pw 4 (iS x (dp (lI g a b c init d e))):jc),s:=(nB x (dp (lI g a b c init d e)):jc)}
theorem He(a:LBy):dy a=mh a:=by unfold dy mh;simp only[nz]
theorem I8(x:jc)(msg:LBy):kG x msg=nB x msg:=by unfold kG nB kq;simp only[nz]
theorem FY(a:jc)(seed b body:LBy):gr a seed b body=rB a seed b body:=by unfold gr rB;simp only[nz]
theorem Dr(g:Grp)(a:jb)(b:jg ap)(c:LBy):bY g a b c=iY g a b c:=by unfold bY iY;rw[He]
theorem KG(g:Grp)(a:jb)(b:jg ap)(c seed:LBy)(x:jb×jb)(p:jc):uI g a b c seed x p=pA g a b c seed x p:=by unfold uI pA;simp only[nz,FY,Dr]
theorem TM(g:Grp)(a:jb)(b:jg ap)(c init seed:LBy)(y:ap):fD g a b c init seed y=oY g a b c init seed y:=by unfold fD oY;simp only[nz,FY,Dr]
theorem L5(g:Grp)(a:jb)(b:jg ap)(c init:LBy)(d:jg Bx)(e:jg Wl):pM g a b c init d e=lI g a b c init d e:=by unfold pM lI vD nH;simp only[He]
theorem Nz(g:Grp)(a:jb)(x:jc)(b:jg ap)(c init:LBy)(d:jg Bx)(e:jg Wl):mkX g a x b c init d e=mkF g a x b c init d e:=by
 unfold mkX mkF;simp only[L5,I8,kq,nz]
theorem FO{P:p6}{S:jj->Prop}{t:bE}(r:bE){F:jc->jc->Act}{d:jc->jc->jj->Prop}(e:∀x y w,d x y w->eU P V i S r (F x y) w)(h:(∀x y w,d x y w->eU P V i S r (F x y) w)->eU P V i S t o w):eU P V i S t o w:=h e
theorem CR{a:Act}{o:jK}{x:j0}{c:jM}{d:TypeDesc}{f:jc}{e:jg jl}{g:jj}(h:jo.underlying c=T d)(i:d.isRow=ji)(j:(jo.info? c).map (·.size)=T e.length)(k:o.op=.load c x)(l:a.eval x=jt (T ⟨b,f,jf⟩))(m:g.rangeAt b f e):
 (jQ a.eval o).run jo g=.ok (.value (jh e.toArray)) g:=fk o a c x k b f l e d m h i j
theorem L6{a:Act}{o:jK}{parts:jq (jc×j0)}{f e au:jb}{b:jq jl}{p:jG Addr}{n c:jc}(d:b.size=32)(g:o.op=.build 34 parts)(h:(parts.map fun(i,x)=>(i,a.eval x))= #[(0,jd je f),(1,jd je e),(2,jh b),(3,jd je au),(4,A p n c)])(W:jj):
 (jQ a.eval o).run jo W=.ok (.value (jh (#[jd je f,jd je e]++b++ #[jd je au,A p n c,A jf 0 0,A jf 0 0,A jf 0 0]++(cH.map v8).toArray++ #[jd je 0,jd je 0]))) W:=by
 simp only[jQ,g,h,Sem.run_bind,LU f e au b d p n c,Result.andThen_ok,Sem.run_pure]
theorem OA{o:Act}(b:C.op=.build 63 #[])(W:jj):
 (jQ o.eval C).run jo W=.ok (.value (jh (cH.map v8).toArray)) W:=by
 simp only[jQ,b,qb,jY,Sem.run_bind,OV,Result.andThen_ok,Sem.run_pure]
theorem RV{R i:jc}{X:jl->jq jl}{g k:jl}{y:jg Bx}(n:e.last.length=32)(l:w.ownsRow b 56 5 m f.length (f.flatMap ap.cells))(j:w.ownsRow M 3 1 g 10 ((dy p).map (jH .i64)))(q:eF B R 34 88 4 Bx.cells Bx.body X W w i k y u)(r:i=y.length):aS (·<w.heap.size) w {bY e d f p with box:=y} ⟨m,g,k,A jf 0 0⟩:=by
 refine⟨aH.of_own l (λe n=>(l.lt e n).2),?_,q.slice r (λe _ n=>n),⟨[],⟨I,jf,0,I,jD _,λ_=>rfl,λh=>ju h (rn 0)⟩,I⟩,n,eM⟩;have h:=aH.of_own (D:=(·<w.heap.size)) j (λe n=>(j.lt e n).2);show aH _ w g 1 (dy p).length _;rw[lO];exact h
def lq(D:jc->Prop)(W:jj)(v:jl)(l:jg Bx):Prop:=∃a,aH D W v 4 l.length (dS Bx.cells l a)/\eA D W (l.map Bx.body) a
theorem lq.keep{D':jc->Prop}{v:jl}{l:jg Bx}(h:lq D w v l)(a:∀g,D g->w'.heap[g]?=w.heap[g]?)(b:∀g,D g->D' g):lq D' w' v l:=by
 obtain⟨c,d,e⟩:=h;exact⟨c,(d.keep a).mono b,(e.keep a).mono b⟩
theorem lq.below{v:jl}{l:jg Bx}(h:lq (·<w.heap.size) w v l)(b:jk w w w'):lq (·<w'.heap.size) w' v l:=h.keep (λg a=>b.block g a) (λg a=>jJ a b.size)
theorem Sd{R i:jc}{X:jl->jq jl}{g k l:jl}{y:jg Bx}{c:jg Wl}(a:e.last.length=32)(n:w.ownsRow b 56 5 m f.length (f.flatMap ap.cells))(o:w.ownsRow M 3 1 g 10 ((dy p).map (jH .i64)))(s:lq (·<w.heap.size) w k y)(t:eF B R 34 91 3 Wl.cells Wl.body X W w i l c u)(r:i=c.length):aS (·<w.heap.size) w {bY e d f p with box:=y,wel:=c} ⟨m,g,k,l⟩:=by
 refine⟨aH.of_own n (λe a=>(n.lt e a).2),?_,s,t.slice r (λe _ a=>a),a,eM⟩;have h:=aH.of_own (D:=(·<w.heap.size)) o (λe a=>(o.lt e a).2);show aH _ w g 1 (dy p).length _;rw[lO];exact h
theorem RO(h:EC.At w m f)(l:∀(g o:jc) (x:jb),w.cell? ⟨g,o,jf⟩=T (jd je x)->W.cell? ⟨g,o,jf⟩=T (jd je x)):EC.At W m f:=by
 obtain⟨i,p,c,e,k,v,n⟩:=h;refine⟨i,p,c,e,k,v,λq=>?_⟩;obtain⟨g,o,ep,r⟩:=n q;refine⟨g,o,ep,λj u a=>?_⟩;have s:=r j u a;have t:∃x,u=jd je x:=by
  have b:=j3 a;unfold EK.flat at b;obtain⟨y,-,z⟩:=List.mem_flatMap.1 b;have d:u∈ap.cells y:=z;simp only[ap.cells,List.mem_cons,List.mem_nil_iff,or_false]at d
  rcases d with rfl|rfl|rfl|rfl|rfl<;>exact⟨_,I⟩
 obtain⟨x,rfl⟩:=t;exact l _ _ _ s
theorem P9{v:jl}{l:jg ap}{j:jc}{X d:jq jl}{e:jM}(h:EC.At w v l)(f:w.heap[b]?=T (ja X e (0,0)))(g:w'.heap[b]?=T (ja d e (0,0)))(m:∀k,k<w.heap.size->k≠b->w'.heap[k]?=w.heap[k]?)
 (k:∀i,i≠j->d[i]?=X[i]?) (a:∃p n c,X[j]?=T (A p n c)):EC.At w' v l:=by
 obtain⟨p,n,c,a⟩:=a;exact RO h (uN f g k a m)
theorem KN{d:jb}{z seed:LBy}{D:jc->Prop}{g l n:jl}(a:e.last.length=32)(j:w.ownsRow b 56 5 m f.length (f.flatMap ap.cells))(i:w.ownsRow M 3 1 g 10 ((dy p).map (jH .i64)))
 (o:lq D w l ((eo (aX e.tree f) d).map (eD e d f p seed))) (c:∃h,aH D w n 3 ((dt d f).map (fD e d f p z seed)).length (dS Wl.cells ((dt d f).map (fD e d f p z seed)) h)/\eA D w (((dt d f).map (fD e d f p z seed)).map Wl.body) h)
 (q:∀k,b<=k->k<w.heap.size->D k) (r:∀k,M<=k->k<w.heap.size->D k):aS D w (mk1 e d f p z seed) ⟨m,g,l,n⟩:=by
 refine⟨aH.of_own j (λe a=>q e (j.lt e a).1 (j.lt e a).2),?_,o,c,a,eM⟩;have h:=aH.of_own (D:=D) i (λe a=>r e (i.lt e a).1 (i.lt e a).2);show aH _ w g 1 (dy p).length _;rw[lO];exact h
theorem aS.conf(h:aS D w j U){k:LBy}(a:k.length=32):aS D w {j with confirm:=k} U:=⟨h.chg,h.path,h.box,h.wel,h.plen,a⟩
theorem aS.rs(h:aS D w j U)(r s:jb):aS D w {j with r:=r,s:=s} U:=⟨h.chg,h.path,h.box,h.wel,h.plen,h.clen⟩
theorem D6{z:LBy}(h:aS D w (mk1 e d f p z seed) U):aS D w (mk2 e d f p z seed) U:=by
 unfold mk2;exact h.conf (sZ _ _)
theorem Rq{g:Grp}{a:jb}{x:jc}{b:jg ap}{c init:LBy}{q:CQ}(h:aS D W (mk1 g a b c init seed) q):aS D W (mkC g a x b c init seed) q:=by
 unfold mkC;exact(D6 h).rs _ _
theorem aS.later(h:aS (λk=>b<=k/\k<w.heap.size) w j U)(n:jk w w W):aS (λk=>b<=k/\k<W.heap.size) W j U:=
 (h.keep λg a=>n.block g a.2).mono λg a=>⟨a.1,jJ a.2 n.size⟩
def mW(a:jq jl):jc->jg jl->jq jl
 |_,[]=>a
 |o,v::b=>mW (a.setIfInBounds o v) (o+1) b
theorem BG:∀(d a c b:jg jl),c.length=d.length->mW (a++c++b).toArray a.length d=(a++d++b).toArray
 |[],a,c,b,h=>by
  obtain rfl:c=[]:=List.eq_nil_of_length_eq_zero h
  rfl
 |v::d,a,[],b,h=>by simp at h
 |v::d,a,x::c,b,h=>by
  have e:(a++x::c++b).toArray.setIfInBounds a.length v=((a++[v])++c++b).toArray:=by
   apply Array.ext'
   rw[Array.toList_setIfInBounds];show List.set (a++x::c++b) a.length v=_;rw[qV,List.set_append_right _ _ (jD _),Nat.sub_self];simp
  rw[mW,e];have f:=BG d (a++[v]) c b (ak h);rw[o5]at f;have g:mW ((a++[v])++c++b).toArray (a.length+1) d=(a++[v]++d++b).toArray:=f;rw[g];simp
theorem yU:∀(a:jg jl) (o:jc) (W:jj) (c:jq jl),W.heap[b]?=T (ja c r (0,0))->(W.setCells b o a).heap[b]?=T (ja (mW c o a) r (0,0))
 |[],o,W,c,h=>h
 |v::a,o,W,c,h=>yU a (o+1) _ _ (ft v h)
theorem tZ{k:jc}(c:k≠b):∀(a:jg jl) (o:jc) (W:jj),(W.setCells b o a).heap[k]?=W.heap[k]?
 |[],o,W=>rfl
 |v::a,o,W=>(tZ c a (o+1) (W.setCell ⟨b,o,jf⟩ v)).trans (dz v c)
theorem yx(b:jc):∀(a:jg jl) (o:jc) (W:jj),(W.setCells b o a).heap.size=W.heap.size
 |[],o,W=>rfl
 |v::a,o,W=>(yx b a (o+1) (W.setCell ⟨b,o,jf⟩ v)).trans (pI _ _ _)
theorem Ou(c:Cmt)(q:CQ)(k:LBy)(a:c.parent.length=32)(b:c.confirm.length=32)(d:k.length=32):mW (aF c q).toArray 39 (k.map v8)=(aF {c with confirm:=k} q).toArray:=by
 have e:∀x:LBy,aF {c with confirm:=x} q=(jd je c.folder::jd je c.epoch::(c.parent.map v8++[jd je c.author,q.vc,q.vp,q.vb,q.vw]))++x.map v8++[jd je c.r,jd je c.s]:=λx=>by simp[aF]
 have h:=BG (k.map v8) (jd je c.folder::jd je c.epoch::(c.parent.map v8++[jd je c.author,q.vc,q.vp,q.vb,q.vw])) (c.confirm.map v8) [jd je c.r,jd je c.s] (by simp[b,d]);have f:(jH .i64 c.folder::jd je c.epoch::(c.parent.map v8++[jd je c.author,q.vc,q.vp,q.vb,q.vw])).length=39:=by simp[a]
 rw[f,<-e,<-e]at h;exact h
theorem Uc(c:Cmt)(q:CQ)(r s:jb)(a:c.parent.length=32)(b:c.confirm.length=32):mW (aF c q).toArray 71 [jd je r,jd je s]=(aF {c with r:=r,s:=s} q).toArray:=by
 have e:∀x y:jb,aF {c with r:=x,s:=y} q=(jd je c.folder::jd je c.epoch::(c.parent.map v8++([jd je c.author,q.vc,q.vp,q.vb,q.vw]++c.confirm.map v8)))++[jd je x,jd je y]++[]:=λx y=>by simp[aF]
 have h:=BG [jd je r,jd je s] (jd je c.folder::jd je c.epoch::(c.parent.map v8++([jd je c.author,q.vc,q.vp,q.vb,q.vw]++c.confirm.map v8))) [jd je c.r,jd je c.s] [] I;have d:(jH .i64 c.folder::jd je c.epoch::(c.parent.map v8++([jd je c.author,q.vc,q.vp,q.vb,q.vw]++c.confirm.map v8))).length=71:=by simp[a,b]
 rw[d,<-e,<-e]at h;exact h
theorem fK.conf(h:fK j){k:LBy}(a:k.length=32):fK {j with confirm:=k}:=⟨h.ints,h.plen,a,h.chg,h.path,h.box,h.wel⟩
theorem fK.rs(h:fK j){r s:jb}(a:IR r)(b:IR s):fK {j with r:=r,s:=s}:=⟨⟨h.ints.1,h.ints.2.1,h.ints.2.2.1,a,b⟩,h.plen,h.clen,h.chg,h.path,h.box,h.wel⟩
theorem Px(c:Cmt)(x y:jb)(l:c.r=0)(m:c.s=0):({({c with r:=x,s:=y}:Cmt)with r:=0,s:=0}:Cmt)=c:=by
 obtain⟨a,b,c,d,e,f,g,h,i,j,k⟩:=c;obtain rfl:j=0:=l;obtain rfl:k=0:=m
 rfl
theorem KF(c:Cmt)(x:LBy)(l:c.confirm=cH):({({c with confirm:=x}:Cmt)with confirm:=cH}:Cmt)=c:=by
 obtain⟨a,b,c,d,e,f,g,h,i,j,k⟩:=c;obtain rfl:i=cH:=l
 rfl
theorem TQ(g:Grp)(a:jb)(b:jg ap)(c init seed:LBy)(q:CQ):aF (mk1 g a b c init seed) q=aF (bY g a b c) q:=by simp only[aF,mk1,bY]
theorem ot(g:Grp)(a:jb)(b:jg ap)(c init seed:LBy):(mk1 g a b c init seed).parent=g.last/\(mk1 g a b c init seed).confirm.length=32:=by
 unfold mk1;exact⟨I,eM⟩
theorem Dq(g:Grp)(a:jb)(c:jg ap)(b init seed:LBy):mk2 g a c b init seed={mk1 g a c b init seed with confirm:=iZ (dK g b init) (cZ kO ((aR (mk1 g a c b init seed)).take 8))}:=by unfold mk2;rfl
theorem GG(g:Grp)(a:jb)(x:jc)(b:jg ap)(c init seed:LBy):mkC g a x b c init seed={mk2 g a b c init seed with r:=((kq x (dp (mk2 g a b c init seed)):jc):jb),s:=((kG x (dp (mk2 g a b c init seed)):jc):jb)}:=by unfold mkC;rfl
theorem B2(c:Cmt)(k:LBy):({c with confirm:=k}:Cmt).confirm=k/\({c with confirm:=k}:Cmt).parent=c.parent:=⟨I,I⟩
theorem pD(g:Grp)(a:jb)(b:jg ap)(c init seed:LBy):(mk2 g a b c init seed).parent=g.last/\(mk2 g a b c init seed).confirm.length=32:=by
 rw[Dq,(B2 _ _).1,(B2 _ _).2];exact⟨(ot ..).1,sZ _ _⟩
theorem F8(c:Cmt)(r s:jb):({c with r:=r,s:=s}:Cmt).confirm=c.confirm/\({c with r:=r,s:=s}:Cmt).parent=c.parent:=⟨I,I⟩
theorem BM(g:Grp)(a:jb)(x:jc)(b:jg ap)(c init seed:LBy):(mkC g a x b c init seed).parent=g.last/\(mkC g a x b c init seed).confirm.length=32:=by
 rw[GG,(F8 _ _ _).1,(F8 _ _ _).2];exact pD ..
theorem MS{z:LBy}(h:fK (mkC e d b f p z seed)):fK (mk1 e d f p z seed)/\fK (mk2 e d f p z seed):=by
 have init:IR 0:=⟨by decide,by decide⟩;have g:fK (mk2 e d f p z seed):=by
  have a:=h.rs init init;unfold mkC at a;rw[Px _ _ _ I I]at a;exact a
 have a:=g.conf eM;unfold mk2 at a;rw[KF _ _ I]at a;exact⟨a,g⟩
theorem vO(k:Q)(h:Q->P:=by intro k;refine aW (v:=?_) rfl aj (λW' hS=>?_) ?_;rotate_left;(have b0:=ai (i:=1) hS.1 rfl;have b1:=ai (i:=2) hS.1 rfl;clear hS;go_simp;with_reducible rfl);refine L ?_;exact k):P:=h k
theorem R0(g:Grp)(vm vt vl:jl)(a x:jb)(m:jg ap)(z init seed:LBy)(w:jj)(h:bU w g vm vt)(ay:aH (·<w.heap.size) w vl 5 m.length (m.flatMap ap.cells))
 (a1:z.length=32) (a2:init.length=32) (hg:seed.length=32) (hT:lz w) (hS:iC w) (bc:g.mem.length<=900000) (bd:g.tree.length<=600000) (F:m.length<=1000000) (Yb:gY g a x m=0):
 jB jo 45 #[jh (aD g vm vt).toArray,jd je a,jd je x,vl,jh (z.map v8).toArray,jh (init.map v8).toArray,jh (seed.map v8).toArray] w (Pu g a x m z init seed (gY g a x m) w):=by
 obtain⟨er,M⟩:=J (gY g a x m);rw[<-M];have hP:=O M;have e1:N (er=0):=O (M.trans Yb);have a3:=rF (vm:=vm) (vt:=vt) h.llen;have Ws:=lR (vm:=vm) (vt:=vt) h.llen;have a4:∀(w:jj) (b:jc),w.heap[b]?=T (ja (aD g vm vt).toArray 45 (0,0))->w.rangeAt b 2 (g.last.map v8):=λw b hb=>dE.last ⟨hb,h.llen⟩
 have HN:N (∀W,bU W g vm vt->EC.At W vl m->jB jo 24 #[jh (aD g vm vt).toArray,jd je a,vl] W λe w'=>∃u,e=jz (jI #[u,jd je (dq g a m)])/\w'.ownsRow W 88 4 u (dT g a m).length (EB0.flat (dT g a m))/\jk W W w'):=O (λW hW hL=>Gt g vm vt _ _ _ W hW hL Y Y F);have hr:N (∀W,dA g->eW m->gL g a m->bU W g vm vt->EC.At W vl m->jB jo 31 #[jh (aD g vm vt).toArray,jd je a,vl] W λe w'=>e=jz (jd je (dP g a m))/\jk W W w'):=O (λW hv hf hp hW hL=>Gg g vm vt _ _ _ W hW (uE hv) Y hL (λhn=>by
  have c:=hp.own;rw[hn]at c;obtain⟨x,r,h1,-⟩:=hp.first (by have:=hv.ep.1;have h2:=of_decide_eq_false c.symm;omega);rw[h1];simp))
 have hQ:N (∀W,eW m->bU W g vm vt->EC.At W vl m->jB jo 34 #[jh (aD g vm vt).toArray,vl] W λe w'=>∃u,e=jz (jh #[u])/\bJ w' u (aX g.tree m)/\jk W W w'):=O (λW hf hW hL=>yH g vm vt _ _ W hW hf Y hL);obtain⟨ax,Q⟩:=J ((aD g vm vt).toArray);obtain⟨Ux,hL⟩:=J ((z.map v8).toArray);obtain⟨bK,V⟩:=J ((init.map v8).toArray);obtain⟨S,X⟩:=J ((seed.map v8).toArray);have c:∀(l:LBy),l.length=32->(jo.info? 63).map (·.size)=T (l.map v8).toArray.size:=λl F=>by rw[jv,jw,F];kernel_rfl
 have Z1:N ((jo.info? 63).map (·.size)=T Ux.size):=O (by rw[hL];exact c _ a1);have lp:N ((jo.info? 63).map (·.size)=T bK.size):=O (by rw[V];exact c _ a2);have hR:N ((jo.info? 63).map (·.size)=T S.size):=O (by rw[X];exact c _ hg);rw[<-Q]at a3 HN hr hQ a4⊢;rw[<-hL,<-V,<-X];clear c;obtain⟨x0,k⟩:=J (((((((w.alloc (ja ax 45)).alloc (ja Ux 63)).alloc (ja bK 63)).alloc (ja S 63)).alloc (ja zeroCells34 34)).alloc (ja a8 63)));obtain⟨t,hG⟩:=J w.heap.size;have i:=jy w (ja ax 45);have c:=ao w (ja ax 45);have bn:=jy (w.alloc (ja ax 45)) (ja Ux 63);have d:=ao (w.alloc (ja ax 45)) (ja Ux 63);have Vs:=jy ((w.alloc (ja ax 45)).alloc (ja Ux 63)) (ja bK 63);have j:=ao ((w.alloc (ja ax 45)).alloc (ja Ux 63)) (ja bK 63);have o:=jy (((w.alloc (ja ax 45)).alloc (ja Ux 63)).alloc (ja bK 63)) (ja S 63);have q:=ao (((w.alloc (ja ax 45)).alloc (ja Ux 63)).alloc (ja bK 63)) (ja S 63);have D:=jy ((((w.alloc (ja ax 45)).alloc (ja Ux 63)).alloc (ja bK 63)).alloc (ja S 63)) (ja zeroCells34 34);have s:=ao ((((w.alloc (ja ax 45)).alloc (ja Ux 63)).alloc (ja bK 63)).alloc (ja S 63)) (ja zeroCells34 34);have e2:=jy (((((w.alloc (ja ax 45)).alloc (ja Ux 63)).alloc (ja bK 63)).alloc (ja S 63)).alloc (ja zeroCells34 34)) (ja a8 63);have v:=ao (((((w.alloc (ja ax 45)).alloc (ja Ux 63)).alloc (ja bK 63)).alloc (ja S 63)).alloc (ja zeroCells34 34)) (ja a8 63);replace i:=av i d;replace i:=av i j;replace i:=av i q;replace i:=av i s;replace i:=av i v;rw[jp]at bn;replace bn:=av bn j;replace bn:=av bn q;replace bn:=av bn s;replace bn:=av bn v;rw[jp,jp]at Vs;replace Vs:=av Vs q;replace Vs:=av Vs s;replace Vs:=av Vs v;rw[jp,jp,jp]at o;replace o:=av o s;replace o:=av o v;rw[jp,jp,jp,jp]at D;replace D:=av D v;rw[jp,jp,jp,jp,jp]at e2;have hB:=(((((c).trans (d.mono (c).size)).trans (j.mono ((c).trans (d.mono (c).size)).size)).trans (q.mono (((c).trans (d.mono (c).size)).trans (j.mono ((c).trans (d.mono (c).size)).size)).size)).trans (s.mono ((((c).trans (d.mono (c).size)).trans (j.mono ((c).trans (d.mono (c).size)).size)).trans (q.mono (((c).trans (d.mono (c).size)).trans (j.mono ((c).trans (d.mono (c).size)).size)).size)).size)).trans (v.mono (((((c).trans (d.mono (c).size)).trans (j.mono ((c).trans (d.mono (c).size)).size)).trans (q.mono (((c).trans (d.mono (c).size)).trans (j.mono ((c).trans (d.mono (c).size)).size)).size)).trans (s.mono ((((c).trans (d.mono (c).size)).trans (j.mono ((c).trans (d.mono (c).size)).size)).trans (q.mono (((c).trans (d.mono (c).size)).trans (j.mono ((c).trans (d.mono (c).size)).size)).size)).size)).size);rw[<-k]at hB;rw[<-k,<-hG]at i;rw[<-k,<-hG]at bn;rw[<-k,<-hG]at Vs;rw[<-k,<-hG]at o;rw[<-k,<-hG]at D;rw[<-k,<-hG]at e2;have R:=O i;have aa:=O bn;have ad:=O Vs;have Wn:=O o;have U4:=O D;have Va:=O e2;have UB:=O hB;have HW:=O k;have HG:=O hG;have hs:=O h;have e3:=O ay;obtain⟨Z,H⟩:∃y:jq jl,y=zeroCells34:=⟨_,I⟩;obtain⟨K,C⟩:∃y:jq jl,y=a8:=⟨_,I⟩;have i4:N ((aF mU nN).toArray=Z):=O (by rw[H];rfl);have ht:N ((cH.map v8).toArray=K):=O (by rw[C];rfl);have Vj:N ((jo.info? 34).map (·.size)=T Z.size):=O (by rw[H];kernel_rfl);have lr:N ((jo.info? 63).map (·.size)=T K.size):=O (by rw[C];kernel_rfl);have lv:N (Z.all (·.oneCell')=ji):=O (by rw[H];kernel_rfl);have lw:N (K.all (·.oneCell')=ji):=O (by rw[C];kernel_rfl);replace U4:N (x0.heap[(t+1+1+1+1)]?=T (ja Z 34 (0,0))):=O (by rw[H];exact U4);replace Va:N (x0.heap[(t+1+1+1+1+1)]?=T (ja K 63 (0,0))):=O (by rw[C];exact Va);have YZ:=O a3;have i5:=O a4;have hU:=O hT;have Wo:=O hS;have Wu:=O bc;have WL:=O bd;have hh:=O F;have VR:=O a1;have hV:=O a2;have hX:=O hg;have Yp:=O h.llen;have c9:N (ax[0]?=T (jd je g.folder)/\ax[1]?=T (jd je g.epoch)):=O (by rw[Q];have:=Ws;exact⟨by simpa using this.1,by simpa using this.2.1⟩);have YH:=O Q;have i6:=O hL;have hY:=O V;have hZ:=O X;obtain⟨U,nc,P,i7⟩:∃p n c',vl=A p n c':=by obtain⟨p,c',h⟩:=ay.form;exact⟨p,_,c',h⟩
 subst i7;obtain⟨ep,a5⟩:=J g.epoch;obtain⟨fd,a6⟩:=J g.folder;rw[<-a5,<-a6]at c9;have Yn:=O a5;have ka:=O a6;have ba:=O (yI g a m);obtain⟨ne,bb⟩:=J (dq g a m);rw[<-bb]at HN ba;have e4:=O bb;clear h ay a1 a2 hg hT hS bc bd F M a3 Ws a4 Q hL V X H C a5 a6 bb;clear hB k hG i c bn d Vs j o q D s e2 v
 go_enter func45,ntmps45
 go_upto_region 1 with fail
 rw[<-HW,<-HG];have e5:N ((t+1+1+1+1+1)<x0.heap.size):=O (jA.1 Va).1;have k:=ai R c9.2
 by_cases h1:1099511627776<=ep
 case pos=>
  have hT:decide (1099511627776<=ep)=ji:=ak h1;have c:N (er=1):=O (by rw[hP];unfold gY;rw[jr (by rw[<-Yn];exact h1)]);clear h1;exact ju (c.symm.trans e1) G
 have hT:decide (1099511627776<=ep)=jn:=ak h1;have kb:ep<1099511627776:=Y;have i:N (er=if dq g a m≠0 then dq g a m else if x<1\/2305843009213688669<=x then 50 else if((aY 4 x.toNat:jc):jb)≠dP g a m then 221 else 0):=O (by rw[hP];unfold gY;rw[jF (by rw[<-Yn];exact h1)]);clear h1
 go_upto_region 3 with fail
 clear hT k;refine jX ?_;refine j7 I 45 _ I t I 45 ax (0,0) _ R.out qP I YZ ?_
 go_wp2_with fail
 refine(HN x0 (hs.below UB) ((EK.At.of_sl (E:=EC) e3).below UB)).mono ?_;rintro e x1 ⟨u,rfl,hu,d⟩;have q:=O hu;clear hu;have s:=ae R d;have ay:=ae aa d;have Vd:=ae ad d;have Vr:=ae Wn d;have UW:=ae U4 d;have U1:=ae Va d;have V:=ah UB d;clear R aa ad Wn U4 Va UB;clear d;obtain⟨pu,kg,rfl⟩:=cN q;obtain⟨nu,j⟩:=J ((dT g a m).length);rw[<-j]at q⊢;have h0:=O j;clear j
 rcases ba.out with⟨-,F⟩|⟨-,-,F⟩|⟨hv,hf,hp,F⟩
 case inl=>
  have c:N (er=1):=O (by rw[i,<-e4,F];rfl);subst F;clear q;exact ju (c.symm.trans e1) G
 case inr.inl=>
  have c:N (er=221):=O (by rw[i,<-e4,F];rfl);subst F;clear q;exact ju (c.symm.trans e1) G
 have o:N (er=if x<1\/2305843009213688669<=x then 50 else if((aY 4 x.toNat:jc):jb)≠dP g a m then 221 else 0):=O (by rw[i,<-e4,F];rfl);subst F;have j:dA g:=by
  by_cases F:dA g
  ·exact F
  rw[ko F]at hv;cases hv
 have b9:=O j;have Yo:=O (oG.1 hf);have hw:=O (tM.1 hp);have hx:N (dT g a m=eo (aX g.tree m) a):=O (yi e4.symm);have l6:0<=ep:=by rw[Yn];exact j.ep.1
 have eq:=O (vW j Yo hw);clear hv hf hp j i ba
 by_cases e6:k8 x
 case neg=>
  have c:N (er=50):=O (by rw[o,jr (by unfold k8 at e6;omega)]);have i:=O (Ji x e6);clear e6 q
  go_wp2_with fail
  refine(i x1).mono ?_;rintro e x2 ⟨rfl,rfl⟩;exact ju (c.symm.trans e1) G
 obtain⟨X,h4⟩:=qH (show 0<=x by have:=e6.1;omega);have l7:=O h4;obtain⟨i,j⟩:=e6;subst h4;have Vf:N (1<=X/\X<2305843009213688669):=O ⟨by omega,by omega⟩;have hl:N (er=if((aY 4 X:jc):jb)≠dP g a m then 221 else 0):=O (by rw[o,jF Y];rfl);clear i j o
 go_wp2_with fail
 refine(Ae X Vf.1 Vf.2 x1).mono ?_;rintro e x2 ⟨rfl,d⟩;have i:=ae s d;have v:=ae ay d;have D:=ae Vd d;have U0:=ae Vr d;have US:=ae UW d;have UZ:=ae U1 d;have UC:=ah V d;have e7:=bD q d;clear s ay Vd Vr UW U1 V q;clear d;obtain⟨vk,j⟩:=J (dP g a m);obtain⟨pb,e8⟩:∃y:jb,y=((aY 4 X:jc):jb):=⟨_,I⟩;rw[<-j]at hr hl;rw[<-e8]at hl⊢;have ZQ:=O j;have kh:=O e8;clear j e8
 go_upto_region 9 with fail
 refine jX ?_;refine eh ?_;refine j7 I 45 _ I t I 45 ax (0,0) _ i.out qP I YZ (L ?_)
 go_wp2_with fail
 refine(hr x2 b9 Yo hw (hs.below UC) ((EK.At.of_sl (E:=EC) e3).below UC)).mono ?_;rintro e x3 ⟨rfl,d⟩;have Yk:=ae i d;have ZF:=ae v d;have o:=ae D d;have Wh:=ae U0 d;have Vb:=ae US d;have Vq:=ae UZ d;have UE:=ah UC d;have a1:=bD e7 d;clear i v D U0 US UZ UC e7;clear d
 by_cases h2:pb=vk
 case neg=>
  have hd2:(pb !=vk)=ji:=ak h2;have hm:(pb==vk)=jn:=ak h2;have c:N (er=221):=O (by rw[hl,jr h2]);clear h2 a1;exact ju (c.symm.trans e1) G
 have hd2:(pb !=vk)=jn:=ak h2;have hm:(pb==vk)=ji:=ak h2;have ki:N (er=0):=O (by rw[hl,jF (λhn=>hn h2)]);have kl:N (dP g a m=(aY 4 X:jc)):=O (by rw[<-ZQ,<-h2,kh]);clear h2;have k:=ai Yk c9.2;obtain⟨ix,c⟩:=J (if g.epoch=0 then cH else init);obtain⟨IX,i⟩:=J ((ix.map v8).toArray);have j:ix.length=32:=by rw[c];split;exact eM;exact hV
 have km:=O j;have bl:=O c;have bm:=O i;have hz:N ((jo.info? 63).map (·.size)=T IX.size):=O (by rw[i,jv,jw,j];kernel_rfl);clear j
 go_upto_if 69 with fail
 go_cut []from 69 (λj=>j=x3.setRow (t+1+1) IX)
 case first=>
  by_cases j:ep=0
  ·have hd3:(ep==0)=ji:=ak j
   have v:IX=(cH.map v8).toArray:=by rw[i,c,jr (by rw[<-Yn];exact j)]
   have D:N ((cH.map v8).toArray.all (·.oneCell')=ji):=O (fi _);have H:N (bK.size=(cH.map v8).toArray.size):=O (by rw[hY,jv,jw,jv,jw,hV,eM]);rw[v]at hz;have M:=O v;clear j v i c
   try rw[hd3]
   go_upto_region 12 with fail
   refine jX ?_;refine eB (v:=jh (cH.map v8).toArray) aj (OA I _) ?_;refine qa I λ_ C=>jR 63 _ _ I (t+1+1) (cH.map v8).toArray I I 63 _ o.out hz H D (C _ _ ?_)
   refine L ?_
   go_wp2_with fail
   go_meet
   rw[M]
  have hd3:(ep==0)=jn:=ak j;have D:IX=bK:=by rw[i,c,jF (by rw[<-Yn];exact j),hY]
  have H:=O D;clear j D i c
  try rw[hd3]
  go_wp2_with fail
  go_meet
  rw[H];exact(rx o).symm
 subst hcut;clear i c hd2 hm k;have c:N ((x3.setRow (t+1+1) IX).heap[t]?=T (ja ax 45 (0,0))):=O ((js _ _ _ _ (by first|omega|(have:=Zh.out;omega))).trans Yk);have D:N ((x3.setRow (t+1+1) IX).heap[t+1]?=T (ja Ux 63 (0,0))):=O ((js _ _ _ _ (by first|omega|(have:=Zh.out;omega))).trans ZF);have H:N ((x3.setRow (t+1+1) IX).heap[t+1+1]?=T (ja IX 63 (0,0))):=O (jT _ _ _ _ _ _ o.out);have M:N ((x3.setRow (t+1+1) IX).heap[t+1+1+1]?=T (ja S 63 (0,0))):=O ((js _ _ _ _ (by first|omega|(have:=Zh.out;omega))).trans Wh);have bc:N ((x3.setRow (t+1+1) IX).heap[(t+1+1+1+1)]?=T (ja Z 34 (0,0))):=O ((js _ _ _ _ (by first|omega|(have:=Zh.out;omega))).trans Vb);have bd:N ((x3.setRow (t+1+1) IX).heap[(t+1+1+1+1+1)]?=T (ja K 63 (0,0))):=O ((js _ _ _ _ (by first|omega|(have:=Zh.out;omega))).trans Vq);have bf:N (jk w w (x3.setRow (t+1+1) IX)):=O (ob UE.out (by rw[HG];omega) _);have Q:=O (nD (w':=(x3.setRow (t+1+1) IX)) a1 (λk hk=>js _ _ _ _ (aI e5)));generalize(x3.setRow (t+1+1) IX)=x4 at c D H M bc bd bf Q⊢;clear Yk ZF o Wh Vb Vq UE a1;have a2:=c;clear c;have o:=D;clear D;have a3:=H;clear H;have Yd:=M;clear M;have Yw:=bc;clear bc;have YS:=bd;clear bd;have UK:=bf;clear bf;have a4:=Q;clear Q
 go_upto_region 13 with fail
 refine jX ?_;refine j7 I 63 _ I (t+1) I 63 Ux (0,0) _ o.out jW I Z1 ?_;have a1:N (∀W,bQ W->jB jo 97 #[jh Ux] W λe w'=>∃v,e=jz v/\w'.ownsRow W 63 32 v 10 (ij (gH z 10))/\jk W W w'):=O (by rw[i6];exact λW hW=>LD z VR W hW)
 go_wp2_with fail
 refine(a1 x4 (Wo.dig.below UK)).mono ?_;rintro e x5 ⟨v,rfl,hv,d⟩;obtain⟨gl,cl,LC,rfl,mb,a5,a6,ba⟩:=Te hv G;have e9:=O a6;have Zh:N (t+6<=gl):=O (by have bo:=(jA.1 YS).1;have:=a5;omega);have ho:N (∀i j u,i<10->((aw z i).map v8)[j]?=T u->LC[i*32+j]?=T u):=O (λi j u hi hj=>ba _ _ (RX z VR 10 i j hi u hj));clear hv a6 ba a5 a1;have bb:=ae a2 d;have bg:=ae o d;have a1:=ae a3 d;have b5:=ae Yd d;have eu:=ae Yw d;have ev:=ae YS d;have UR:=ah UK d;have bh:=bD a4 d;clear a2 o a3 Yd Yw YS UK a4;clear d;obtain⟨RL,a2⟩:=J (((aw z 9).map v8).toArray);obtain⟨SA,o⟩:=J (((dK g z init).map v8).toArray);have bp:N (∀W,iC W->jB jo 98 #[jh IX,jh RL] W λe w'=>e=jz (jh SA)/\jk W W w'):=O (by
  rw[bm,a2,o];unfold dK;rw[<-bl];exact λW hW=>QY ix (aw z 9) km (fM z VR 9) W hW)
 have fe:N ((jo.info? 63).map (·.size)=T SA.size):=O (by rw[o,jv,jw,lH];kernel_rfl);have kn:N (K.size=SA.size):=O (by rw[o,<-ht,jv,jw,jv,jw,lH,eM]);have h5:N (SA.all (·.oneCell')=ji):=O (by rw[o];exact fi _);have bs:=O a2;have hB:=O o;have bu:N ((jo.info? 63).map (·.size)=T ((aw z 9).map v8).length):=O (by rw[jw,fM z VR];kernel_rfl);clear a2 o
 go_upto_region 14 with fail
 refine jL ?_;refine di (λW'=>W'.heap[t+1+1]?=T (ja IX 63 (0,0))/\W'.heap[gl]?=T (ja LC 63 (0,0))) (.t 0 (.t 1 (.t 2 (.t 3 (.o 4 (.o 5 .done)))))) af af af G (λ_ _ _ _ h=>h) ⟨a1,e9⟩ ?_;obtain⟨y0,UV⟩:=J x5.drew;have d:=bV x5;rw[<-UV]at d⊢;have a3:=ae bb d;have a5:=ae bg d;have a6:=ae a1 d;have b0:=ae b5 d;have ct:=ae eu d;have cu:=ae ev d;have ZI:=ah UR d;have ba:=bD bh d;have cw:=ae e9 d;clear d UV bb bg a1 b5 eu ev UR bh e9;have R:=a3;clear a3;have aa:=a5;clear a5;have ad:=a6;clear a6;have Wn:=b0;clear b0;have U4:=ct;clear ct;have Va:=cu;clear cu;have UB:=ZI;clear ZI;have bb:=ba;clear ba;have bM:=cw;clear cw
 (refine aW (v:=jh IX) I aj (λW' hS=>mF jW I hz I I hS.1) (L ?_))
 iterate 2 refine aQ ?_
 (refine aW (v:=jh RL) I aj (λW' hS=>by rw[bs];exact CR jW I bu I I (Hd (o:=288) hS.2 (λj u hj=>ho 9 j u G hj))) ?_;refine L ?_)
 refine aE I (λK' C=>?_);go_simp;refine(bp y0 (Wo.below UB)).mono ?_;rintro e y1 ⟨rfl,d⟩;have s:=ae R d;have ay:=ae aa d;have Vd:=ae ad d;have Vr:=ae Wn d;have UW:=ae U4 d;have U1:=ae Va d;have V:=ah UB d;have q:=bD bb d;have a2:=ae bM d;clear R aa ad Wn U4 Va UB bb bM;clear d;refine C _ _ ⟨Vd,a2⟩ λ_=>?_
 clear C;refine L ?_;refine aE I (λK' C=>?_);rw[jr aj];refine jR 63 _ _ I (t+1+1+1+1+1) SA I I 63 _ U1.out fe kn h5 ?_;refine C _ _ ⟨(js _ _ _ _ Y).trans Vd,(js _ _ _ _ (aI Zh)).trans a2⟩ λ_=>?_
 clear C;have c:N ((y1.setRow (t+1+1+1+1+1) SA).heap[t]?=T (ja ax 45 (0,0))):=O ((js _ _ _ _ (by first|omega|(have:=Zh.out;omega))).trans s);have D:N ((y1.setRow (t+1+1+1+1+1) SA).heap[t+1]?=T (ja Ux 63 (0,0))):=O ((js _ _ _ _ (by first|omega|(have:=Zh.out;omega))).trans ay);have H:N ((y1.setRow (t+1+1+1+1+1) SA).heap[t+1+1]?=T (ja IX 63 (0,0))):=O ((js _ _ _ _ (by first|omega|(have:=Zh.out;omega))).trans Vd);have M:N ((y1.setRow (t+1+1+1+1+1) SA).heap[t+1+1+1]?=T (ja S 63 (0,0))):=O ((js _ _ _ _ (by first|omega|(have:=Zh.out;omega))).trans Vr);have bc:N ((y1.setRow (t+1+1+1+1+1) SA).heap[(t+1+1+1+1)]?=T (ja Z 34 (0,0))):=O ((js _ _ _ _ (by first|omega|(have:=Zh.out;omega))).trans UW);have bd:N ((y1.setRow (t+1+1+1+1+1) SA).heap[(t+1+1+1+1+1)]?=T (ja SA 63 (0,0))):=O (jT _ _ _ _ _ _ U1.out);have bf:N (jk w w (y1.setRow (t+1+1+1+1+1) SA)):=O (ob V.out (by rw[HG];omega) _);have Q:=O (nD (w':=(y1.setRow (t+1+1+1+1+1) SA)) q (λk hk=>js _ _ _ _ (aI e5)));have a1:N ((y1.setRow (t+1+1+1+1+1) SA).heap[gl]?=T (ja LC 63 (0,0))):=O ((js _ _ _ _ (by first|omega|(have:=Zh.out;omega))).trans a2);generalize(y1.setRow (t+1+1+1+1+1) SA)=y9 at c D H M bc bd bf Q a1⊢;clear s ay Vd Vr UW U1 V q a2;have ZZ:=c;clear c;have bh:=D;clear D;have bi:=H;clear H;have ZH:=M;clear M;have Zr:=bc;clear bc;have b6:=bd;clear bd;have VZ:=bf;clear bf;have bg:=Q;clear Q;have a4:=a1;clear a1;refine L ?_;refine pz ?_;have bv:N ((jo.info? 23).map (·.size)=T (g.last.map v8).length):=O (by rw[jw,Yp];kernel_rfl);obtain⟨DL,bk⟩:=J ((g.last.map v8).toArray);have Yf:=O bk;have h6:N (IntKind.i64.wrap (ep+1)=ep+1):=O (by rw[IntKind.wrap_i64];omega);have bw:N (DL.size=32):=O (by rw[bk,jv,jw,Yp]);clear bk
 go_upto_region 15 with fail
 refine jL ?_;refine di (λW'=>W'.heap[t]?=T (ja ax 45 (0,0))) (.t 0 (.t 1 (.t 2 (.t 3 (.t 4 (.t 5 (.t 6 (.t 7 (.t 8 (.o 9 (.t 10 (.o 11 .done)))))))))))) af af af G (λ_ _ _ _ h=>h) ZZ ?_;obtain⟨z0,UV⟩:=J y9.drew;have d:=bV y9;rw[<-UV]at d⊢;have a3:=ae ZZ d;have a5:=ae bh d;have a6:=ae bi d;have b0:=ae ZH d;have ct:=ae Zr d;have cu:=ae b6 d;have ZI:=ah VZ d;have ba:=bD bg d;have cw:=ae a4 d;clear d UV ZZ bh bi ZH Zr b6 VZ bg a4;have R:=a3;clear a3;have aa:=a5;clear a5;have ad:=a6;clear a6;have Wn:=b0;clear b0;have U4:=ct;clear ct;have Va:=cu;clear cu;have UB:=ZI;clear ZI;have bb:=ba;clear ba;have bM:=cw;clear cw;iterate 6 (refine aW (v:=?_) I aj (λW' hS=>?_) ?_;rotate_left;(have a3:=ai hS c9.1;have b1:=ai hS c9.2;go_simp;with_reducible rfl);refine L ?_)
 (refine aW (v:=jh DL) I aj (λW' hS=>by rw[Yf];exact CR underlying23 I bv I I (i5 W' t hS)) ?_;refine L ?_)
 iterate 2 (refine aW (v:=?_) I aj (λW' hS=>?_) ?_;rotate_left;(have a3:=ai hS c9.1;have b1:=ai hS c9.2;go_simp;with_reducible rfl);refine L ?_)
 refine aE I (λK' C=>?_);go_simp;refine(Iw m _ z0 ((EK.At.of_sl (E:=EC) e3).below UB) hh).mono ?_;rintro e z1 ⟨u,rfl,hu,d⟩;obtain⟨EE,a3⟩:=J z0.heap.size;rw[<-a3]at hu;have db:N (t+6<=EE):=O (by have bo:=(jA.1 Va).1;omega);clear a3;have Zi:=O hu;clear hu;obtain⟨Wm,c1,rfl⟩:=cN Zi;obtain⟨X0,a5⟩:∃y:jq jl,y= #[jd je fd,jd je (ep+1)]++DL++ #[jd je a,A Wm m.length c1,A jf 0 0,A jf 0 0,A jf 0 0]++(cH.map v8).toArray++ #[jd je 0,jd je 0]:=⟨_,I⟩;have a6:=O a5;have a3:X0=(aF (bY g a m z) ⟨A Wm m.length c1,A jf 0 0,A jf 0 0,A jf 0 0⟩).toArray:=by rw[a5,Yf,ka,Yn];unfold aF bY;simp
 have ba:=O a3;have bk:N ((jo.info? 34).map (·.size)=T X0.size):=O (by rw[a3,jv,dx _ _ Yp.out eM];exact mX);have bA:N (X0.all (·.oneCell')=ji):=O (by rw[a3];exact zQ _ _ _ _ _ _ _ _ _ _ _ _ _);have bB:N (Z.size=X0.size):=O (by rw[a3,<-i4,jv,jv,dx (bY g a m z) _ Yp.out eM,dx mU nN eM eM]);clear a5 a3;have s:=ae R d;have ay:=ae aa d;have Vd:=ae ad d;have Vr:=ae Wn d;have UW:=ae U4 d;have U1:=ae Va d;have V:=ah UB d;have q:=bD bb d;have a2:=ae bM d;clear R aa ad Wn U4 Va UB bb bM;clear d;refine C _ _ s.out λ_=>?_
 clear C;refine L ?_
 (refine aW (v:=jh X0) I aj (λW' hS=>by rw[a6];exact L6 (f:=fd) (e:=ep+1) (au:=a) bw I (by simp only[qb,j1,jY,Act.eval,Array.getD_eq_getD_getElem?];simp;exact h6) W') ?_;refine L ?_)
 refine aE I (λK' C=>?_);rw[jr aj];refine jR 34 _ _ I (t+1+1+1+1) X0 I I 34 _ UW.out bk bB bA ?_;refine C _ _ ((js _ _ _ _ Y).trans s) λ_=>?_
 clear C;have R:N ((z1.setRow (t+1+1+1+1) X0).ownsRow EE 56 5 (A Wm m.length c1) m.length (m.flatMap ap.cells)):=O (nD Zi (λk hk=>js _ _ _ _ (aI db)));have c:N ((z1.setRow (t+1+1+1+1) X0).heap[t]?=T (ja ax 45 (0,0))):=O ((js _ _ _ _ (by first|omega|(have:=Zh.out;omega))).trans s);have D:N ((z1.setRow (t+1+1+1+1) X0).heap[t+1]?=T (ja Ux 63 (0,0))):=O ((js _ _ _ _ (by first|omega|(have:=Zh.out;omega))).trans ay);have H:N ((z1.setRow (t+1+1+1+1) X0).heap[t+1+1]?=T (ja IX 63 (0,0))):=O ((js _ _ _ _ (by first|omega|(have:=Zh.out;omega))).trans Vd);have M:N ((z1.setRow (t+1+1+1+1) X0).heap[t+1+1+1]?=T (ja S 63 (0,0))):=O ((js _ _ _ _ (by first|omega|(have:=Zh.out;omega))).trans Vr);have bc:N ((z1.setRow (t+1+1+1+1) X0).heap[(t+1+1+1+1)]?=T (ja X0 34 (0,0))):=O (jT _ _ _ _ _ _ UW.out);have bd:N ((z1.setRow (t+1+1+1+1) X0).heap[(t+1+1+1+1+1)]?=T (ja SA 63 (0,0))):=O ((js _ _ _ _ (by first|omega|(have:=Zh.out;omega))).trans U1);have bf:N (jk w w (z1.setRow (t+1+1+1+1) X0)):=O (ob V.out (by rw[HG];omega) _);have Q:=O (nD (w':=(z1.setRow (t+1+1+1+1) X0)) q (λk hk=>js _ _ _ _ (aI e5)));have a1:N ((z1.setRow (t+1+1+1+1) X0).heap[gl]?=T (ja LC 63 (0,0))):=O ((js _ _ _ _ (by first|omega|(have:=Zh.out;omega))).trans a2);generalize(z1.setRow (t+1+1+1+1) X0)=z9 at c D H M bc bd bf Q a1 R⊢;clear s ay Vd Vr UW U1 V q a2;have ZZ:=c;clear c;have bh:=D;clear D;have bi:=H;clear H;have ZH:=M;clear M;have Zr:=bc;clear bc;have b6:=bd;clear bd;have VZ:=bf;clear bf;have bg:=Q;clear Q;have a4:=a1;clear a1;clear Zi;have aa:=R;clear R;refine L ?_;refine pz ?_;obtain⟨M,c⟩:=J z9.heap.size;have Yz:N ((t+1+1+1+1)<M):=O (by rw[c];exact(jA.1 Zr).1);have fm:N (gl<M):=O (by rw[c];exact(jA.1 a4).1);have h7:=O c;have fo:N ((t+1+1+1+1+1)<M):=O (by rw[c];exact(jA.1 b6).1);have ay:N (∀u v,((λv=>(aF (bY g a m z) ⟨A Wm m.length c1,v,A jf 0 0,A jf 0 0⟩).toArray) u).setIfInBounds 36 v=(λv=>(aF (bY g a m z) ⟨A Wm m.length c1,v,A jf 0 0,A jf 0 0⟩).toArray) v):=O (λu v=>R5 (bY g a m z) _ _ _ _ _ Yp.out);have D:N (gA M (t+1+1+1+1) 34 3 1 (λv=>(aF (bY g a m z) ⟨A Wm m.length c1,v,A jf 0 0,A jf 0 0⟩).toArray) z9 z9 0 (A jf 0 0) (((dy z).take 0).map (jH .i64))):=O ⟨by have h:=Zr.out;rw[ba]at h;exact h,qX _ _ _ _,dw.refl _ _ _,j5 c⟩;have kv:N (∀w,(Instr.alloc 63 ji (jI #[])).run jo w=.ok (jt (T ⟨w,0,jf⟩)) (w.alloc (ja K 63))):=O (λw=>by rw[<-ht];kernel_rfl);clear c;rw[h6]
 go_upto_region 16 with fail
 go_wp2_with fail
 go_loopw [91] (λv wr=>∃(i:jc) (pv:jG Addr) (cv:jc),v=jd je i/\i<=10/\N (gA M (t+1+1+1+1) 34 3 1 (λv=>(aF (bY g a m z) ⟨A Wm m.length c1,v,A jf 0 0,A jf 0 0⟩).toArray) z9 wr i (A pv i cv) (((dy z).take i).map (jH .i64)))) (λv _=>10-(jV v).toNat)
 case atStart=>exact⟨0,jf,0,I,jO _,D⟩
 clear D;obtain⟨i,pv,cv,rfl,hi,Q⟩:=hrel
 by_cases ca:i<10
 ·have hd:=aA ((i:jb)<10)
  have UY:=aA (i<10);have h8:(i:jb)<10:=Y;obtain⟨RK,c⟩:=J (((aw z i).map v8).toArray);have a5:=O c;have ad:N ((jo.info? 63).map (·.size)=T RK.size):=O (by rw[c,jv,jw,fM z VR];kernel_rfl);have bb:N (K.size=RK.size):=O (by rw[c,<-ht,jv,jw,jv,jw,fM z VR,eM]);have br:N (RK.all (·.oneCell')=ji):=O (by rw[c];exact fi _);have bC:N ((jo.info? 63).map (·.size)=T ((aw z i).map v8).length):=O (by rw[jw,fM z VR];kernel_rfl);have bI:N (∀W,iC W->jB jo 99 #[jh RK] W λe w'=>e=jz (jd je (aT (aw z i):jc))/\jk W W w'):=O (by rw[c];exact λW hW=>Td _ (fM z VR i) W hW);have D:N (wr.heap[gl]?=T (ja LC 63 (0,0))):=O ((Q.but.block gl fm (aI Zh)).trans a4);have H:N (wr.rangeAt gl (i*32) ((aw z i).map v8)):=O (Hd D (λj u hj=>ho i j u ca hj));have Yc:N (jk w w wr):=O (VZ.trans (Q.but.below (n:=w.heap.size) (by rw[HG];omega) (ee Yz HG)));clear c
  go_upto_region 18 with fail
  refine jX ?_;refine eh ?_;refine uU aj λ_ C=>wp_load_mid 63 _ I _ _ I ((aw z i).map v8) _ (by first|exact H|simpa using H.out) jW I bC (C _ _ ?_)
  rw[<-a5];refine qa I λ_ C=>fS 63 I K kv (C _ _ ?_)
  refine qa I λ_ C=>jR 63 _ _ I wr.heap.size RK I I 63 K (jy wr _) ad bb br (C _ _ ?_)
  have bo:((wr.alloc (ja K 63)).setRow wr.heap.size RK).heap[wr.heap.size]?=T (ja RK 63 (0,0)):=jT _ _ _ _ _ _ (jy wr _);have d:jk wr wr ((wr.alloc (ja K 63)).setRow wr.heap.size RK):=iP (ao wr _) (jD _) _;obtain⟨k0,Zp⟩:=J ((wr.alloc (ja K 63)).setRow wr.heap.size RK);obtain⟨bN,c⟩:=J wr.heap.size;rw[<-Zp,<-c]at bo;rw[<-Zp]at d⊢;rw[<-c]at⊢;have a1:=O (Q.later (aI Yz) d);have R:=O bo;have UB:N (jk w w k0):=ah Yc d;clear bo d Zp c Q Yc D H
  go_upto_region 19 with fail
  refine jX ?_;refine j7 I 63 _ I bN I 63 RK (0,0) _ R.out jW I ad ?_
  go_wp2_with fail
  refine(bI k0 (Wo.below UB)).mono ?_;rintro e k1 ⟨rfl,d⟩;have H:=O (a1.later Yz d);have a3:=ae R d;have V:=ah UB d;clear a1 R UB;clear d
  go_wp2_with fail
  refine(Ae (aT (aw z i)) (D8 _).1 (D8 _).2 k1).mono ?_;rintro e k2 ⟨rfl,d⟩;have c:=O (H.later Yz d);have bT:=ae a3 d;have UC:=ah V d;clear H a3 V;clear d;obtain⟨H,R⟩:∃y:jb,y=((aY 4 (aT (aw z i)):jc):jb):=⟨_,I⟩;rw[<-R];have a1:=O R;clear R;have a3:=ai c.box (show((λv=>(aF (bY g a m z) ⟨A Wm m.length c1,v,A jf 0 0,A jf 0 0⟩).toArray) (A pv i cv))[36]?=T (A pv i cv) by have h:=(kB (bY g a m z) ⟨A Wm m.length c1,A pv i cv,A jf 0 0,A jf 0 0⟩ Yp eM).2.2.2.2.1;simpa using h);have R:((λv=>(aF (bY g a m z) ⟨A Wm m.length c1,v,A jf 0 0,A jf 0 0⟩).toArray) (A pv i cv)).size=73:=by rw[jv,dx _ _ Yp.out eM]
  have bO:=O R;clear R
  go_wp2_with (at_builtin;refine Hid.out ?_)
  refine O ?_;refine qa I λ_ C=>SQ _ _ I M (A pv i cv) i _ I (cK c.own (ao k2 _)) _ 1 [jd je H] I (lB k2 [jd je H] 3 (0,0) 1 1 1 I (jD _)) (by simp[j4]) Y (jE c.sz' (ao k2 _).size) λv' k9 U9=>C _ _ ?_
  clear C;have bq:gA M (t+1+1+1+1) 34 3 1 (λv=>(aF (bY g a m z) ⟨A Wm m.length c1,v,A jf 0 0,A jf 0 0⟩).toArray) z9 (k2.alloc (ja #[jd je H] 3)) i (A pv i cv) (((dy z).take i).map (jH .i64)):=c.later (aI Yz) (ao k2 _);have cx:=lh bq.box U9.grown (eX bq.own (.inr Yz));obtain⟨pn,cn,rfl⟩:=cN U9.own;have fv:N (gA M (t+1+1+1+1) 34 3 1 (λv=>(aF (bY g a m z) ⟨A Wm m.length c1,v,A jf 0 0,A jf 0 0⟩).toArray) z9 (k9.setCell ⟨(t+1+1+1+1),36,jf⟩ (A pn (i+1) cn)) (i+1) (A pn (i+1) cn) (((dy z).take (i+1)).map (jH .i64))):=O (by
   have h:=bq.push (i:=36) Yz U9 (ay _ _);rw[PX z i ca,mz,j1,jY,<-a1];exact h)
  obtain⟨⟨vo,c3⟩,f3,-,-⟩:=kr (i:=36) (A pn (i+1) cn) cx (by rw[bO];decide);clear bq U9 cx a3
  go_wp2_with fail
  go_roundw
  case rel=>exact⟨i+1,pn,cn,by go_num,by omega,fv⟩
  case measure=>simp only[jV];omega
 obtain rfl:i=10:=Y;have hd:decide ((10:jb)<10)=jn:=by decide
 have UY:decide (10<10)=jn:=by decide
 rename jj=>p1;have cy:(dy z).take 10=dy z:=qs (by rw[lO];exact jD _);rw[cy]at Q;have c:(dy z).length=10:=lO z;have s:N (p1.heap[t]?=T (ja ax 45 (0,0))):=O ((Q.but.block (t) (by first|(have:=Yz.out;omega)|(have:=fo.out;omega)|(have:=fm.out;omega)) (by first|omega|(have:=Zh.out;omega))).trans ZZ);have Vr:N (p1.heap[t+1+1+1]?=T (ja S 63 (0,0))):=O ((Q.but.block (t+1+1+1) (by first|(have:=Yz.out;omega)|(have:=fo.out;omega)|(have:=fm.out;omega)) (by first|omega|(have:=Zh.out;omega))).trans ZH);have U1:N (p1.heap[(t+1+1+1+1+1)]?=T (ja SA 63 (0,0))):=O ((Q.but.block (t+1+1+1+1+1) (by first|(have:=Yz.out;omega)|(have:=fo.out;omega)|(have:=fm.out;omega)) (by first|omega|(have:=Zh.out;omega))).trans b6);have a2:N (p1.heap[gl]?=T (ja LC 63 (0,0))):=O ((Q.but.block (gl) (by first|(have:=Yz.out;omega)|(have:=fo.out;omega)|(have:=fm.out;omega)) (by first|omega|(have:=Zh.out;omega))).trans a4);have UW:N (p1.heap[(t+1+1+1+1)]?=T (ja ((λv=>(aF (bY g a m z) ⟨A Wm m.length c1,v,A jf 0 0,A jf 0 0⟩).toArray) (A pv 10 cv)) 34 (0,0))):=O Q.box;have V:N (jk w w p1):=O (VZ.trans (Q.but.below (n:=w.heap.size) (by rw[HG];omega) (ee Yz HG)));have Zi:N (p1.ownsRow EE 56 5 (A Wm m.length c1) m.length (m.flatMap ap.cells)):=O (kN aa (λk br ad=>Q.but.block k (by rw[h7];exact ad) (aI db)));have q:=O (kN bg (λk br ad=>Q.but.block k (by rw[h7];exact ad) (aI e5)));have H:N (M<=p1.heap.size):=O Q.sz';have a3:N (p1.ownsRow M 3 1 (A pv 10 cv) 10 ((dy z).map (jH .i64))):=O Q.own;clear cy c Q ca hi bg ZZ bh bi ZH Zr b6 VZ a4 aa ay bm bl bs bp bu Yf bv a6 bk bA bB ba bw;obtain⟨pq,cq,kx,ky⟩:∃(p:jG Addr) (c:jc),p=pv/\c=cv:=⟨_,_,I,I⟩;subst kx;subst ky
 go_upto_region 22 with fail
 refine jX ?_;refine j7 I 45 _ I t I 45 ax (0,0) _ s.out qP I YZ ?_;have R:N (M<=p1.heap.size):=H;clear s H
 go_wp2_with fail
 refine(hQ p1 Yo (hs.below V) ((EK.At.of_sl (E:=EC) e3).below V)).mono ?_;rintro e pm ⟨u1,rfl,hu,d⟩;have s:=O hu;clear hu;obtain⟨pt,nt,cz,rfl⟩:=gN s;have aa:N (M<=pm.heap.size):=O (jE R d.size);have ay:=ae Vr d;have a1:=ae U1 d;have a6:=ae a2 d;have ba:=ae UW d;have bb:=ah V d;have bg:=bD Zi d;have bh:=bD a3 d;have bi:=bD q d;clear Vr U1 a2 UW V Zi a3 q;clear d;clear R
 go_upto_region 23 with fail
 have d:=ao pm (ja #[A pt nt cz] 43);have H:=jy pm (ja #[A pt nt cz] 43);obtain⟨p2,F⟩:=J (pm.alloc (ja #[A pt nt cz] 43));rw[<-F]at d H⊢;obtain⟨bt,R⟩:=J pm.heap.size;rw[<-R]at H⊢;have q:=O R;have U0:=ae ay d;have UZ:=ae a1 d;have bN:=ae a6 d;have US:=ae ba d;have UC:=ah bb d;have a4:=bD bg d;have a5:=bD bh d;have e7:=bD bi d;have b1:=O (s.below d);clear ay a1 a6 ba bb bg bh bi s;have s:=O H;clear H F d R;have k2:N (M<=bt):=O (by rw[q];exact aa);have hq:=s;clear s aa q;obtain⟨M2,q⟩:=J p2.heap.size;have bs:N ((t+1+1+1+1)<M2):=O (by rw[q];exact(jA.1 US).1);have h9:N ((t+1+1+1+1+1)<M2):=O (by rw[q];exact(jA.1 UZ).1);have ic:N (gl<M2):=O (by rw[q];exact(jA.1 bN).1);have ih:N (bt<M2):=O (by rw[q];exact(jA.1 hq).1);have ii:N (bt≠(t+1+1+1+1)):=O (ee k2 Yz);have V8:=O q;have YV:N (∀u v,((λv=>(aF (bY g a m z) ⟨A Wm m.length c1,A pq 10 cq,v,A jf 0 0⟩).toArray) u).setIfInBounds 37 v=(λv=>(aF (bY g a m z) ⟨A Wm m.length c1,A pq 10 cq,v,A jf 0 0⟩).toArray) v):=O (λu v=>Dt (bY g a m z) _ _ _ _ _ Yp.out);obtain⟨nl,s⟩:=J (dT g a m);have hD:=O s;have ZJ:N (nu=nl.length):=O (by rw[s];exact h0);have i0:N (nu<=511):=O (by rw[h0,hx];exact CI _ eq.1 eq.2);have k3:=O (oZ m _ (lQ b9.tree) (rm b9 Yo hw)).1;have aa:N (eF M2 (t+1+1+1+1) 34 88 4 Bx.cells Bx.body (λv=>(aF (bY g a m z) ⟨A Wm m.length c1,A pq 10 cq,v,A jf 0 0⟩).toArray) p2 p2 0 (A jf 0 0) ((nl.take 0).map (eD g a m z seed)) []):=O (eF.start US (j5 q));clear q s
 go_upto_region 23 with fail
 go_wp2_with fail
 go_loopw [113] (λv wr=>∃(i:jc) (pv:jG Addr) (cv:jc) (us:jg jl),v=jd je i/\i<=nu/\N (eF M2 (t+1+1+1+1) 34 88 4 Bx.cells Bx.body (λv=>(aF (bY g a m z) ⟨A Wm m.length c1,A pq 10 cq,v,A jf 0 0⟩).toArray) p2 wr i (A pv i cv) ((nl.take i).map (eD g a m z seed)) us)) (λv _=>nu-(jV v).toNat)
 case atStart=>exact⟨0,jf,0,[],I,jO _,aa⟩
 clear aa;obtain⟨i,pv,cv,us,rfl,hi,Q⟩:=hrel;have e2:=i0.out
 by_cases ca:i<nu
 ·have hd:=aA ((i:jb)<(nu:jb))
  have UY:=aA (i<nu);have h8:(i:jb)<(nu:jb):=Y;have Yc:N (jk w w wr):=O (UC.trans (Q.row.but.below (n:=w.heap.size) (by rw[HG];omega) (ee bs HG)));have aa:=Q.row.but;have ay:=O (kN e7 (λk br ad=>aa.block k (by rw[V8];exact ad) (aI e5)));have ga:=O (kN a4 (λk br ad=>aa.block k (by rw[V8];exact ad) (aI db)));have gf:=O (kN a5 (λk br ad=>aa.block k (by rw[V8];exact ad) (aI Yz)));have a1:N (bJ wr (A pt nt cz) (aX g.tree m)):=O (ME b1 (j:=37) US Q.row.box (λk hk hn=>aa.block k (by rw[V8];exact hk) hn) (λj hj=>Mn (bY g a m z) _ _ _ _ _ Yp.out j hj) ⟨_,_,_,(rY (bY g a m z) _ _ _ _ Yp.out eM).2.1⟩);have gi:N (wr.heap[t+1+1+1]?=T (ja S 63 (0,0))):=O ((aa.block (t+1+1+1) (aI bs) Y).trans U0);have D:N (wr.heap[gl]?=T (ja LC 63 (0,0))):=O ((aa.block gl ic (aI Zh)).trans bN);have a6:N (wr.heap[bt]?=T (ja #[A pt nt cz] 43 (0,0))):=O ((aa.block bt ih ii).trans hq);have Ws:EB0.At wr (A pu nu kg) nl:=EK.At.of_own (E:=EB0) (B:=x0.heap.size) (by rw[<-ZJ,hD];exact ay);obtain⟨-,-,VW⟩:=Ws.cells;obtain⟨g0,o,k4,bO⟩:=VW Y;subst k4;obtain⟨⟨kk,s⟩,F,gk⟩:=dL (l:=nl) (j:=i) (by rw[<-ZJ];exact ca);have d0:wr.cell? ⟨g0,o+i*4,jf⟩=T (jd je s):=bO i _ F 0 _ I;have d1:wr.cell? ⟨g0,o+i*4+1,jf⟩=T (jd je kk):=bO i _ F 1 _ I;have d2:wr.cell? ⟨g0,o+i*4+2,jf⟩=T (jd je 0):=bO i _ F 2 _ I;have d3:wr.cell? ⟨g0,o+i*4+3,jf⟩=T (A jf 0 0):=bO i _ F 3 _ I;have Vx:=j3 F;rw[hD,hx]at Vx;obtain⟨⟨br,ad⟩,⟨bn,Vs⟩,ba,c5⟩:=F7 k3 eq.1 eq.2 Vx;obtain⟨q,rfl⟩:=qH (show 0<=kk by omega);obtain⟨VB,ew⟩:=qH (show 0<=(bG (aX g.tree m) s).getD 0 by have:=c5.1;omega);have k5:N (tI (aX g.tree m) s=VB):=O (by unfold tI;rw[ew];rfl);rw[ew]at c5;have hE:=O c5;have lb:N (∀W,bJ W (A pt nt cz) (aX g.tree m)->jB jo 100 #[jh #[A pt nt cz],jd je s] W λe w'=>e=jz (jI #[jd je (VB:jb),.bool ji])/\jk W W w'):=O (λW hW=>by
   have h:=JR (aX g.tree m) _ s W hW (by have:=wQ g.tree m;have:=WL.out;have:=Yo.len;omega) (aO.of Y);rw[ew,ba]at h;exact h)
  have hF:N ((nl.take (i+1)).map (eD g a m z seed)=(nl.take i).map (eD g a m z seed)++[eD g a m z seed ((q:jb),s)]):=O (by rw[gk,mz];rfl);have gn:N (q<10/\1<=q):=O ⟨by omega,by omega⟩;have i1:N (1<=s/\s<1024):=O ⟨bn,Vs⟩;clear Ws VW bO F gk Vx br ad bn Vs ba c5 ew ay aa
  go_upto_region 26 with fail
  obtain⟨bb,b7⟩:=J wr.heap.size;have bo:=jy wr (ja #[jd je s,jd je (q:jb),jd je 0,A jf 0 0] 88);have d:=ao wr (ja #[jd je s,jd je (q:jb),jd je 0,A jf 0 0] 88);have dd:N (M2<=bb):=O (by rw[b7];exact Q.row.sz');have Z4:N ((qi pv i cv).ownBlock≠T bb):=O (eX Q.row.own (.inl (j5 b7.symm)));rw[<-b7]at bo⊢;obtain⟨k0,Zp⟩:=J (wr.alloc (ja #[jd je s,jd je (q:jb),jd je 0,A jf 0 0] 88));rw[<-Zp]at bo d⊢;have bA:=O d;have bu:=O (av Q.row.box d);have bv:=O bo;have UB:=ah Yc d;have bB:=bD ga d;have bC:=bD gf d;have cj:=O (a1.below d);have Wn:=ae gi d;have bM:=ae D d;have ay:=ae a6 d;have gp:N (wr.heap.size=bb):=O b7.symm;clear bo d Zp b7 Yc ga gf a1 gi D a6 d0 d1 d2 d3;have D:=ai (i:=0) bv I
  go_upto_region 26 with fail
  refine jX ?_;refine j7 I 43 _ I bt I 43 #[A pt nt cz] (0,0) _ ay.out underlying43 I rr ?_
  go_wp2_with fail
  refine(lb k0 cj).mono ?_;rintro e k1 ⟨rfl,d⟩;have bh:=ah bA d;have ZM:=ae bu d;have ba:=ae bv d;have V:=ah UB d;have Zi:=bD bB d;have a3:=bD bC d;have b8:=O (cj.below d);have Vr:=ae Wn d;have a2:=ae bM d;clear bA bu bv UB bB bC cj Wn bM;clear d D ay;have bi:N (k1.cell? ⟨bb,0,jf⟩=T (jd je s)/\k1.cell? ⟨bb,1,jf⟩=T (jd je (q:jb))):=O ⟨ai ba I,ai ba I⟩;obtain⟨ex,cc⟩:=J (dZ seed gO [(q:jb),s]);have gv:ex.length=32:=by rw[cc];exact pH _ _ _
  obtain⟨EX,dk⟩:=J ((ex.map v8).toArray);obtain⟨cd,ce⟩:=J (iW (bY g a m z) gO [(q:jb),s]);obtain⟨u0,dr⟩:∃y:jb,y=((aY 4 (gj ex):jc):jb):=⟨_,I⟩;obtain⟨bp,cf⟩:=J (gr VB ex cd (aw z q));have hH:N (bp.length=48):=O (by rw[cf,nQ,fM z VR]);have cg:N (∀W v,c8 W v [(q:jb),s]->bQ W->jB jo 102 #[jh S,qn ⟨#[98,111,120]⟩,v] W λe w'=>e=jz (jh EX)/\jk W W w'):=O (λW v hv hW=>by
   rw[hZ,dk,cc];exact sK seed hX gO [(q:jb),s] v W hv (GH G (by have:=i1.out;have:=gn.out;intro x F;simp at F;rcases F with rfl|rfl<;>exact⟨by omega,by omega⟩) ar) hW)
  have gw:N (∀W v Yr,aS (·<W.heap.size) W {bY g a m z with box:=Yr} ⟨A Wm m.length c1,A pq 10 cq,A pv i cv,A jf 0 0⟩->Yr.length<=1000000->c8 W v [(q:jb),s]->bQ W->jB jo 103 #[jh ((λv=>(aF (bY g a m z) ⟨A Wm m.length c1,A pq 10 cq,v,A jf 0 0⟩).toArray) (A pv i cv)),qn ⟨#[98,111,120]⟩,v] W λe w'=>∃D,e=jz (A (T ⟨D,0,jf⟩) 32 32)/\bj w' (A (T ⟨D,0,jf⟩) 32 32) cd/\jk W W w'):=O (λW v Yr hC hu hv hW=>by
   rw[ce];exact Ev {bY g a m z with box:=Yr} _ gO [(q:jb),s] v W G hC hv ar ⟨hh,by show(dy z).length<=_;rw[lO];decide,hu,jO _⟩
    (DF (c:={bY g a m z with box:=Yr}) (nums:=[(q:jb),s]) (by have h1:=b9.fol.1;have h2:=b9.fol.2;exact⟨by show _ <=g.folder;omega,by show g.folder<_;omega⟩) (by have h1:=b9.ep;exact⟨by show _ <=g.epoch+1;omega,by show g.epoch+1<_;omega⟩) (by have:=eq.out;exact⟨by show _ <=a;omega,by show a<_;omega⟩) Yp (by have:=i1.out;have:=gn.out;intro x F;simp at F;rcases F with rfl|rfl<;>exact⟨by omega,by omega⟩) ar) hW)
  have gx:N (∀W vh vb,bj W vh cd->bj W vb (aw z q)->lz W->jB jo 101 #[jd je (VB:jb),jh EX,vh,vb] W λe w'=>∃c,e=jz (jI #[jh #[jd je u0,c],jd je 0])/\w'.ownsRow W 5 1 c 48 (bp.map v8)/\jk W W w'):=O (λW vh vb h1 h2 h3=>by
   have h:=Hp VB hE ex cd (aw z q) gv (by rw[ce];unfold iW;rw[eT];decide) (by rw[fM z VR];decide) vh vb W h1 h2 h3;rw[fM z VR]at h;rw[dk,dr,cf];exact h)
  have UX:N (eD g a m z seed ((q:jb),s)=⟨s,(q:jb),u0,bp⟩):=O (by rw[cf,dr,ce,cc,<-k5];rfl);have lc:N ((jo.info? 34).map (·.size)=T ((λv=>(aF (bY g a m z) ⟨A Wm m.length c1,A pq 10 cq,v,A jf 0 0⟩).toArray) (A pv i cv)).size):=O (by rw[jv,dx _ _ Yp.out eM];exact mX);have md:decide ((q:jb)<10)=ji:=by have:=gn.out;simp;omega
  have ml:(q:jb)<10:=aI gn;have lj:q<10:=aI gn;clear gv dk ce dr cf cc
  go_upto_region 27 with fail
  refine jL ?_;refine di (λW'=>(W'.cell? ⟨bb,0,jf⟩=T (jd je s)/\W'.cell? ⟨bb,1,jf⟩=T (jd je (q:jb)))/\W'.heap[t+1+1+1]?=T (ja S 63 (0,0))/\W'.heap[(t+1+1+1+1)]?=T (ja ((λv=>(aF (bY g a m z) ⟨A Wm m.length c1,A pq 10 cq,v,A jf 0 0⟩).toArray) (A pv i cv)) 34 (0,0))) (.t 0 (.t 1 (.t 2 (.t 3 (.t 4 (.t 5 (.t 8 (.t 9 (.t 10 (.t 11 (.t 12 (.t 15 (.t 16 (.t 17 (.t 18 (.t 19 (.w 6 13 (.w 7 13 (.o 13 (.o 14 (.o 20 (.t 21 (.t 22 (.t 23 (.t 24 (.o 25 .done)))))))) (.o 7 (.o 14 (.o 20 (.t 21 (.t 22 (.t 23 (.t 24 (.o 25 .done))))))))) (.o 6 (.o 7 (.o 14 (.o 20 (.t 21 (.t 22 (.t 23 (.t 24 (.o 25 .done)))))))))))))))))))))))))) af af af G (λ_ _ _ _ h=>h) ⟨bi,Vr,ZM⟩ ?_;obtain⟨l0,UV⟩:=J k1.drew;have d:=bV k1;rw[<-UV]at d⊢;have gy:=ah bh d;have gz:=ae ZM d;have g1:=ae ba d;have ZI:=ah V d;have g2:=bD Zi d;have g3:=bD a3 d;have ay:=O (b8.below d);have b0:=ae Vr d;have cw:=ae a2 d;have a1:=O (And.intro (aB bi.1 d) (aB bi.2 d));clear d UV bh ZM ba V Zi a3 b8 Vr a2 bi;have bA:=gy;clear gy;have bu:=gz;clear gz;have bv:=g1;clear g1;have UB:=ZI;clear ZI;have bB:=g2;clear g2;have bC:=g3;clear g3;have cj:=ay;clear ay;have Wn:=b0;clear b0;have bM:=cw;clear cw;have ck:=a1;clear a1;refine wS ?_
  (refine aW (v:=jh S) I aj (λW' hS=>mF jW I hR I I hS.2.1) (L ?_))
  iterate 4 refine wS ?_
  (refine aW (v:=jh ((λv=>(aF (bY g a m z) ⟨A Wm m.length c1,A pq 10 cq,v,A jf 0 0⟩).toArray) (A pv i cv))) I aj (λW' hS=>mF oj I lc I I hS.2.2) (L ?_))
  iterate 9 refine wS ?_
  apply FO (.o 14 (.o 20 (.t 21 (.t 22 (.t 23 (.t 24 (.o 25 .done)))))))
  rotate_left
  ·intro YU
   refine iA ?_ ?_
   ·refine aE I (λK' C=>?_)
    go_simp;have d:=ao l0 (ja #[jd je (q:jb),jd je s] 3);have H:=mE l0 (q:jb) s;obtain⟨l1,F⟩:=J (l0.alloc (ja #[jd je (q:jb),jd je s] 3));rw[<-F]at d H⊢;obtain⟨b2,R⟩:=J l0.heap.size;rw[<-R]at H⊢;clear R;have bh:=ah bA d;have ZM:=ae bu d;have ba:=ae bv d;have V:=ah UB d;have Zi:=bD bB d;have a3:=bD bC d;have b8:=O (cj.below d);have Vr:=ae Wn d;have a2:=ae bM d;have bi:=O (And.intro (aB ck.1 d) (aB ck.2 d));have b3:=O H;clear H F d;refine C _ _ ⟨bi,Vr,ZM⟩ λ_=>?_
    clear C;refine L ?_;refine iA ?_ ?_
    ·refine aE I (λK' C=>?_)
     go_simp;refine(cg l1 _ b3.out (Wo.dig.below V)).mono ?_;rintro e l2 ⟨rfl,d⟩;have Ym:=ah bh d;have Y8:=ae ZM d;have bk:=ae ba d;have UC:=ah V d;have a4:=bD Zi d;have a5:=bD a3 d;have b1:=O (b8.below d);have U0:=ae Vr d;have bN:=ae a2 d;have bw:=O (And.intro (aB bi.1 d) (aB bi.2 d));have a6:=O (et b3 d);clear bh ZM ba V Zi a3 b8 Vr a2 bi b3;clear d;refine C _ _ ⟨bw,U0,Y8⟩ λ_=>?_
     clear C;refine L ?_;refine aE I (λK' C=>?_);go_simp;have d:=ao l2 (ja #[jd je (q:jb),jd je s] 3);have H:=mE l2 (q:jb) s;obtain⟨l3,F⟩:=J (l2.alloc (ja #[jd je (q:jb),jd je s] 3));rw[<-F]at d H⊢;obtain⟨bI,R⟩:=J l2.heap.size;rw[<-R]at H⊢;clear R;have Ze:=ah Ym d;have WP:=ae Y8 d;have bl:=ae bk d;have UE:=ah UC d;have ay:=bD a4 d;have a1:=bD a5 d;have cb:=O (b1.below d);have Wh:=ae U0 d;have c6:=ae bN d;have bT:=O (And.intro (aB bw.1 d) (aB bw.2 d));have bm:=O (et a6 d);clear Ym Y8 bk UC a4 a5 b1 U0 bN bw a6;have bg:=O H;clear H F d;refine C _ _ ⟨bT,Wh,WP⟩ λ_=>?_
     clear C;refine L ?_;have hG:=(And.intro Ze (And.intro WP (And.intro bl (And.intro UE (And.intro ay (And.intro a1 (And.intro cb (And.intro Wh (And.intro c6 (And.intro bT (And.intro bm bg)))))))))));exact YU b2 bI l3 hG
    refine aE I (λK' C=>?_);go_simp;have d:=ao l1 (ja #[jd je (q:jb),jd je s] 3);have H:=mE l1 (q:jb) s;obtain⟨l2,F⟩:=J (l1.alloc (ja #[jd je (q:jb),jd je s] 3));rw[<-F]at d H⊢;obtain⟨bI,R⟩:=J l1.heap.size;rw[<-R]at H⊢;clear R;have Ym:=ah bh d;have Y8:=ae ZM d;have bk:=ae ba d;have UC:=ah V d;have a4:=bD Zi d;have a5:=bD a3 d;have b1:=O (b8.below d);have U0:=ae Vr d;have bN:=ae a2 d;have bw:=O (And.intro (aB bi.1 d) (aB bi.2 d));have a6:=O (et b3 d);clear bh ZM ba V Zi a3 b8 Vr a2 bi b3;have b4:=O H;clear H F d;refine C _ _ ⟨bw,U0,Y8⟩ λ_=>?_
    clear C;refine L ?_;refine aE I (λK' C=>?_);go_simp;refine(cg l2 _ a6.out (Wo.dig.below UC)).mono ?_;rintro e l3 ⟨rfl,d⟩;have Ze:=ah Ym d;have WP:=ae Y8 d;have bl:=ae bk d;have UE:=ah UC d;have ay:=bD a4 d;have a1:=bD a5 d;have cb:=O (b1.below d);have Wh:=ae U0 d;have c6:=ae bN d;have bT:=O (And.intro (aB bw.1 d) (aB bw.2 d));have bm:=O (et a6 d);have bg:=O (et b4 d);clear Ym Y8 bk UC a4 a5 b1 U0 bN bw a6 b4;clear d;refine C _ _ ⟨bT,Wh,WP⟩ λ_=>?_
    clear C;refine L ?_;have hG:=(And.intro Ze (And.intro WP (And.intro bl (And.intro UE (And.intro ay (And.intro a1 (And.intro cb (And.intro Wh (And.intro c6 (And.intro bT (And.intro bm bg)))))))))));exact YU b2 bI l3 hG
   refine aE I (λK' C=>?_);go_simp;have d:=ao l0 (ja #[jd je (q:jb),jd je s] 3);have H:=mE l0 (q:jb) s;obtain⟨l1,F⟩:=J (l0.alloc (ja #[jd je (q:jb),jd je s] 3));rw[<-F]at d H⊢;obtain⟨bI,R⟩:=J l0.heap.size;rw[<-R]at H⊢;clear R;have bh:=ah bA d;have ZM:=ae bu d;have ba:=ae bv d;have V:=ah UB d;have Zi:=bD bB d;have a3:=bD bC d;have b8:=O (cj.below d);have Vr:=ae Wn d;have a2:=ae bM d;have bi:=O (And.intro (aB ck.1 d) (aB ck.2 d));have g4:=O H;clear H F d;refine C _ _ ⟨bi,Vr,ZM⟩ λ_=>?_
   clear C;refine L ?_;refine aE I (λK' C=>?_);go_simp;have d:=ao l1 (ja #[jd je (q:jb),jd je s] 3);have H:=mE l1 (q:jb) s;obtain⟨l2,F⟩:=J (l1.alloc (ja #[jd je (q:jb),jd je s] 3));rw[<-F]at d H⊢;obtain⟨b2,R⟩:=J l1.heap.size;rw[<-R]at H⊢;clear R;have Ym:=ah bh d;have Y8:=ae ZM d;have bk:=ae ba d;have UC:=ah V d;have a4:=bD Zi d;have a5:=bD a3 d;have b1:=O (b8.below d);have U0:=ae Vr d;have bN:=ae a2 d;have bw:=O (And.intro (aB bi.1 d) (aB bi.2 d));have b4:=O (et g4 d);clear bh ZM ba V Zi a3 b8 Vr a2 bi g4;have a6:=O H;clear H F d;refine C _ _ ⟨bw,U0,Y8⟩ λ_=>?_
   clear C;refine L ?_;refine aE I (λK' C=>?_);go_simp;refine(cg l2 _ a6.out (Wo.dig.below UC)).mono ?_;rintro e l3 ⟨rfl,d⟩;have Ze:=ah Ym d;have WP:=ae Y8 d;have bl:=ae bk d;have UE:=ah UC d;have ay:=bD a4 d;have a1:=bD a5 d;have cb:=O (b1.below d);have Wh:=ae U0 d;have c6:=ae bN d;have bT:=O (And.intro (aB bw.1 d) (aB bw.2 d));have bg:=O (et b4 d);have bm:=O (et a6 d);clear Ym Y8 bk UC a4 a5 b1 U0 bN bw b4 a6;clear d;refine C _ _ ⟨bT,Wh,WP⟩ λ_=>?_
   clear C;refine L ?_;have hG:=(And.intro Ze (And.intro WP (And.intro bl (And.intro UE (And.intro ay (And.intro a1 (And.intro cb (And.intro Wh (And.intro c6 (And.intro bT (And.intro bm bg)))))))))));exact YU b2 bI l3 hG
  clear bA bu bv UB bB bC cj Wn bM ck;rintro b2 bI l3 ⟨Ze,WP,bl,UE,ay,a1,cb,Wh,c6,bT,bm,bg⟩;refine aE I (λK' C=>?_);go_simp;refine(gw l3 _ _ (RV Yp ay a1 (Q.later bs Ze) (by rw[jw,qI];have:=ZJ.out;omega)) (by rw[jw,qI];omega) bg (Wo.dig.below UE)).mono ?_;rintro e l4 ⟨i3,rfl,c7,d⟩;have dv:=O c7;clear c7;have g5:=ah Ze d;have ea:=ae WP d;have eb:=ae bl d;have UK:=ah UE d;have cj:=bD ay d;have ck:=bD a1 d;have cs:=O (cb.below d);have Yd:=ae Wh d;have cp:=ae c6 d;have bw:=O (And.intro (aB bT.1 d) (aB bT.2 d));have g6:=O (et bm d);have g7:=O (et bg d);clear Ze WP bl UE ay a1 cb Wh c6 bT bm bg;clear d;refine C _ _ ⟨bw,Yd,ea⟩ λ_=>?_
  clear C;refine L ?_;refine aE I (λK' C=>?_);go_simp;refine(gx l4 _ _ dv.out (EB cp (λj u hj=>ho q j u lj hj) (fM z VR q)) (hU.below UK)).mono ?_;rintro e l5 ⟨c,rfl,cm,d⟩;have VX:N (bb<l4.heap.size):=O (jA.1 eb).1;obtain⟨lk,hI⟩:=J l4.heap.size;rw[<-hI]at cm VX;have g8:=O cm;obtain⟨U,P,rfl⟩:=cN cm;clear cm;have g9:=ah g5 d;have ec:=ae ea d;have ed:=ae eb d;have UR:=ah UK d;have eC:=bD cj d;have e0:=bD ck d;have ll:=O (cs.below d);have b5:=ae Yd d;have e9:=ae cp d;have ha:=O (And.intro (aB bw.1 d) (aB bw.2 d));have hJ:=O (et g6 d);have hK:=O (et g7 d);have hM:=O (dv.below d);clear g5 ea eb UK cj ck cs Yd cp bw g6 g7 dv;clear d;refine C _ _ ⟨ha,b5,ec⟩ λ_=>?_
  clear C;refine L ?_;iterate 4 refine wS ?_
  refine aE I (λK' C=>?_);rw[jr aj];refine qQ 86 _ _ I bb 2 #[jd je u0,A U 48 P] I I (sF (o:=2) (n:=2) ed ar) af (by simp[j4]) ?_;rw[show(#[jd je u0,A U 48 P]:jq jl).toList=[jd je u0,A U 48 P]from I];obtain⟨s1,s2⟩:=FU (i:=2) (x:=jd je u0) (y:=A U 48 P) ed;have s3:jk wr wr (l5.setCells bb 2 [jd je u0,A U 48 P]):=Below.cellsFrom g9 bb (j5 gp) _ _;have eg:=nD (w':=l5.setCells bb 2 [jd je u0,A U 48 P]) g8 (λk hk=>s2 k (aI VX));refine C _ _ ⟨⟨ai s1 I,ai s1 I⟩,(s2 (t+1+1+1) (ee dd bs)).trans b5,(s2 (t+1+1+1+1) (ee dd bs)).trans ec⟩ λ_=>?_
  clear C;have ej:N ((l5.setCells bb 2 [jd je u0,A U 48 P]).heap[bb]?=T (ja #[jd je s,jd je (q:jb),jd je u0,A U 48 P] 88 (0,0))):=O s1;have ek:N (eF M2 (t+1+1+1+1) 34 88 4 Bx.cells Bx.body (λv=>(aF (bY g a m z) ⟨A Wm m.length c1,A pq 10 cq,v,A jf 0 0⟩).toArray) p2 (l5.setCells bb 2 [jd je u0,A U 48 P]) i (A pv i cv) ((nl.take i).map (eD g a m z seed)) us):=O (Q.later bs s3);have em:N (aH (λg=>M2<=g/\g<(l5.setCells bb 2 [jd je u0,A U 48 P]).heap.size/\(qi pv i cv).ownBlock≠T g) (l5.setCells bb 2 [jd je u0,A U 48 P]) (A U 48 P) 1 48 (bp.map v8)):=O (aH.of_own eg (λg R=>by
   have h1:=eg.lt g R;have h2:=VX.out;have h3:=dd.out;have lo:=gp.out;exact⟨by omega,h1.2,eX Q.row.own (.inl Y)⟩))
  clear s1 s2 s3 eg;generalize l5.setCells bb 2 [jd je u0,A U 48 P]=kc at ej ek em⊢;have hN:=ej;have cp:=ek;have hO:=em;clear ej ek em;refine L ?_;refine pz ?_;clear g9 ec ed UR eC e0 ll b5 e9 ha g8 hM hJ hK Q cg gw gx;have bw:=ai cp.row.box (rY (bY g a m z) (A Wm m.length c1) (A pq 10 cq) (A pv i cv) (A jf 0 0) Yp eM).2.1
  go_upto_region 28 with fail
  refine jX ?_;iterate 2 refine eh ?_
  refine j7 I 88 _ I bb I 88 #[jd je s,jd je (q:jb),jd je u0,A U 48 P] (0,0) _ hN.out underlying88 I af ?_
  go_wp2_with (at_builtin;refine Hid.out ?_)
  refine O ?_;refine qa I λ_ C=>MV _ _ I M2 (A pv i cv) i _ I (cK cp.row.own (ao kc _)) _ 1 [jd je s,jd je (q:jb),jd je u0,A U 48 P] I (lB kc [jd je s,jd je (q:jb),jd je u0,A U 48 P] 88 (0,0) 4 1 1 I (jD _)) (by simp[j4]) Y (jE cp.row.sz' (ao kc _).size) λv' k9 U9=>C _ _ ?_
  clear C;have cs:=ao kc (ja #[jd je s,jd je (q:jb),jd je u0,A U 48 P] 88);have bq:=cp.later bs cs;have ha:=(aH.keep hO (w':=kc.alloc (ja #[jd je s,jd je (q:jb),jd je u0,A U 48 P] 88)) (λg R=>cs.block g R.2.1)).mono (D':=λg=>M2<=g/\g<(kc.alloc (ja #[jd je s,jd je (q:jb),jd je u0,A U 48 P] 88)).heap.size/\(qi pv i cv).ownBlock≠T g) (λg R=>⟨R.1,jJ R.2.1 cs.size,R.2.2⟩);have cx:=lh bq.row.box U9.grown (eX bq.row.own (.inr bs));obtain⟨pn,cn,rfl⟩:=cN U9.own;have fv:N (eF M2 (t+1+1+1+1) 34 88 4 Bx.cells Bx.body (λv=>(aF (bY g a m z) ⟨A Wm m.length c1,A pq 10 cq,v,A jf 0 0⟩).toArray) p2 (k9.setCell ⟨(t+1+1+1+1),37,jf⟩ (A pn (i+1) cn)) (i+1) (A pn (i+1) cn) ((nl.take (i+1)).map (eD g a m z seed)) (us++[A U 48 P])):=O (by
   rw[hF,UX];exact eF.push (x:=(⟨s,(q:jb),u0,bp⟩:Bx)) bq bs (by show aH _ _ _ 1 bp.length (bp.map v8);rw[hH];exact ha) U9 (YV _ _))
  obtain⟨⟨vo,c3⟩,f3,-,-⟩:=kr (i:=37) (A pn (i+1) cn) cx (by rw[(rY (bY g a m z) (A Wm m.length c1) (A pq 10 cq) (A pv i cv) (A jf 0 0) Yp eM).2.2.2];decide);clear bq ha U9 cx bw cs
  go_wp2_with fail
  go_roundw
  case rel=>exact⟨i+1,pn,cn,us++[A U 48 P],by go_num,by omega,fv⟩
  case measure=>simp only[jV];omega
 obtain rfl:nu=i:=Y;have hd:decide ((nu:jb)<(nu:jb))=jn:=by simp
 have UY:decide (nu<nu)=jn:=by simp
 rename jj=>p3;obtain⟨pb,cb,e8,i1⟩:∃(p:jG Addr) (c:jc),p=pv/\c=cv:=⟨_,_,I,I⟩;subst e8;subst i1;have cy:nl.take nu=nl:=qs (by rw[ZJ];exact jD _);rw[cy]at Q;have aa:=Q.row.but;have Vb:=O Q.row.box;have UE:N (jk w w p3):=O (UC.trans (Q.row.but.below (n:=w.heap.size) (by rw[HG];omega) (ee bs HG)));have ay:=O (kN a4 (λk br ad=>aa.block k (by rw[V8];exact ad) (aI db)));have a1:=O (kN a5 (λk br ad=>aa.block k (by rw[V8];exact ad) (aI Yz)));have Wh:N (p3.heap[t+1+1+1]?=T (ja S 63 (0,0))):=O ((aa.block (t+1+1+1) (aI bs) Y).trans U0);have Vq:N (p3.heap[(t+1+1+1+1+1)]?=T (ja SA 63 (0,0))):=O ((aa.block (t+1+1+1+1+1) (aI h9) Y).trans UZ);have Wx:=Q;clear aa cy Q UC a4 a5 U0 UZ US bN hq b1 e7 ca hi YV Zh ho ic ih ii;have s:N (∀W,EC.At W (A U nc P) m->jB jo 29 #[jd je a,A U nc P] W λe w'=>∃u,e=jz u/\EC.At w' u (dt a m)/\jk W W w'):=O (λW hW=>zz a m _ W hW Yo.once hh);obtain⟨wl,q⟩:=J (dt a m);rw[<-q]at s;have gn:=O q;have ho:N (wl.length<=64):=O (by rw[q];have:=CH a m;have:=Yo.len;omega);clear q
 go_upto_region 30 with fail
 go_wp2_with fail
 refine(s p3 ((EK.At.of_sl (E:=EC) e3).below UE)).mono ?_;rintro e p4 ⟨u,rfl,hu,d⟩;have c6:=O hu;obtain⟨pw,ic,rfl,-,-⟩:=hu.form;clear hu;have Yw:=ae Vb d;have YS:=ae Vq d;have Yd:=ae Wh d;have UK:=ah UE d;have cj:=bD ay d;have ck:=bD a1 d;have V9:=O (Wx.later bs d);clear Vb Vq Wh UE ay a1 Wx;clear d;obtain⟨nw,q⟩:=J wl.length;rw[<-q]at c6 ho⊢;have YK:=O q;clear q s;obtain⟨M3,q⟩:=J p4.heap.size;have WM:=O q;have bw:N ((t+1+1+1+1)<M3):=O (by rw[q];exact(jA.1 Yw).1);have e7:N ((t+1+1+1+1+1)<M3):=O (by rw[q];exact(jA.1 YS).1);have Zg:N (lq (λk=>M2<=k/\k<M3) p4 (A pb nu cb) (nl.map (eD g a m z seed))):=O (by
  obtain⟨s,h1,h2⟩:=V9.slice (by rw[jw];exact ZJ) (D:=λk=>M2<=k/\k<M3) (λk br ad=>⟨br,by rw[q];exact ad⟩);exact⟨s,h1,h2⟩)
 have ih:N (∀u v,((λv=>(aF (bY g a m z) ⟨A Wm m.length c1,A pq 10 cq,A pb nu cb,v⟩).toArray) u).setIfInBounds 38 v=(λv=>(aF (bY g a m z) ⟨A Wm m.length c1,A pq 10 cq,A pb nu cb,v⟩).toArray) v):=O (λu v=>Ep (bY g a m z) _ _ _ _ _ Yp.out);have s:N (eF M3 (t+1+1+1+1) 34 91 3 Wl.cells Wl.body (λv=>(aF (bY g a m z) ⟨A Wm m.length c1,A pq 10 cq,A pb nu cb,v⟩).toArray) p4 p4 0 (A jf 0 0) ((wl.take 0).map (fD g a m z init seed)) []):=O (eF.start Yw (j5 q));clear q V9
 go_wp2_with fail
 go_loopw [160] (λv wr=>∃(i:jc) (pv:jG Addr) (cv:jc) (us:jg jl),v=jd je i/\i<=nw/\N (eF M3 (t+1+1+1+1) 34 91 3 Wl.cells Wl.body (λv=>(aF (bY g a m z) ⟨A Wm m.length c1,A pq 10 cq,A pb nu cb,v⟩).toArray) p4 wr i (A pv i cv) ((wl.take i).map (fD g a m z init seed)) us)) (λv _=>nw-(jV v).toNat)
 case atStart=>exact⟨0,jf,0,[],I,jO _,s⟩
 clear s;obtain⟨i,pv,cv,us,rfl,hi,Q⟩:=hrel;have kk:=ho.out
 by_cases ca:i<nw
 ·have hd2:=aA ((i:jb)<(nw:jb))
  have hm:=aA (i<nw);have h8:(i:jb)<(nw:jb):=Y;have Yc:N (jk w w wr):=O (UK.trans (Q.row.but.below (n:=w.heap.size) (by rw[HG];omega) (ee bw HG)));have aa:=Q.row.but;have ga:=O (kN cj (λk br ad=>aa.block k (by rw[WM];exact ad) (aI db)));have gf:=O (kN ck (λk br ad=>aa.block k (by rw[WM];exact ad) (aI Yz)));have bN:N (EC.At wr (A pw nw ic) wl):=O (P9 c6 (j:=38) Yw Q.row.box (λk hk hn=>aa.block k (by rw[WM];exact hk) hn) (λj hj=>JS (bY g a m z) _ _ _ _ _ Yp.out j hj) ⟨_,_,_,(rY (bY g a m z) _ _ _ _ Yp.out eM).2.2.1⟩);have gi:N (wr.heap[t+1+1+1]?=T (ja S 63 (0,0))):=O ((aa.block (t+1+1+1) (aI bw) Y).trans Yd);have b1:N (wr.heap[(t+1+1+1+1+1)]?=T (ja SA 63 (0,0))):=O ((aa.block (t+1+1+1+1+1) e7 Y).trans YS);have hn:N (lq (·<wr.heap.size) wr (A pb nu cb) (nl.map (eD g a m z seed))):=O (Zg.keep (λk hk=>aa.block k hk.2 (aI bs)) (λk hk=>by have:=Q.row.sz';omega));obtain⟨-,-,VW⟩:=bN.cells;obtain⟨g0,o,ii,bO⟩:=VW Y;subst ii;obtain⟨⟨yk,q,yp,yv,yc⟩,F,gk⟩:=dL (l:=wl) (j:=i) (by rw[<-YK];exact ca);have d0:wr.cell? ⟨g0,o+i*5,jf⟩=T (jd je yk):=bO i _ F 0 _ I;have d1:wr.cell? ⟨g0,o+i*5+1,jf⟩=T (jd je q):=bO i _ F 1 _ I;have d2:wr.cell? ⟨g0,o+i*5+2,jf⟩=T (jd je yp):=bO i _ F 2 _ I;have d3:wr.cell? ⟨g0,o+i*5+3,jf⟩=T (jd je yv):=bO i _ F 3 _ I;have d4:wr.cell? ⟨g0,o+i*5+4,jf⟩=T (jd je yc):=bO i _ F 4 _ I;have Vx:=j3 F;rw[gn]at Vx;obtain⟨bi,YO,b8⟩:=Iv.1 Vx;have s:=Yo.each _ bi;have c5:bL yp:=by
   rcases s.2 with⟨_,b,_,_⟩|⟨a,_⟩|⟨_,b,_⟩
   ·exact b
   ·exact ju a YO
   exact b
  have bT:0<=q/\q<512:=s.1;obtain⟨VB,ew⟩:=qH (show 0<=yp by have:=c5.1;omega);subst ew;have hE:=O c5;have hq:=O bT;have hF:N ((wl.take (i+1)).map (fD g a m z init seed)=(wl.take i).map (fD g a m z init seed)++[fD g a m z init seed ⟨yk,q,(VB:jb),yv,yc⟩]):=O (by rw[gk,mz];rfl);clear VW bO F gk Vx bi YO b8 s c5 bT aa
  go_upto_region 34 with fail
  obtain⟨bb,b7⟩:=J wr.heap.size;have bo:=jy wr (ja #[jd je yk,jd je q,jd je (VB:jb),jd je yv,jd je yc] 56);have d:=ao wr (ja #[jd je yk,jd je q,jd je (VB:jb),jd je yv,jd je yc] 56);have s:=jy (wr.alloc (ja #[jd je yk,jd je q,jd je (VB:jb),jd je yv,jd je yc] 56)) (ja #[jd je q,jd je 0,A jf 0 0] 91);have bi:=ao (wr.alloc (ja #[jd je yk,jd je q,jd je (VB:jb),jd je yv,jd je yc] 56)) (ja #[jd je q,jd je 0,A jf 0 0] 91);rw[jp]at s;replace bo:=av bo bi;replace d:=d.trans (bi.mono d.size);have dd:N (M3<=bb):=O (by rw[b7];exact Q.row.sz');rw[<-b7]at bo s⊢;obtain⟨k0,Zp⟩:=J ((wr.alloc (ja #[jd je yk,jd je q,jd je (VB:jb),jd je yv,jd je yc] 56)).alloc (ja #[jd je q,jd je 0,A jf 0 0] 91));rw[<-Zp]at bo s d⊢;have bA:=O d;have bu:=O (av Q.row.box d);have bT:=O bo;have bv:=O s;have UB:=ah Yc d;have bB:=bD ga d;have bC:=bD gf d;have b8:=O (hn.below d);have Wn:=ae gi d;have c5:=ae b1 d;have gp:N (wr.heap.size=bb):=O b7.symm;clear bo s d bi Zp b7 Yc ga gf bN gi b1 hn d0 d1 d2 d3 d4;obtain⟨ex,cc⟩:=J (dZ seed ku [q]);have gv:ex.length=32:=by rw[cc];exact pH _ _ _
  obtain⟨EX,dk⟩:=J ((ex.map v8).toArray);obtain⟨cd,ce⟩:=J (iW (bY g a m z) ku [q]);obtain⟨u0,dr⟩:∃y:jb,y=((aY 4 (gj ex):jc):jb):=⟨_,I⟩;obtain⟨bp,cf⟩:=J (gr VB ex cd (dK g z init));have hH:N (bp.length=48):=O (by rw[cf,nQ,lH]);have cg:N (∀W v,c8 W v [q]->bQ W->jB jo 102 #[jh S,qn ⟨#[119,101,108,99,111,109,101]⟩,v] W λe w'=>e=jz (jh EX)/\jk W W w'):=O (λW v hv hW=>by
   rw[hZ,dk,cc];exact sK seed hX ku [q] v W hv (GH G (by have:=hq.out;intro x F;simp at F;rcases F with rfl;exact⟨by omega,by omega⟩) ar) hW)
  have gw:N (∀W v s,aS (·<W.heap.size) W {bY g a m z with box:=nl.map (eD g a m z seed),wel:=s} ⟨A Wm m.length c1,A pq 10 cq,A pb nu cb,A pv i cv⟩->s.length<=1000000->c8 W v [q]->bQ W->jB jo 103 #[jh ((λv=>(aF (bY g a m z) ⟨A Wm m.length c1,A pq 10 cq,A pb nu cb,v⟩).toArray) (A pv i cv)),qn ⟨#[119,101,108,99,111,109,101]⟩,v] W λe w'=>∃D,e=jz (A (T ⟨D,0,jf⟩) 32 32)/\bj w' (A (T ⟨D,0,jf⟩) 32 32) cd/\jk W W w'):=O (λW v s hC hu hv hW=>by
   rw[ce];exact Ev {bY g a m z with box:=nl.map (eD g a m z seed),wel:=s} _ ku [q] v W G hC hv ar ⟨hh,by show(dy z).length<=_;rw[lO];decide,by show(nl.map (eD g a m z seed)).length<=_;rw[jw,<-ZJ];have:=i0.out;omega,hu⟩
    (DF (c:={bY g a m z with box:=nl.map (eD g a m z seed),wel:=s}) (nums:=[q]) (by have h1:=b9.fol.1;have h2:=b9.fol.2;exact⟨by show _ <=g.folder;omega,by show g.folder<_;omega⟩) (by have h1:=b9.ep;exact⟨by show _ <=g.epoch+1;omega,by show g.epoch+1<_;omega⟩) (by have:=eq.out;exact⟨by show _ <=a;omega,by show a<_;omega⟩) Yp (by have:=hq.out;intro x F;simp at F;rcases F with rfl;exact⟨by omega,by omega⟩) ar) hW)
  have gx:N (∀W vh vb,bj W vh cd->bj W vb (dK g z init)->lz W->jB jo 101 #[jd je (VB:jb),jh EX,vh,vb] W λe w'=>∃c,e=jz (jI #[jh #[jd je u0,c],jd je 0])/\w'.ownsRow W 5 1 c 48 (bp.map v8)/\jk W W w'):=O (λW vh vb h1 h2 h3=>by
   have h:=Hp VB hE ex cd (dK g z init) gv (by rw[ce];unfold iW;rw[eT];decide) (by rw[lH];decide) vh vb W h1 h2 h3;rw[lH]at h;rw[dk,dr,cf];exact h)
  have ga:N (fD g a m z init seed ⟨yk,q,(VB:jb),yv,yc⟩=⟨q,u0,bp⟩):=O (by rw[cf,dr,ce,cc];rfl);have gf:N ((jo.info? 34).map (·.size)=T ((λv=>(aF (bY g a m z) ⟨A Wm m.length c1,A pq 10 cq,A pb nu cb,v⟩).toArray) (A pv i cv)).size):=O (by rw[jv,dx _ _ Yp.out eM];exact mX);clear gv dk ce dr cf cc
  go_upto_region 34 with fail
  refine jL ?_;refine di (λW'=>W'.heap[bb]?=T (ja #[jd je yk,jd je q,jd je (VB:jb),jd je yv,jd je yc] 56 (0,0))/\W'.heap[t+1+1+1]?=T (ja S 63 (0,0))/\W'.heap[(t+1+1+1+1)]?=T (ja ((λv=>(aF (bY g a m z) ⟨A Wm m.length c1,A pq 10 cq,A pb nu cb,v⟩).toArray) (A pv i cv)) 34 (0,0))) (.t 0 (.t 1 (.t 2 (.t 3 (.t 4 (.t 7 (.t 8 (.t 9 (.t 12 (.w 5 10 (.w 6 10 (.o 10 (.o 11 (.o 13 (.t 14 (.t 15 (.t 16 (.t 17 (.o 18 .done)))))))) (.o 6 (.o 11 (.o 13 (.t 14 (.t 15 (.t 16 (.t 17 (.o 18 .done))))))))) (.o 5 (.o 6 (.o 11 (.o 13 (.t 14 (.t 15 (.t 16 (.t 17 (.o 18 .done))))))))))))))))))) af af af G (λ_ _ _ _ h=>h) ⟨bT,Wn,bu⟩ ?_;obtain⟨l0,UV⟩:=J k0.drew;have d:=bV k0;rw[<-UV]at d⊢;have gy:=ah bA d;have gz:=ae bu d;have s:=ae bT d;have g1:=ae bv d;have ZI:=ah UB d;have g2:=bD bB d;have g3:=bD bC d;have bi:=O (b8.below d);have b0:=ae Wn d;have bo:=ae c5 d;clear d UV bA bu bT bv UB bB bC b8 Wn c5;have bA:=gy;clear gy;have bu:=gz;clear gz;have bT:=s;clear s;have bv:=g1;clear g1;have UB:=ZI;clear ZI;have bB:=g2;clear g2;have bC:=g3;clear g3;have b8:=bi;clear bi;have Wn:=b0;clear b0;have c5:=bo;clear bo;iterate 2 refine vO ?_
  (refine aW (v:=jh S) I aj (λW' hS=>mF jW I hR I I hS.2.1) (L ?_))
  iterate 2 refine vO ?_
  (refine aW (v:=jh ((λv=>(aF (bY g a m z) ⟨A Wm m.length c1,A pq 10 cq,A pb nu cb,v⟩).toArray) (A pv i cv))) I aj (λW' hS=>mF oj I gf I I hS.2.2) (L ?_))
  iterate 3 refine vO ?_
  apply FO (.o 11 (.o 13 (.t 14 (.t 15 (.t 16 (.t 17 (.o 18 .done)))))))
  rotate_left
  ·intro YU
   refine iA ?_ ?_
   ·refine aE I (λK' C=>?_)
    go_simp;have d:=ao l0 (ja #[jd je q] 3);have H:=ox l0 q;obtain⟨l1,F⟩:=J (l0.alloc (ja #[jd je q] 3));rw[<-F]at d H⊢;obtain⟨b2,R⟩:=J l0.heap.size;rw[<-R]at H⊢;clear R;have bh:=ah bA d;have ZM:=ae bu d;have bo:=ae bT d;have ba:=ae bv d;have V:=ah UB d;have Zi:=bD bB d;have a3:=bD bC d;have b1:=O (b8.below d);have Vr:=ae Wn d;have b7:=ae c5 d;have b3:=O H;clear H F d;refine C _ _ ⟨bo,Vr,ZM⟩ λ_=>?_
    clear C;refine L ?_;refine iA ?_ ?_
    ·refine aE I (λK' C=>?_)
     go_simp;refine(cg l1 _ b3.out (Wo.dig.below V)).mono ?_;rintro e l2 ⟨rfl,d⟩;have Ym:=ah bh d;have Y8:=ae ZM d;have s:=ae bo d;have bk:=ae ba d;have UC:=ah V d;have a4:=bD Zi d;have a5:=bD a3 d;have WF:=O (b1.below d);have U0:=ae Vr d;have bN:=ae b7 d;have a6:=O (et b3 d);clear bh ZM bo ba V Zi a3 b1 Vr b7 b3;clear d;refine C _ _ ⟨s,U0,Y8⟩ λ_=>?_
     clear C;refine L ?_;refine aE I (λK' C=>?_);go_simp;have d:=ao l2 (ja #[jd je q] 3);have H:=ox l2 q;obtain⟨l3,F⟩:=J (l2.alloc (ja #[jd je q] 3));rw[<-F]at d H⊢;obtain⟨bI,R⟩:=J l2.heap.size;rw[<-R]at H⊢;clear R;have Ze:=ah Ym d;have WP:=ae Y8 d;have bi:=ae s d;have bl:=ae bk d;have UE:=ah UC d;have ay:=bD a4 d;have a1:=bD a5 d;have Wx:=O (WF.below d);have Wh:=ae U0 d;have bO:=ae bN d;have bm:=O (et a6 d);clear Ym Y8 s bk UC a4 a5 WF U0 bN a6;have bg:=O H;clear H F d;refine C _ _ ⟨bi,Wh,WP⟩ λ_=>?_
     clear C;refine L ?_;have hG:=(And.intro Ze (And.intro WP (And.intro bi (And.intro bl (And.intro UE (And.intro ay (And.intro a1 (And.intro Wx (And.intro Wh (And.intro bO (And.intro bm bg)))))))))));exact YU b2 bI l3 hG
    refine aE I (λK' C=>?_);go_simp;have d:=ao l1 (ja #[jd je q] 3);have H:=ox l1 q;obtain⟨l2,F⟩:=J (l1.alloc (ja #[jd je q] 3));rw[<-F]at d H⊢;obtain⟨bI,R⟩:=J l1.heap.size;rw[<-R]at H⊢;clear R;have Ym:=ah bh d;have Y8:=ae ZM d;have s:=ae bo d;have bk:=ae ba d;have UC:=ah V d;have a4:=bD Zi d;have a5:=bD a3 d;have WF:=O (b1.below d);have U0:=ae Vr d;have bN:=ae b7 d;have a6:=O (et b3 d);clear bh ZM bo ba V Zi a3 b1 Vr b7 b3;have b4:=O H;clear H F d;refine C _ _ ⟨s,U0,Y8⟩ λ_=>?_
    clear C;refine L ?_;refine aE I (λK' C=>?_);go_simp;refine(cg l2 _ a6.out (Wo.dig.below UC)).mono ?_;rintro e l3 ⟨rfl,d⟩;have Ze:=ah Ym d;have WP:=ae Y8 d;have bi:=ae s d;have bl:=ae bk d;have UE:=ah UC d;have ay:=bD a4 d;have a1:=bD a5 d;have Wx:=O (WF.below d);have Wh:=ae U0 d;have bO:=ae bN d;have bm:=O (et a6 d);have bg:=O (et b4 d);clear Ym Y8 s bk UC a4 a5 WF U0 bN a6 b4;clear d;refine C _ _ ⟨bi,Wh,WP⟩ λ_=>?_
    clear C;refine L ?_;have hG:=(And.intro Ze (And.intro WP (And.intro bi (And.intro bl (And.intro UE (And.intro ay (And.intro a1 (And.intro Wx (And.intro Wh (And.intro bO (And.intro bm bg)))))))))));exact YU b2 bI l3 hG
   refine aE I (λK' C=>?_);go_simp;have d:=ao l0 (ja #[jd je q] 3);have H:=ox l0 q;obtain⟨l1,F⟩:=J (l0.alloc (ja #[jd je q] 3));rw[<-F]at d H⊢;obtain⟨bI,R⟩:=J l0.heap.size;rw[<-R]at H⊢;clear R;have bh:=ah bA d;have ZM:=ae bu d;have bo:=ae bT d;have ba:=ae bv d;have V:=ah UB d;have Zi:=bD bB d;have a3:=bD bC d;have b1:=O (b8.below d);have Vr:=ae Wn d;have b7:=ae c5 d;have g4:=O H;clear H F d;refine C _ _ ⟨bo,Vr,ZM⟩ λ_=>?_
   clear C;refine L ?_;refine aE I (λK' C=>?_);go_simp;have d:=ao l1 (ja #[jd je q] 3);have H:=ox l1 q;obtain⟨l2,F⟩:=J (l1.alloc (ja #[jd je q] 3));rw[<-F]at d H⊢;obtain⟨b2,R⟩:=J l1.heap.size;rw[<-R]at H⊢;clear R;have Ym:=ah bh d;have Y8:=ae ZM d;have s:=ae bo d;have bk:=ae ba d;have UC:=ah V d;have a4:=bD Zi d;have a5:=bD a3 d;have WF:=O (b1.below d);have U0:=ae Vr d;have bN:=ae b7 d;have b4:=O (et g4 d);clear bh ZM bo ba V Zi a3 b1 Vr b7 g4;have a6:=O H;clear H F d;refine C _ _ ⟨s,U0,Y8⟩ λ_=>?_
   clear C;refine L ?_;refine aE I (λK' C=>?_);go_simp;refine(cg l2 _ a6.out (Wo.dig.below UC)).mono ?_;rintro e l3 ⟨rfl,d⟩;have Ze:=ah Ym d;have WP:=ae Y8 d;have bi:=ae s d;have bl:=ae bk d;have UE:=ah UC d;have ay:=bD a4 d;have a1:=bD a5 d;have Wx:=O (WF.below d);have Wh:=ae U0 d;have bO:=ae bN d;have bg:=O (et b4 d);have bm:=O (et a6 d);clear Ym Y8 s bk UC a4 a5 WF U0 bN b4 a6;clear d;refine C _ _ ⟨bi,Wh,WP⟩ λ_=>?_
   clear C;refine L ?_;have hG:=(And.intro Ze (And.intro WP (And.intro bi (And.intro bl (And.intro UE (And.intro ay (And.intro a1 (And.intro Wx (And.intro Wh (And.intro bO (And.intro bm bg)))))))))));exact YU b2 bI l3 hG
  clear bA bu bT bv UB bB bC b8 Wn c5;rintro b2 bI l3 ⟨Ze,WP,bi,bl,UE,ay,a1,Wx,Wh,bO,bm,bg⟩;refine aE I (λK' C=>?_);go_simp;refine(gw l3 _ _ (Sd Yp ay a1 Wx (Q.later bw Ze) (by rw[jw,qI];have:=YK.out;omega)) (by rw[jw,qI];omega) bg (Wo.dig.below UE)).mono ?_;rintro e l4 ⟨i3,rfl,c7,d⟩;have dv:=O c7;clear c7;have g5:=ah Ze d;have ea:=ae WP d;have s:=ae bi d;have eb:=ae bl d;have UK:=ah UE d;have cj:=bD ay d;have ck:=bD a1 d;have V9:=O (Wx.below d);have Yd:=ae Wh d;have a6:=ae bO d;have g6:=O (et bm d);have g7:=O (et bg d);clear Ze WP bi bl UE ay a1 Wx Wh bO bm bg;clear d;refine C _ _ ⟨s,Yd,ea⟩ λ_=>?_
  clear C;refine L ?_;refine aE I (λK' C=>?_);go_simp;refine(gx l4 _ _ dv.out (EB a6 (λj u hj=>by rw[hB,Nat.zero_add];simpa using hj) (lH _ _ _)) (hU.below UK)).mono ?_;rintro e l5 ⟨c,rfl,cm,d⟩;have VX:N (bb+1<l4.heap.size):=O (jA.1 eb).1;obtain⟨lk,hI⟩:=J l4.heap.size;rw[<-hI]at cm VX;have g8:=O cm;obtain⟨U,P,rfl⟩:=cN cm;clear cm;have g9:=ah g5 d;have ec:=ae ea d;have ba:=ae s d;have ed:=ae eb d;have UR:=ah UK d;have eC:=bD cj d;have e0:=bD ck d;have YM:=O (V9.below d);have b5:=ae Yd d;have bh:=ae a6 d;have hJ:=O (et g6 d);have hK:=O (et g7 d);have hM:=O (dv.below d);clear g5 ea s eb UK cj ck V9 Yd a6 g6 g7 dv;clear d;refine C _ _ ⟨ba,b5,ec⟩ λ_=>?_
  clear C;refine L ?_;iterate 4 refine vO ?_
  refine aE I (λK' C=>?_);rw[jr aj];refine qQ 86 _ _ I (bb+1) 1 #[jd je u0,A U 48 P] I I (sF (o:=1) (n:=2) ed ar) af (by simp[j4]) ?_;rw[show(#[jd je u0,A U 48 P]:jq jl).toList=[jd je u0,A U 48 P]from I];obtain⟨s1,s2⟩:=FU (i:=1) (x:=jd je u0) (y:=A U 48 P) ed;have s3:jk wr wr (l5.setCells (bb+1) 1 [jd je u0,A U 48 P]):=Below.cellsFrom g9 (bb+1) (by rw[gp];omega) _ _;have eg:=nD (w':=l5.setCells (bb+1) 1 [jd je u0,A U 48 P]) g8 (λk hk=>s2 k (aI VX));refine C _ _ ⟨(s2 bb Y).trans ba,(s2 (t+1+1+1) (ee dd bw)).trans b5,(s2 (t+1+1+1+1) (ee dd bw)).trans ec⟩ λ_=>?_
  clear C;have ej:N ((l5.setCells (bb+1) 1 [jd je u0,A U 48 P]).heap[bb+1]?=T (ja #[jd je q,jd je u0,A U 48 P] 91 (0,0))):=O s1;have ek:N (eF M3 (t+1+1+1+1) 34 91 3 Wl.cells Wl.body (λv=>(aF (bY g a m z) ⟨A Wm m.length c1,A pq 10 cq,A pb nu cb,v⟩).toArray) p4 (l5.setCells (bb+1) 1 [jd je u0,A U 48 P]) i (A pv i cv) ((wl.take i).map (fD g a m z init seed)) us):=O (Q.later bw s3);have em:N (aH (λg=>M3<=g/\g<(l5.setCells (bb+1) 1 [jd je u0,A U 48 P]).heap.size/\(qi pv i cv).ownBlock≠T g) (l5.setCells (bb+1) 1 [jd je u0,A U 48 P]) (A U 48 P) 1 48 (bp.map v8)):=O (aH.of_own eg (λg R=>by
   have h1:=eg.lt g R;have h2:=VX.out;have h3:=dd.out;have lo:=gp.out;exact⟨by omega,h1.2,eX Q.row.own (.inl Y)⟩))
  clear s1 s2 s3 eg;generalize l5.setCells (bb+1) 1 [jd je u0,A U 48 P]=kc at ej ek em⊢;have hN:=ej;have cp:=ek;have hO:=em;clear ej ek em;refine L ?_;refine pz ?_;clear g9 ec ba ed UR eC e0 YM b5 bh g8 hM hJ hK Q cg gw gx;have s:=ai cp.row.box (rY (bY g a m z) (A Wm m.length c1) (A pq 10 cq) (A pb nu cb) (A pv i cv) Yp eM).2.2.1
  go_upto_region 35 with fail
  refine jX ?_;iterate 2 refine eh ?_
  refine j7 I 91 _ I (bb+1) I 91 #[jd je q,jd je u0,A U 48 P] (0,0) _ hN.out underlying91 I af ?_
  go_wp2_with (at_builtin;refine Hid.out ?_)
  refine O ?_;refine qa I λ_ C=>Ly _ _ I M3 (A pv i cv) i _ I (cK cp.row.own (ao kc _)) _ 1 [jd je q,jd je u0,A U 48 P] I (lB kc [jd je q,jd je u0,A U 48 P] 91 (0,0) 3 1 1 I (jD _)) (by simp[j4]) Y (jE cp.row.sz' (ao kc _).size) λv' k9 U9=>C _ _ ?_
  clear C;have cs:=ao kc (ja #[jd je q,jd je u0,A U 48 P] 91);have bq:=cp.later bw cs;have ha:=(aH.keep hO (w':=kc.alloc (ja #[jd je q,jd je u0,A U 48 P] 91)) (λg R=>cs.block g R.2.1)).mono (D':=λg=>M3<=g/\g<(kc.alloc (ja #[jd je q,jd je u0,A U 48 P] 91)).heap.size/\(qi pv i cv).ownBlock≠T g) (λg R=>⟨R.1,jJ R.2.1 cs.size,R.2.2⟩);have cx:=lh bq.row.box U9.grown (eX bq.row.own (.inr bw));obtain⟨pn,cn,rfl⟩:=cN U9.own;have fv:N (eF M3 (t+1+1+1+1) 34 91 3 Wl.cells Wl.body (λv=>(aF (bY g a m z) ⟨A Wm m.length c1,A pq 10 cq,A pb nu cb,v⟩).toArray) p4 (k9.setCell ⟨(t+1+1+1+1),38,jf⟩ (A pn (i+1) cn)) (i+1) (A pn (i+1) cn) ((wl.take (i+1)).map (fD g a m z init seed)) (us++[A U 48 P])):=O (by
   rw[hF,ga];exact eF.push (x:=(⟨q,u0,bp⟩:Wl)) bq bw (by show aH _ _ _ 1 bp.length (bp.map v8);rw[hH];exact ha) U9 (ih _ _))
  obtain⟨⟨vo,c3⟩,f3,-,-⟩:=kr (i:=38) (A pn (i+1) cn) cx (by rw[(rY (bY g a m z) (A Wm m.length c1) (A pq 10 cq) (A pb nu cb) (A pv i cv) Yp eM).2.2.2];decide);clear bq ha U9 cx s cs
  go_wp2_with fail
  go_roundw
  case rel=>exact⟨i+1,pn,cn,us++[A U 48 P],by go_num,by omega,fv⟩
  case measure=>simp only[jV];omega
 obtain rfl:nw=i:=Y;have hd2:decide ((nw:jb)<(nw:jb))=jn:=by simp
 have hm:decide (nw<nw)=jn:=by simp
 rename jj=>p5;obtain⟨pe,ce,bI,bN⟩:∃(p:jG Addr) (c:jc),p=pv/\c=cv:=⟨_,_,I,I⟩;subst bI;subst bN;have cy:wl.take nw=wl:=qs (by rw[YK];exact jD _);rw[cy]at Q;have aa:=Q.row.but;have UR:N (jk w w p5):=O (UK.trans (Q.row.but.below (n:=w.heap.size) (by rw[HG];omega) (ee bw HG)));have eC:=kN cj (λk br ad=>aa.block k (by rw[WM];exact ad) (aI db));have e0:=kN ck (λk br ad=>aa.block k (by rw[WM];exact ad) (aI Yz));have ev:N (p5.heap[(t+1+1+1+1+1)]?=T (ja SA 63 (0,0))):=O ((aa.block (t+1+1+1+1+1) e7 Y).trans YS);have bi:lq (λk=>t+6<=k/\k<p5.heap.size) p5 (A pb nu cb) (nl.map (eD g a m z seed)):=Zg.keep (λk hk=>aa.block k hk.2 (aI bs)) (λk hk=>⟨by have:=h9.out;omega,by have:=Q.row.sz';omega⟩);have bk:=Q.slice (by rw[jw];exact YK) (D:=λk=>t+6<=k/\k<p5.heap.size) (λk h1 h2=>⟨by have:=e7.out;omega,h2⟩);obtain⟨q,hq⟩:∃y:CQ,y=⟨A Wm m.length c1,A pq 10 cq,A pb nu cb,A pe nw ce⟩:=⟨_,I⟩;have bq:N (aS (λk=>t+6<=k/\k<p5.heap.size) p5 (mk1 g a m z init seed) q):=O (by
  rw[hD,hx]at bi;rw[gn]at bk;rw[hq];exact KN Yp eC e0 bi bk (λk h1 h2=>⟨by have:=db.out;omega,h2⟩) (λk h1 h2=>⟨by have:=fo.out;omega,h2⟩))
 obtain⟨Y1,ad⟩:=J ((aF (mk1 g a m z init seed) q).toArray);have eu:N (p5.heap[(t+1+1+1+1)]?=T (ja Y1 34 (0,0))):=O (by rw[ad,hq,TQ];exact Q.row.box);have br:=RH (x:=X) (init:=init) (seed:=seed) e4.symm (by rw[<-Yn];exact kb) kl VR Yp;obtain⟨bu,bv⟩:=MS br;have bA:=O bu.encOk;have bO:=O bv.encOk;have bT:=O ad;have YA:∀c:Cmt,c.parent.length=32->c.confirm.length=32->(jo.info? 34).map (·.size)=T (aF c q).toArray.size:=λc h1 h2=>by rw[jv,dx c q h1 h2];exact mX
 have Vr:N ((jo.info? 34).map (·.size)=T Y1.size):=O (by rw[ad];exact YA _ (by rw[(ot ..).1];exact Yp) (ot ..).2);have b1:N (∀W,aS (·<W.heap.size) W (mk1 g a m z init seed) q->jB jo 44 #[jh Y1] W λe w'=>∃v,e=jz v/\vG W w' (mk1 g a m z init seed) v/\jk W W w'):=O (λW hW=>by
  obtain⟨l1,l2,l3,l4⟩:=bA.lens;rw[ad];exact tv _ q W hW l1 l2 l3 l4)
 obtain⟨bB,bg⟩:=J (cZ kO ((aR (mk1 g a m z init seed)).take 8));obtain⟨YX,bl⟩:=J ((bB.map v8).toArray);obtain⟨cf,bh⟩:=J (iZ (dK g z init) bB);obtain⟨j,ba⟩:=J ((cf.map v8).toArray);have bm:cf.length=32:=by rw[bh];exact sZ _ _
 have b2:N (mk2 g a m z init seed={mk1 g a m z init seed with confirm:=cf}):=O (by rw[bh,bg];exact Dq ..);have b3:N (∀W p P,aV (·<W.heap.size) W (vL ((aR (mk1 g a m z init seed)).take 8)) (A p 8 P)->bQ W->jB jo 43 #[qn ⟨#[99,111,109,109,105,116,32,98,111,100,121]⟩,A p 8 P] W λe w'=>e=jz (jh YX)/\jk W W w'):=O (λW p P hv hW=>by
  rw[bl,bg];exact mQ kO G _ _ W hv (bA.take (by rw[zE];decide) 8) hW.num hW.start)
 have b4:N (∀W,iC W->jB jo 104 #[jh SA,jh YX] W λe w'=>e=jz (jh j)/\jk W W w'):=O (λW hW=>by
  rw[ba,bh,hB,bl];exact PK _ _ (lH _ _ _) (by rw[bg];exact eT _ _) W hW)
 have bC:N (j.size=32):=O (by rw[ba,jv,jw,bm]);have b7:N (j.all (·.oneCell')=ji):=O (by rw[ba];exact fi _);have b8:N ((jo.info? 23).map (·.size)=T j.size):=O (by rw[bC];kernel_rfl);obtain⟨Y2,a6⟩:=J ((aF (mk2 g a m z init seed) q).toArray);have cc:N (mW Y1 39 j.toList=Y2):=O (by
  rw[a6,b2,ba,ad];exact Ou _ q cf (by rw[(ot ..).1];exact Yp) (ot ..).2 bm)
 have U0:N ((jo.info? 34).map (·.size)=T Y2.size):=O (by rw[a6];exact YA _ (by rw[(pD ..).1];exact Yp) (pD ..).2);have cd:N (Y1.size=73):=O (by rw[ad,jv,dx _ _ (by rw[(ot ..).1];exact Yp) (ot ..).2]);have cg:N (Y2.size=73):=O (by rw[a6,jv,dx _ _ (by rw[(pD ..).1];exact Yp) (pD ..).2]);have cm:N (∀W,aS (·<W.heap.size) W (mk1 g a m z init seed) q->bQ W->jB jo 32 #[jh Y2] W λe w'=>∃D,e=jz (A (T ⟨D,0,jf⟩) 32 32)/\bj w' (A (T ⟨D,0,jf⟩) 32 32) (dp (mk2 g a m z init seed))/\jk W W w'):=O (λW hC hW=>by
  rw[a6];exact Hr _ q W (D6 hC) bO hW)
 obtain⟨sr,bo⟩:∃y:jb,y=((kq X (dp (mk2 g a m z init seed)):jc):jb):=⟨_,I⟩;obtain⟨ss,bp⟩:∃y:jb,y=((kG X (dp (mk2 g a m z init seed)):jc):jb):=⟨_,I⟩;have cn:N (∀W v,bj W v (dp (mk2 g a m z init seed))->bQ W->jB jo 105 #[jd je (X:jb),v] W λe w'=>e=jz (jI #[jh #[jd je sr,jd je ss],jd je 0])/\jk W W w'):=O (λW v hv hW=>by
  rw[bo,bp];exact Sb X Vf.1 Vf.2 _ v (by unfold dp;rw[eT];decide) W hv hW)
 obtain⟨Y3,bb⟩:=J ((aF (mkC g a X m z init seed) q).toArray);have cp:N (mkC g a X m z init seed={mk2 g a m z init seed with r:=sr,s:=ss}):=O (by rw[bo,bp];exact GG ..);have cs:N (mW Y2 71 [jd je sr,jd je ss]=Y3):=O (by
  rw[bb,cp,a6];exact Uc _ q sr ss (by rw[(pD ..).1];exact Yp) (pD ..).2)
 have Wh:N ((jo.info? 34).map (·.size)=T Y3.size):=O (by rw[bb];exact YA _ (by rw[(BM ..).1];exact Yp) (BM ..).2);have cx:N (Y3.all (·.oneCell')=ji):=O (by rw[bb,hq];exact zQ _ _ _ _ _ _ _ _ _ _ _ _ _);have c5:=O bb;clear bk bi e0 eC aa cy Q YA br bu bv hq ad a6 bb bo bp bm ba bh bl bg Zg Yw YS Yd UK cj ck c6 bT ca hi
 go_upto_region 37 with fail
 refine jL ?_;refine lL (λW'=>W'.heap[(t+1+1+1+1)]?=T (ja Y1 34 (0,0))/\W'.heap[(t+1+1+1+1+1)]?=T (ja SA 63 (0,0))) 7 [(0,ji),(1,ji),(2,jn),(3,ji),(4,jn),(5,jn),(6,ji),(7,jn)] af af af G (λ_ _ _ _ h=>h) ⟨eu,ev⟩ ?_;obtain⟨q0,UV⟩:=J p5.drew;have d:=bV p5;rw[<-UV]at d⊢;have U4:=ae eu d;have Va:=ae ev d;have UB:=ah UR d;have Q:=O (bq.later d);clear d UV eu ev UR bq
 (refine fY (v:=jh SA) I aj (λW' hS=>mF jW I fe I I hS.2) (L ?_))
 (refine fY (v:=jh Y1) I aj (λW' hS=>mF oj I Vr I I hS.1) (L ?_))
 refine dn I (λK' C=>?_);go_simp;refine(b1 q0 (Q.mono (λk hk=>hk.2))).mono ?_;rintro e q1 ⟨v,rfl,aa,d⟩;obtain⟨gc,ba,rfl,VW⟩:∃g P,v=A (T ⟨g,0,jf⟩) 11 P/\11<=P:=by
  obtain⟨us,ad,-⟩:=aa;obtain⟨g,c,h1,h2,-⟩:=vA ad G;exact⟨g,c,h1,h2⟩
 have bb:=O (aa.val 8 G).2;have hg:∀W,(Instr.sliceAt 113 (A (T ⟨gc,0,jf⟩) 11 ba) jf (T (jd je 8)) jf).run jo W=.ok (A (T ⟨gc,0,jf⟩) 8 ba) W:=λW=>wA 113 165 4 underlying113 wW gc 0 11 ba 8 Y W
 clear aa;have UW:=ae U4 d;have U1:=ae Va d;have V:=ah UB d;have ad:=O (Q.later d);clear U4 Va UB Q;clear d;refine C _ _ ⟨UW,U1⟩ λ_=>?_
 clear C;refine L ?_;refine EF ?_;refine dn I (λK' C=>?_);go_simp;refine(b3 q1 _ _ bb.out (Wo.dig.below V)).mono ?_;rintro e q2 ⟨rfl,d⟩;have US:=ae UW d;have UZ:=ae U1 d;have UC:=ah V d;have a6:=O (ad.later d);clear UW U1 V ad bb;clear d;refine C _ _ ⟨US,UZ⟩ λ_=>?_
 clear C;refine L ?_;refine dn I (λK' C=>?_);go_simp;refine(b4 q2 (Wo.below UC)).mono ?_;rintro e q3 ⟨rfl,d⟩;have Vb:=ae US d;have Vq:=ae UZ d;have UE:=ah UC d;have bb:=O (a6.later d);clear US UZ UC a6;clear d;refine C _ _ ⟨Vb,Vq⟩ λ_=>?_
 clear C;refine L ?_;refine EF ?_;refine pG I (λK' C=>?_);rw[jr aj];refine qQ 23 _ _ I (t+1+1+1+1) 39 j I I (sF (o:=39) Vb.out (by rw[cd,bC];decide)) b8 b7 ?_;have s1:=yU j.toList 39 q3 Y1 Vb;rw[cc]at s1;have bc:=O s1;have bd:=O ((tZ (k:=(t+1+1+1+1+1)) (b:=(t+1+1+1+1)) Y j.toList 39 q3).trans Vq);have bf:=O (Below.cellsFrom UE (t+1+1+1+1) (by rw[HG];omega) j.toList 39);have aa:N (aS (λk=>t+6<=k/\k<(q3.setCells (t+1+1+1+1) 39 j.toList).heap.size) (q3.setCells (t+1+1+1+1) 39 j.toList) (mk1 g a m z init seed) q):=O ((bb.keep (λk hk=>tZ Y _ _ _)).mono (λk hk=>by rw[yx];exact hk));clear s1;generalize q3.setCells (t+1+1+1+1) 39 j.toList=r0 at bc bd bf aa⊢;clear Vb Vq UE bb;refine C _ _ ?_;clear C;have U4:=bc;have Va:=bd;have UB:=bf;have Q:=aa;clear bc bd bf aa;refine pz ?_
 go_upto_region 38 with fail
 refine jX ?_;refine eh ?_;refine j7 I 34 _ I (t+1+1+1+1) I 34 Y2 (0,0) _ U4.out oj I U0 ?_
 go_wp2_with fail
 refine(cm r0 (Q.mono (λk hk=>hk.2)) (Wo.dig.below UB)).mono ?_;rintro e r1 ⟨i3,rfl,c7,d⟩;have bb:=O c7;clear c7;have UW:=ae U4 d;have U1:=ae Va d;have V:=ah UB d;have ad:=O (Q.later d);clear U4 Va UB Q;clear d
 go_wp2_with fail
 refine(cn r1 _ bb.out (Wo.dig.below V)).mono ?_;rintro e r2 ⟨rfl,d⟩;have US:=ae UW d;have UZ:=ae U1 d;have UC:=ah V d;have a6:=O (ad.later d);clear UW U1 V ad bb;clear d
 go_wp2_with (refine qa I λ_ C=>qQ 32 _ _ I (t+1+1+1+1) 71 #[jd je sr,jd je ss] I I (sF (o:=71) (n:=2) US.out (by rw[cg];decide)) af (by simp[j4]) (C _ _ ?_))
 have s1:=yU [jd je sr,jd je ss] 71 r2 Y2 US;rw[cs]at s1;have bc:=O s1;have bd:=O ((tZ (k:=(t+1+1+1+1+1)) (b:=(t+1+1+1+1)) Y [jd je sr,jd je ss] 71 r2).trans UZ);have bf:=O (Below.cellsFrom UC (t+1+1+1+1) (by rw[HG];omega) [jd je sr,jd je ss] 71);have aa:N (aS (λk=>t+6<=k/\k<(r2.setCells (t+1+1+1+1) 71 [jd je sr,jd je ss]).heap.size) (r2.setCells (t+1+1+1+1) 71 [jd je sr,jd je ss]) (mk1 g a m z init seed) q):=O ((a6.keep (λk hk=>tZ Y _ _ _)).mono (λk hk=>by rw[yx];exact hk));clear s1;generalize r2.setCells (t+1+1+1+1) 71 [jd je sr,jd je ss]=V at bc bd bf aa⊢;clear US UZ UC a6;have Zr:=bc;have b6:=bd;have VZ:=bf;have ad:=aa;clear bc bd bf aa
 go_upto_region 41 with fail
 refine jL ?_;refine di (λW'=>W'.heap[(t+1+1+1+1)]?=T (ja Y3 34 (0,0))/\W'.heap[(t+1+1+1+1+1)]?=T (ja SA 63 (0,0))) (.t 0 (.t 1 (.o 2 (.o 3 (.t 4 .done))))) af af af G (λ_ _ _ _ h=>h) ⟨Zr,b6⟩ ?_;obtain⟨u0,UV⟩:=J V.drew;have d:=bV V;rw[<-UV]at d⊢;have ct:=ae Zr d;have cu:=ae b6 d;have ZI:=ah VZ d;have aa:=O (ad.later d);clear d UV Zr b6 VZ ad;have U4:=ct;clear ct;have Va:=cu;clear cu;have UB:=ZI;clear ZI;have Q:=aa;clear aa
 (refine aW (v:=jh Y3) I aj (λW' hS=>mF oj I Wh I I hS.1) (L ?_))
 (refine aW (v:=jh SA) I aj (λW' hS=>mF jW I fe I I hS.2) (L ?_))
 refine aE I (λK' C=>?_);rw[jr aj];refine jR 34 _ _ I (t+1+1+1+1) Y3 I I 34 _ U4.out Wh I cx ?_;rw[rx U4];refine C _ _ ⟨U4,Va⟩ λ_=>?_
 clear C;refine L ?_;refine aE I (λK' C=>?_);rw[jr aj];refine jR 63 _ _ I (t+1+1+1+1+1) SA I I 63 _ Va.out fe I h5 ?_;rw[rx Va];refine C _ _ ⟨U4,Va⟩ λ_=>?_
 clear C;refine L ?_;refine aQ ?_;refine pz ?_
 go_wp2_with fail
 refine qk (F2 I _ _ (t+1+1+1+1) (t+1+1+1+1+1) 34 63 Y3 SA (0,0) (0,0) _ _ I I U4 Va oj I Wh jW I fe) I ⟨λ_=>⟨q,?_,?_⟩,λh=>ju ki h,UB⟩
 ·rw[c5,hB,qJ]
  rfl
 rw[qJ];exact(Rq (x:=X) Q).mono (λk hk=>⟨by have h1:=HG.out;have h2:=hk.1;omega,hk.2⟩)
noncomputable def VY:VarT jo:=⟨63,32,(cH.map v8).toArray,_,jW,I,by kernel_rfl,by rfl,λ_=>by kernel_rfl⟩
def kzA(b:n0 8):jq jl:=((kz b).map v8).toArray
def kzN(n:jb):jq jl:=(jH .u8 n::xg 31 (jH .u8 0)).toArray
theorem Me(b:n0 8):kzA b=kzN b.toNat:=by unfold kzA kzN kz;rw[j1,List.map_replicate];rfl
theorem JU(b:n0 8)(c:C.op=.build 63 #[(0,R)])(d:o.eval R=v8 b)(W:jj):(jQ o.eval C).run jo W=.ok (.value (jh (kzA b))) W:=by
 have h:∀n:jb,(Instr.build 63 #[(0,jd .u8 n)]).run jo W=.ok (jh (kzN n)) W:=λn=>by kernel_rfl
 rw[Me];have e:o.eval R=jd .u8 (b.toNat:jb):=d;simp only[jQ,c,qb,j1,jY,e,Sem.run_bind,h,Result.andThen_ok,Sem.run_pure]
theorem Dc(b:n0 8)(w:jj):jB jo 46 #[v8 b] w λe w'=>e=jz (jh (kzA b))/\jk w w w':=by
 obtain⟨K,a⟩:=J (kzA b);have c:N (K.size=VY.n):=O (by rw[a];rfl);have f:N (K.all (·.oneCell')=ji):=O (by rw[a,jS];exact λu d=>im (kz b) u (by unfold kzA at d;simpa using d));have d:=O a;rw[<-a];clear a
 go_enter func46,ntmps46
 go_upto_region 1 with(first|(refine VY.made I I (L ?_)))
 go_wp2_with (first|(refine eB (v:=jh K) aj (by rw[d];exact JU b I I _) ?_;refine L ?_)|(refine VY.first I I I K I c f (L ?_)))
 obtain⟨x1,g,a,h,i,j⟩:=dl w K VY.t;rw[<-a];exact sq (v:=jh K) (sv I _ _ w.heap.size VY.t _ (0,0) _ I (h▸i.out) jW I (by rw[c];exact VY.hi)) I ⟨I,j⟩
theorem Pp{y:j0}(b:C.op=.build 56 #[(0,.const (jd je 2)),(1,R),(4,y)])(f:o.eval R=jd je d)(g:o.eval y=jd je K)(W:jj):
 (jQ o.eval C).run jo W=.ok (.value (jh (ap.cells ⟨2,d,0,0,K⟩).toArray)) W:=by
 have h:∀d K:jb,(Instr.build 56 #[(0,jd je 2),(1,jd je d),(4,jd je K)]).run jo W=.ok (jh (ap.cells ⟨2,d,0,0,K⟩).toArray) W:=λd K=>by kernel_rfl
 have e:o.eval (.const (jd je 2))=jd je 2:=I;simp only[jQ,b,qb,j1,jY,f,g,e,Sem.run_bind,h,Result.andThen_ok,Sem.run_pure]
theorem Er(x:ap):x.cells.toArray.size=VH.n/\x.cells.toArray.all (·.oneCell')=ji:=⟨I,by
 rw[jS];exact λu a=>EC.one x u (show u∈ap.cells _ by simpa using a)⟩
theorem Gu(d c:jb)(w:jj):jB jo 13 #[jd je d,jd je c] w λe w'=>e=jz (jh (ap.cells ⟨2,d,0,0,c⟩).toArray)/\jk w w w':=by
 obtain⟨K,b⟩:=J ((ap.cells ⟨2,d,0,0,c⟩).toArray);have a:=O (Er ⟨2,d,0,0,c⟩);have f:=O b;rw[<-b]at a⊢;clear b
 go_enter func13,ntmps13
 go_upto_region 1 with(first|(refine VH.made I I (L ?_)))
 go_wp2_with (first|(refine eB (v:=jh K) aj (by rw[f];exact Pp I I I _) ?_;refine L ?_)|(refine VH.first I I I K I a.1 a.2 (L ?_)))
 obtain⟨x1,g,b,h,i,j⟩:=dl w K VH.t;rw[<-b];exact sq (v:=jh K) (sv I _ _ w.heap.size VH.t _ (0,0) _ I (h▸i.out) sn I (by rw[a.1];exact VH.hi)) I ⟨I,j⟩
theorem Mk{y z:j0}{q:jb}(b:C.op=.build 56 #[(0,.const (jd je 1)),(1,R),(2,y),(3,z)])(c:o.eval R=jd je d)(f:o.eval y=jd je K)(g:o.eval z=jd je q)(W:jj):
 (jQ o.eval C).run jo W=.ok (.value (jh (ap.cells ⟨1,d,K,q,0⟩).toArray)) W:=by
 have h:∀d K q:jb,(Instr.build 56 #[(0,jd je 1),(1,jd je d),(2,jd je K),(3,jd je q)]).run jo W=.ok (jh (ap.cells ⟨1,d,K,q,0⟩).toArray) W:=λd K q=>by kernel_rfl
 have e:o.eval (.const (jd je 1))=jd je 1:=I;simp only[jQ,b,qb,j1,jY,c,f,g,e,Sem.run_bind,h,Result.andThen_ok,Sem.run_pure]
theorem FK(d:jc)(q:d<512)(w:jj):jB jo 12 #[jd je d] w λe w'=>e=jz (jh (cR d).cells.toArray)/\jk w w w':=by
 obtain⟨x1,c,j,k,a,l⟩:=dl w chZ.cells.toArray VH.t;have f:N (∀W,jB jo 47 #[jd je ((d:jb)+2)] W λe w'=>e=jz (jI #[jd je (aY 4 (d+2):jc),jd je 0])/\jk W W w'):=O (λW=>by
  rw[show(d:jb)+2=((d+2:jc):jb) by omega];exact Ae (d+2) Y Y W)
 obtain⟨p,g⟩:∃y:jb,y=((aY 4 (d+2):jc):jb):=⟨_,I⟩;obtain⟨K,h⟩:=J ((cR d).cells.toArray);have n:N (K=(ap.cells ⟨1,d,p,p,0⟩).toArray):=O (by rw[h,g];rfl);have b:=O (Er (cR d));rw[<-g]at f;rw[<-h]at b⊢;have o:=O j;have m:=O k;have i:=O l;clear g h j k l
 go_enter func12,ntmps12
 go_upto_region 1 with(first|(refine VH.made I I (L ?_)))
 change Code.wp _ _ _ _ (w.alloc (ja chZ.cells.toArray VH.t));rw[<-o,<-m]
 go_wp2_with fail
 refine(f _).mono ?_;rintro e h ⟨rfl,g⟩;replace a:=ae a g;replace i:=ah i g;clear g f;have f:=O (jT h c _ K _ _ a.out);have g:=O (ob i (j5 m.symm) K)
 go_wp2_with (first|(refine eB (v:=jh K) aj (by rw[n];exact Mk I I I I _) ?_;refine L ?_)|(refine VH.store I I I K I b.1 b.2 a I (L ?_)))
 generalize h.setRow c K=j at f g⊢;exact sq (v:=jh K) (sv I _ _ c VH.t _ (0,0) _ I f sn I (by rw[b.1];exact VH.hi)) I ⟨I,g⟩
section
section
variable {P:p6} {ops:jq jK} {Q:Exit->Act->jj->Prop} {md:Region.Mode} {S:jj->Prop}
def tj(P:p6)(ops:jq jK)(S:jj->Prop):jg jc->(Act->jj->Prop)->Act->jj->Prop
 |[],K,a,w=>K a w
 |i::r,K,a,w=>∃o v,ops[i]?=T o/\fR P ops S o v a/\tj P ops S r K (a.put o.dst v) w
def vJ(md:Region.Mode)(ops:jq jK):jg jc->jq jC->jC
 |[],_=>ji
 |i::r,a=>Region.free md ops a i&&(Region.ready md ops a).contains i&&vJ md ops r (a.setIfInBounds i ji)
def oo:jg jc->jq jC->jq jC
 |[],a=>a
 |i::r,a=>oo r (a.setIfInBounds i ji)
theorem If(k:Region.noSelect ops=ji)(m:∀c a b w,Q (.panic c) a w->Q (.panic c) b w){K:Act->jj->Prop}{n:jc}{g:jq jC}(p:∀a w,K a w->ik P md ops Q S ops.size n g a w):
 ∀(l:jg jc) (b:jq jC) (a:Act) (w:jj),vJ md ops l b=ji->oo l b=g->S w->tj P ops S l K a w->ik P md ops Q S ops.size (n+l.length) b a w
 |[],b,a,w,_,e,_,h=>by
  have d:b=g:=e;rw[d];exact p a w h
 |i::r,b,a,w,f,e,q,⟨o,v,s,t,h⟩=>by
  simp only[vJ,nv]at f;refine wh s (Region.noSelect_spec k) (λc a d v w=>m c _ a w) (n+r.length) b a w (Region.free_spec s f.1.1) (λj c d u _=>(Ed j c d u).elim) (ak f.1.2) t q (If k m p r _ _ _ f.2 e q h)
def kX(md:Region.Mode)(ops:jq jK)(e f:jc)(g:jq jC):jc->jg (jc×jC)->jC->jC->jq jC->jC
 |0,b,c,d,a=>b.isEmpty&&c&&d&&(a==g)
 |n+1,b,c,d,a=>match b.head? with
  |some (k,ji)=>Region.free md ops a k&&(Region.ready md ops a).contains k&&kX md ops e f g n b.tail c d (a.setIfInBounds k ji)
  |_=> !(Region.ready md ops a).isEmpty&&(Region.ready md ops a).all λi=>
   (b.head?==T (i,jn)&&kX md ops e f g n b.tail c d (a.setIfInBounds i ji))||(i==e&& !c&&kX md ops e f g n b ji d (a.setIfInBounds i ji))||(i==f&& !d&&kX md ops e f g n b c ji (a.setIfInBounds i ji))
theorem tR{s t:jc}{u:jq jC}{l:jg (jc×jC)}{fe:jc}(x:Region.noSelect ops=ji)(y:∀c a r w,Q (.panic c) a w->Q (.panic c) r w)(g:jc->jC->jC->Act->jj->Prop)(q:∀j b f a w,g j b f a w->S w)
 (z:∀j i,l[j]?=T (i,ji)->∀b f a w,g j b f a w->∃o v,ops[i]?=T o/\fR P ops S o v a/\g (j+1) b f (a.put o.dst v) w) (B:∀j i,l[j]?=T (i,jn)->∀b f a w,g j b f a w->wpOp P ops Q i (g (j+1) b f) a w) (C:∀j f a w,g j jn f a w->wpOp P ops Q s (g j ji f) a w) (D:∀j b a w,g j b jn a w->wpOp P ops Q t (g j b ji) a w)
 (E:∀a w,g l.length ji ji a w->ik P md ops Q S ops.size fe u a w):
 ∀(n j:jc) (b f:jC) (p:jq jC) (a:Act) (w:jj),j<=l.length->kX md ops s t u n (l.drop j) b f p=ji->g j b f a w->ik P md ops Q S ops.size (fe+n) p a w
 |0,j,b,f,p,a,w,F,m,h=>by
  simp only[kX,nv,beq_iff_eq,List.isEmpty_iff,List.drop_eq_nil_iff]at m;obtain⟨⟨⟨d,rfl⟩,rfl⟩,rfl⟩:=m;obtain rfl:j=l.length:=Y;exact E a w h
 |n+1,j,b,f,p,a,w,F,m,h=>by
  rw[kX,List.head?_drop]at m
  by_cases K:∃k,l[j]?=T (k,ji)
  ·obtain⟨k,e⟩:=K
   rw[e]at m;simp only[nv]at m;have H:j<l.length:=(jU.1 e).1;obtain⟨o,v,M,R,U⟩:=z j k e b f a w h;rw[xh]at m;refine wh M (Region.noSelect_spec x) (λc a d v w=>y c _ a w) (fe+n) p a w (Region.free_spec M m.1.1) (λj c F d _=>(Ed j c F d).elim) (ak m.1.2) R (q _ _ _ _ _ h) (tR x y g q z B C D E n (j+1) b f _ _ w H m.2 U)
  have d:(!(Region.ready md ops p).isEmpty&&(Region.ready md ops p).all λi=>
   (l[j]?==T (i,jn)&&kX md ops s t u n (l.drop j).tail b f (p.setIfInBounds i ji))||(i==s&& !b&&kX md ops s t u n (l.drop j) ji f (p.setIfInBounds i ji))||(i==t&& !f&&kX md ops s t u n (l.drop j) b ji (p.setIfInBounds i ji)))=ji:=by
   split at m
   ·rename_i k e
    exact ju ⟨k,e⟩ K
   exact m
  simp only[nv,xi]at d;refine λ_=>⟨λv=>(by rw[v]at d;simp at d),λi M=>?_⟩
  have o:=d.2 i M;simp only[xj,nv,beq_iff_eq,Bool.not_eq_true']at o
  rcases o with(⟨e,k⟩|⟨⟨rfl,rfl⟩,k⟩)|⟨⟨rfl,rfl⟩,k⟩
  ·rw[xh]at k
   have H:j<l.length:=(jU.1 e).1;exact wpOp_mono (λr w' c=>⟨.inr (q _ _ _ _ _ c),tR x y g q z B C D E n (j+1) b f _ r w' H k c⟩) (B j i e b f a w h)
  ·exact wpOp_mono (λr w' c=>⟨.inr (q _ _ _ _ _ c),tR x y g q z B C D E n j ji f _ r w' F k c⟩) (C j f a w h)
  exact wpOp_mono (λr w' c=>⟨.inr (q _ _ _ _ _ c),tR x y g q z B C D E n j b ji _ r w' F k c⟩) (D j b a w h)
theorem uy{r:jc}{a:Act}{w:jj}(S:jj->Prop)(g:jg jc)(b:jg (jc×jC))(h k:jc)(t:bE)(d:jc->jC->jC->Act->jj->Prop)(s:P.follows .mixedOrders=ji)(l:Region.noSelect ops=ji)
 (u:vJ .any ops g (qh ops.size jn)=ji) (x:kX .any ops h k (oo (b.map Prod.fst++[h,k]) (oo g (qh ops.size jn))) (b.length+2) b jn jn (oo g (qh ops.size jn))=ji)
 (y:gB .any ops t (oo (b.map Prod.fst++[h,k]) (oo g (qh ops.size jn)))=ji) (H:g.length+(b.length+2)+t.len<=ops.size) (m:∀c a p w,Q (.panic c) a w->Q (.panic c) p w)
 (z:S w.drew) (q:∀j c e a w,d j c e a w->S w)
 (B:∀j i,b[j]?=T (i,ji)->∀c e a w,d j c e a w->∃o v,ops[i]?=T o/\fR P ops S o v a/\d (j+1) c e (a.put o.dst v) w) (o:∀j i,b[j]?=T (i,jn)->∀c e a w,d j c e a w->wpOp P ops Q i (d (j+1) c e) a w) (i:∀j e a w,d j jn e a w->wpOp P ops Q h (d j ji e) a w) (v:∀j c a w,d j c jn a w->wpOp P ops Q k (d j c ji) a w)
 (j:∀a w,d b.length ji ji a w->eU P ops Q S t a w) (C:tj P ops S g (d 0 jn jn) a w.drew):(Code.region r ops ji).wp P Q a w:=by
 refine wp_region_any s (rS (S:=S) (f:=ops.size) _ _ _ _ (iM.zero _) ?_);have e:ops.size=(ops.size-g.length-(b.length+2))+(b.length+2)+g.length:=Y;have key:=If (md:=.any) (S:=S) l m (K:=d 0 jn jn) (n:=ops.size-g.length-(b.length+2)+(b.length+2)) (λp w' D=>tR (md:=.any) (fe:=ops.size-g.length-(b.length+2)) l m d q B o i v (λE F c=>kF l m t _ _ _ _ Y y (bE.waits_size t) (.inr (q _ _ _ _ _ c)) (eO.toF t _ _ (j E F c))) (b.length+2) 0 jn jn _ p w' (jO _) x D) g _ a w.drew u I z C;rw[<-e]at key;exact key
theorem nO{i:jc}{o:jK}{v:jl}{r:jg jc}{K:Act->jj->Prop}{a:Act}{w:jj}(b:ops[i]?=T o)(c:Region.wanted o (yielded ops a.tmps)=ji)
 (d:∀w,S w->(jQ a.eval o).run P w=.ok (.value v) w) (h:tj P ops S r K (a.put o.dst v) w):tj P ops S (i::r) K a w:=
 ⟨o,v,b,.inl ⟨c,λw e=>.inl (d w e)⟩,h⟩
end
end
theorem kzl(b:n0 8):(kz b).length=32:=by unfold kz;simp
structure gI(w:jj):Prop where
 t:lz w
 s:iC w
theorem gI.below(h:gI w)(a:jk w w w'):gI w':=⟨h.t.below a,h.s.below a⟩
abbrev ptr(g:jc):jl:=jt (T ⟨g,0,jf⟩)
def ir(c:jM)(Z:jq jl)(d:jj)(b:jC)(a:jl)(W:jj):Prop:=
 (b=ji->∃g,a=ptr g/\W.heap[g]?=T (ja Z c (0,0))/\d.heap.size<=g)/\(b=jn->a=jm)
theorem ir.keep{a:jM}{Z:jq jl}{c d:jj}{b:jC}{f:jl}(h:ir a Z c b f W)(i:jk W W d):ir a Z c b f d:=
 ⟨λe=>let⟨g,j,k,l⟩:=h.1 e;⟨g,j,av k i,l⟩,h.2⟩
theorem ir.ne{X:jq jl}{b:jC}(h:ir r X w b m W){g:jc}(i:W.heap.size<=g):m≠ptr g:=by
 cases b with
 |true=>
  obtain⟨k,rfl,f,-⟩:=h.1 I;intro e;injection e with e
  injection e with e
  injection e with e
  have:=(jA.1 f).1;omega
 |false=>rw[h.2 I];intro e;cases e
def PU(b:jj)(M:jc)(e:jq jl)(d:jc)(V:jl)(f:jG Addr)(h cl:jc)(i l:jq jl)(c:Cmt)(k:jq jl)(j:jc)(m n:jC)(a:Act)(W:jj):Prop:=
 ∃WQ T12 T16 T23 T24 T26 T27 T28 T29 T30,a={tmps:=#[jh e,jd je (d:jb),V,A f h cl,ptr M,jm,jm,jm,ptr (M+1),ptr (M+2),.bool jn,WQ,T12,jm,jm,jm,T16,jh e,jd je (d:jb),jd je (d:jb),jd je ((d:jb)+2),A f h cl,V,T23,T24,V,T26,T27,T28,T29,T30,jm,jm,jm,jm,jm,jm,jm,jm,jm,jm,jm,jm,jm,jm],defers:=[]}/\jk b b W/\(1<=j->T23=jh i)/\(2<=j->T24=jh l)/\(3<=j->T26=jh i)/\
  (4<=j->∃(q:CQ) (D:jc->Prop),(T27=jI #[jh (aF c q).toArray,jh k,jd je 0]/\(5<=j->T16=T27)/\(6<=j->T28=jh (aF c q).toArray)/\(7<=j->T29=jh k)/\(8<=j->T30=jd je 0))/\aS D W c q/\∀g,D g->b.heap.size<=g/\g<W.heap.size/\WQ≠ptr g/\T12≠ptr g)/\
  ir VC.t VC.Z b m WQ W/\ir VY.t VY.Z b n T12 W
theorem RU(g:Grp)(vm vt:jl)(d:jc)(m:d<512)(b:n0 8)(vl:jl)(ch:jg ap)(w:jj)(j:bU w g vm vt)(p:aH (·<w.heap.size) w vl 5 ch.length (ch.flatMap ap.cells))(hT:gI w)(t:gY g (d:jb) ((d+2:jc):jb) ch=0)
 (c:Cmt) (X:c=mkC g (d:jb) (d+2) ch (kz b) (kz 1) (kz b)) (hn:cA g c=0) (hE:cY (aR c)) (x:g.mem.length<=900000) (B:g.tree.length<=600000) (ba:ch.length<=1000000):
 jB jo 11 #[jh (aD g vm vt).toArray,jd je (d:jb),v8 b,vl] w λe w'=>∃q y z,e=jz (jI #[jh (aF c q).toArray,jh (aD (aC g c) y z).toArray,.bool ji])/\
  aS (λk=>w.heap.size<=k/\k<w'.heap.size) w' c q/\bU w' (aC g c) y z/\Fr w.heap.size y/\Fr w.heap.size z/\jk w w w':=by
 obtain⟨pl,cl,rfl⟩:=p.form;obtain⟨nl,C⟩:=J ch.length;obtain⟨U,i⟩:=J ((aD g vm vt).toArray);obtain⟨KA,D⟩:=J (kzA b);obtain⟨K1,E⟩:=J (kzA 1);obtain⟨s,l⟩:=J (((dK g (kz b) (kz 1)).map v8).toArray);obtain⟨NG,F⟩:=J (aC g c);have bm:N (U.size=VG.n):=O (by rw[i,jv];exact eE j.llen);have bn:N (∀W,jk w w W->jB jo 45 #[jh U,jd je (d:jb),jd je ((d:jb)+2),A pl nl cl,jh KA,jh K1,jh KA] W λe w'=>(∃q,e=jz (jI #[jh (aF c q).toArray,jh s,jd je 0])/\aS (λk=>W.heap.size<=k/\k<w'.heap.size) w' c q)/\jk W W w'):=O (λW a=>by
  have h:=R0 g vm vt (A pl ch.length cl) (d:jb) ((d+2:jc):jb) ch (kz b) (kz 1) (kz b) W (j.below a) ((p.keep λk n=>a.block k n).mono λk (n:k<w.heap.size)=>jJ n a.size) (kzl _) (kzl _) (kzl _) (hT.t.below a) (hT.s.below a) x B ba t;rw[t]at h;rw[i,D,E,l,C,show(d:jb)+2=((d+2:jc):jb) by omega];refine h.mono ?_;rintro e w' ⟨h1,-,f⟩;have r:=h1 I;rw[qJ,<-X]at r;exact⟨r,f⟩)
 have bw:N (∀W q,jk w w W->aS (·<W.heap.size) W c q->jB jo 7 #[jh U,jh (aF c q).toArray] W λe w'=>(∃vm vt,e=jz (jI #[jh (aD NG vm vt).toArray,jd je 0])/\bU w' NG vm vt/\Fr W.heap.size vm/\Fr W.heap.size vt)/\jk W W w'):=O (λW q a r=>by
  rw[i,F];refine(yV g vm vt c q W (j.below a) r hE (hT.s.dig.below a) x B).mono ?_;rintro e w' ⟨h1,-,f⟩;exact⟨h1 hn,f⟩)
 have au:N (∀W,jB jo 46 #[v8 b] W λe w'=>e=jz (jh KA)/\jk W W w'):=O (λW=>by rw[D];exact Dc b W);have bo:N (∀W,jB jo 46 #[jd .u8 1] W λe w'=>e=jz (jh K1)/\jk W W w'):=O (λW=>by rw[E];exact Dc 1 W);have a6:N (s.size=VY.n/\s.all (·.oneCell')=ji):=O ⟨by rw[l,jv,jw,lH];rfl,by rw[l,jS];exact λu hu=>im _ u (ak hu)⟩;rw[<-i];rw[<-C];obtain⟨P,H⟩:∃P:Ending->jj->Prop,P=λe w'=>∃q y z,e=jz (jI #[jh (aF c q).toArray,jh (aD (aC g c) y z).toArray,.bool ji])/\
  aS (λk=>w.heap.size<=k/\k<w'.heap.size) w' c q/\bU w' (aC g c) y z/\Fr w.heap.size y/\Fr w.heap.size z/\jk w w w':=⟨_,I⟩
 have HP:N (∀e w',(∃q y z,e=jz (jI #[jh (aF c q).toArray,jh (aD NG y z).toArray,.bool ji])/\aS (λk=>w.heap.size<=k/\k<w'.heap.size) w' c q/\bU w' NG y z/\Fr w.heap.size y/\Fr w.heap.size z/\jk w w w')->P e w'):=O (by
  rw[H,F];exact λe w' h=>h)
 rw[<-H];obtain⟨x1,M,K,Q,Vf,f⟩:=dl w U VG.t;obtain⟨x2,M1,ax,R,Vt,aa⟩:=dl x1 VC.Z VC.t;obtain⟨x3,M2,Zs,S,bb,a⟩:=dl x2 VG.Z VG.t;have e1:M1=M+1:=by rw[R,K,jp,Q]
 have e2:M2=M+2:=by rw[S,ax,jp,<-R,e1]
 subst e1;subst e2;have V:=f.trans (aa.mono f.size);replace Vf:=O (av (av Vf aa) a);replace Vt:=ae Vt a;have HB:N (jk w w x3):=O (V.trans (a.mono V.size));have HW:N (x3=((w.alloc (ja U VG.t)).alloc (ja VC.Z VC.t)).alloc (ja VG.Z VG.t)):=O (by rw[Zs,ax,K]);have HM:=O Q;have ZL:N (x3.heap.size=M+3):=O (by rw[Zs,jp,<-S]);clear K ax Zs Q R S f aa a V i D E l F H j p hT t X hn hE x B ba C
 go_enter func11,ntmps11
 go_upto_region 1 with(first|(refine VC.made I I (L ?_))|(refine VG.made I I (L ?_)))
 rw[show((w.alloc (ja U 45)).alloc (ja VC.Z VC.t)).alloc (ja VG.Z VG.t)=x3 from HW.symm]
 try simp only[jp]
 try rw[show w.heap.size+1+1=w.heap.size+2 from I]
 rw[<-HM];clear HW;obtain⟨V,a⟩:=J (v8 b);rw[<-a]at au⊢;clear a;have f:=bV x3;obtain⟨x4,hx⟩:=J x3.drew;rw[<-hx]at f;have bp:=O hx;replace Vf:=ae Vf f;replace Vt:=ae Vt f;replace bb:=ae bb f;replace HB:=ah HB f;have bq:N (M+3<=x4.heap.size):=O (by rw[<-ZL];exact f.size);clear hx f ZL;refine jL ?_;refine uy (λt=>t.heap[M]?=T (ja U VG.t (0,0))) [0,1,2,3,4,5,8] [(6,jn),(7,jn),(9,jn),(10,jn),(11,ji),(12,ji),(13,ji),(14,ji)] 15 16 (.o 17 (.o 18 (.t 19 .done))) (PU x4 M U d V pl nl cl KA K1 c s) af af af af af G (λ_ _ _ _ h=>h) (by rw[<-bp];exact Vf) ?hI ?hT ?hC ?h1 ?h2 ?hE ?h0
 case hI=>
  rintro j X b2 a W ⟨WQ,T12,T16,T23,T24,T26,T27,T28,T29,T30,rfl,l,-⟩;exact av Vf l
 case h1=>
  rintro j b2 a W ⟨WQ,T12,T16,T23,T24,T26,T27,T28,T29,T30,rfl,l,F,H,Q,S,B,E⟩;refine qd (o:=_) I (λK' x=>?_);rw[jr aj];refine fS VC.t I VC.Z VC.hal ?_;have f:=ao W (ja VC.Z VC.t);refine x _ _ ⟨ptr W.heap.size,T12,T16,T23,T24,T26,T27,T28,T29,T30,I,l.trans (f.mono l.size),F,H,Q,λe=>?_,⟨λ_=>⟨_,I,jy _ _,l.size⟩,λh=>(by cases h)⟩,E.keep f⟩;obtain⟨q,D,K,r,m⟩:=S e;exact⟨q,D,K,r.keep λg p=>f.block g (m g p).2.1,λg p=>⟨(m g p).1,jJ (m g p).2.1 f.size,(λe=>by injection e with e;injection e with e;injection e with e;have:=(m g p).2.1;omega),(m g p).2.2.2⟩⟩
 case h2=>
  rintro j X a W ⟨WQ,T12,T16,T23,T24,T26,T27,T28,T29,T30,rfl,l,F,H,Q,S,B,E⟩;refine qd (o:=_) I (λK' x=>?_);rw[jr aj];refine fS VY.t I VY.Z VY.hal ?_;have f:=ao W (ja VY.Z VY.t);refine x _ _ ⟨WQ,ptr W.heap.size,T16,T23,T24,T26,T27,T28,T29,T30,I,l.trans (f.mono l.size),F,H,Q,λe=>?_,B.keep f,⟨λ_=>⟨_,I,jy _ _,l.size⟩,λh=>(by cases h)⟩⟩;obtain⟨q,D,K,r,m⟩:=S e;exact⟨q,D,K,r.keep λg p=>f.block g (m g p).2.1,λg p=>⟨(m g p).1,jJ (m g p).2.1 f.size,(m g p).2.2.1,(λe=>by injection e with e;injection e with e;injection e with e;have:=(m g p).2.1;omega)⟩⟩
 case h0=>
  rw[<-bp]
  (refine nO (v:=jh U) I aj (λt R=>cU VG.hu VG.hd (by rw[bm];exact VG.hi) I I R) ?_;refine L ?_)
  iterate 2 (refine nO (v:=jd je (d:jb)) I aj (λt R=>by go_simp;try with_reducible rfl) ?_;refine L ?_)
  (refine nO (v:=jd je ((d:jb)+2)) I aj (λt R=>by have e:=wrap_small ((d:jb)+2) Y Y;go_simp;try rw[e];try with_reducible rfl) ?_;refine L ?_)
  (refine nO (v:=A pl nl cl) I aj (λt R=>by go_simp;try with_reducible rfl) ?_;refine L ?_)
  iterate 2 (refine nO (v:=V) I aj (λt R=>by go_simp;try with_reducible rfl) ?_;refine L ?_)
  exact⟨jm,jm,jm,jm,jm,jm,jm,jm,jm,jm,I,qe _ _,λh=>ju h G,λh=>ju h G,λh=>ju h G,λh=>ju h G,⟨λh=>(by cases h),λ_=>rfl⟩,⟨λh=>(by cases h),λ_=>rfl⟩⟩
 case hT=>
  rintro j i C X b2 a W ⟨WQ,T12,T16,T23,T24,T26,T27,T28,T29,T30,rfl,l,F,H,Q,S,B,E⟩
  rcases j with _ |_ |_ |_ |_ |_ |_ |_ |j
  iterate 4 (·simp at C)
  ·obtain rfl:i=11:=ak C.symm
   obtain⟨q,D,K,r,m⟩:=S Y;refine⟨_,T27,I,.inl ⟨by rfl,λt R=>.inl (by go_simp;try with_reducible rfl)⟩,?_⟩;exact⟨WQ,T12,T27,T23,T24,T26,T27,T28,T29,T30,I,l,λ_=>F Y,λ_=>H Y,λ_=>Q Y,λ_=>⟨q,D,⟨K.1,λ_=>rfl,(λh=>ju h Y),(λh=>ju h Y),(λh=>ju h Y)⟩,r,m⟩,B,E⟩
  ·obtain rfl:i=12:=ak C.symm
   obtain⟨q,D,⟨rfl,ad,ay,a2,a3⟩,r,m⟩:=S Y;obtain rfl:=ad Y;refine⟨_,jh (aF c q).toArray,I,.inl ⟨by rfl,λt R=>.inl (by go_simp;try with_reducible rfl)⟩,?_⟩;exact⟨WQ,T12,_,T23,T24,T26,_,_,T29,T30,I,l,λ_=>F Y,λ_=>H Y,λ_=>Q Y,λ_=>⟨q,D,⟨I,λ_=>rfl,λ_=>rfl,(λh=>ju h Y),(λh=>ju h Y)⟩,r,m⟩,B,E⟩
  ·obtain rfl:i=13:=ak C.symm
   obtain⟨q,D,⟨rfl,ad,ay,a2,a3⟩,r,m⟩:=S Y;obtain rfl:=ad Y;refine⟨_,jh s,I,.inl ⟨by rfl,λt R=>.inl (by go_simp;try with_reducible rfl)⟩,?_⟩;exact⟨WQ,T12,_,T23,T24,T26,_,T28,_,T30,I,l,λ_=>F Y,λ_=>H Y,λ_=>Q Y,λ_=>⟨q,D,⟨I,λ_=>rfl,λ_=>ay Y,λ_=>rfl,(λh=>ju h Y)⟩,r,m⟩,B,E⟩
  ·obtain rfl:i=14:=ak C.symm
   obtain⟨q,D,⟨rfl,ad,ay,a2,a3⟩,r,m⟩:=S Y;obtain rfl:=ad Y;refine⟨_,jd je 0,I,.inl ⟨by rfl,λt R=>.inl (by go_simp;try with_reducible rfl)⟩,?_⟩;exact⟨WQ,T12,_,T23,T24,T26,_,T28,T29,_,I,l,λ_=>F Y,λ_=>H Y,λ_=>Q Y,λ_=>⟨q,D,⟨I,λ_=>rfl,λ_=>ay Y,λ_=>a2 Y,λ_=>rfl⟩,r,m⟩,B,E⟩
  simp at C
 case hC=>
  rintro j i C X b2 a W ⟨WQ,T12,T16,T23,T24,T26,T27,T28,T29,T30,rfl,l,F,H,Q,S,B,E⟩
  rcases j with _ |_ |_ |_ |_ |_ |_ |_ |j
  ·obtain rfl:i=6:=ak C.symm
   refine qd (o:=_) I (λK' x=>?_);go_simp;refine(au W).mono ?_;rintro e t ⟨rfl,f⟩;exact x _ _ ⟨WQ,T12,T16,_,T24,T26,T27,T28,T29,T30,I,l.trans (f.mono l.size),λ_=>rfl,(λh=>ju h Y),(λh=>ju h Y),λe=>ju e Y,B.keep f,E.keep f⟩
  ·obtain rfl:i=7:=ak C.symm
   refine qd (o:=_) I (λK' x=>?_);go_simp;refine(bo W).mono ?_;rintro e t ⟨rfl,f⟩;exact x _ _ ⟨WQ,T12,T16,_,_,T26,T27,T28,T29,T30,I,l.trans (f.mono l.size),λ_=>rfl,λ_=>rfl,(λh=>ju h Y),λe=>ju e Y,B.keep f,E.keep f⟩
  ·obtain rfl:i=9:=ak C.symm
   refine qd (o:=_) I (λK' x=>?_);go_simp;refine(au W).mono ?_;rintro e t ⟨rfl,f⟩;exact x _ _ ⟨WQ,T12,T16,_,_,_,T27,T28,T29,T30,I,l.trans (f.mono l.size),λ_=>rfl,λ_=>rfl,λ_=>rfl,λe=>ju e Y,B.keep f,E.keep f⟩
  ·obtain rfl:i=10:=ak C.symm
   obtain rfl:=F Y;obtain rfl:=H Y;obtain rfl:=Q Y;refine qd (o:=_) I (λK' x=>?_);go_simp;refine(bn W (HB.trans (l.mono HB.size))).mono ?_;rintro e t ⟨⟨q,rfl,r⟩,f⟩;exact x _ _ ⟨WQ,T12,T16,_,_,_,_,T28,T29,T30,I,l.trans (f.mono l.size),λ_=>rfl,λ_=>rfl,λ_=>rfl,λ_=>⟨q,_,⟨I,(λh=>ju h Y),(λh=>ju h Y),(λh=>ju h Y),(λh=>ju h Y)⟩,r,λg p=>⟨jE l.size p.1,p.2,B.ne p.1,E.ne p.1⟩⟩,B.keep f,E.keep f⟩
  iterate 5 (·simp at C)
 rintro a W ⟨WQ,T12,T16,T23,T24,T26,T27,T28,T29,T30,rfl,l,F,H,Q,S,B,E⟩;obtain⟨q,D,⟨rfl,ad,ay,a2,a3⟩,r,m⟩:=S G;obtain rfl:=ad G;obtain rfl:=ay G;obtain rfl:=a2 G;obtain rfl:=a3 G;obtain rfl:=F G;obtain rfl:=H G;obtain rfl:=Q G;obtain⟨C,rfl,hC,bh⟩:=B.1 I;obtain⟨K,rfl,x,br⟩:=E.1 I;have bi:C≠K:=by
  rintro rfl;rw[hC]at x;simp[VC,VY]at x
 have bc:w.heap.size<=x4.heap.size:=HB.size;have bk:=bq.out;obtain⟨i,j⟩:=J ((aF c q).toArray);have a1:N (i.size=VC.n):=O (by rw[j,jv];exact dx _ _ r.plen r.clen);have bs:N (i.all (·.oneCell')=ji):=O (by
  rw[j,jS];exact λu hu=>lU r u (ak hu))
 have UW:=O (jT W C _ i _ _ hC);have bu:=(js W C K i (Ne.symm bi)).trans x;have US:=O ((js (W.setRow C i) K C s bi).trans UW);have bd:∀k,k<x4.heap.size->((W.setRow C i).setRow K s).heap[k]?=x4.heap[k]?:=λk n=>(js _ K k s Y).trans ((js W C k i Y).trans (l.block k n))
 have bf:N (((W.setRow C i).setRow K s).heap[M]?=T (ja U VG.t (0,0))):=O ((bd M Y).trans Vf);have a4:N (((W.setRow C i).setRow K s).heap[M+1]?=T (ja VC.Z VC.t (0,0))):=O ((bd (M+1) Y).trans Vt);have a5:N (((W.setRow C i).setRow K s).heap[M+2]?=T (ja VG.Z VG.t (0,0))):=O ((bd (M+2) Y).trans bb);have UC:N (jk w w ((W.setRow C i).setRow K s)):=O (ob (ob (HB.trans (l.mono bc)) (jE bc bh) i) (jE bc br) s);have bl:((W.setRow C i).setRow K s).heap.size=W.heap.size:=by rw[setRow_size,setRow_size]
 have bg:N (aS (λk=>x4.heap.size<=k/\k<((W.setRow C i).setRow K s).heap.size) ((W.setRow C i).setRow K s) c q):=O ((r.keep λg p=>(js _ K g s (λe=>(m g p).2.2.2 (by rw[e]))).trans (js W C g i (λe=>(m g p).2.2.1 (by rw[e])))).mono λg p=>⟨(m g p).1,by rw[bl];exact(m g p).2.1⟩);have VJ:N (C<((W.setRow C i).setRow K s).heap.size):=O (by rw[bl];exact(jA.1 hC).1);have bv:=O j;rw[<-j];refine aE I (λK' X=>?_);rw[jr aj];refine jR VC.t _ _ I C i I I VC.t VC.Z hC (by rw[a1];exact VC.hi) (VC.hZ.trans a1.symm) bs ?_;refine X _ _ ((js W C M i Y).trans ((l.block M Y).trans Vf)) λ_=>?_
 clear X;refine L ?_;refine aE I (λK' X=>?_);rw[jr aj];refine jR VY.t _ _ I K s I I VY.t VY.Z bu (by rw[a6.1];exact VY.hi) (VY.hZ.trans a6.1.symm) a6.2 ?_;refine X _ _ bf.out λ_=>?_
 clear X;refine L ?_;have U4:=O bh;generalize(W.setRow C i).setRow K s=y1 at US bf a4 a5 UC bg VJ⊢;clear hC x bh br l F H Q S ad ay a2 a3 B E r m bi j bu bd bl UW Vf Vt bb bn au bo a6 bc bk;refine aQ ?_;refine pz ?_
 go_wp2_with (first|(refine VG.loadA aj I I U bm bf (L ?_))|(refine VC.loadA aj I I i a1 US (L ?_)))
 have au:=bw y1 q UC (bg.mono λk n=>n.2);rw[<-bv]at au;refine au.mono ?_;rintro e y2 ⟨⟨y,z,rfl,WR,bb,bc⟩,f⟩;obtain⟨j,p⟩:=J ((aD NG y z).toArray);have a6:N (j.size=VG.n):=O (by rw[p,jv];exact eE WR.llen);have VN:N (j.all (·.oneCell')=ji):=O (by rw[p,jS];exact λu hu=>mi WR u (ak hu));have bl:=O p;have bh:=O (dN.of WR bb bc);have bi:N (aS (λk=>x4.heap.size<=k/\k<y2.heap.size) y2 c q):=O ((bg.keep λk n=>f.block k n.2).mono λk n=>⟨n.1,jJ n.2 f.size⟩);have HF:N (Fr y1.heap.size y/\Fr y1.heap.size z):=O ⟨bb,bc⟩;replace US:=ae US f;replace a4:=ae a4 f;replace a5:=ae a5 f;have UE:=ah UC f;have bd:N (x4.heap.size<=y1.heap.size/\y1.heap.size<=y2.heap.size):=O ⟨by have:=VJ.out;have:=U4.out;omega,f.size⟩;rw[<-p];clear au WR bb bc p f bf UC bg
 go_upto_region 3 with(first|(refine VG.made I I (L ?_))|(refine VG.first I I I j I a6 VN (L ?_)))
 obtain⟨y3,bx,hx,hb,YV,f⟩:=dl y2 j VG.t;rw[<-hx,<-hb];have aa:=bV y3;obtain⟨p,bb⟩:=J y3.drew;rw[<-bb]at aa;have au:jk y2 y2 p:=f.trans (aa.mono f.size);have bc:=av YV aa;have bf:=av US au;have ax:=av a4 au;have Zs:=av a5 au;refine jL ?_;refine fb (λt=>t.heap[C]?=T (ja i VC.t (0,0))/\t.heap[bx]?=T (ja j VG.t (0,0))) 10 (.t 0 (.t 1 (.t 2 (.t 3 (.t 4 (.t 5 (.t 6 (.t 7 (.o 8 (.o 9 (.o 10 .done))))))))))) af af af af G (λ_ _ _ _ h=>h) (by rw[<-bb];exact⟨bf,bc⟩) ?_;rw[<-bb];have bg:bx=y2.heap.size:=hb;have bn:N (aS (λk=>x4.heap.size<=k/\k<y2.heap.size) p c q):=O (bi.keep λk n=>au.block k n.2);have bo:N (dN (λk=>y1.heap.size<=k/\k<y2.heap.size) p NG y z):=O (bh.keep λk n=>au.block k n.2);have UK:=ah UE au;have Yd:=O au.size;clear hx hb f aa bb au YV bi bh UE US a4 a5
 (refine cD (v:=jh i) I aj (λt R=>cU VC.hu VC.hd (by rw[a1];exact VC.hi) I I R.1) ?_;refine L ?_)
 (refine cD (v:=jh j) I aj (λt R=>cU VG.hu VG.hd (by rw[a6];exact VG.hi) I I R.2) ?_;refine L ?_)
 iterate 6 refine bX ?_
 have bk:=bq.out;have VW:=U4.out;have ba:=VJ.out;have bb:=bd.1;have R:C≠M+1:=Y;have n2:C≠M+2:=Y;have n3:bx≠M+1:=by have:=bd.2;omega
 have n4:bx≠M+2:=by have:=bd.2;omega
 have r1:=(js p (M+1) C i R).trans bf;have r2:=(js p (M+1) bx i n3).trans bc;have r3:=jT p (M+1) _ i _ _ ax;have h:=(js p (M+1) (M+2) i Y).trans Zs;refine cO I (λK' X=>?_);rw[jr aj];refine jR VC.t _ _ I (M+1) i I I VC.t VC.Z ax (by rw[a1];exact VC.hi) (VC.hZ.trans a1.symm) bs ?_;refine X _ _ ⟨r1,r2⟩ λ_=>?_
 clear X;refine L ?_;have s1:=(js (p.setRow (M+1) i) (M+2) C j n2).trans r1;have s2:=(js (p.setRow (M+1) i) (M+2) bx j n4).trans r2;have Vr:=O ((js (p.setRow (M+1) i) (M+2) (M+1) j Y).trans r3);have U0:=O (jT (p.setRow (M+1) i) (M+2) _ j _ _ h);refine cO I (λK' X=>?_);rw[jr aj];refine jR VG.t _ _ I (M+2) j I I VG.t VG.Z h (by rw[a6];exact VG.hi) (VG.hZ.trans a6.symm) VN ?_;refine X _ _ ⟨s1,s2⟩ λ_=>?_
 clear X;refine L ?_;refine nL I G af (λK' x=>?_);go_simp;refine x _ _ ?_;clear x;refine L ?_;refine eH ?_;have t:∀k,M+3<=k->((p.setRow (M+1) i).setRow (M+2) j).heap[k]?=p.heap[k]?:=λk n=>(js _ _ k _ Y).trans (js _ _ k _ Y)
 have bh:w.heap.size=M:=HM.symm;have X:N (jk w w ((p.setRow (M+1) i).setRow (M+2) j)):=O (ob (ob UK Y i) Y j);have aa:((p.setRow (M+1) i).setRow (M+2) j).heap.size=p.heap.size:=by rw[setRow_size,setRow_size]
 have au:N (aS (λk=>w.heap.size<=k/\k<((p.setRow (M+1) i).setRow (M+2) j).heap.size) ((p.setRow (M+1) i).setRow (M+2) j) c q):=O ((bn.keep λk n=>t k (cT n.1)).mono λk n=>⟨by have:=n.1;omega,by rw[aa];exact jJ n.2 Yd⟩);have a4:N (bU ((p.setRow (M+1) i).setRow (M+2) j) NG y z):=O (bo.keep λk n=>t k (cT n.1)).grp;have a5:N (Fr w.heap.size y/\Fr w.heap.size z):=O ⟨HF.1.mono Y,HF.2.mono Y⟩;clear t bh aa s1 s2 r1 r2 r3 h R n2 n3 n4 bf bc ax Zs bk VW ba bb bg;generalize(p.setRow (M+1) i).setRow (M+2) j=h at Vr U0 X au a4⊢;refine‹∀(a:Act) (w:jj),Code.wp jo Code.ret (bodyPost jo _ P) a w->_› _ _ ?_;refine wp_ret ?_;show bodyPost _ _ P .ret _ _;refine qk (F2 I _ _ (M+1) (M+2) VC.t VG.t i j (0,0) (0,0) _ _ I I Vr U0 oj I (by rw[a1];exact VC.hi) qP I (by rw[a6];exact VG.hi)) I (HP _ _ ⟨q,y,z,by rw[bv,bl];rfl,au,a4,a5.1,a5.2,X⟩)
section
open Go.RowKit Go.ChangeShapes Go.WideShapes Go.Deep
theorem ND{enc:jM×jl->H}{d:DataW H}{p:jg MemPlace}(h:DataW.Trod enc jo w 0 (λ_=>ji) ji 34 m d p)(i:Value.okWide jo w .any b 34 m):
 ∃(c:Cmt) (q:CQ),m=.agg (aF c q).toArray/\aS (·<w.heap.size) w c q/\BB c/\c.chg.length<=maxLen/\c.box.length<=maxLen/\c.wel.length<=maxLen:=by
 obtain⟨j,rfl,o⟩:=okWide_struct oj i;obtain⟨cl⟩:=j;obtain⟨fuel,a⟩:=h;have k:(Value.agg ⟨cl⟩).cells.toList=cl:=I;rw[k]at a;obtain⟨c,q,e,l,v,base,n,f,g⟩:=Cr a;exact⟨c,q,by rw[e],l,⟨v,base.2,n.2,f.2,g.2⟩,base.1,f.1,g.1⟩
theorem Lp(a:laidMetH jo tc w):gI w:=by
 obtain⟨t,s⟩:=LR a;exact⟨t,s⟩
end
theorem C0(x y:jb):cE x y<0↔x<y:=by
 unfold cE
 split
 ·constructor<;>intro<;>first|assumption|decide
 split
 ·constructor
  ·intro h;exact ju h G
  intro h;omega
 constructor
 ·intro h;exact ju h G
 intro h;omega
theorem Bs(x y:jb):cE x y=0↔x=y:=by
 unfold cE
 split
 ·constructor
  ·intro h;exact ju h G
  intro h;omega
 split
 ·constructor
  ·intro h;exact ju h G
  intro h;omega
 constructor
 ·intro h;omega
 intro h;rfl
theorem KT{b:aN}(h:x.com.author≠b.com.author):(kS x b<0↔x.since<b.since\/x.since=b.since/\x.com.author<b.com.author):=by
 unfold kS
 by_cases d:x.since=b.since
 ·rw[jF (by rw[(Bs _ _).2 d];exact λh=>h I),jr (λe=>h ((Bs _ _).1 e)),C0]
  constructor
  ·exact λc=>.inr ⟨d,c⟩
  rintro(c|c)
  ·omega
  exact c.2
 rw[jr (λe=>d ((Bs _ _).1 e)),C0]
 constructor
 ·exact .inl
 rintro(c|c)
 ·exact c
 exact ju c.1 d
def wR(g:Grp)(a b:Cmt):Prop:=eV g a.author<eV g b.author\/eV g a.author=eV g b.author/\a.author<b.author
noncomputable def cP(g:Grp)(c:Cmt)(i:jc):aN:=⟨i,c,aG c,eV g c.author,aC g c⟩
theorem Nn(x y:aN):[x,y].mergeSort leC=if leC x y=ji then [x,y]else [y,x]:=by
 cases h:leC x y with
 |true=>simp[xk,List.MergeSort.Internal.splitInTwo,List.merge,h]
 |false=>simp[xk,List.MergeSort.Internal.splitInTwo,List.merge,h]
theorem JV{y:aN}(h:x.com.author≠y.com.author)(a:pf x.com y.com.author=ji):([x,y].foldl gt ([],jf)).2=T x:=by
 have b:gt ([],jf) x=([x],T x):=by
  unfold gt;rw[jF (by unfold rT;rw[List.any_nil];decide)];unfold ww;rw[jr I];rfl
 have c:gt ([x],T x) y=([x],T x):=by
  unfold gt;rw[jr];unfold rT;rw[List.any_cons,a,bne_iff_ne.2 h];rfl
 rw[r7,r7,r8,b,c]
noncomputable def tT(l:jg Cmt)(S:jg aN)(k:jc):jg aN:=match S[k]? with|none=>S|some c=>S++eS c.leads l
noncomputable def eG(l:jg Cmt)(c:aN):jc->jg aN
 |0=>[c]
 |k+1=>tT l (eG l c k) k
noncomputable def sQ(l:jg Cmt)(c:aN):jg aN:=eG l c l.length
theorem GQ(h:S.length<=b):tT a S b=S:=by
 unfold tT;rw[List.getElem?_eq_none h]
theorem rh{l:jg Cmt}{k:jc}{c:aN}(h:S[k]?=T c):tT l S k=S++eS c.leads l:=by
 unfold tT;rw[h]
structure fh(l:jg Cmt)(g:Grp)(c:aN):Prop where
 ok:gT g l c
 par:c.com.parent=g.last
 least:∀j,j<c.ix->aG (aP l j)≠c.id
theorem fh.ofU(h:x∈ez e a):fh a e x:=by
 obtain⟨l,b,-,d⟩:=oE h;exact⟨l,b,d⟩
theorem fh.com{g':Grp}{d:aN}(h:fh a e x)(b:fh a g' d)(g:x.id=d.id):x.com=d.com:=by
 have f:x.ix=d.ix:=by
  rcases xl x.ix d.ix with l|l|l
  ·exact ju (by rw[<-h.ok.com,<-h.ok.id];exact g) (b.least _ l)
  ·exact l
  exact ju (by rw[<-b.ok.com,<-b.ok.id];exact g.symm) (h.least _ l)
 rw[h.ok.com,b.ok.com,f]
theorem fh.last{l:jg Cmt}{g:Grp}{c:aN}(h:fh l g c):c.leads.last=c.id:=by rw[h.ok.leads,AK,h.ok.id]
theorem fh.epoch(h:fh a e x):x.leads.epoch=e.epoch+1/\x.com.epoch=e.epoch+1:=by
 have l:=(rX h.ok).ep;exact⟨by rw[h.ok.leads,iB];exact l,l⟩
theorem K9(g:Grp)(l:jg Cmt):((ez g l).map aN.id).Nodup:=by
 unfold ez;have n:(bH l l.length).Nodup:=by
  unfold bH;exact(List.nodup_range).filter _
 have key:∀(a:jg jc),a.Nodup->(∀i∈a,i∈bH l l.length)->((a.filterMap (dR g l)).map aN.id).Nodup:=by
  intro a
  induction a with
  |nil=>intro _ _;rw[qc,jY];exact List.nodup_nil
  |cons i a o=>
   intro f h;rw[xm]at f;have k:=o f.2 λj e=>h j (o3 _ e)
   rw[jN]
   cases hc:dR g l i with
   |none=>exact k
   |some c=>
    dsimp only;rw[j1,xm];refine⟨λp=>?_,k⟩;obtain⟨d,q,he⟩:=qf.1 p;obtain⟨j,e,r⟩:=List.mem_filterMap.1 q;obtain⟨y,s,t,-⟩:=tV hc;obtain⟨z,u,v,-⟩:=tV r;have w:=(lY.1 (h i (o1 ..))).2;have x:=(lY.1 (h j (o3 _ e))).2;have m:aG (aP l j)=aG (aP l i):=by rw[<-u,<-v,<-s,<-t];exact he
    rcases xl i j with b|b|b
    ·exact x i b m.symm
    ·exact f.1 (b▸e)
    exact w j b m
 exact key _ n λi b=>b
theorem Qo(g:Grp)(l:jg Cmt):((eS g l).map aN.id).Nodup:=((List.mergeSort_perm (ez g l) leC).map aN.id).nodup_iff.2 (K9 g l)
structure tL(l:jg Cmt)(a:Grp)(b:aN)(S:jg aN)(k:jc):Prop where
 head:S[0]?=T b
 par:∀i c,S[i]?=T c->0<i->∃n x,n<k/\n<i/\S[n]?=T x/\fh l x.leads c
 all:∀n x,n<k->S[n]?=T x->∀c∈ez x.leads l,c∈S
 ids:(S.map aN.id).Nodup
 ep:∀c∈S,a.epoch+1<=c.leads.epoch
theorem tL.at{l:jg Cmt}{b:Grp}{d:aN}{k:jc}(h:tL l b d S k)(e:fh l b d){i:jc}{c:aN}(a:S[i]?=T c):∃g,fh l g c/\(i=0->g=b):=by
 rcases i with _|i
 ·rw[h.head]at a
  injection a with a
  exact⟨b,by rw[<-a];exact e,λ_=>rfl⟩
 obtain⟨n,x,-,-,-,f⟩:=h.par _ c a (qW i);exact⟨_,f,λh=>ju h (Nat.succ_ne_zero i)⟩
theorem QD(h:(S.map aN.id).Nodup){i j:jc}{c d:aN}(a:S[i]?=T c)(b:S[j]?=T d)(e:c.id=d.id):i=j:=by
 have f:(S.map aN.id)[i]?=T c.id:=by rw[qT,a];rfl
 have g:(S.map aN.id)[j]?=T c.id:=by rw[qT,b,Option.map_some,e]
 obtain⟨m,k⟩:=jU.1 f;obtain⟨n,l⟩:=jU.1 g;exact(List.getElem_inj h).1 (k.trans l.symm)
theorem BJ(p:fh a e x):∀k,tL a e x (eG a x k) k
 |0=>by
  rw[eG];refine⟨by simp,?_,λn s t=>ju t (xn n),by simp,?_⟩
  ·intro i c h f
   cases i with
   |zero=>exact ju f (rn 0)
   |succ i=>simp at h
  intro c h;rw[jP]at h;rw[h,(p.epoch).1];omega
 |k+1=>by
  have h:=BJ p k;rw[eG];generalize eG a x k=S at h⊢
  cases hx:S[k]? with
  |none=>
   have l:=List.getElem?_eq_none_iff.1 hx;rw[GQ l];refine⟨h.head,?_,?_,h.ids,h.ep⟩
   ·intro i c f q
    obtain⟨n,s,j,r⟩:=h.par i c f q;exact⟨n,s,by omega,r⟩
   intro n s t b c o;have:=(jU.1 b).1;exact h.all n s Y b c o
  |some s=>
   rw[rh hx];have w:=(jU.1 hx).1;obtain⟨R,D,-⟩:=h.at p hx;refine⟨by rw[o8 Y];exact h.head,?_,?_,?_,?_⟩
   ·intro i c f q
    by_cases l:i<S.length
    ·rw[o8 l]at f
     obtain⟨n,y,j,r,z,b⟩:=h.par i c f q;exact⟨n,y,by omega,r,by rw[o8 Y];exact z,b⟩
    rw[wq Y]at f;exact⟨k,s,Nat.lt_succ_self k,by omega,by rw[o8 w];exact hx,fh.ofU (sL.1 (j3 f))⟩
   ·intro n y t m c o
    by_cases l:n=k
    ·rw[l,o8 w,hx]at m
     injection m with m
     rw[<-m]at o;exact xf _ (sL.2 o)
    have b:n<k:=Y;rw[o8 Y]at m;exact xe _ (h.all n y b m c o)
   ·rw[mz,List.nodup_append]
    refine⟨h.ids,Qo _ _,?_⟩;intro l E b F v;obtain⟨c,H,rfl⟩:=qf.1 E;obtain⟨d,K,rfl⟩:=qf.1 F;have u:=fh.ofU (sL.1 K);obtain⟨i,f⟩:=xo.1 H;obtain⟨g,B,M⟩:=h.at p f;have C:=B.com u v
    by_cases q:i=0
    ·have P:=M q
     subst P;have j:=B.epoch.2;rw[C,u.epoch.2]at j;have r:=h.ep s (j3 hx);omega
    obtain⟨n,y,t,-,m,P⟩:=h.par i c f Y;obtain⟨U,Q,-⟩:=h.at p m;have j:y.id=s.id:=by rw[<-Q.last,<-D.last,<-P.par,<-u.par,C]
    have:=QD h.ids m hx j;omega
   intro c o
   rcases ow.1 o with j|j
   ·exact h.ep c j
   have r:=(fh.ofU (sL.1 j)).epoch.1;have z:=h.ep s (j3 hx);omega
theorem Q8(h:(S.map aN.id).Nodup)(f:∀c∈S,∃g,fh a g c):S.length<=a.length:=by
 have j:(S.map aN.ix).Nodup:=by
  refine xq.2 ?_;refine List.Pairwise.imp_of_mem ?_ (xq.1 h);intro l b k m n e;obtain⟨o,d⟩:=f l k;obtain⟨gb,i⟩:=f b m;exact n (by rw[d.ok.id,i.ok.id,d.ok.com,i.ok.com,e])
 have b:S.map aN.ix⊆List.range a.length:=by
  intro i l;obtain⟨c,e,rfl⟩:=qf.1 l;obtain⟨g,d⟩:=f c e;exact wv.2 d.ok.lt
 have l:=List.Nodup.length_le_of_subset j b;rw[jw,List.length_range]at l;exact l
theorem tL.len(h:tL a e x S b)(d:fh a e x):S.length<=a.length:=by
 refine Q8 h.ids λc l=>?_
 obtain⟨i,f⟩:=xo.1 l;obtain⟨g,j,-⟩:=h.at d f;exact⟨g,j⟩
theorem Gs(h:(eG a x b).length<=b):∀m,b<=m->eG a x m=eG a x b
 |0,k=>by
  obtain rfl:b=0:=Y
  rfl
 |m+1,k=>by
  by_cases e:b=m+1
  ·rw[e]
  have c:=Gs h m Y;rw[eG,c,GQ Y]
theorem Nr(d:fh a e x){k:jc}(h:(eG a x k).length<=k)(c:k<=a.length):sQ a x=eG a x k:=Gs h _ c
section
theorem mm{g:Grp}{l:jg Cmt}{i:jc}(h:cA g (aP l i)≠0):dR g l i=jf:=by
 unfold dR;rw[jF λe=>h e.2]
theorem zT{g:Grp}{l:jg Cmt}{i:jc}{c:Cmt}(e:aP l i=c)(h:cA g c=0):dR g l i=T (cP g c i):=by
 unfold dR cP;rw[e,jr ⟨(iR.1 h).par,h⟩]
theorem mr{g:Grp}{c:Cmt}(h:c.epoch≠g.epoch+1):cA g c≠0:=λe=>h (iR.1 e).ep
theorem wI{a b c d:Cmt}(k:aG a≠aG b)(l:aG a≠aG c)(m:aG a≠aG d)(n:aG b≠aG c)(o:aG b≠aG d)(p:aG c≠aG d):bH [a,b,c,d] 4=[0,1,2,3]:=by
 have q:bH [a,b,c,d] 0=[]:=I;have f:aP [a,b,c,d] 0=a:=I;have g:aP [a,b,c,d] 1=b:=I;have h:aP [a,b,c,d] 2=c:=I;have i:aP [a,b,c,d] 3=d:=I;have r:∀j,j<1->aG (aP [a,b,c,d] j)≠aG (aP [a,b,c,d] 1):=λj e=>by
  obtain rfl:j=0:=Y;rw[f,g];exact k
 have k2:∀j,j<2->aG (aP [a,b,c,d] j)≠aG (aP [a,b,c,d] 2):=λj e=>by
  rcases(by omega:j=0\/j=1)with rfl|rfl
  ·rw[f,h];exact l
  rw[g,h];exact n
 have s:∀j,j<3->aG (aP [a,b,c,d] j)≠aG (aP [a,b,c,d] 3):=λj e=>by
  rcases(by omega:j=0\/j=1\/j=2)with rfl|rfl|rfl
  ·rw[f,i];exact m
  ·rw[g,i];exact o
  rw[h,i];exact p
 rw[mS,jr s,mS,jr k2,mS,jr r,mS,jr (λj e=>ju e (xn j)),q]
 rfl
structure dW(fol:jb)(y s o f:Cmt):Prop where
 ys:aG y≠aG s
 yo:aG y≠aG o
 yf:aG y≠aG f
 so:aG s≠aG o
 sf:aG s≠aG f
 of:aG o≠aG f
 hf:cA (aJ fol) f=0
 hs:cA (aC (aJ fol) f) s=0
 hy:cA (aC (aC (aJ fol) f) s) y=0
 ho:cA (aC (aC (aJ fol) f) s) o=0
 auth:o.author≠y.author
 ahead:wR (aC (aC (aJ fol) f) s) o y
 ro:pf o y.author=ji
section
variable {fol:jb} {y s o f:Cmt}
theorem dW.eps(h:dW fol y s o f):f.epoch=1/\s.epoch=2/\y.epoch=3/\o.epoch=3:=by
 have d:f.epoch=(aJ fol).epoch+1:=(iR.1 h.hf).ep;have a:=(iR.1 h.hs).ep;have b:=(iR.1 h.hy).ep;have c:=(iR.1 h.ho).ep;rw[iB]at a b c;have e:(aJ fol).epoch=0:=I;exact⟨by omega,by omega,by omega,by omega⟩
theorem dW.first(h:dW fol y s o f):eI fol (aG f) [y,s,o,f]=T ⟨3,f,aG f,0,aC (aJ fol) f⟩:=by
 have b:aP [y,s,o,f] 0=y:=I;have c:aP [y,s,o,f] 1=s:=I;have d:aP [y,s,o,f] 2=o:=I;have a:aP [y,s,o,f] 3=f:=I;unfold eI;rw[show [y,s,o,f].length=4 from I,wI h.ys h.yo h.yf h.so h.sf h.of,
  r9 (by rw[b,decide_eq_true_eq];exact h.yf),r9 (by rw[c,decide_eq_true_eq];exact h.sf),
  r9 (by rw[d,decide_eq_true_eq];exact h.of),List.find?_cons_of_pos (by rw[a,decide_eq_true_eq]),r6,a,jr h.hf]
theorem dW.cand1(h:dW fol y s o f):ez (aC (aJ fol) f) [y,s,o,f]=[cP (aC (aJ fol) f) s 1]:=by
 obtain⟨e,g,i,j⟩:=h.eps;have a:cA (aC (aJ fol) f) (aP [y,s,o,f] 0)≠0:=mr (c:=y) (by rw[iB];omega);have b:cA (aC (aJ fol) f) (aP [y,s,o,f] 2)≠0:=mr (c:=o) (by rw[iB];omega);have d:cA (aC (aJ fol) f) (aP [y,s,o,f] 3)≠0:=mr (c:=f) (by rw[iB];omega);unfold ez;rw[show [y,s,o,f].length=4 from I,wI h.ys h.yo h.yf h.so h.sf h.of,jN,mm a,jN,zT (c:=s) I h.hs,jN,mm b,
  jN,mm d,qc]
theorem dW.cand2(h:dW fol y s o f):ez (aC (aC (aJ fol) f) s) [y,s,o,f]=[cP (aC (aC (aJ fol) f) s) y 0,cP (aC (aC (aJ fol) f) s) o 2]:=by
 obtain⟨d,e,g,i⟩:=h.eps;have a:cA (aC (aC (aJ fol) f) s) (aP [y,s,o,f] 1)≠0:=mr (c:=s) (by rw[iB];omega);have b:cA (aC (aC (aJ fol) f) s) (aP [y,s,o,f] 3)≠0:=mr (c:=f) (by rw[iB];omega);unfold ez;rw[show [y,s,o,f].length=4 from I,wI h.ys h.yo h.yf h.so h.sf h.of,jN,zT (c:=y) I h.hy,jN,mm a,jN,zT (c:=o) I h.ho,
  jN,mm b,qc]
theorem dW.cand3(h:dW fol y s o f){g:Grp}(i:g.epoch=3):ez g [y,s,o,f]=[]:=by
 obtain⟨j,k,l,m⟩:=h.eps;have a:cA g (aP [y,s,o,f] 0)≠0:=mr (c:=y) Y;have b:cA g (aP [y,s,o,f] 1)≠0:=mr (c:=s) Y;have d:cA g (aP [y,s,o,f] 2)≠0:=mr (c:=o) Y;have e:cA g (aP [y,s,o,f] 3)≠0:=mr (c:=f) Y;unfold ez;rw[show [y,s,o,f].length=4 from I,wI h.ys h.yo h.yf h.so h.sf h.of,jN,mm a,jN,mm b,jN,mm d,
  jN,mm e,qc]
theorem dW.list2(h:dW fol y s o f):eS (aC (aC (aJ fol) f) s) [y,s,o,f]=[cP (aC (aC (aJ fol) f) s) o 2,cP (aC (aC (aJ fol) f) s) y 0]:=by
 have a:(kS (cP (aC (aC (aJ fol) f) s) o 2) (cP (aC (aC (aJ fol) f) s) y 0)<0)↔wR (aC (aC (aJ fol) f) s) o y:=by
  rw[KT (by unfold cP;exact h.auth)];unfold cP wR;exact Iff.rfl
 unfold eS;rw[h.cand2,Nn,jF];unfold leC;rw[qO (a.2 h.ahead)]
 decide
theorem dW.win1(h:dW fol y s o f):dJ (aC (aJ fol) f) [y,s,o,f]=T (cP (aC (aJ fol) f) s 1):=by
 unfold dJ eS;rw[h.cand1,xr,r7,r8];unfold gt;rw[jF (by unfold rT;rw[List.any_nil];decide)];unfold ww;rw[jr I]
theorem dW.win2(h:dW fol y s o f):dJ (aC (aC (aJ fol) f) s) [y,s,o,f]=T (cP (aC (aC (aJ fol) f) s) o 2):=by
 unfold dJ;rw[h.list2];exact JV (x:=cP (aC (aC (aJ fol) f) s) o 2) (y:=cP (aC (aC (aJ fol) f) s) y 0) h.auth h.ro
theorem dW.win3(h:dW fol y s o f){g:Grp}(a:g.epoch=3):dJ g [y,s,o,f]=jf:=by
 unfold dJ eS;rw[h.cand3 a,xt,r8]
theorem rO(g:Grp)(c:Cmt)(i:jc):(cP g c i).leads=aC g c:=by unfold cP;dsimp only
theorem dW.chain(h:dW fol y s o f):dU fol (aG f) [y,s,o,f]=[⟨3,f,aG f,0,aC (aJ fol) f⟩,cP (aC (aJ fol) f) s 1,cP (aC (aC (aJ fol) f) s) o 2]:=by
 obtain⟨c,d,e,a⟩:=h.eps;have b:(cP (aC (aC (aJ fol) f) s) o 2).leads.epoch=3:=by rw[rO,iB];exact a
 rw[ov,h.first];dsimp only;rw[lX];dsimp only;rw[h.win1];dsimp only;rw[lX,rO,h.win2];dsimp only;rw[lX,h.win3 b]
theorem dW.all(h:dW fol y s o f):sQ [y,s,o,f] ⟨3,f,aG f,0,aC (aJ fol) f⟩=[⟨3,f,aG f,0,aC (aJ fol) f⟩,cP (aC (aJ fol) f) s 1,cP (aC (aC (aJ fol) f) s) o 2,cP (aC (aC (aJ fol) f) s) y 0]:=by
 obtain⟨j,l,b,d⟩:=h.eps;have e:eS (aC (aJ fol) f) [y,s,o,f]=[cP (aC (aJ fol) f) s 1]:=by unfold eS;rw[h.cand1,xr]
 have a:∀g:Grp,g.epoch=3->eS g [y,s,o,f]=[]:=λg i=>by unfold eS;rw[h.cand3 i,xt]
 have s1:eG [y,s,o,f] ⟨3,f,aG f,0,aC (aJ fol) f⟩ 1=[⟨3,f,aG f,0,aC (aJ fol) f⟩,cP (aC (aJ fol) f) s 1]:=by
  rw[eG,eG,rh (c:=⟨3,f,aG f,0,aC (aJ fol) f⟩) I];dsimp only;rw[e];rfl
 have s2:eG [y,s,o,f] ⟨3,f,aG f,0,aC (aJ fol) f⟩ 2=[⟨3,f,aG f,0,aC (aJ fol) f⟩,cP (aC (aJ fol) f) s 1,cP (aC (aC (aJ fol) f) s) o 2,cP (aC (aC (aJ fol) f) s) y 0]:=by
  rw[eG,s1,rh (c:=cP (aC (aJ fol) f) s 1) I,rO,h.list2];rfl
 unfold sQ;show eG _ _ 4=_;rw[eG,eG,s2,rh (k:=2) (c:=cP (aC (aC (aJ fol) f) s) o 2) I,a _ (by rw[rO,iB];exact d),qE,
  rh (k:=3) (c:=cP (aC (aC (aJ fol) f) s) y 0) rfl,a _ (by rw[rO,iB];exact b),qE]
end
end
theorem OG:bL 4:=by
 refine⟨by decide,by decide,?_⟩;rw[<-wB _ QN 62 G]
 decide+kernel
theorem S4:bL 16:=by
 refine⟨by decide,by decide,?_⟩;rw[<-wB _ QN 62 G]
 decide+kernel
theorem NF(a:0<=d)(b:d<512)(x:jb):lF (512+d) x=decide (x∈(512+d)::bW d):=by
 by_cases h:x∈(512+d)::bW d
 ·rw[qO h,uj ((pr d a b x).1 h)]
 rw[decide_eq_false h,Es (λc=>h ((pr d a b x).2 c))]
def kY(t:jg (jb×jb))(d:jb):jg (jb×jb):=t.filter λe=> !decide (e.1∈(512+d)::bW d)
theorem zf(a:0<=d)(b:d<512)(t:jg (jb×jb)):dH t d=kY t d:=by
 unfold dH kY;refine wt λe _=>?_
 rw[NF a b]
def vg(b:jg (jb×jb))(d:jb)(l:jg jb):jc->jg (jb×jb)
 |0=>b
 |k+1=>en ((512+d)/2^k,l.getD k 0) (vg b d l k)
theorem Eb(t:jg (jb×jb))(d:jb)(l:jg jb):∀k,eL t d l k=vg (dH t d) d l k
 |0=>rfl
 |k+1=>by unfold eL vg;rw[Eb t d l k]
def pX:jg (jb×jb)->jC
 |[]=>ji
 |[_]=>ji
 |x::y::r=>decide (x.1<y.1)&&pX (y::r)
theorem H8:∀{t:jg (jb×jb)} {x:jb×jb},pX (x::t)=ji->∀e∈t,x.1<e.1
 |[],x,_,e,he=>by cases he
 |y::r,x,h,e,he=>by
  simp only[pX,nv,decide_eq_true_eq]at h
  rcases List.mem_cons.1 he with rfl|he
  ·exact h.1
  have:=H8 h.2 e he;omega
theorem GU:∀{t:jg (jb×jb)},pX t=ji->Str t
 |[],_=>List.Pairwise.nil
 |[x],_=>List.pairwise_singleton _ _
 |x::y::r,h=>by
  refine vi.2 ⟨H8 h,GU ?_⟩;simp only[pX,nv]at h;exact h.2
def Ex(t:jg (jb×jb)):jC:=
 pX t&&t.all λe=>decide (1<=e.1)&&decide (e.1<=1023)&&(decide (e.2=4)||decide (e.2=16))&&t.any λf=>decide (512<=f.1)&&decide (f.1<=1023)&&decide (e.1∈f.1::bW (f.1-512))
theorem Qv(h:Ex t=ji):fW t:=by
 unfold Ex at h;simp only[nv,xi,List.any_eq_true,decide_eq_true_eq,xj]at h;refine⟨GU h.1,λe he=>?_⟩;obtain⟨⟨⟨b,c⟩,a⟩,f,d,⟨g,j⟩,i⟩:=h.2 e he;refine⟨b,c,?_,f,d,g,?_⟩
 ·rcases a with a|a
  ·rw[a];exact OG
  rw[a];exact S4
 have:=(pr (f.1-512) Y Y e.1).1;rw[show 512+(f.1-512)=f.1 by omega]at this;exact this i
theorem F5:df []=0:=tC (Qv (by decide+kernel))
theorem wj(n:jc):bL ((aY 4 n:jc):jb):=po (a:=4) m7 n
theorem EV(h:b<512):oV (cR b):=⟨⟨by show(0:jb)<=(b:jb);omega,by show(b:jb)<512;omega⟩,.inl ⟨I,wj _,wj _,I⟩⟩
theorem DU(h:b<512)(a:M<=1048576):oV (dI b M):=⟨⟨by show(0:jb)<=(b:jb);omega,by show(b:jb)<512;omega⟩,.inr (.inl ⟨I,I,I,by show(0:jb)<=(M:jb);omega,by show(M:jb)<=1048576;omega⟩)⟩
theorem un{x:ap}(h:oV x):eW [x]:=⟨λy a=>by
 rw[jP]at a;rw[a];exact h,by simp,by simp⟩
theorem S3:cr []=[]:=by decide+kernel
theorem Jy(a:kf d):dA (aJ d) where
 fol:=a
 ep:=⟨Int.le_refl _,by show(0:jb)<=1099511627776;omega⟩
 tree:=F5
 zero:=λ_=>⟨I,I⟩
 dev:=S3.symm
 ok:=λm b=>by cases b
theorem oO{l:jg aL}{o:jG aL}(h:eY l d=o):cL l d=o.isSome:=by rw[<-yT,h]
theorem rI{m:aL}(h:eY e.mem d=T m):dP e d f=m.ver:=by
 unfold dP;have g:(e.mem.find? λm=>m.dev==d)=T m:=h;rw[g]
theorem Cl{m:aL}(h:eY e.mem d=T m):eV e d=m.since:=by
 unfold eV;rw[h];rfl
theorem zI{x:ap}:nh [x] x.d=T x:=by unfold nh;simp
theorem zx{x:ap}(h:x.d≠d):nh [x] d=jf:=by unfold nh;simp[h]
theorem A7{x:ap}(c:cL e.mem d=ji)(a:0<e.epoch)(g:cL e.mem x.d=decide (x.k≠1))(f:x.d≠d):gL e d [x]:=
 ⟨by rw[c,qO a],λh=>by omega,λy b=>by
  rw[jP]at b;rw[b];exact⟨g,λ_=>f⟩⟩
theorem wP(g:e.epoch<1099511627776)(c:dq e d f=0)(x:1<=b)(i:b<2305843009213688669)(a:dP e d f=((aY 4 b:jc):jb)):gY e d (b:jb) f=0:=by
 unfold gY;rw[jF Y,jF (λh=>h c),jF Y,jF (λh=>h (by rw[a,qJ]))]
theorem uK{g g':Grp}{a:jb}{x:jc}{c:jg ap}{b init:LBy}{d:jg Bx}{e:jg Wl}(h:g.folder=g'.folder)(f:g.epoch=g'.epoch)(i:g.last=g'.last):mkF g a x c b init d e=mkF g' a x c b init d e:=by
 have j:nH g a c b init d e=nH g' a c b init d e:=by unfold nH;rw[h,f,i]
 have k:dK g b init=dK g' b init:=by unfold dK;rw[f]
 have l:lI g a c b init d e=lI g' a c b init d e:=by unfold lI;rw[j,k]
 unfold mkF;rw[l]
noncomputable def bF:Cmt:=mkC (aJ 3) 1 3 [cR 1] (kz 1) (kz 1) (kz 1)
noncomputable def gS1:Grp:=aC (aJ 3) bF
noncomputable def bS:Cmt:=mkC gS1 1 3 [cR 0] (kz 2) (kz 1) (kz 2)
noncomputable def cX:Grp:=aC gS1 bS
noncomputable def cS3:Cmt:=mkC cX 0 2 [dI 1 5] (kz 3) (kz 1) (kz 3)
noncomputable def cM:Cmt:=mkC cX 1 3 [dI 0 5] (kz 4) (kz 1) (kz 4)
theorem uB(b:n0 8):(kz b).length=32:=by unfold kz;simp
theorem A5:dq (aJ 3) 1 [cR 1]=0:=lD.2 ⟨Jy G,un (EV G),⟨I,λ_=>⟨_,_,I,I⟩,λy a=>by
 rw[jP]at a;rw[a];exact⟨I,λh=>by cases h⟩⟩⟩
theorem lV:gQ (aJ 3) bF:=si A5 (by show(0:jb)<1099511627776;omega) I (uB _)
theorem mC:bF.chg=[cR 1]/\bF.author=1/\bF.epoch=1:=by
 refine⟨?_,?_,lV.ep.trans I⟩<;>rfl
theorem mc:eY gS1.mem 1=T ⟨1,1,((aY 4 3:jc):jb)⟩/\eY gS1.mem 0=jf/\gS1.epoch=1:=by
 have a:=Fj lV (d:=1) (y:=cR 1) (by rw[mC.1];exact zI) G;have b:=zO lV (d:=0) (by rw[mC.1];exact zx G);rw[mC.2.2]at a;exact⟨a.1,b.trans I,(iB _ _).trans mC.2.2⟩
theorem A6:dq gS1 1 [cR 0]=0:=lD.2 ⟨iw lV,un (EV G),
 A7 (oO mc.1) (by rw[mc.2.2];decide) (by rw[show(cR 0).d=0 from I,oO mc.2.1];rfl) G⟩
theorem ln:gQ gS1 bS:=si A6 (by rw[mc.2.2];decide) (rI mc.1) (uB _)
theorem nU:bS.chg=[cR 0]/\bS.author=1/\bS.epoch=2:=by
 refine⟨I,I,?_⟩;rw[ln.ep,mc.2.2];rfl
theorem fy:eY cX.mem 1=T ⟨1,1,((aY 4 3:jc):jb)⟩/\eY cX.mem 0=T ⟨0,2,((aY 4 2:jc):jb)⟩/\cX.epoch=2:=by
 have a:=Fj ln (d:=0) (y:=cR 0) (by rw[nU.1];exact zI) G;have b:=zO ln (d:=1) (by rw[nU.1];exact zx G);rw[nU.2.2]at a;exact⟨b.trans mc.1,a.1,(iB _ _).trans nU.2.2⟩
theorem yL:dq cX 0 [dI 1 5]=0:=lD.2 ⟨iw ln,un (DU G G),
 A7 (oO fy.2.1) (by rw[fy.2.2];decide) (by rw[show(dI 1 5).d=1 from I,oO fy.1];rfl) G⟩
theorem D3:gQ cX cS3:=si yL (by rw[fy.2.2];decide) (rI fy.2.1) (uB _)
theorem zC:dq cX 1 [dI 0 5]=0:=lD.2 ⟨iw ln,un (DU G G),
 A7 (oO fy.1) (by rw[fy.2.2];decide) (by rw[show(dI 0 5).d=0 from I,oO fy.2.1];rfl) G⟩
theorem mY:gQ cX cM:=si zC (by rw[fy.2.2];decide) (rI fy.1) (uB _)
theorem iL:cS3.chg=[dI 1 5]/\cS3.author=0/\cM.chg=[dI 0 5]/\cM.author=1:=⟨I,I,I,I⟩
theorem SR:wR cX cM cS3:=by
 left
 rw[iL.2.2.2,iL.2.1,Cl fy.1,Cl fy.2.1]
 decide
theorem wu:gY (aJ 3) 1 (3:jc) [cR 1]=0/\gY gS1 1 (3:jc) [cR 0]=0/\gY cX 0 (2:jc) [dI 1 5]=0/\gY cX 1 (3:jc) [dI 0 5]=0:=
 ⟨wP (by show(0:jb)<1099511627776;omega) A5 G G rfl,wP (by rw[mc.2.2];decide) A6 G G (rI mc.1),
  wP (by rw[fy.2.2];decide) yL G G (rI fy.2.1),wP (by rw[fy.2.2];decide) zC G G (rI fy.1)⟩
theorem Jm(a:aG cS3≠aG bS)(b:aG cS3≠aG cM)(c:aG cS3≠aG bF)(d:aG bS≠aG cM)(e:aG bS≠aG bF)(f:aG cM≠aG bF):dW 3 cS3 bS cM bF where
 ys:=a
 yo:=b
 yf:=c
 so:=d
 sf:=e
 of:=f
 hf:=iR.2 lV
 hs:=iR.2 ln
 hy:=iR.2 D3
 ho:=iR.2 mY
 auth:=by rw[iL.2.2.2,iL.2.1];decide
 ahead:=SR
 ro:=by unfold pf;rw[iL.2.2.1,iL.2.1];decide
theorem Jt(g:Grp)(c:Cmt)(i:jc):(cP g c i).id=aG c:=by unfold cP;dsimp only
theorem Jg(g:Grp)(c:Cmt)(i:jc):(cP g c i).com=c:=by unfold cP;dsimp only
theorem MP(h:dW 3 cS3 bS cM bF)(a:jb):eJ (aG bS) 0 a jn (dU 3 (aG bF) [cS3,bS,cM,bF])=decide (a<=5):=by
 have b:cL (aC (aC (aJ 3) bF) bS).mem 0=ji:=oO fy.2.1;have c:¬aG bF=aG bS:=λe=>h.sf e.symm
 have d:(cM.chg.find? λx=>x.d==0&&x.k !=1)=T (dI 0 5):=by rw[iL.2.2.1];rfl
 rw[h.chain,eJ];dsimp only;rw[jF c,eJ,jr (Jt _ _ _),rO,jr b,eJ,Jg,d]
 rfl
theorem TE(h:dW 3 cS3 bS cM bF):(aC cX cM).mem.length=1:=by
 have n:=iw mY;have o:=SD mY (d:=0) (y:=dI 0 5) (by rw[iL.2.2.1];exact zI) I;have g:=zO mY (d:=1) (by rw[iL.2.2.1];exact zx G);rw[fy.1]at g;have c:∀m∈(aC cX cM).mem,m=⟨1,1,((aY 4 3:jc):jb)⟩:=λm j=>by
  rcases(pL mY m).1 j with⟨f,i⟩|⟨x,a,b,rfl⟩
  ·rcases(pL ln m).1 f with⟨k,p⟩|⟨x,a,b,rfl⟩
   ·rcases(pL lV m).1 k with⟨l,-⟩|⟨x,a,b,rfl⟩
    ·cases l
    rw[mC.1,jP]at a;subst a;rw[mC.2.2];rfl
   rw[nU.1,jP]at a;subst a;exact ju I (i (dI 0 5) (by rw[iL.2.2.1];exact jP.2 I))
  rw[iL.2.2.1,jP]at a;subst a;exact ju I b
 have i:=((sY (sg mY) _ _).1 g).1;have f:=sg mY
 cases e:(aC cX cM).mem with
 |nil=>rw[e]at i;cases i
 |cons m l=>
  rcases l with _|⟨k,p⟩
  ·rfl
  rw[e]at c f;have a:=c m (o1 ..);have b:=c k (o3 _ (o1 ..));rw[a,b]at f;simp at f
theorem Mi(a:df t=0)(b:0<=d)(c:d<512):dD t d jn=0:=by
 unfold dD;rw[jr a,jF];rintro(h|h|⟨h,-⟩)
 ·omega
 ·omega
 cases h
theorem MG(a:df t=0)(b:0<=d)(c:d<512)(e:bL K):gJ t d K=0:=by
 unfold gJ;rw[jr (Mi a b c),jr (gE e)]
theorem CZ(c:df t=0)(a:0<=d)(b:d<512)(e:bL K):kU t d K=en (512+d,K) (kY t d):=by
 unfold kU;rw[jr (MG c a b e),zf a b]
theorem Ru(a:df t=0)(c:0<=d)(e:d<512)(b:bG t (512+d)≠jf):dD t d ji=0:=by
 unfold dD;rw[jr a,jF];rintro(h|h|⟨-,h⟩)
 ·omega
 ·omega
 exact b h
theorem Gn(c:df t=0)(a:0<=d)(b:d<512)(e:bG t (512+d)≠jf):kJ t d=kY t d:=by
 unfold kJ;rw[jr (Ru c a b e),zf a b]
theorem Fv{l:jg jb}(h:fc t d l=0)(a:0<=d)(b:d<512):gq t d l=vg (kY t d) d l 10:=by
 unfold gq;rw[jr h,Eb,zf a b]
theorem CG(a:LBy):∃b c d e f g h i j k:jb,dy a=[b,c,d,e,f,g,h,i,j,k]:=by
 unfold dy;exact⟨_,_,_,_,_,_,_,_,_,_,I⟩
theorem Fs(g:Grp)(c:Cmt):(aC g c).tree=gq (aX g.tree c.chg) c.author c.path:=by unfold aC;dsimp only
theorem GC:aX (aJ 3).tree [cR 1]=[(513,((aY 4 3:jc):jb))]:=by
 show kU [] 1 ((aY 4 3:jc):jb)=_;rw[CZ F5 G G (wj _)]
 rfl
theorem M9:∃a b c d f g i j k l:jb,gS1.tree=[(1,l),(2,k),(4,j),(8,i),(16,g),(32,f),(64,d),(128,c),(256,b),(513,a)]:=by
 obtain⟨a,b,c,d,f,g,i,j,k,l,m⟩:=CG (kz 1);refine⟨a,b,c,d,f,g,i,j,k,l,?_⟩;have h:=lV.ren;have e:gS1.tree=gq (aX (aJ 3).tree bF.chg) bF.author bF.path:=Fs _ _;have n:bF.path=dy (kz 1):=(yJ (aJ 3) 1 3 [cR 1] (kz 1) (kz 1) (kz 1)).2.2.2.2.2;rw[mC.1,mC.2.1,n]at h e;rw[e,Fv h G G,GC,m];generalize((aY 4 3:jc):jb)=q;have:kY [(513,q)] 1=[]:=by
  unfold kY;rw[qK (by show ¬(!decide ((513:jb)∈(512+1)::bW 1))=ji;decide+kernel),qj]
 rw[this]
 rfl
theorem pz0:bW 0=[256,128,64,32,16,8,4,2,1]:=by decide+kernel
theorem pz1:bW 1=[256,128,64,32,16,8,4,2,1]:=by decide+kernel
theorem Bf:∃a:jb,aX gS1.tree [cR 0]=[(512,((aY 4 2:jc):jb)),(513,a)]:=by
 obtain⟨a,c,d,f,g,h,i,j,k,l,e⟩:=M9;have b:df gS1.tree=0:=(iw lV).tree;refine⟨a,?_⟩;show kU gS1.tree 0 ((aY 4 2:jc):jb)=_;rw[CZ b G G (wj _),e];generalize((aY 4 2:jc):jb)=q;unfold kY;rw[pz0]
 rfl
theorem SH:∃a r1 r2 r3 b c d f g i:jb,cX.tree=[(1,i),(2,g),(4,f),(8,d),(16,c),(32,b),(64,r3),(128,r2),(256,r1),(512,((aY 4 2:jc):jb)),(513,a)]:=by
 obtain⟨m,j⟩:=Bf;obtain⟨a,r1,r2,r3,b,c,d,f,g,i,k⟩:=CG (kz 2);refine⟨a,r1,r2,r3,b,c,d,f,g,i,?_⟩;have h:=ln.ren;have e:cX.tree=gq (aX gS1.tree bS.chg) bS.author bS.path:=Fs _ _;have l:bS.path=dy (kz 2):=(yJ gS1 1 3 [cR 0] (kz 2) (kz 1) (kz 2)).2.2.2.2.2;rw[nU.1,nU.2.1,l]at h e;rw[e,Fv h G G,j,k];generalize((aY 4 2:jc):jb)=q;unfold kY;rw[pz1]
 rfl
theorem Ns:aX cX.tree [dI 1 5]=[(512,((aY 4 2:jc):jb))]/\∃a:jb,aX cX.tree [dI 0 5]=[(513,a)]:=by
 obtain⟨a,r1,r2,r3,c,d,f,g,i,j,e⟩:=SH;have b:df cX.tree=0:=(iw ln).tree;refine⟨?_,a,?_⟩
 ·show kJ cX.tree 1=_
  rw[Gn b G G (by rw[e];exact λh=>by cases h),e];generalize((aY 4 2:jc):jb)=q;unfold kY;rw[pz1]
  rfl
 show kJ cX.tree 0=_;rw[Gn b G G (by rw[e];exact λh=>by cases h),e];generalize((aY 4 2:jc):jb)=q;unfold kY;rw[pz0]
 rfl
theorem mO(h:fW t){x:jb}(a:1<=x)(b:x<=1023):fg t x=dh (bG t) (hgt x.toNat) x.toNat:=by
 have e:lT t x=0:=by unfold lT;rw[jr (tC h),jF Y]
 unfold fg;rw[jr e]
theorem Sf:gZ 0=[513,257,129,65,33,17,9,5,3]:=by decide+kernel
theorem z6:gZ 1=[512,257,129,65,33,17,9,5,3]:=by decide+kernel
theorem wN(h:fW t)(c:gZ d=[K,257,129,65,33,17,9,5,3])(a:1<=K)(e:K<=1023){r:jg (jg jb)}(f:(([K,257,129,65,33,17,9,5,3]:jg jb).map λx=>dh (bG t) (hgt x.toNat) x.toNat)=r):
 eo t d=(r.zipIdx 1).flatMap λx=>x.1.map λn=>((x.2:jb),n):=by
 unfold eo fz;rw[c,<-f];simp only[j1,jY,List.zipIdx_cons,List.zipIdx_nil,List.flatMap_cons,List.flatMap_nil];rw[mO h a e,mO h (x:=257) G G,mO h (x:=129) G G,mO h (x:=65) G G,mO h (x:=33) G G,
  mO h (x:=17) G G,mO h (x:=9) G G,mO h (x:=5) G G,mO h (x:=3) G G]
theorem uV(h:dq e d f=0):fW (aX e.tree f):=by
 obtain⟨b,c,a⟩:=lD.1 h;exact(oZ f _ (lQ b.tree) (rm b c a)).1
theorem Fz:∀p:jb,(([512,257,129,65,33,17,9,5,3]:jg jb).map λx=>dh (bG [(513,p)]) (hgt x.toNat) x.toNat)=[[],[],[],[],[],[],[],[],[]]:=by intro p;kernel_rfl
theorem TH:∀p:jb,(([513,257,129,65,33,17,9,5,3]:jg jb).map λx=>dh (bG [(512,p)]) (hgt x.toNat) x.toNat)=[[],[],[],[],[],[],[],[],[]]:=by intro p;kernel_rfl
theorem Uo:∀p q:jb,(([512,257,129,65,33,17,9,5,3]:jg jb).map λx=>dh (bG [(512,p),(513,q)]) (hgt x.toNat) x.toNat)=[[512],[],[],[],[],[],[],[],[]]:=by intro p q;kernel_rfl
theorem wT:eo (aX (aJ 3).tree [cR 1]) 1=[]/\eo (aX gS1.tree [cR 0]) 1=[(1,512)]/\eo (aX cX.tree [dI 1 5]) 0=[]/\eo (aX cX.tree [dI 0 5]) 1=[]:=by
 obtain⟨e,b⟩:=Bf;obtain⟨c,f,d⟩:=Ns;refine⟨?_,?_,?_,?_⟩
 ·have a:(([512,257,129,65,33,17,9,5,3]:jg jb).map λx=>dh (bG (aX (aJ 3).tree [cR 1])) (hgt x.toNat) x.toNat)=[[],[],[],[],[],[],[],[],[]]:=by rw[GC];exact Fz _
  rw[wN (uV A5) z6 G G a]
  rfl
 ·have a:(([512,257,129,65,33,17,9,5,3]:jg jb).map λx=>dh (bG (aX gS1.tree [cR 0])) (hgt x.toNat) x.toNat)=[[512],[],[],[],[],[],[],[],[]]:=by rw[b];exact Uo _ _
  rw[wN (uV A6) z6 G G a]
  rfl
 ·have a:(([513,257,129,65,33,17,9,5,3]:jg jb).map λx=>dh (bG (aX cX.tree [dI 1 5])) (hgt x.toNat) x.toNat)=[[],[],[],[],[],[],[],[],[]]:=by rw[c];exact TH _
  rw[wN (uV yL) Sf G G a]
  rfl
 have a:(([512,257,129,65,33,17,9,5,3]:jg jb).map λx=>dh (bG (aX cX.tree [dI 0 5])) (hgt x.toNat) x.toNat)=[[],[],[],[],[],[],[],[],[]]:=by rw[d];exact Fz _
 rw[wN (uV zC) z6 G G a]
 rfl
theorem wJ:dt 1 [cR 1]=[]/\dt 1 [cR 0]=[cR 0]/\dt 0 [dI 1 5]=[]/\dt 1 [dI 0 5]=[]:=by
 refine⟨?_,?_,?_,?_⟩
 ·unfold dt kZ
  rw[qK G,qj];simp[fl]
 ·unfold dt kZ
  rw[List.filter_cons_of_pos G,qj];simp[fl]
 ·unfold dt kZ
  rw[qK G,qj];simp[fl]
 unfold dt kZ;rw[qK G,qj];simp[fl]
end Go.Proofs.YtjbiancnijgmgaaGreatDoor
