/- Contracts of functions that the law reaches, part 6 of 10; no condition. -/
import Derived.Test.YtngkfaggaccpoaaGreatDoorZJ5
namespace Go.Proofs.YtngkfaggaccpoaaGreatDoor
set_option maxHeartbeats 64000000
set_option maxRecDepth 100000
set_option linter.unusedVariables false
set_option linter.unusedSimpArgs false
set_option linter.unusedSectionVars false
open Go.RowKit
open Go.Proofs.Tryz
open _root_ renaming rfl->I,Int->jb,Nat->jc,List->jg,Array->jq,if_pos->jr,absurd->ju,Bool->jC,if_neg->jE,Option->jG,BitVec->n0,congrArg->qk,of_decide_eq_true->qM,decide_eq_true->qP
open Go.RowKit renaming Hid->N,Below->jk
open _root_.Option renaming some->T,none->jf
open Go.Value renaming slice->A,agg->jh,pointer->jt,tuple->jI,string->ql
open Go.Obj renaming cells->ja
open Go.Value renaming int->jd
open Go.IntKind renaming i64->je
open _root_.Bool renaming true->ji,false->jn,and_eq_true->nv,or_eq_true->xa
open Go renaming World->jj,Value->jl,undef->jm,setRow_other->js,Calls->jB,Oper->jK,wp_region_noPanic->jL,TypeId->jM,execOp->jP,wp_store_row->jQ,setRow_heap->jT,wp_region_lit->jY,Operand->j0,wpList_load_row->j7,below_setRow->ob,Program->o1,wpList_plain->o8,wpOp_step->qb,bodyPost_ret_by->qj,callsIn_wide->qN,run_takeDeferred->qO,wp_store_mid->qS,callsIn_of_wp_marks->r7,bodyPost_ret->r9,results_cell_row->sh
open Go.Proofs.Tryz renaming prog->jo
open Go.World renaming size_alloc->jp,alloc_heap_new->jy,putObj_heap_other->nn,cell?_of_block->qu,ownsRow_nil->qX
open _root_.List renaming size_toArray->jv,length_map->jw,mem_singleton->jO,filterMap_cons->jS,getElem?_eq_some_iff->jU,length_cons->jX,map_nil->jZ,map_cons->j1,mem_of_getElem?->j3,getElem?_toArray->ms,map_append->mz,mem_append->oj,map_toArray->p6,getElem?_append_left->qa,mem_map->qd,nil_append->qe,length_append->qg,filter_nil->qi,take_of_length_le->qo,find?_eq_none->qs,mem_cons_self->qv,mem_cons_of_mem->qw,length_nil->qx,push_toArray->qC,append_toArray->qD,cons_append->qE,append_nil->qF,getElem?_cons_succ->qG,length_take->qI,filterMap_nil->qK,filter_cons_of_neg->qL,getElem?_map->qT,append_assoc->qV,append_inj'->qY,setIfInBounds_toArray->qZ,set_cons_zero->q7,set_cons_succ->q8,mem_of_getLast?->rk,foldl_cons->rv,foldl_nil->r4,find?_cons_of_neg->r5,take_append_drop->sn,find?_append->sq,getElem?_eq_getElem->sv,pairwise_cons->sx,mem_append_left->vi,mem_append_right->wq,replicate->wt,tail_drop->wv,all_eq_true->wx,mergeSort->xd,nodup_cons->xf,mem_iff_getElem?->xh,pairwise_map->xi,mergeSort_singleton->xj,mergeSort_nil->xk
open Go.Ending renaming returned->jz
open _root_.Array renaming getElem?_eq_some_iff->jA,all_eq_true_iff_forall_mem->jR,size_append->j8,all_append->j9,replicate->qf,replicate_succ->qA,replicate_zero->qB,toArray_toList->qU
open _root_.Nat renaming le_trans->jD,le_refl->jF,lt_of_lt_of_le->jJ,zero_le->jN,le_of_eq->j5,le_succ->j6,add_assoc->qn,add_comm->qt,reduceAdd->qy,reduceSub->qz,succ_pos->qW,le_add_right->q9,lt_irrefl->rn,lt_trichotomy->xe,not_lt_zero->xg
open Go.Value renaming int->jH,oneCell'->j4,slice->qh,ownBlock->sy
open Go.Proofs renaming intOf->jV
open Go.Proofs.Tryz renaming underlying66->jW,underlying48->pz,underlying41->qQ,underlying82->r6,underlying62->r8
open Go.NoPanic renaming normal->ow
open Go.RowKit.Below renaming refl->qc
open _root_.Int renaming eq_ofNat_of_zero_le->qH,toNat_natCast->qJ
variable{m:Act}{R:CQ}{H:Cmt}{i:Exit->Act->jj->Prop}{e:Grp}{p seed:LBy}{K P:Prop}{x:aM}{Q:j0}{B:jK}{o:jM}{F a:jb}{M b z:jc}{D E Ψ:jc->Prop}{t:jg (jb×jb)}{d:jg Cmt}{S:jg aM}{f:jg ap}{r:jg jl}{W w w':jj}{j:jl}{U:jq jK}
theorem M4(l:jg Cmt)(P:jg jc)(d:LBy)(k:d.length=32)(v:jl)(w:jj)(h:cE w v 32 P.length (eM l P))(F:P.length<=1000000):
 jB jo 113 #[v,jh (d.map v8).toArray] w λe w'=>∃r,e=jz (jd je r)/\mX (λi=>decide (aH (aQ l i)=d)) P r/\jk w w w':=by
 obtain⟨-,q,c,rfl,H,-,p⟩:=h;have u:=O p;obtain⟨n,o⟩:=J P.length;have x:=O o;rw[<-o]at F H u⊢;obtain⟨a,f⟩:=J ((d.map v8).toArray);have K:=O f;have M:N (a.size=VD.n):=O (by rw[f,jv,jw,k];rfl);obtain⟨m,g⟩:=J (w.alloc (ja a 23));have b:N (jk w w m):=O (by rw[g];exact ao _ _);have Q:N (m.heap[w.heap.size]?=T (ja a VD.t (0,0))):=O (by rw[g];exact jy _ _);have s:=O g;have R:=O k;rw[<-f];clear o p f g k
 go_enter func113,ntmps113
 go_upto_region 1 with fail
 rw[<-s];clear s
 go_wp2_with fail
 go_loopw [8] (λi wr=>∃k:jc,i=jd je k/\k<=n/\N (∀y∈P.take k,decide (aH (aQ l y)=d)=jn)/\N (jk m m wr)) (λi _=>n-(jV i).toNat)
 case atStart=>exact⟨0,I,jN _,O ar,O (qc _ _)⟩
 obtain⟨k,rfl,hk,p,i⟩:=hrel
 by_cases S:k<n
 ·have V:=aw ((k:jb)<(n:jb))
  have W:=aw (k<n);obtain⟨e,he,B⟩:=dN (l:=P) (j:=k) (by rw[<-x];exact S);obtain⟨g,o,rfl,C⟩:=u Y;have D:N (wr.rangeAt g (o+k*32) ((aH (aQ l e)).map v8)):=O λt X ht=>by
   rw[qn];exact aD (C _ X (BB he ht)) (b.trans (i.mono b.size))
  have We:=O (av Q i);obtain⟨r,f⟩:=J (decide (aH (aQ l e)=d));obtain⟨U,s⟩:=J (((aH (aQ l e)).map v8).toArray);have ad:∀z,(Op.equalIn 10000 23 (jh a) (jh U)).run jo z=.ok r z:=by
   rw[K,s,f,show decide (aH (aQ l e)=d)=decide (d=aH (aQ l e))from decide_eq_decide.2 ⟨Eq.symm,Eq.symm⟩];exact λz=>pC _ _ R.out (dQ _) z
  have E:=O f;have HU:=O s;have Vu:=O B;have HE:=O he;have aa:N (((aH (aQ l e)).map v8).length=VD.n):=O (by rw[jw,dQ];rfl);clear C he B f s
  go_upto_region 4 with fail
  refine jL ?_;refine fP (λf=>f.heap[w.heap.size]?=T (ja a VD.t (0,0))/\f.rangeAt g (o+k*32) ((aH (aQ l e)).map v8)) 6 (.t 0 (.t 1 (.t 2 (.t 3 (.t 4 (.t 5 .done)))))) af af af af L (λ_ _ _ _ h=>h) ⟨We,D⟩ ?_
  (refine cJ (v:=jh a) I aj (λf s=>dc VD.hu VD.hd (by rw[M];exact VD.hi) I I s.1) ?_;refine G ?_)
  iterate 3 refine co ?_
  (refine cJ (v:=jh U) I aj (λf s=>by rw[HU];exact eF _ _ VD.t _ I _ _ I _ VD.d s.2 VD.hu VD.hd (by rw[aa];exact VD.hi)) ?_;refine G ?_)
  refine co ?_;refine fc ?_;have f:=bV wr;obtain⟨C,s⟩:=J wr.drew;rw[<-s]at f⊢;have B:=ah i f;clear f s D
  rcases r with _|_
  ·go_wp2_with fail
   exact⟨⟨k+1,by go_num,by omega,O (by
    rw[Vu];intro y f
    rcases oj.1 f with f|f
    ·exact p y f
    rw[jO]at f;rw[f];exact E.symm),B⟩,by simp only[jV];omega⟩
  go_wp2_with fail
  go_ret;exact⟨_,I,.inr ⟨k,_,I,HE,E.symm,p⟩,b.trans (B.mono b.size)⟩
 have V:=az ((k:jb)<(n:jb));have W:=az (k<n);obtain rfl:k=n:=Y
 go_wp2_with fail
 go_ret;exact⟨_,I,.inl ⟨I,by have h:=p.out;rw[qo (by rw[<-x];exact jF _)]at h;exact h⟩,b.trans (i.mono b.size)⟩
def c8(fol:jb)(fid:LBy):jg jl:=jd je fol::fid.map v8
noncomputable def VF:VarT jo:=⟨25,33,(c8 0 cF).toArray,_,underlying25,I,by kernel_rfl,rfl,λ_=>by kernel_rfl⟩
theorem Bg{P:o1}{S:jj->Prop}{x y:bE}(d:cX P U i S b (.o M x) m w)(e:cX P U i S b (.o z y) m w):cX P U i S b (.w M z x y) m w:=⟨d,e⟩
theorem El(b:B.op=.build 41 #[(0,Q)])(c:m.eval Q=jd je a)(W:jj):
 (jP m.eval B).run jo W=.ok (.value (jh (aB (aI a) (A jf 0 0) (A jf 0 0)).toArray)) W:=by
 have d:=uB (P:=jo) (t:=41) (zero:=jh VG.Z) (places:=#[(0,1),(1,1),(2,32),(34,1),(35,1)]) (λw=>by kernel_rfl) VG.hu (λw=>by kernel_rfl) (parts:=#[(0,jd je a)]) (X:=(aB (aI a) (A jf 0 0) (A jf 0 0)).toArray) af W;simp only[jP,b,p6,j1,jZ,c,Sem.run_bind,d,Result.andThen_ok,Sem.run_pure]
theorem mX.find{α:Type}{p:α->jC}{l:jg α}(h:mX p l a):(a= -1/\l.find? p=jf)\/∃(k:jc) (x:α),a=k/\l[k]?=T x/\l.find? p=T x:=by
 rcases h with⟨b,r⟩|⟨k,x,b,r,c,d⟩
 ·exact .inl ⟨b,qs.2 λx e=>by rw[r x e];decide⟩
 refine .inr ⟨k,x,b,r,?_⟩;have g:=(jU.1 r).1;have e:l=l.take k++x::l.drop (k+1):=by
  rw[<-(jU.1 r).2,List.getElem_cons_drop,sn]
 rw[e,sq,qs.2 λy f=>by rw[d y f];decide];simp[c]
theorem G2(fol:jb)(w:jj):bL w (aI fol) (A jf 0 0) (A jf 0 0):=⟨EK.At.nil,oG w,I⟩
theorem yr(k:P)(h:P->K:=by intro k;refine cJ (v:=?_) rfl aj (λW' hS=>?_) ?_;rotate_left;(have b1:=ai (i:=0) hS.1 rfl;clear hS;go_simp;with_reducible rfl);refine G ?_;exact k):K:=h k
theorem tS(k:P)(h:P->K:=by intro k;refine cJ (v:=?_) rfl aj (λW' hS=>?_) ?_;rotate_left;(have b1:=ai (i:=2) hS.1 rfl;clear hS;go_simp;with_reducible rfl);refine G ?_;exact k):K:=h k
theorem tY(k:P)(h:P->K:=by intro k;refine cJ (v:=?_) rfl aj (λW' hS=>?_) ?_;rotate_left;(have b1:=hS.2.2.2.1;clear hS;go_simp;with_reducible rfl);refine G ?_;exact k):K:=h k
theorem Fs(Um:jg CP)(v1 v2 v3:jl)(fol:jb)(fid:LBy)(i:fid.length=32)(w:jj)(r:iw (·<w.heap.size) w v1 v2 v3 Um)(U:∀p∈Um,cZ (aR p.1))(V:bH w)(hn:Um.length<=1000):
 jB jo 52 #[jh #[v1,v2,v3],jh (c8 fol fid).toArray] w λe w'=>∃m o,e=jz (jI #[jh m,.bool o])/\m.size=VK.n/\m.all (·.oneCell')=ji/\
  (o=ji->∃k,m=(aL k).toArray/\KD (λb=>w.heap.size<=b/\b<w'.heap.size) Um w' k/\eS fol fid (Um.map (·.1))=T k.cand)/\(o=jn->eS fol fid (Um.map (·.1))=jf)/\jk w w w':=by
 obtain⟨l,u⟩:∃l:jg Cmt,l=Um.map (·.1):=⟨_,I⟩;obtain⟨PL,y⟩:=J (bW l l.length);have H:l.length=Um.length:=by rw[u,jw]
 have bk:PL.length<=1000:=by rw[y];have:=rV l l.length;omega
 have Q:=r.ids;have z:=r.at_;rw[<-u,<-H,<-y]at Q z;obtain⟨p1,k1,rfl⟩:=r.list.form;obtain⟨p2,k2,rfl⟩:=Q.form;obtain⟨p3,k3,rfl⟩:=z.form;have HL:=O r.list;have HI:=O Q;have HA:=O z;have HE:=O U;have HT:=O V;have bl:=O u;have VM:=O y;have bf:=O i;obtain⟨n,B⟩:=J Um.length;obtain⟨E,C⟩:=J PL.length;have ZF:=O B;have bm:=O C;have Vx:N (l.length=n):=O (H.trans B.symm);rw[<-B]at hn⊢;rw[<-C]at bk HI HA⊢;rw[<-u];obtain⟨FA,x⟩:=J ((c8 fol fid).toArray);have ZH:N (FA.size=VF.n):=O (by rw[x,jv];unfold c8;rw[jX,jw,i];rfl);have bn:N (FA[0]?=T (jd je fol)):=O (by rw[x];rfl);have ZY:N (∀(j:jc) d,(fid.map v8)[j]?=T d->FA[1+j]?=T d):=O λj d hj=>by
  rw[x,qt]
  simpa [c8]using hj
 have Yo:N ((fid.map v8).length=VD.n):=O (by rw[jw,i];rfl);rw[<-x];obtain⟨M,f⟩:=J w.heap.size;have HM:=O f;obtain⟨W0,c⟩:=J (((w.alloc (ja #[A p1 n k1,A p2 E k2,A p3 E k3] 78)).alloc (ja FA 25)).alloc (ja VK.Z VK.t));have K:=ao w (ja #[A p1 n k1,A p2 E k2,A p3 E k3] 78);have P:=K.trans ((ao (w.alloc (ja #[A p1 n k1,A p2 E k2,A p3 E k3] 78)) (ja FA 25)).mono K.size);have D:=ao ((w.alloc (ja #[A p1 n k1,A p2 E k2,A p3 E k3] 78)).alloc (ja FA 25)) (ja VK.Z VK.t);have R:N (W0.heap[M]?=T (ja #[A p1 n k1,A p2 E k2,A p3 E k3] 78 (0,0))):=O (by rw[c,f];exact av (av (jy w _) (ao _ _)) D);have S:N (W0.heap[M+1]?=T (ja FA VF.t (0,0))):=O (by
  have h:=jy (w.alloc (ja #[A p1 n k1,A p2 E k2,A p3 E k3] 78)) (ja FA 25);rw[jp]at h;rw[c,f];exact av h D)
 have W:N (W0.heap[M+2]?=T (ja VK.Z VK.t (0,0))):=O (by
  have h:=jy ((w.alloc (ja #[A p1 n k1,A p2 E k2,A p3 E k3] 78)).alloc (ja FA 25)) (ja VK.Z VK.t);rw[jp,jp]at h;rw[c,f];exact h)
 have Uq:N (jk w w W0):=O (by rw[c];exact P.trans (D.mono P.size));have bo:N (W0.heap.size=M+3):=O (by rw[c,f,jp,jp,jp]);have X:=O c;have aa:N (W0.rangeAt (M+1) 1 (fid.map v8)):=O λt d q=>ai S (ZY t d q)
 have F:=M4 l PL fid i (A p2 PL.length k2) W0 ((Q.keep λg hg=>Uq.block g hg).row) Y;rw[<-C]at F;obtain⟨TF,g⟩:=J ((fid.map v8).toArray);rw[<-g]at F;have au:=O g;have ad:=O F;clear g;clear F K P D c f x B C u H y Q z r U V i
 go_enter func52,ntmps52
 go_upto_region 1 with(first|(refine VK.made I I (G ?_)))
 rw[<-X];simp only[jp];rw[show w.heap.size+1+1=w.heap.size+2 from I,<-HM];clear X;have g:=ai (i:=1) R I
 go_upto_region 2 with(first|(refine VD.load aj I I (fid.map v8) Yo aa ?_;rw[<-au];refine G ?_))
 refine ad.mono ?_;rintro e x1 ⟨r,rfl,f,c⟩;have HB:=O c;have U:N (jk w w x1):=ah Uq c;have F:=ae R c;have H:=ae S c;have x:=ae W c;have bp:=f.find;clear f c ad aa R S W g
 rcases bp with⟨rfl,c⟩|⟨kk,i,rfl,g,c⟩
 ·have HF:N (eS fol fid l=jf):=O (by unfold eS;rw[<-VM,c];rfl)
  clear c
  go_wp2_with (first|(refine VK.loadA aj I I VK.Z VK.hZ x (G ?_))|(refine VK.store I I I VK.Z I VK.hZ af x VK.hZ ?_;rw[setRow_self _ _ _ _ _ x.out];refine G ?_))
  refine qj (fS I _ _ (M+2) VK.t VK.Z (0,0) _ I x r6 I (by rw[VK.hZ];exact VK.hi)) I ?_;exact⟨_,_,I,VK.hZ,by kernel_rfl,(λh=>by cases h),(λ_=>HF),U⟩
 have HF:N (eS fol fid l=if cN (aI fol) (aQ l i)=0 then T ⟨i,aQ l i,fid,0,aC (aI fol) (aQ l i)⟩else jf):=O (by unfold eS;rw[<-VM,c];rfl);have bv:kk<E:=by rw[bm];exact(jU.1 g).1
 have bq:i<n:=by
  have h:=j3 g;rw[VM]at h;have Q:=(oS.1 h).1;rw[Vx]at Q;exact Q
 have hd:decide ((kk:jb)<0)=jn:=by simp<;>omega
 have bw:=aw (kk<E);have hd2:=aw (i<n);obtain⟨ga,oa,ka,e3,B,-,D⟩:=HA.at1 Y;injection e3 with e1 y e2
 subst e1;subst e2;clear y;obtain⟨⟨u,qm⟩,f⟩:∃p,Um[i]?=T p:=⟨_,sv (by rw[<-ZF];exact bq)⟩;obtain⟨V,ol,kl,e5,R,-,-,S⟩:=HL.elem f;injection e5 with e1 y e2
 subst e1;subst e2;clear y;have y:=j3 f;have K:N (x1.cell? ⟨ga,oa+kk,jf⟩=T (jd je (i:jc))):=O (aD (D kk _ (by unfold fx;rw[qT,g];rfl)) U);have P:N (x1.rangeAt V (ol+i*73) (aE u qm)):=O λj d hj=>aD (S j d hj) U
 have HQ:=O (HL.all _ y);have bg:=O (HE _ y);have bh:=O f;have Z7:N (aQ l i=u):=O (by unfold aQ;rw[bl];simp[List.getD,f]);have Vq:N ((aE u qm).length=VC.n):=O (dl u qm HQ.plen HQ.clen);obtain⟨C,z⟩:=J ((aE u qm).toArray);have VV:=O z;have Wc:N (C.size=VC.n):=O (by rw[z,jv];exact Vq);obtain⟨G0,W⟩:=J ((aB (aI fol) (A jf 0 0) (A jf 0 0)).toArray);have a5:=O W;have ay:N (cN (aI fol) (aQ l i)=cN (aI fol) u/\aC (aI fol) (aQ l i)=aC (aI fol) u):=O (by rw[Z7];exact⟨I,I⟩);have WT:N (ga<M/\V<M):=O ⟨by rw[HM];exact B,by rw[HM];exact R⟩;clear z W y f S D B R c g
 go_upto_region 4 with fail
 refine jL ?_;refine fP (λg=>g.heap[M]?=T (ja #[A (T ⟨V,ol,jf⟩) n k1,A p2 E k2,A (T ⟨ga,oa,jf⟩) E k3] 78 (0,0))/\g.heap[M+1]?=T (ja FA VF.t (0,0))/\g.heap[M+2]?=T (ja VK.Z VK.t (0,0))/\g.cell? ⟨ga,oa+kk,jf⟩=T (jd je (i:jc))/\g.rangeAt V (ol+i*73) (aE u qm)) 19
  (.t 0 (.t 1 (.t 2 (.t 3 (.t 4 (.t 5 (.t 6 (.t 7 (.t 8 (.t 9 (.t 10 (.t 11 (.w 12 16 (.t 13 (.t 14 (.t 15 (.o 16 (.o 17 (.t 18 .done)))))) (.o 12 (.t 13 (.t 14 (.t 15 (.o 17 (.t 18 .done))))))))))))))))))) af af af af L (λ_ _ _ _ h=>h) ⟨F,H,x,K,P⟩ ?_
 have c:=bV x1;obtain⟨x2,hx⟩:=J x1.drew;rw[<-hx]at c⊢;replace HB:=ah HB c;replace U:=ah U c;replace F:=ae F c;replace H:=ae H c;replace x:=ae x c;replace K:=O (aD K c);replace P:N (x2.rangeAt V (ol+i*73) (aE u qm)):=O (λt d q=>aD (P t d q) c);have a4:N (M+3<=x2.heap.size):=O (by rw[<-bo];exact HB.size);clear hx c;refine co ?_
 (refine cJ (v:=?_) I aj (λg R=>?_) ?_;rotate_left;(have f:=ai (i:=0) R.2.1 bn;clear R;go_simp;with_reducible rfl);refine G ?_)
 (refine cJ (v:=jh G0) I aj (λg R=>by rw[a5];exact El I I g) ?_;refine G ?_)
 refine co ?_;refine yr ?_;refine co ?_;refine tS ?_;iterate 2 refine co ?_
 refine tY ?_;refine co ?_
 (refine cJ (v:=jh C) I aj (λg R=>by rw[VV];exact eF _ _ VC.t _ I _ _ I _ VC.d R.2.2.2.2 VC.hu VC.hd (by rw[Vq];exact VC.hi)) ?_;refine G ?_)
 refine Bg ?_ ?_
 ·refine cV I (λK' z=>?_)
  go_simp;have hN:=AW (aI fol) (A jf 0 0) (A jf 0 0) u qm x2 (G2 fol _) (HQ.below U) bg (HT.below U) (jN _) (jN _);rw[<-a5,<-VV]at hN;refine hN.mono ?_;clear hN;rintro e x3 ⟨X,W,rfl,hN⟩;have y:=O hN;clear hN;have S:=O y.bel;refine z _ _ ⟨av F (S),av H (S),av x (S),aD K (S),λt d q=>aD (P t d q) (S)⟩ λ_=>?_
  clear z;refine G ?_;iterate 3 refine co ?_
  refine cV I (λK' z=>?_);rw[jr aj];refine gM VG.t I VG.Z VG.hal ?_;have f:=S.trans ((ao x3 (ja VG.Z VG.t)).mono S.size);refine z _ _ ⟨av F (f),av H (f),av x (f),aD K (f),λt d q=>aD (P t d q) (f)⟩ λ_=>?_
  clear z f;refine G ?_;refine cV I (λK' z=>?_);rw[jr aj];refine jQ VG.t _ _ I x3.heap.size X I I VG.t VG.Z (jy x3 _) (by rw[y.sz];exact VG.hi) (VG.hZ.trans y.sz.symm) y.one ?_;rw[yh];obtain⟨x5,b7,hx,f,Wm,aa⟩:=dh x3 X VG.t;rw[<-hx,<-f];have Zh:N (M+3<=b7):=O (by rw[f];exact jD a4 S.size);have UT:N (W=0->∃B D,X=(aB (aC (aI fol) u) B D).toArray/\dz (λk=>M+3<=k/\k<x5.heap.size) x5 (aC (aI fol) u) B D):=O λh=>by
   obtain⟨B,D,e1,Q⟩:=y.new h;exact⟨B,D,e1,(Q.below aa).mono λb f=>⟨jD a4 f.1,f.2⟩⟩
  have c:=S.trans (aa.mono S.size);refine z _ _ ⟨av F (c),av H (c),av x (c),aD K (c),λt d q=>aD (P t d q) (c)⟩ λ_=>?_
  replace HB:=ah HB c;replace U:=ah U c;replace F:=ae F c;replace H:=ae H c;replace x:=ae x c;replace K:=O (aD K c);replace P:N (x5.rangeAt V (ol+i*73) (aE u qm)):=O (λt d q=>aD (P t d q) c);clear c;clear z hx f aa;refine G ?_;refine co ?_;refine fc ?_;obtain⟨o,ho⟩:=J (decide (W=0));have a1:=O ho;have br:(W==0)=o:=by rw[ho];by_cases h:W=0<;>simp[h]
  have bs:decide (W=0)=o:=ho.symm;clear ho
  go_upto_region 5 with fail
  refine jL ?_;refine fP (λg=>g.heap[M]?=T (ja #[A (T ⟨V,ol,jf⟩) n k1,A p2 E k2,A (T ⟨ga,oa,jf⟩) E k3] 78 (0,0))/\g.heap[M+1]?=T (ja FA VF.t (0,0))/\g.heap[b7]?=T (ja X VG.t (0,0))/\g.cell? ⟨ga,oa+kk,jf⟩=T (jd je (i:jc))/\g.rangeAt V (ol+i*73) (aE u qm)) 22
   (.t 0 (.t 1 (.t 2 (.t 3 (.t 4 (.t 5 (.t 6 (.t 7 (.t 8 (.t 9 (.t 10 (.t 11 (.t 12 (.t 13 (.t 14 (.t 15 (.t 16 (.t 17 (.t 18 (.t 19 (.o 20 (.t 21 .done)))))))))))))))))))))) af af af af L (λ_ _ _ _ h=>h) ⟨F,H,Wm,K,P⟩ ?_
  have c:=bV x5;obtain⟨x6,hx⟩:=J x5.drew;rw[<-hx]at c⊢;replace U:=ah U c;replace F:=ae F c;replace H:=ae H c;replace x:=ae x c;replace Wm:=ae Wm c;replace K:=O (aD K c);replace P:N (x6.rangeAt V (ol+i*73) (aE u qm)):=O (λt d q=>aD (P t d q) c);have a6:=O c;clear hx c;refine co ?_;refine tS ?_;iterate 2 refine co ?_
  refine tY ?_;refine co ?_;refine yr ?_;refine co ?_;refine tS ?_;iterate 2 refine co ?_
  refine tY ?_;refine co ?_
  (refine cJ (v:=jh C) I aj (λg R=>by rw[VV];exact eF _ _ VC.t _ I _ _ I _ VC.d R.2.2.2.2 VC.hu VC.hd (by rw[Vq];exact VC.hi)) ?_;refine G ?_)
  refine co ?_
  (refine cJ (v:=jh TF) I aj (λg R=>by rw[au];exact eF _ _ VD.t _ I (M+1) 1 I _ VD.d (λt d q=>ai R.2.1 (ZY t d q)) VD.hu VD.hd (by rw[Yo];exact VD.hi)) ?_;refine G ?_)
  (refine cJ (v:=jh X) I aj (λg R=>dc VG.hu VG.hd (by rw[y.sz];exact VG.hi) I I R.2.2.1) ?_;refine G ?_)
  have WH:N (TF.size=32):=O (by rw[au,jv];exact Yo);obtain⟨m,hY⟩:=J ((#[jH .i64 (i:jc)]++C++TF++ #[jH .i64 (0:jb)]++X))
  (refine cJ (v:=jh m) I aj (λg R=>by rw[hY];exact zv (i:=(i:jc)) (s:=0) (C:=C) (I0:=TF) (G0:=X) Wc WH y.sz I af g) ?_;refine G ?_)
  have Yq:N (m.size=VK.n):=O (by rw[hY,j8,j8,j8,j8,Wc,WH,y.sz];rfl);have a2:N (m.all (·.oneCell')=ji):=O (by
   have Wg:C.all (·.oneCell')=ji:=by rw[VV,jR];exact λd hu=>mC HQ d (ak hu)
   have Vd:TF.all (·.oneCell')=ji:=by rw[au];exact eU _
   rw[hY,j9,j9,j9,j9,y.one,Wg,Vd];simp[j4])
  have ba:=O hY;clear hY;iterate 2 refine co ?_
  refine cV I (λK' z=>?_);rw[jr aj];refine jQ VK.t _ _ I (M+2) m I I VK.t VK.Z x.out (by rw[Yq];exact VK.hi) (VK.hZ.trans Yq.symm) a2 ?_;have aa:∀b,b≠M+2->(x6.setRow (M+2) m).heap[b]?=x6.heap[b]?:=λb f=>js _ _ _ _ f
  have ax:jk w w (x6.setRow (M+2) m):=iR U.out (by rw[<-HM];omega) m;have ad:(x6.setRow (M+2) m).heap.size=x6.heap.size:=setRow_size _ _ _;have a3:N ((x6.setRow (M+2) m).heap[M+2]?=T (ja m VK.t (0,0))):=O (jT _ _ _ _ _ _ x.out);generalize x6.setRow (M+2) m=x7 at aa ax ad a3⊢;refine z _ _ ⟨(aa M Y).trans F,(aa (M+1) Y).trans H,(aa b7 (aJ Zh)).trans Wm,(qu (a:=⟨ga,oa+kk,jf⟩) (aa ga (cT WT.1))).trans K,λt d q=>(qu (a:=⟨V,ol+i*73+t,jf⟩) (aa V (cT WT.2))).trans (P t d q)⟩ λ_=>?_
  have bb:N (W=0->∃B D,X=(aB (aC (aI fol) u) B D).toArray/\dz (λk=>M+3<=k/\k<x7.heap.size) x7 (aC (aI fol) u) B D):=O λh=>by
   obtain⟨B,D,e1,Q⟩:=UT h;exact⟨B,D,e1,((Q.below a6).keep λb f=>aa b Y).mono λb f=>⟨f.1,by rw[ad];exact f.2⟩⟩
  have bc:=O ax;clear z aa ad ax UT;refine G ?_;refine co ?_;refine fc ?_
  go_wp2_with fail
  refine qj (fS I _ _ (M+2) VK.t m (0,0) _ I a3 r6 I (by rw[Yq];exact VK.hi)) I ?_;refine⟨m,o,I,Yq,a2,λh=>?_,λh=>?_,bc⟩
  ·have h0:W=0:=qM (a1.out▸h)
   obtain⟨B,D,e1,Q⟩:=bb h0;refine⟨⟨i,(u,qm),fid,0,aC (aI fol) u,B,D⟩,?_,KD.of bh (Q.mono λb f=>⟨by rw[<-HM];omega,f.2⟩) bf,?_⟩
   ·rw[ba,VV,au,e1,<-Ao,qU]
   rw[HF,ay.1,ay.2,jr (y.eq.symm.trans h0),Z7];exact qk T CK.cand_of.symm
  have h0:¬W=0:=of_decide_eq_false (a1.out▸h);rw[HF,ay.1,jE (λe=>h0 (y.eq.trans e))]
 refine cV I (λK' z=>?_);rw[jr aj];refine gM VG.t I VG.Z VG.hal ?_;obtain⟨x3,b7,hx,f,bu,bd⟩:=dh x2 VG.Z VG.t;rw[<-hx,<-f];have UM:N (b7=x2.heap.size/\x3.heap.size=b7+1):=O ⟨f,by rw[hx,f,jp]⟩;have S:=O bd;have bi:=ah U bd;refine z _ _ ⟨av F (S),av H (S),av x (S),aD K (S),λt d q=>aD (P t d q) (S)⟩ λ_=>?_
 clear z hx f bd;refine G ?_;refine cV I (λK' z=>?_);go_simp;have hN:=AW (aI fol) (A jf 0 0) (A jf 0 0) u qm x3 (G2 fol _) (HQ.below bi) bg (HT.below bi) (jN _) (jN _);rw[<-a5,<-VV]at hN;refine hN.mono ?_;clear hN;rintro e x4 ⟨X,W,rfl,hN⟩;have y:=O hN;clear hN;have UA:=O (S.trans (y.bel.mono S.size));have bd:=O (av bu y.bel);refine z _ _ ⟨av F (UA),av H (UA),av x (UA),aD K (UA),λt d q=>aD (P t d q) (UA)⟩ λ_=>?_
 clear z;refine G ?_;iterate 3 refine co ?_
 refine cV I (λK' z=>?_);rw[jr aj];refine jQ VG.t _ _ I b7 X I I VG.t VG.Z bd.out (by rw[y.sz];exact VG.hi) (VG.hZ.trans y.sz.symm) y.one ?_;have Wm:N ((x4.setRow b7 X).heap[b7]?=T (ja X VG.t (0,0))):=O (jT _ _ _ _ _ _ bd.out);have c:jk x2 x2 (x4.setRow b7 X):=iR UA.out (by rw[UM.1];exact jF _) X;have YI:∀b,x3.heap.size<=b->(x4.setRow b7 X).heap[b]?=x4.heap[b]?:=λb f=>js _ _ _ _ (cT UM.2)
 have ad:(x4.setRow b7 X).heap.size=x4.heap.size:=setRow_size _ _ _;generalize x4.setRow b7 X=x5 at Wm c YI ad⊢;have Zh:N (M+3<=b7):=O (by rw[UM.1];exact a4);have UT:N (W=0->∃B D,X=(aB (aC (aI fol) u) B D).toArray/\dz (λk=>M+3<=k/\k<x5.heap.size) x5 (aC (aI fol) u) B D):=O λh=>by
  obtain⟨B,D,e1,Q⟩:=y.new h;exact⟨B,D,e1,(Q.keep λb f=>YI b f.1).mono λb f=>⟨jD a4 (jD S.size f.1),by rw[ad];exact f.2⟩⟩
 refine z _ _ ⟨av F (c),av H (c),av x (c),aD K (c),λt d q=>aD (P t d q) (c)⟩ λ_=>?_
 replace HB:=ah HB c;replace U:=ah U c;replace F:=ae F c;replace H:=ae H c;replace x:=ae x c;replace K:=O (aD K c);replace P:N (x5.rangeAt V (ol+i*73) (aE u qm)):=O (λt d q=>aD (P t d q) c);clear c;clear z YI ad;refine G ?_;refine co ?_;refine fc ?_;obtain⟨o,ho⟩:=J (decide (W=0));have a1:=O ho;have br:(W==0)=o:=by rw[ho];by_cases h:W=0<;>simp[h]
 have bs:decide (W=0)=o:=ho.symm;clear ho
 go_upto_region 5 with fail
 refine jL ?_;refine fP (λg=>g.heap[M]?=T (ja #[A (T ⟨V,ol,jf⟩) n k1,A p2 E k2,A (T ⟨ga,oa,jf⟩) E k3] 78 (0,0))/\g.heap[M+1]?=T (ja FA VF.t (0,0))/\g.heap[b7]?=T (ja X VG.t (0,0))/\g.cell? ⟨ga,oa+kk,jf⟩=T (jd je (i:jc))/\g.rangeAt V (ol+i*73) (aE u qm)) 22
  (.t 0 (.t 1 (.t 2 (.t 3 (.t 4 (.t 5 (.t 6 (.t 7 (.t 8 (.t 9 (.t 10 (.t 11 (.t 12 (.t 13 (.t 14 (.t 15 (.t 16 (.t 17 (.t 18 (.t 19 (.o 20 (.t 21 .done)))))))))))))))))))))) af af af af L (λ_ _ _ _ h=>h) ⟨F,H,Wm,K,P⟩ ?_
 have c:=bV x5;obtain⟨x6,hx⟩:=J x5.drew;rw[<-hx]at c⊢;replace U:=ah U c;replace F:=ae F c;replace H:=ae H c;replace x:=ae x c;replace Wm:=ae Wm c;replace K:=O (aD K c);replace P:N (x6.rangeAt V (ol+i*73) (aE u qm)):=O (λt d q=>aD (P t d q) c);have a6:=O c;clear hx c;refine co ?_;refine tS ?_;iterate 2 refine co ?_
 refine tY ?_;refine co ?_;refine yr ?_;refine co ?_;refine tS ?_;iterate 2 refine co ?_
 refine tY ?_;refine co ?_
 (refine cJ (v:=jh C) I aj (λg R=>by rw[VV];exact eF _ _ VC.t _ I _ _ I _ VC.d R.2.2.2.2 VC.hu VC.hd (by rw[Vq];exact VC.hi)) ?_;refine G ?_)
 refine co ?_
 (refine cJ (v:=jh TF) I aj (λg R=>by rw[au];exact eF _ _ VD.t _ I (M+1) 1 I _ VD.d (λt d q=>ai R.2.1 (ZY t d q)) VD.hu VD.hd (by rw[Yo];exact VD.hi)) ?_;refine G ?_)
 (refine cJ (v:=jh X) I aj (λg R=>dc VG.hu VG.hd (by rw[y.sz];exact VG.hi) I I R.2.2.1) ?_;refine G ?_)
 have WH:N (TF.size=32):=O (by rw[au,jv];exact Yo);obtain⟨m,hY⟩:=J ((#[jH .i64 (i:jc)]++C++TF++ #[jH .i64 (0:jb)]++X))
 (refine cJ (v:=jh m) I aj (λg R=>by rw[hY];exact zv (i:=(i:jc)) (s:=0) (C:=C) (I0:=TF) (G0:=X) Wc WH y.sz I af g) ?_;refine G ?_)
 have Yq:N (m.size=VK.n):=O (by rw[hY,j8,j8,j8,j8,Wc,WH,y.sz];rfl);have a2:N (m.all (·.oneCell')=ji):=O (by
  have Wg:C.all (·.oneCell')=ji:=by rw[VV,jR];exact λd hu=>mC HQ d (ak hu)
  have Vd:TF.all (·.oneCell')=ji:=by rw[au];exact eU _
  rw[hY,j9,j9,j9,j9,y.one,Wg,Vd];simp[j4])
 have ba:=O hY;clear hY;iterate 2 refine co ?_
 refine cV I (λK' z=>?_);rw[jr aj];refine jQ VK.t _ _ I (M+2) m I I VK.t VK.Z x.out (by rw[Yq];exact VK.hi) (VK.hZ.trans Yq.symm) a2 ?_;have aa:∀b,b≠M+2->(x6.setRow (M+2) m).heap[b]?=x6.heap[b]?:=λb f=>js _ _ _ _ f
 have ax:jk w w (x6.setRow (M+2) m):=iR U.out (by rw[<-HM];omega) m;have ad:(x6.setRow (M+2) m).heap.size=x6.heap.size:=setRow_size _ _ _;have a3:N ((x6.setRow (M+2) m).heap[M+2]?=T (ja m VK.t (0,0))):=O (jT _ _ _ _ _ _ x.out);generalize x6.setRow (M+2) m=x7 at aa ax ad a3⊢;refine z _ _ ⟨(aa M Y).trans F,(aa (M+1) Y).trans H,(aa b7 (aJ Zh)).trans Wm,(qu (a:=⟨ga,oa+kk,jf⟩) (aa ga (cT WT.1))).trans K,λt d q=>(qu (a:=⟨V,ol+i*73+t,jf⟩) (aa V (cT WT.2))).trans (P t d q)⟩ λ_=>?_
 have bb:N (W=0->∃B D,X=(aB (aC (aI fol) u) B D).toArray/\dz (λk=>M+3<=k/\k<x7.heap.size) x7 (aC (aI fol) u) B D):=O λh=>by
  obtain⟨B,D,e1,Q⟩:=UT h;exact⟨B,D,e1,((Q.below a6).keep λb f=>aa b Y).mono λb f=>⟨f.1,by rw[ad];exact f.2⟩⟩
 have bc:=O ax;clear z aa ad ax UT;refine G ?_;refine co ?_;refine fc ?_
 go_wp2_with fail
 refine qj (fS I _ _ (M+2) VK.t m (0,0) _ I a3 r6 I (by rw[Yq];exact VK.hi)) I ?_;refine⟨m,o,I,Yq,a2,λh=>?_,λh=>?_,bc⟩
 ·have h0:W=0:=qM (a1.out▸h)
  obtain⟨B,D,e1,Q⟩:=bb h0;refine⟨⟨i,(u,qm),fid,0,aC (aI fol) u,B,D⟩,?_,KD.of bh (Q.mono λb f=>⟨by rw[<-HM];omega,f.2⟩) bf,?_⟩
  ·rw[ba,VV,au,e1,<-Ao,qU]
  rw[HF,ay.1,ay.2,jr (y.eq.symm.trans h0),Z7];exact qk T CK.cand_of.symm
 have h0:¬W=0:=of_decide_eq_false (a1.out▸h);rw[HF,ay.1,jE (λe=>h0 (y.eq.trans e))]
theorem B9:∀(l:jg jb) (a b:jb),l.Pairwise (·<·)->(∀x∈l,a<=x/\x<=b)->(l.length:jb)<=max 0 (b-a+1)
 |[],a,b,_,_=>by simp;omega
 |x::l,a,b,h,c=>by
  rw[sx]at h;have e:=c x (qv ..);have f:=B9 l (x+1) b h.2 λy d=>⟨by have:=h.1 y d;omega,(c y (qw _ d)).2⟩
  rw[jX];omega
theorem lU(h:dD e):e.mem.length<=512/\e.tree.length<=1023:=by
 constructor
 ·have a:=qk List.length h.dev
  rw[jw]at a;have:=Gh e.tree;omega
 have b:=lO h.tree;have a:=B9 (e.tree.map (·.1)) 1 1023 b.1.keys λx c=>by
  obtain⟨g,he,rfl⟩:=qd.1 c;exact⟨(b.2 g he).1,(b.2 g he).2.1⟩
 rw[jw]at a;omega
section
variable{b:CK}{e:jl}
section
variable {P:o1} {F:Fence} {nF:jc} {ops:jq jK} {rest:jg jK} {o:jK} {a:Act} {w:jj} {Q:Exit->Act->jj->Prop} (V:VarT P)
theorem VarT.madeI(d:o.guard=jf)(b:o.op=.alloc V.t)(h:wpListIn F nF P ops Q rest (a.put o.dst (jt (T ⟨w,0,jf⟩))) (w.alloc (ja V.Z V.t))):wpListIn F nF P ops Q (o::rest) a w:=by
 refine wpListIn_plain d λg e=>?_
 unfold Oper.wpIn;refine⟨by simp[Oper.about,b],?_⟩;rw[Oper.semAt_plain F _ _ (by rw[b];intro c f;cases f)];simp only[jP,b,Sem.run_bind,V.hal,Result.andThen_ok,Sem.run_pure];exact e _ _ h
theorem VarT.storeI(d:o.guard=jf){x y:j0}(e:o.op=.store V.t x y){g:jc}(f:a.eval x=jt (T ⟨g,0,jf⟩))(C:jq jl)(i:a.eval y=jh C)(c:C.size=V.n)(j:C.all (·.oneCell')=ji)
 {b:jq jl} (k:w.heap[g]?=T (ja b V.t (0,0))) (l:b.size=V.n) (h:wpListIn F nF P ops Q rest (a.put o.dst jm) (w.setRow g C)):wpListIn F nF P ops Q (o::rest) a w:=
 Ap d V.t x y e g C f i V.t b k (by rw[c];exact V.hi) (l.trans c.symm) j h
theorem VarT.firstI(b:o.guard=jf){x y:j0}(c:o.op=.store V.t x y)(d:a.eval x=jt (T ⟨w,0,jf⟩))(C:jq jl)(e:a.eval y=jh C)(f:C.size=V.n)(g:C.all (·.oneCell')=ji)
 (h:wpListIn F nF P ops Q rest (a.put o.dst jm) (w.alloc (ja C V.t))):wpListIn F nF P ops Q (o::rest) a (w.alloc (ja V.Z V.t)):=
 V.storeI b c d C e f g (jy w _) V.hZ (by rw[yh];exact h)
theorem VarT.loadI(e:Region.wanted o (yielded ops a.tmps)=ji){x:j0}(d:o.op=.load V.t x){g f:jc}(i:a.eval x=jt (T ⟨g,f,jf⟩))(b:jg jl)(j:b.length=V.n)(k:w.rangeAt g f b)
 (h:wpListIn F nF P ops Q rest (a.put o.dst (jh b.toArray)) w):wpListIn F nF P ops Q (o::rest) a w:=by
 refine wpListIn_step λn l=>?_
 rw[jr e];unfold Oper.wpIn;refine⟨by simp[Oper.about,d],?_⟩;rw[Oper.semAt_plain F _ _ (by rw[d];intro c m;cases m),eF o a V.t x d g f i b V.d k V.hu V.hd (by rw[j];exact V.hi)];exact l _ _ h
theorem VarT.loadAI(b:Region.wanted o (yielded ops a.tmps)=ji){x:j0}(c:o.op=.load V.t x){g:jc}(d:a.eval x=jt (T ⟨g,0,jf⟩))(C:jq jl)(e:C.size=V.n){t:jM}(f:w.heap[g]?=T (ja C t (0,0)))
 (h:wpListIn F nF P ops Q rest (a.put o.dst (jh C)) w):wpListIn F nF P ops Q (o::rest) a w:=by
 refine V.loadI b c d C.toList (by rw[Array.length_toList];exact e) (λj v i=>?_) (by rw[qU];exact h);rw[Nat.zero_add];exact ai f (ak i)
end
theorem Im{w:jj}{g o:jc}(h:w.cell? ⟨g,o,jf⟩=T e):∃c t f,w.heap[g]?=T (ja c t f):=by
 unfold World.cell? at h
 cases ho:w.heap[g]? with
 |none=>simp[ho]at h
 |some a=>
  cases a with
  |cells c t f=>exact⟨c,t,f,I⟩
  |_=>simp[ho]at h
theorem cE.cellsB{w:jj}{sz n:jc}{xs:jg jl}(h:cE w e sz n xs)(i:0<sz):kU (λb=>∃c t f,w.heap[b]?=T (ja c t f)) e:=by
 obtain⟨f,p,c,rfl,-,-,j⟩:=h;rintro r k s v d a rfl;injection v with b l t
 subst l;obtain⟨g,o,rfl,m⟩:=j d;injection b with b
 subst b;have q:0<xs.length:=by rw[f];exact Nat.mul_pos d i
 exact Im (m 0 _ (sv q))
theorem bJ.cellsB{w:jj}{t:jg (jb×jb)}(h:bJ w e t):kU (λb=>∃c t f,w.heap[b]?=T (ja c t f)) e:=by
 obtain⟨p,c,rfl,-,-,f,-⟩:=h;rintro l k m v d a rfl;injection v with b i n
 subst i;obtain⟨g,o,rfl,j⟩:=f d;injection b with b
 subst b;exact Im (j 0 d).1
theorem dz.cellsOnly{D:jc->Prop}{w:jj}{g:Grp}{vt:jl}(h:dz D w g e vt):dz (λb=>D b/\∃c t f,w.heap[b]?=T (ja c t f)) w g e vt:=by
 refine⟨h.grp,λp k c vm b a d=>⟨h.bm p k c vm b a d,?_⟩,λp k c vm b a d=>⟨h.bt p k c vm b a d,?_⟩⟩
 ·exact cE.cellsB h.grp.mem L p k c vm b a d
 exact bJ.cellsB h.grp.tree p k c vm b a d
def gb(k:CK)(b:jc):Prop:=(∃a n c,k.vm=A (T a) n c/\0<n/\a.block=b)\/∃a n c,k.vt=A (T a) n c/\0<n/\a.block=b
theorem KD.own{D:jc->Prop}{f:jg CP}{w:jj}(h:KD D f w b):KD (λk=>gb b k/\D k) f w b:=
 ⟨h.at_,⟨h.grp.grp,λp n c e k a d=>⟨.inl ⟨a,n,c,by rw[e,d],k,I⟩,h.grp.bm p n c e k a d⟩,λp n c e k a d=>⟨.inr ⟨a,n,c,by rw[e,d],k,I⟩,h.grp.bt p n c e k a d⟩⟩,h.idl⟩
theorem rG{D:jc->Prop}{f:jg CP}{w:jj}(h:KD D f w b){k:jc}(g:gb b k):D k:=by
 rcases g with⟨a,n,c,e,d,rfl⟩|⟨a,n,c,e,d,rfl⟩
 ·exact h.grp.bm _ _ _ e d a I
 exact h.grp.bt _ _ _ e d a I
def GK(a:jg CP)(Ψ:jc->Prop)(W:jj)(k:CK):Prop:=KD (λb=>gb k b/\¬Ψ b/\∃c t f,W.heap[b]?=T (ja c t f)) a W k
theorem GK.of{D:jc->Prop}{a:jg CP}{Ψ:jc->Prop}{W:jj}{k:CK}(h:KD D a W k)(d:∀b,D b->¬Ψ b):GK a Ψ W k:=
 KD.own ⟨h.at_,h.grp.cellsOnly.mono λb c=>⟨d b c.1,c.2⟩,h.idl⟩
theorem GK.keep{g:jg CP}{Ψ i:jc->Prop}{d B:jj}{k:CK}(h:GK g Ψ d k)(e:∀b,gb k b->¬Ψ b->(∃c t f,d.heap[b]?=T (ja c t f))->B.heap[b]?=d.heap[b]?/\¬i b):GK g i B k:=
 (KD.keep h λb a=>(e b a.1 a.2.1 a.2.2).1).mono λb a=>⟨a.1,(e b a.1 a.2.1 a.2.2).2,by obtain⟨c,t,f,j⟩:=a.2.2;exact⟨c,t,f,(e b a.1 a.2.1 a.2.2).1.trans j⟩⟩
theorem GK.turns{B0:jc}{i:jg CP}{Ψ a:jc->Prop}{e B:jj}(h:GK i Ψ e b)(l:bQ B0 a e B)(m:∀b,a b->Ψ b\/e.heap.size<=b):GK i a B b:=
 h.keep λk p n o=>by
  obtain⟨c,t,f,g⟩:=o;have d:¬a k:=λd=>by
   rcases m k d with j|j
   ·exact n j
   have:=(jA.1 g).1;omega
  exact⟨(l.cells g d).trans g.symm,d⟩
theorem Dm(B0:jc)(a:jg CP):bY B0 (fun(ys:jg CK) Ψ W=>∀x∈ys,GK a Ψ W x):=
 λs Ψ f g B b c _ d x e=>(b x e).turns c d
structure fi(w0 w:jj)(a m:jc)(Ψ:jc->Prop)(W:jj):Prop where
 lt:∀k,Ψ k->k<W.heap.size
 old:∀k,m<=k->k<w.heap.size->Ψ k
 kept:∀k,m<=k->k<w.heap.size->W.heap[k]?=w.heap[k]?
 bel:jk a w0 W
 low:∀k,Ψ k->m<=k
 sz:w.heap.size<=W.heap.size
theorem fi.below{w0 w W c:jj}{b m:jc}{Ψ:jc->Prop}(h:fi w0 w b m Ψ W)(e:b<=w.heap.size)(a:jk W W c):fi w0 w b m Ψ c:=
 ⟨λk f=>jJ (h.lt k f) a.size,h.old,λk g d=>(a.block k (jJ d h.sz)).trans (h.kept k g d),h.bel.trans (a.mono (jD e h.sz)),h.low,jD h.sz a.size⟩
theorem fi.yield{w0 w W b:jj}{c m:jc}{Ψ:jc->Prop}(h:fi w0 w c m Ψ W)(d:jk c W b)(f:∀k,Ψ k->b.heap[k]?=W.heap[k]?):fi w0 w c m Ψ b:=
 ⟨λk a=>jJ (h.lt k a) d.size,h.old,λk a e=>(f k (h.old k a e)).trans (h.kept k a e),h.bel.trans d,h.low,jD h.sz d.size⟩
theorem fi.more{w0 w W:jj}{c m b:jc}{Ψ:jc->Prop}(h:fi w0 w c m Ψ W)(d:b<W.heap.size)(e:m<=b):fi w0 w c m (λk=>Ψ k\/k=b) W:=
 ⟨λk a=>by rcases a with a|rfl;exact h.lt k a;exact d,λk f g=>.inl (h.old k f g),h.kept,h.bel,λk a=>by rcases a with a|rfl;exact h.low k a;exact e,h.sz⟩
theorem fi.pool{w0 w W:jj}{d m:jc}{Ψ:jc->Prop}{f g:jl}{a:jg CP}(h:fi w0 w d m Ψ W)(i:w0.heap.size<=d)(j:cA w0 e a)(k:aG (λb=>m<=b/\b<w.heap.size) w f 32 (bW (a.map (·.1)) a.length).length (eM (a.map (·.1)) (bW (a.map (·.1)) a.length)))
 (l:aG (λb=>m<=b/\b<w.heap.size) w g 1 (bW (a.map (·.1)) a.length).length (fx (bW (a.map (·.1)) a.length))):iw (·<W.heap.size) W e f g a:=
 ⟨j.below (h.bel.mono i),(k.keep λb c=>h.kept b c.1 c.2).mono λb c=>jJ c.2 h.sz,(l.keep λb c=>h.kept b c.1 c.2).mono λb c=>jJ c.2 h.sz⟩
noncomputable def uy(l:jg Cmt):jG CK->jg aM
 |none=>[]
 |some k=>fE l k.cand
noncomputable def yA(l:jg Cmt)(k:CK):jg aM:=match dH k.g l with|none=>[]|some w=>fE l w
theorem K5(l:jg Cmt)(k:CK):uy l (T k)=k.cand::yA l k:=nG l k.cand
structure CSt(a:jg CP)(fol:jb)(fid:LBy)(w W:jj)(Ψ:jc->Prop)(b:jc)(c:jq jl)(ys:jg CK)(d:jG CK):Prop where
 box:W.heap[b]?=T (ja c VK.t (0,0))
 sz:c.size=VK.n
 one:c.all (·.oneCell')=ji
 mine:Ψ b
 low:w.heap.size<=b
 now:∀k,d=T k->c=(aL k).toArray/\GK a Ψ W k/\∃e,fO e (a.map (·.1)) k.cand
 rest:ys.map CK.cand++uy (a.map (·.1)) d=dA fol fid (a.map (·.1))
noncomputable def chM(l:jg Cmt)(a ok:jl)(W:jj):jc:=
 match ok,a with
 | .bool ji,jt (T ⟨b,_,_⟩)=>(l.countP λc=>decide (((W.cell? ⟨b,108,jf⟩).map jV).getD 0<c.epoch))+1
 |_,_=>0
theorem GV{a:jg CP}{fol:jb}{fid:LBy}{w W:jj}{Ψ:jc->Prop}{k:jc}{d:jq jl}{ys:jg CK}(h:CSt a fol fid w W Ψ k d ys (T b))(v:cA W e a):
 chM (a.map (·.1)) (jt (T ⟨k,0,jf⟩)) (.bool ji) W=iF (a.map (·.1)) b.g+1:=by
 obtain⟨f,g,-⟩:=h.now b I;have c:=KD.kin g v;have i:W.cell? ⟨k,108,jf⟩=T (jd je b.g.epoch):=ai h.box (by
  rw[f,ms];exact(nD c 2).trans (lP (vm:=b.vm) (vt:=b.vt) c.leads.llen).2.1)
 unfold chM;simp only[i]
 rfl
theorem ym(d:jg CP)(E R S:jl)(fol:jb)(fid:LBy)(j:fid.length=32)(w0 w:jj)(q m bp bf:jc)(t:w0.heap.size<=q)(C:jk q w0 w)(u:q<=m)(l:m<=w.heap.size)(D:cA w0 E d)
 (K:aG (λb=>m<=b/\b<w.heap.size) w R 32 (bW (d.map (·.1)) d.length).length (eM (d.map (·.1)) (bW (d.map (·.1)) d.length))) (M:aG (λb=>m<=b/\b<w.heap.size) w S 1 (bW (d.map (·.1)) d.length).length (fx (bW (d.map (·.1)) d.length)))
 (o:w.heap[bp]?=T (ja #[E,R,S] VP.t (0,0))) (s:w.heap[bf]?=T (ja (c8 fol fid).toArray VF.t (0,0))) (P:m<=bp) (Q:m<=bf) (v:∀p∈d,cZ (aR p.1)) (U:bH w0) (y:d.length<=1000) (V:∀p∈d,p.1.chg.length<=1000000):
 zY jo 57 #[jt (T ⟨bp,0,jf⟩),jt (T ⟨bf,0,jf⟩)] (λk:CK=>#[jh (aL k).toArray]) (λk=>m<=k/\k<w.heap.size) q (λxs=>xs.map CK.cand=dA fol fid (d.map (·.1))) (λa=>∃c,a.map CK.cand++c=dA fol fid (d.map (·.1)))
  (λys Ψ e=>(∃a x,ys=a++[x]/\GK d Ψ e x)/\∃c,ys.map CK.cand++c=dA fol fid (d.map (·.1))) (λys Ψ B=>∀x∈ys,GK d Ψ B x) gb w:=by
 intro lp F Jx W c p x X hY aa;have e:fi w0 w q m (λk=>m<=k/\k<w.heap.size) W:=⟨λk g=>jJ g.2 c.size,λk a b=>⟨a,b⟩,λk _ g=>c.block k g,C.trans (c.mono (jD u l)),λk g=>g.1,c.size⟩;obtain⟨PA,f⟩:=J (#[E,R,S]);obtain⟨FA,i⟩:=J ((c8 fol fid).toArray);have bi:N (PA.size=VP.n):=O (by rw[f];rfl);have ZH:N (FA.size=VF.n):=O (by rw[i,jv];unfold c8;rw[jX,jw,j];rfl);rw[<-f]at o;rw[<-i]at s;have Za:N (∀Ψ z,fi w0 w q m Ψ z->z.heap[bp]?=T (ja PA VP.t (0,0))):=O λΨ z h=>(h.kept bp P (jA.1 o).1).trans o
 have bw:N (∀Ψ z,fi w0 w q m Ψ z->z.heap[bf]?=T (ja FA VF.t (0,0))):=O λΨ z h=>(h.kept bf Q (jA.1 s).1).trans s
 have YG:N (∀Ψ z,fi w0 w q m Ψ z->iw (·<z.heap.size) z E R S d):=O λΨ z h=>h.pool t D K M
 have bk:N (∀Ψ z,fi w0 w q m Ψ z->bH z):=O λΨ z h=>U.below (h.bel.mono t)
 have bA:=O f;have b6:=O i;have HE:=O v;have HN:=O y;have Vy:=O V;have Zx:=O e;have H:=O p;have b7:=O x;have HG:=O X;have HY:=O hY;have B:=O aa;have YB:=O (jD u l);have bl:=O l;have a6:=O c.size;have b8:=O j;have WL:=O (Za _ _ e);have Ve:=O (bw _ _ e);have r:=Fs d E R S fol fid j W (YG _ _ e) v (bk _ _ e) y;rw[<-f,<-i]at r;replace r:=O r;clear c p x X hY aa e f i o s t C u l D K M P Q v U y V j;refine(qN (n:=0)).1 ?_;refine callsIn_of_wp func57 I trivial ?_ I;simp only[ntmps57,jv,jX,qx,qy,qz,qA,qB,qC,qD,qe,qE]
 gi_wp2_with (first|(refine VP.loadAI aj I I PA bi WL (G ?_))|(refine VF.loadAI aj I I FA ZH Ve (G ?_)))
 refine⟨trivial,I,(callsIn_wide.2 r).mono ?_⟩;rintro e x1 ⟨p,o,rfl,c,aa,f,i,u⟩;obtain⟨l,rfl,v,x⟩:∃l:jG CK,o=l.isSome/\(∀k,l=T k->p=(aL k).toArray/\KD (λb=>W.heap.size<=b/\b<x1.heap.size) d x1 k/\eS fol fid (d.map (·.1))=T k.cand)/\(l=jf->eS fol fid (d.map (·.1))=jf):=by
  rcases o with _|_
  ·exact⟨jf,I,(λk g=>by cases g),(λ_=>i I)⟩
  obtain⟨k,y,K,h3⟩:=f I;exact⟨T k,I,λj g=>by injection g with g;subst g;exact⟨y,K,h3⟩,λh=>by cases h⟩
 have t:=O c;have C:=O aa;have s:=O v;have P:=O x;have U:=O u;clear c aa f i v x u WL Ve r;obtain⟨ok,c⟩:=J l.isSome;rw[<-c];have bB:=O c;clear c
 gi_wp2_with (first|(refine VK.madeI I I (G ?_))|(refine VK.firstI I I I p I t C (G ?_)))
 obtain⟨x2,b4,hx,r,M,D⟩:=dh x1 p VK.t;rw[<-hx,<-r];have u:=U.trans (D.mono U.size);obtain⟨v,f⟩:∃v:jc->Prop,v=λk=>(m<=k/\k<w.heap.size)\/k=b4:=⟨_,I⟩
 have V:W.heap.size<=b4:=by rw[r];exact U.size
 have Q:∀b,(W.heap.size<=b/\b<x1.heap.size)->¬v b:=λb bm h=>by
  rw[f]at h;have:=a6.out
  rcases h with h|h
  ·omega
  omega
 have X:N (fi w0 w q m v x2):=O (by rw[f];exact(Zx.below YB u).more (by rw[r];have h:=(jA.1 M).1;rw[r]at h;exact h) (ee a6 bl));have U3:N (F [] v x2):=O (H _ _ v _ _ B.out (bQ.ofBelow u λk g _=>g) (λk g=>by rw[f];exact .inl g) (λk g=>by
  rw[f]at g
  rcases g with g|g
  ·exact .inl g
  exact .inr (by rw[g];exact V)))
 have VX:N (∀k,l=T k->F [] (λi=>v i\/gb k i) x2):=O λk g=>H _ _ (λi=>v i\/gb k i) _ _ B.out (bQ.ofBelow u λk g _=>g) (λi c=>by rw[f];exact .inl (.inl c)) (λi c=>by
  rw[f]at c
  rcases c with(c|c)|c
  ·exact .inl c
  ·exact .inr (by rw[c];exact V)
  exact .inr (rG (s k g).2.1 c).1)
 have x:N (CSt d fol fid w x2 v b4 p [] l):=O ⟨M,t,C,by rw[f];exact .inr I,jD a6 V,λk g=>by
  obtain⟨e1,e2,e3⟩:=s k g;refine⟨e1,GK.of (e2.keep λb bm=>D.block b bm.2) Q,_,(tw e3).1⟩,by
  rw[pQ,jZ,qe]
  rcases l with _|k
  ·rw[P I];rfl
  rw[(s k I).2.2];rfl⟩
 have U8:N (W.heap.size<=x2.heap.size):=O u.size;clear hx r D u V Q f s P U M t C B Zx
 gi_loopw [4,5] (λf ok wr=>W.heap.size<=wr.heap.size/\∃(b:jc) (p:jq jl) (ys:jg CK) (l:jG CK) (Ψ:jc->Prop),f=jt (T ⟨b,0,jf⟩)/\ok=.bool l.isSome/\N (fi w0 w q m Ψ wr)/\N (F ys Ψ wr)/\N (∀k,l=T k->F ys (λi=>Ψ i\/gb k i) wr)/\N (CSt d fol fid w wr Ψ b p ys l)) (λf ok wr=>chM (d.map (·.1)) f ok wr)
 case atStart=>exact⟨U8,b4,p,[],l,v,I,by rw[bB],X,U3,VX,x⟩
 obtain⟨b9,b,p,ys,l,Ψ,rfl,rfl,X,U3,VX,x⟩:=hrel
 rcases l with _|k
 ·have s:N (ys.map CK.cand=dA fol fid (d.map (·.1))):=O (by have h:=x.rest;unfold uy at h;rw[qF]at h;exact h)
  gi_wp2_with fail
  refine⟨(λf h=>by cases h),?_⟩
  gi_wp2_with fail
  refine bodyPost_end (results_none I _ _ _) I ?_;exact⟨⟨_,I⟩,.inl ⟨_,_,s,U3⟩⟩
 obtain⟨f,s,g0,t⟩:=x.now k I;have bC:=O s;have ZU:=O t;have bI:=O f;have bn:N (cA wr E d):=O (YG _ _ X.out).list;have bK:=O (GV x bn);have U5:N ((ys++[k]).map CK.cand++yA (d.map (·.1)) k=dA fol fid (d.map (·.1))):=O (by
  rw[<-x.rest,mz,qV,K5]
  rfl)
 have UM:=O x.box;have au:=O x.sz;have U:=O x.one;have bo:=HY ys k Ψ wr U3 (VX k I) X.lt ⟨⟨ys,k,I,s⟩,_,U5⟩;rw[<-f]at bo;obtain⟨fn,tmps,assign,body,aa,B⟩:=bo;have HR:=O B;clear B f s t
 gi_wp2_with (first|(refine VK.loadAI aj I I p au UM (G ?_)))
 refine⟨I,HR.mono ?_⟩;rintro e W3 (⟨rfl,Zd,u,U9⟩|⟨rfl,ZT,u,U9⟩)
 ·have C:=O (X.yield u U9)
  have a1:=O (HG _ _ _ Zd k ar);have ax:=O Zd;have Wk:=O ((U9 b x.mine).trans UM);have Wt:=u.size;clear Zd u U9 HR aa X bC U3 VX UM bn
  gi_upto_region 2 with(first|(refine VK.loadAI aj I I p au Wk (G ?_))|(refine VK.madeI I I (G ?_))|(refine VK.firstI I I I p I au U (G ?_)))
  obtain⟨B,s,hx,r,M,D⟩:=dh W3 p VK.t;rw[<-hx,<-r];obtain⟨f,t⟩:∃f:jc->Prop,f=λi=>Ψ i\/i=s:=⟨_,I⟩
  have Y7:s<B.heap.size:=(jA.1 M).1;have ad:N (fi w0 w q m f B):=O (by rw[t];exact(C.below YB D).more Y7 (by rw[r];have:=C.sz;have:=bl.out;omega));have P:∀i,f i->Ψ i\/W3.heap.size<=i:=λi c=>by
   rw[t]at c
   rcases c with c|c
   ·exact .inl c
   exact .inr (by rw[c,r];exact jF _)
  have Q:bQ W.heap.size f W3 B:=bQ.ofBelow D λi c _=>c
  have bq:N (F (ys++[k]) f B):=O (H _ _ f _ _ ax.out Q (λi c=>by rw[t];exact .inl c) P);have bM:N (GK d f B k):=O (a1.turns Q P);have ay:N (f s):=O (by rw[t];exact .inr I);have ba:N (w.heap.size<=s):=O (by rw[r];exact C.sz);have WQ:N (W.heap.size<=B.heap.size/\W.heap.size<=s):=O ⟨by have:=D.size;omega,by rw[r];omega⟩;clear hx r D t Y7 P Q C a1 ax Wk Wt;have bb:=O (YG _ _ ad.out);have WL:=O (Za _ _ ad.out);have Z1:=O (KD.kin bM bb.list);have br:=O (lU (gY (nS ZU)));have Wi:N ((aB k.g k.vm k.vt).length=VG.n):=O (eH Z1.leads.llen);have bN:N (B.rangeAt s 107 (aB k.g k.vm k.vt)):=O λt ca ht=>ai M (by
   rw[bI,ms];have h:=nD Z1 (1+t);rw[<-qn,qt 1 t,qG]at h;exact h.trans ht)
  have a1:=uf d E R S k.g k.vm k.vt B bb Z1.leads HE (bk _ _ ad.out) HN (by have h:=br.1;rw[<-ZU.leads]at h;have K:k.g.mem.length<=512:=h;omega) (by have h:=br.2;rw[<-ZU.leads]at h;have K:k.g.tree.length<=1023:=h;omega) Vy;obtain⟨GA,C⟩:=J ((aB k.g k.vm k.vt).toArray);rw[<-C,<-bA]at a1;have WT:=O C;replace a1:=O a1;clear C
  gi_wp2_with (first|(refine VP.loadAI aj I I PA bi WL (G ?_))|(refine VG.loadI aj I I (aB k.g k.vm k.vt) Wi bN ?_;rw[<-WT];refine G ?_))
  refine⟨trivial,I,(callsIn_wide.2 a1).mono ?_⟩;rintro e x5 ⟨wk,rfl,a2,a3,P⟩;obtain⟨C,D⟩:=J (x5.setRow s (dm wk));have bc:=ad.lt;have V:=bc s ay;have bd:=av M P;have a4:=sH (wk:=wk) λj h=>(a2 j h).kin (bb.list.below P)
  have bO:=P.size;have bg:∀i,i≠s->C.heap[i]?=x5.heap[i]?:=λi c=>by rw[D];exact js _ _ _ _ c
  have a5:C.heap.size=x5.heap.size:=by rw[D];exact setRow_size _ _ _
  have Q:=ad.below YB P;have bs:N (fi w0 w q m f C):=O ⟨λi c=>by rw[a5];exact Q.lt i c,Q.old,λi y K=>(bg i (aJ ba)).trans (Q.kept i y K),by rw[D];exact iR Q.bel (jD YB ba) _,Q.low,by rw[a5];exact Q.sz⟩;have bT:N (F (ys++[k]) f C):=O (by
   have y:=H.keep bq (bQ.ofBelow P λi c _=>c);rw[D];exact H.keep y (bQ.setRow _ _ _ ay.out))
  have b0:N (∀j,wk=T j->F (ys++[k]) (λi=>f i\/gb j i) C):=O λj h=>by
   have y:=H _ _ (λi=>f i\/gb j i) _ _ bq.out (bQ.ofBelow P λi c _=>c) (λi c=>.inl c) (λi c=>by
    rcases c with c|c
    ·exact .inl c
    exact .inr (rG (a2 j h) c).1)
   rw[D];exact H.keep y (bQ.setRow _ _ _ (.inl ay))
  have bh:∀j,wk=T j->fO k.g (d.map (·.1)) j.cand:=λj h=>by
   rw[h]at a3;exact(oy (rE a3.symm)).1
  have bu:N (CSt d fol fid w C f s (dm wk) (ys++[k]) wk):=O ⟨by rw[D];exact jT _ _ _ _ _ _ bd,a4.1,a4.2,ay,ba,λj h=>by
   refine⟨by rw[h];rfl,GK.of ((a2 j h).keep λi c=>bg i Y) (λi c h3=>by have:=bc i h3;omega),_,bh j h⟩,by
   rw[<-U5];refine qk (_ ++·) ?_;unfold uy yA;rw[<-a3]
   cases wk<;>rfl⟩
  have b1:N (chM (d.map (·.1)) (jt (T ⟨s,0,jf⟩)) (.bool wk.isSome) C<chM (d.map (·.1)) (jt (T ⟨b,0,jf⟩)) (.bool ji) wr):=O (by
   rw[bK]
   cases hwk:wk with
   |none=>exact qW _
   |some j=>
    have y:=GV (hwk▸bu.out) (YG _ _ bs.out).list;have K:=sO (bh j hwk);have h3:iF (d.map (·.1)) j.g<iF (d.map (·.1)) k.g:=K;show chM _ _ (.bool ji) _ <_;rw[y];omega)
  have b2:=O bd;have bv:=O a4;have b3:=O D;have b5:N (W.heap.size<=C.heap.size):=O (by rw[a5];have:=WQ.out;omega);clear bc V bd a4 bO bg a5 Q bh a2 a3 P D
  gi_wp2_with (first|(refine VK.storeI I I I (dm wk) I bv.1 bv.2 b2 au ?_;rw[<-b3];refine G ?_))
  exact⟨⟨b5,s,dm wk,ys++[k],wk,f,I,I,bs,bT,b0,bu⟩,b1⟩
 have ax:=O ZT;clear ZT u U9 HR aa
 gi_wp2_with fail
 refine bodyPost_end (results_none I _ _ _) I ?_;exact⟨⟨_,I⟩,.inr ⟨_,_,⟨_,U5⟩,ax⟩⟩
end
theorem R8{P:o1}{i:Exit->Act->jj->Prop}{b M z:jc}{m:Act}{w:jj}(S:jj->Prop)(f:jc)(t:bE)(g:P.follows .mixedOrders=ji)(d:Region.noSelect U=ji)(j:rL U=ji)
 (k:gC .any U t (qf U.size jn)=ji) (a:t.waits .any U f=ji) (o:t.len<=U.size) (p:∀c m h w,i (.panic c) m w->i (.panic c) h w) (c:¬LetsOut i)
 (q:S w.drew) (h:cX P U i S f t m w.drew):(Code.region z U ji).wpIn (Fence.wide.inRound b) M P i m w:=
 wpIn_region_any g (yx c j _ _ _ _ (rM _ _ _ _ (iN.zero _) (kD d p t _ _ _ _ o k a (.inr q) h)))
theorem zN(a b:jq jl)(w:jj):jB jo 22 #[jh a,jh b] w λe w'=>
 e=jz (.func (.func 57) #[] #[jt (T ⟨w,0,jf⟩),jt (T ⟨w.heap.size+1,0,jf⟩)])/\w'=(w.alloc (ja a 78)).alloc (ja b 25):=by
 go_enter func22,ntmps22
 go_wp2_with fail
 go_ret;exact⟨I,I⟩
theorem zH(t:jq jl)(p:Tmp)(v:jl):(#[p].zip #[v]).foldl (λt (p,v)=>t.setIfInBounds p v) t=t.setIfInBounds p v:=by simp
theorem ze(l:jg Cmt):∀(n:jc) (c:jG aM),(kT l n c).length<=n
 |0,_=>jF _
 |_ +1,jf=>jN _
 |n+1,T c=>Nat.succ_le_succ (ze l n _)
noncomputable def RG:eL jo:=.of 30 41 36 96 (jh VG.Z) underlying30 af VG.hZ L L L
theorem bQ.more(h:bQ b D w W):bQ b (λB0=>D B0\/E B0) w W:=⟨h.os,h.tape,h.output,h.size,λk B0 d=>h.block k B0 λe=>d (.inl e)⟩
theorem bY.more{β:Type}{c:β->(jc->Prop)->jj->Prop}(h:bY b c)(d:β->jc->Prop):bY b (λs Ψ W=>c s (λB0=>Ψ B0\/d s B0) W):=
 λs Ψ j B0 B e f g i=>h s _ _ B0 B e f.more (λk a=>a.imp (g k) id) λk a=>a.elim (λa=>(i k a).imp .inl id) λa=>.inl (.inr a)
def gbs(ys:jg CK)(b:jc):Prop:=∃k∈ys,gb k b
def ChI(a:jg CP)(M:jc)(w:jj)(ys:jg CK)(Ψ:jc->Prop)(W:jj):Prop:=(∀x∈ys,GK a Ψ W x)/\gR (M+1) 29 (M+1) RI.e RI.k ys.length (ys.map λk=>jH .i64 (k.ix:jc)) (λ_=>True) (λb=>Ψ b\/gbs ys b) W/\gR (M+2) 30 (M+1) RG.e RG.k ys.length (ys.flatMap λk=>aB k.g k.vm k.vt) (λ_=>True) (λb=>Ψ b\/gbs ys b) W/\(jk w w W/\∀k,Ψ k->w.heap.size<=k)
theorem Fo(a:jg CP)(M:jc)(w:jj)(B0:jc)(h:w.heap.size<=B0):bY B0 (ChI a M w):=
 (Dm _ _).and (((m5 _ _ _ _ _ _ (λys:jg CK=>ys.length) (λys=>ys.map λk=>jH .i64 (k.ix:jc)) (λ_ _=>True)).more gbs).and (((m5 _ _ _ _ _ _ (λys:jg CK=>ys.length) (λys=>ys.flatMap λk=>aB k.g k.vm k.vt) (λ_ _=>True)).more gbs).and (kI _ _ w (jF _) h)))
def Off(B M:jc)(t e:jM)(k:jc)(x:CK)(Ψ:jc->Prop)(W:jj):Prop:=∃n xs,gR B t M e k n xs (λ_=>True) (λb=>Ψ b\/gb x b) W
theorem Off.stable(B M:jc)(t e:jM)(k B0:jc):bY B0 (Off B M t e k):=by
 rintro x Ψ a b W ⟨n,xs,h⟩ c d f;exact⟨n,xs,((m5 B0 B t M e k (λ_:CK=>n) (λ_=>xs) (λ_ _=>True)).more gb) x Ψ a b W h c d f⟩
theorem Off.sep{e:jM}{x:CK}(h:Off b M o e z x D w)(c:Boxed w b o j):¬gb x b/\∀v,j.ownBlock=T v->¬gb x v:=by
 obtain⟨n,xs,B,d,f,-,g,-⟩:=h;have e:j=B:=by have a:T (Obj.cells #[j] o (0,0))=T (ja #[B] o (0,0)):=c.symm.trans d;injection a with a;injection a with a;simpa using a
 exact⟨λh=>f (.inr h),λv i h=>g v (by rw[<-e];exact i) (.inr h)⟩
theorem gR.less{e:jM}{n:jc}{a:jl->Prop}(h:gR b o M e z n r a D w)(d:∀k,E k->D k):gR b o M e z n r a E w:=by
 obtain⟨v,f,g,i,k,l⟩:=h;exact⟨v,f,λh=>g (d _ h),i,λj m h=>k j m (d _ h),l⟩
theorem tZ{C:jg CK}{x:CK}(h:gbs (C++[x]) b):gbs C b\/gb x b:=by
 obtain⟨k,a,h⟩:=h
 rcases oj.1 a with a|a
 ·exact .inl ⟨k,a,h⟩
 rw[jO]at a;exact .inr (a▸h)
def Dz(a:jg CP)(M:jc)(c:jc->CK->jq jl)(x:CK)(d:Act)(Ψ:jc->Prop)(W:jj):Prop:=(∃b,d={tmps:=c b x,defers:=[]}/\W.heap[b]?=T (ja (aL x).toArray VK.t (0,0))/\¬Ψ b/\GK a Ψ W x)/\Off (M+1) (M+1) 29 RI.e RI.k x Ψ W/\Off (M+2) (M+1) 30 RG.e RG.k x Ψ W
theorem TV(i:jg CP)(M:jc)(j:jc->CK->jq jl)(B0:jc):bY B0 (fun(s:CK×Act) Ψ W=>Dz i M j s.1 s.2 Ψ W):=by
 rintro⟨x,p⟩ Ψ k q B ⟨⟨b,e,d,l,m⟩,n,o⟩ a f c;have g:¬k b:=λh=>by
  rcases c b h with h|h
  ·exact l h
  have:=(jA.1 d).1;omega
 exact⟨⟨b,e,a.cells d g,g,m.turns a c⟩,Off.stable _ _ _ _ _ B0 _ _ _ _ _ n a f c,Off.stable _ _ _ _ _ B0 _ _ _ _ _ o a f c⟩
theorem vv{k:jc}(h:w.ownsRow b o M j z r){e:Obj}(d:w.heap[k]?=T e)(c:e.isCells=jn):j.ownBlock≠T k:=λa=>by
 rcases h.2 with f|⟨g,v,l,i,-,B,-⟩
 ·rw[f.1]at a;cases a
 rw[i]at a;obtain rfl:g=k:=by injection a
 rw[d]at B;injection B with B
 rw[B]at c
 cases c
theorem ChI.step{F:jg CP}{n:jc}{a H l:jj}{i:jg CK}{x:CK}{u1 u2 m o y1 y2:jl}(K:∀k∈i++[x],GK F Ψ a k)(hB:jk w w a)(q:jk a a H)(hw:w.heap.size<=M+1)
 (hΨ:∀k,Ψ k->w.heap.size<=k) (hl:∀k,Ψ k->k<a.heap.size) (v:Boxed a (M+1) 29 u1) (P:Boxed a (M+2) 30 u2) (Q:¬(Ψ (M+1)\/gbs (i++[x]) (M+1))) (R:¬(Ψ (M+2)\/gbs (i++[x]) (M+2)))
 (S:∀j,u1.ownBlock=T j->¬(Ψ j\/gbs (i++[x]) j)) (U:∀j,u2.ownBlock=T j->¬(Ψ j\/gbs (i++[x]) j)) (ad:∀j,u1.ownBlock=T j->M+1<=j) (Uz:∀j,u2.ownBlock=T j->M+1<=j) (V:n=i.length)
 (W:u1.ownBlock≠T (M+1)/\u2.ownBlock≠T (M+1)) (X:u1.ownBlock≠T (M+2)/\u2.ownBlock≠T (M+2)) (Zk:y1.cells.toList=[jd je (x.ix:jc)]) (au:y2.cells.toList=aB x.g x.vm x.vt)
 (d:zP RI RG (M+1) H l u1 u2 m o (n+1) (n+1) (i.map (λk=>jH .i64 (k.ix:jc))++y1.cells.toList) (i.flatMap (λk=>aB k.g k.vm k.vt)++y2.cells.toList)):
 ChI F M w (i++[x]) Ψ ((l.setCell ⟨M+1,0,jf⟩ m).setCell ⟨M+2,0,jf⟩ o)/\jk (M+1) a ((l.setCell ⟨M+1,0,jf⟩ m).setCell ⟨M+2,0,jf⟩ o)/\
  ∀k,k<a.heap.size->k≠M+1->k≠M+2->u1.ownBlock≠T k->u2.ownBlock≠T k->((l.setCell ⟨M+1,0,jf⟩ m).setCell ⟨M+2,0,jf⟩ o).heap[k]?=a.heap[k]?:=by
 have y:l.heap[M+1]?=T (ja #[u1] 29 (0,0)):=(d.heap _ (jJ v.lt q.size) W.1 W.2).trans (av v q);have z:l.heap[M+2]?=T (ja #[u2] 30 (0,0)):=(d.heap _ (jJ P.lt q.size) X.1 X.2).trans (av P q);have B:∀k,k≠M+1->k≠M+2->((l.setCell ⟨M+1,0,jf⟩ m).setCell ⟨M+2,0,jf⟩ o).heap[k]?=l.heap[k]?:=λk C r=>(dC _ r).trans (dC _ C)
 have D:∀k,k<a.heap.size->k≠M+1->k≠M+2->u1.ownBlock≠T k->u2.ownBlock≠T k->((l.setCell ⟨M+1,0,jf⟩ m).setCell ⟨M+2,0,jf⟩ o).heap[k]?=a.heap[k]?:=λk h C r s h4=>
  (B k C r).trans ((d.heap k (jJ h q.size) s h4).trans (q.block k h))
 have aa:jk (M+1) a ((l.setCell ⟨M+1,0,jf⟩ m).setCell ⟨M+2,0,jf⟩ o):=by
  have h:=(q.mono (jN _)).trans d.bel;have r:=(h.setCell (p:=⟨M+1,0,jf⟩) (jN _) m).setCell (p:=⟨M+2,0,jf⟩) (jN _) o;refine⟨r.os,r.tape,r.output,r.size,λk u=>?_⟩;have s:=v.lt;exact D k Y Y Y (λe=>by have:=ad k e;omega) (λe=>by have:=Uz k e;omega)
 have E:∀j,(Ψ j\/gbs (i++[x]) j)->j<a.heap.size:=by
  rintro j (h|⟨k,u,h⟩)
  ·exact hl j h
  obtain⟨-,-,c,t,f,s⟩:=rG (K k u) h;exact(jA.1 s).1
 have hz:=q.size;refine⟨⟨λk u=>(K k u).keep λb hb s h4=>⟨?_,s⟩,⟨m,?_,Q,?_,?_,trivial⟩,⟨o,?_,R,?_,?_,trivial⟩,hB.trans (aa.mono hw),hΨ⟩,aa,D⟩
 ·have c:Ψ b\/gbs (i++[x]) b:=.inr ⟨k,u,hb⟩
  exact D b (E b c) (λe=>Q (e▸c)) (λe=>R (e▸c)) (λe=>S b e c) (λe=>U b e c)
 ·exact(dC _ (show M+1≠M+2 by omega)).trans (fs m y)
 ·have h:=iD d.own1 λg f=>B g (λe=>cP d.own1 y L (e▸f)) (λe=>cP d.own1 z L (e▸f))
  rw[Zk,V]at h;rw[qg,mz];exact h
 ·intro j t c
  rcases d.lie1 with h|h
  ·exact S j (h▸t) c
  have:=h j t;have:=E j c;omega
 ·exact fs o ((dC _ (show M+2≠M+1 by omega)).trans z)
 ·have h:=iD d.own2 λg f=>B g (λe=>cP d.own2 y L (e▸f)) (λe=>cP d.own2 z L (e▸f))
  rw[au,V]at h;rw[qg,List.flatMap_append,List.flatMap_singleton];exact h
 intro j t c
 rcases d.lie2 with h|h
 ·exact U j (h▸t) c
 have:=h j t;have:=E j c;omega
theorem yH(d:jg CP)(v:jl)(fol:jb)(fid:LBy)(n:fid.length=32)(w:jj)(q:cA w v d)(t:∀p∈d,cZ (aR p.1))(u:bH w)(Q:d.length<=1000)(x:∀p∈d,p.1.chg.length<=1000000):
 jB jo 6 #[jh (c8 fol fid).toArray,v] w λe w'=>∃(u1 u2:jl) (Ks:jg CK),e=jz (jI #[u1,u2])/\Ks.map CK.cand=dA fol fid (d.map (·.1))/\aG (λb=>w.heap.size<=b/\b<w'.heap.size) w' u1 1 Ks.length (Ks.map λk=>jH .i64 k.ix)/\
  aG (λb=>w.heap.size<=b/\b<w'.heap.size) w' u2 36 Ks.length (Ks.flatMap λk=>aB k.g k.vm k.vt)/\(∀k∈Ks,KD (λb=>b<w'.heap.size) d w' k)/\jk w w w':=by
 obtain⟨p1,k1,rfl⟩:=q.form;obtain⟨r,j⟩:=J ((c8 fol fid).toArray);have ZH:N (r.size=VF.n):=O (by rw[j,jv];unfold c8;rw[jX,jw,n];rfl);rw[<-j];obtain⟨M,f⟩:=J w.heap.size;obtain⟨x0,a⟩:=J (((w.alloc (ja r 25)).alloc (ja #[A jf 0 0] 29)).alloc (ja #[A jf 0 0] 30));have l:=ao w (ja r 25);have s:=l.trans ((ao (w.alloc (ja r 25)) (ja #[A jf 0 0] 29)).mono l.size);have m:=ao ((w.alloc (ja r 25)).alloc (ja #[A jf 0 0] 29)) (ja #[A jf 0 0] 30);have c:N (x0.heap[M]?=T (ja r VF.t (0,0))):=O (by rw[a,f];exact av (av (jy w _) (ao _ _)) m);have U7:N (x0.heap[M+1]?=T (ja #[A jf 0 0] 29 (0,0))):=O (by
  have h:=jy (w.alloc (ja r 25)) (ja #[A jf 0 0] 29);rw[jp]at h;rw[a,f];exact av h m)
 have Vn:N (x0.heap[M+2]?=T (ja #[A jf 0 0] 30 (0,0))):=O (by
  have h:=jy ((w.alloc (ja r 25)).alloc (ja #[A jf 0 0] 29)) (ja #[A jf 0 0] 30);rw[jp,jp]at h;rw[a,f];exact h)
 have F:N (jk w w x0):=O (by rw[a];exact s.trans (m.mono s.size));have bk:N (x0.heap.size=M+3):=O (by rw[a,f,jp,jp,jp]);obtain⟨xF,g⟩:=J (w.alloc (ja r 25));have ay:N (xF.heap.size=M+1):=O (by rw[g,f,jp]);have ba:N (jk w w xF):=O (by rw[g];exact l);have S:N (jk (M+1) xF x0):=O (by
  have h:=(ao xF (ja #[A jf 0 0] 29)).trans ((ao (xF.alloc (ja #[A jf 0 0] 29)) (ja #[A jf 0 0] 30)).mono (ao xF _).size);rw[ay,g,<-a]at h;rw[g];exact h)
 have HL:=O q;have HE:=O t;have HT:=O u;have HN:=O Q;have Vy:=O x;have HM:=O f;have y:=O a;have bl:=O j;have bm:=O n;clear g l s m j f a q t u Q x n;refine(qN (n:=0)).1 ?_;refine r7 func6 I trivial ?_ I;refine wpIn_wide.2 ?_;simp only[ntmps6,jv,jX,qx,qy,qz,qA,qB,qC,qD,qe,qE]
 go_upto_region 1 with fail
 rw[<-y]
 try simp only[jp]
 try rw[show w.heap.size+1+1=w.heap.size+2 from I]
 rw[<-HM];clear y;refine jL ?_;refine fP (λg=>g.heap[M]?=T (ja r VF.t (0,0))) 4 (.t 0 (.t 2 (.o 1 (.o 3 .done)))) af af af af L (λ_ _ _ _ h=>h) c ?_;have a:=bV x0;obtain⟨x1,U⟩:=J x0.drew;rw[<-U]at a⊢;have bb:N (M+3<=x1.heap.size):=O (by rw[<-bk];exact a.size);replace F:=ah F a;replace c:=ae c a;replace U7:=ae U7 a;replace S:=O (S.trans (a.mono (by have:=S.size;have:=ay.out;omega)));replace Vn:=ae Vn a;clear U a;refine co ?_
 (refine cJ (v:=jh r) I aj (λg m=>dc VF.hu VF.hd (by rw[ZH];exact VF.hi) I I m) ?_;refine G ?_)
 refine cV I (λK' f=>?_);go_simp;refine(pV d _ x1 (HL.below F) HE (HT.below F) HN).mono ?_;rintro e x2 ⟨v2,v3,rfl,j,a⟩;have l:=O (j.mono (E:=λb=>M+3<=b/\b<x2.heap.size) λb q=>⟨jD bb q.1,q.2⟩);have Zj:N (M+3<=x2.heap.size):=O (jD bb a.size);replace F:=ah F a;replace c:=ae c a;replace U7:=ae U7 a;replace S:=O (S.trans (a.mono (by have:=S.size;have:=ay.out;omega)));replace Vn:=ae Vn a;refine f _ _ c.out λ_=>?_
 clear f j a;refine G ?_;refine cV I (λK' f=>?_);go_simp;refine(zN _ r x2).mono ?_;rintro e s ⟨rfl,j⟩;have a:jk x2 x2 s:=by rw[j];exact(ao _ _).trans ((ao _ _).mono (ao _ _).size)
 have Za:N (s.heap[x2.heap.size]?=T (ja #[A p1 d.length k1,v2,v3] VP.t (0,0))):=O (by rw[j];exact av (jy x2 _) (ao _ _));have bc:N (s.heap[x2.heap.size+1]?=T (ja r VF.t (0,0))):=O (by
  have h:=jy (x2.alloc (ja #[A p1 d.length k1,v2,v3] 78)) (ja r 25);rw[jp]at h;rw[j];exact h)
 have ZI:N (s.heap.size=x2.heap.size+2):=O (by rw[j,jp,jp]);replace F:=ah F a;replace U7:=ae U7 a;replace S:=O (S.trans (a.mono (by have:=S.size;have:=ay.out;omega)));replace Vn:=ae Vn a;have t:N (aG (λb=>M+3<=b/\b<s.heap.size) s v2 32 (bW (d.map (·.1)) d.length).length (eM (d.map (·.1)) (bW (d.map (·.1)) d.length))):=O ((l.ids.keep λb q=>a.block b q.2).mono λb q=>⟨q.1,by have:=ZI.out;omega⟩);have u:N (aG (λb=>M+3<=b/\b<s.heap.size) s v3 1 (bW (d.map (·.1)) d.length).length (fx (bW (d.map (·.1)) d.length))):=O ((l.at_.keep λb q=>a.block b q.2).mono λb q=>⟨q.1,by have:=ZI.out;omega⟩);refine f _ _ (av c a) λ_=>?_
 clear f j a c l;refine G ?_;refine fc ?_
 go_wp2_with fail
 obtain⟨bp,c⟩:=J x2.heap.size;rw[<-c]at Za bc Zj ZI⊢;have j:=ym d (A p1 d.length k1) v2 v3 fol fid bm xF s (M+1) (M+3) bp (bp+1) (j5 ay) S Y (ee ZI Zj) (HL.below ba) t u Za.out (by rw[<-bl];exact bc) Zj (aJ Zj) HE (HT.below ba) HN Vy;have bn:=O j;clear j c t u;refine(wpIn_wide (n:=0)).1 ?_;refine rF (n:=0) (gf:=57) (lb:=#[jt (T ⟨bp,0,jf⟩),jt (T ⟨bp+1,0,jf⟩)]) I (enters_of func57 af I) bn (ee ZI Zj) (λ_=>rfl) (λk l=>l.2)
  (ChI d M w)
  (λ_ _ _ _=>False) ?hI (λys Ψ B h=>h.1) (λ_=>fp _ _) ?h0
  (Dz d M λb x=>#[jh r,A p1 d.length k1,jt (T ⟨M,0,jf⟩),jm,jt (T ⟨M+1,0,jf⟩),jt (T ⟨M+2,0,jf⟩),jt (T ⟨b,0,jf⟩),A p1 d.length k1,jh #[A p1 d.length k1,v2,v3],jh r,.func (.func 57) #[] #[jt (T ⟨bp,0,jf⟩),jt (T ⟨bp+1,0,jf⟩)],jh (aL x).toArray,jm,jm,jm,jm,jm,jm,jm,jm,jm,jm,jm,jm]) ?hAx ?assign ?body ?done ?stop
 case hI=>exact Fo _ _ _ _ F.size
 case h0=>exact⟨(λx U=>by cases U),⟨_,U7,λh=>h.elim (λh=>by have h:=h.1;omega) fun⟨_,l,_⟩=>(by cases l),qX _ _ _ _,by simp[sy],trivial⟩,⟨_,Vn,λh=>h.elim (λh=>by have h:=h.1;omega) fun⟨_,l,_⟩=>(by cases l),qX _ _ _ _,by simp[sy],trivial⟩,F,λk l=>by have:=HM.out;omega⟩
 case stop=>
  intro D c Us Ψ W _ _ h;exact h.elim
 case hAx=>exact TV _ _ _ _
 case assign=>
  intro l' Us x Ψ t K hI u hV hΨ f;have aa:GK d Ψ t x:=by
   obtain⟨⟨j,y,e,h⟩,-⟩:=hV;have e2:=(qY e I).2;injection e2 with e2
   rw[e2];exact h
  have P:=KD.kin aa (HL.below hI.2.2.2.1);obtain⟨X,j⟩:=J ((aL x).toArray);have y:X.size=VK.n:=by rw[j,jv];exact P.len
  have z:X.all (·.oneCell')=ji:=by rw[j,jR];exact λad hu=>P.ones ad (ak hu)
  have C:=O y;have U7:=O z;have B:=O j;have H:=O f;have R:=O hI;have V:N (Off (M+1) (M+1) 29 RI.e RI.k x Ψ t):=O ⟨_,_,u.2.1.less λk l=>.inl l⟩;have Vm:N (Off (M+2) (M+1) 30 RG.e RG.k x Ψ t):=O ⟨_,_,u.2.2.1.less λk l=>.inl l⟩;have au:=O aa;have HΨ:=O hΨ;rw[<-j];clear j y z f hI u aa hV P hΨ;rw[zH];simp only[qZ,q7,q8]
  gi_wp2_with (first|(refine VK.madeI I I (G ?_))|(refine VK.firstI I I I X I C U7 (G ?_)))
  have u:=ao t (ja X VK.t);refine H _ _ u (Fo d M w w.heap.size (jF _) _ _ _ _ _ R.out (bQ.ofBelow u λ_ h _=>h) (λ_ h=>h) λ_ h=>.inl h) ?_;have y:bQ 0 Ψ t (t.alloc (ja X VK.t)):=bQ.ofBelow u λ_ h _=>h
  refine⟨⟨t.heap.size,by rw[B],by rw[<-B];exact jy _ _,λh=>by have:=HΨ _ h;omega,au.turns y λ_ h=>.inl h⟩,Off.stable _ _ _ _ _ 0 _ _ _ _ _ V.out y (λ_ h=>h) λ_ h=>.inl h,Off.stable _ _ _ _ _ 0 _ _ _ _ _ Vm.out y (λ_ h=>h) λ_ h=>.inl h⟩
 case body=>
  rintro l' Us x Ψ bA a5 ⟨aa,⟨u1,u,a3,B,au,-⟩,⟨u2,y,Vj,C,ax,-⟩,a1,hΨ⟩ ⟨⟨b,rfl,a6,bB,bd⟩,bo,bq⟩ hV Ys br hl bf bs;obtain⟨H,K,rfl⟩:=cK B;obtain⟨V,c2,rfl⟩:=cK C;obtain⟨n,Q⟩:=J Us.length;rw[<-Q]at u y B C au ax;have P:=KD.kin bd (HL.below a1);obtain⟨X,j⟩:=J ((aL x).toArray);have bu:N (X[0]?=T (jd je (x.ix:jc))):=O (by rw[j];simpa using(mM P).1);have bv:N (∀z:jj,z.heap[b]?=T (ja X VK.t (0,0))->z.rangeAt b 107 (aB x.g x.vm x.vt)):=O λz hz t ad ht=>ai hz (by
   rw[j,ms];have h:=nD P (1+t);rw[<-qn,qt 1 t,qG]at h;exact h.trans ht)
  have Wi:N ((aB x.g x.vm x.vt).length=VG.n):=O (eH P.leads.llen);have Vv:N (∀ad∈aB x.g x.vm x.vt,ad.oneCell'=ji):=O (mc P.leads);obtain⟨GA,R⟩:=J ((aB x.g x.vm x.vt).toArray);have WT:=O R;have a2:=O Q;have bg:N (n<=1000000):=O (by
   obtain⟨-,-,-,a4,hV⟩:=hV;have h1:=qk List.length hV;have h2:(dA fol fid (d.map (·.1))).length<=(d.map (·.1)).length+1:=ze _ _ _;have h3:=HN.out;have h4:=a2.out;rw[qg,jw,qg]at h1;rw[jw]at h2
   omega)
  dsimp only;rw[<-j]at a6⊢;clear j R Q P
  gi_upto_region 3 with fail
  refine R8 (λg=>g.heap[M+1]?=T (ja #[A H n K] 29 (0,0))/\g.heap[M+2]?=T (ja #[A V n c2] 30 (0,0))/\g.heap[b]?=T (ja X VK.t (0,0))) 10
   (.t 0 (.t 1 (.t 2 (.t 5 (.t 6 (.t 7 (rU id (.o 10 (.o 11 .done))))))))) af af af af af L (λ_ _ _ _ h=>h) (fun⟨_,_,h⟩=>h) ⟨u,y,a6⟩ ?_
  have a:=bV a5;obtain⟨A1,U⟩:=J a5.drew;rw[<-U]at a⊢;have y1:=av u a;have y2:=av y a;have yb:=av a6 a;have R1:=cL B a;have R2:=cL C a;have bC:a5.heap.size<=A1.heap.size:=a.size;clear U
  (refine cJ (v:=?_) I aj (λg m=>?_) ?_;rotate_left;(have b1:=ai (i:=0) m.1 I;clear m;go_simp;with_reducible rfl);refine G ?_)
  refine co ?_
  (refine cJ (v:=?_) I aj (λg m=>?_) ?_;rotate_left;(have b1:=ai (i:=0) m.2.2 bu;clear m;go_simp;with_reducible rfl);refine G ?_)
  (refine cJ (v:=?_) I aj (λg m=>?_) ?_;rotate_left;(have b1:=ai (i:=0) m.2.1 I;clear m;go_simp;with_reducible rfl);refine G ?_)
  refine co ?_
  (refine cJ (v:=jh GA) I aj (λg m=>by rw[WT];exact eF _ _ VG.t _ I _ _ I _ VG.d (bv g m.2.2) VG.hu VG.hd (by rw[Wi];exact VG.hi)) ?_;refine G ?_)
  refine Ae RI RG (T0:=id) (E:=id) (r1:=15) (r2:=16) (rb:=20) (r3:=21) (s1:=14) (s2:=19) (t1:=12) (t2:=17) af (λ_ _ _ _ h=>h) af af
   rfl rfl rfl rfl rfl rfl rfl rfl rfl rfl rfl rfl rfl rfl rfl rfl (show 15<24 by decide) (show 20<24 by decide) L L L L L L
   (λj v=>rfl) (λj=>rfl) (λj=>rfl) (λj=>rfl) (λj w' R h P=>P)
   (x1:=jd je (x.ix:jc)) (x2:=jh GA) (u1:=A H n K) (u2:=A V n c2) rfl rfl rfl rfl rfl (by rw[WT];exact Wi) (by simp[Value.cells,j4]) (λad hu=>Vv ad (by rw[WT]at hu;simpa [Value.cells]using hu)) R1 R2 (AO R1 R2 L) bg bg (by have:=(jA.1 y1).1;omega) ?_ ?_
  ·intro w' l br
   exact⟨(l _ (jA.1 y1).1 (cP R1 y1 L) (cP R2 y1 L)).trans y1,(l _ (jA.1 y2).1 (cP R1 y2 L) (cP R2 y2 L)).trans y2,
    (l _ (jA.1 yb).1 (cP R1 yb L) (cP R2 yb L)).trans yb⟩
  rintro z1 z2 bI a4 A2 j;obtain⟨bK,d1,rfl⟩:=cK j.own1;obtain⟨bM,d2,rfl⟩:=cK j.own2;have bh:=(j.heap _ (jA.1 y1).1 (cP R1 y1 L) (cP R2 y1 L)).trans y1;have bi:=(j.heap _ (jA.1 y2).1 (cP R1 y2 L) (cP R2 y2 L)).trans y2;have P:=ai (i:=0) bh I;have R:=ai (i:=0) bi I;have f1:=gt (o:=0) bh;have f2:=gt (o:=0) bi;have bw:=O j;clear j;refine G ?_;refine nC I L af (λK' f=>?_);go_simp;refine f _ _ ?_;clear f;refine G ?_;refine nC I L af (λK' f=>?_);go_simp;refine f _ _ ?_;clear f P R f1 f2;refine G ?_;show((_ /\_)/\_ /\_)/\_;have R:=bo.sep u;have g2:=bq.sep y;obtain⟨s1,s2,s3⟩:=ChI.step (y1:=jd je (x.ix:jc)) (y2:=jh GA) (λk l=>by
   rcases oj.1 l with l|l
   ·exact aa k l
   ·rw[jO]at l;rw[l];exact bd) a1 a (by rw[<-HM];exact j6 _) hΨ Ys u y
   (λh=>h.elim (λh=>a3 (.inl h)) λh=>(tZ h).elim (λh=>a3 (.inr h)) R.1) (λh=>h.elim (λh=>Vj (.inl h)) λh=>(tZ h).elim (λh=>Vj (.inr h)) g2.1)
   (λj P h=>h.elim (λh=>au j P (.inl h)) λh=>(tZ h).elim (λh=>au j P (.inr h)) (R.2 j P)) (λj P h=>h.elim (λh=>ax j P (.inl h)) λh=>(tZ h).elim (λh=>ax j P (.inr h)) (g2.2 j P))
   (λj P=>(B.lt j P).1) (λj P=>(C.lt j P).1) a2 ⟨cP B u L,cP C u L⟩ ⟨cP B y L,cP C y L⟩ rfl (by rw[WT];rfl) bw
  have P:=ZI.out;have bN:=Zj.out;obtain⟨rl,j⟩:=bs;refine⟨⟨⟨s3 _ Y Y Y (vv B bf I) (vv C bf I),s3 _ Y Y Y (vv B j I) (vv C j I)⟩,s2,λk l=>s3 k (Ys k l) (λe=>a3 (.inl (e▸l))) (λe=>Vj (.inl (e▸l))) (λe=>au k e (.inl l)) (λe=>ax k e (.inl l))⟩,s1⟩
 rintro D xs Ψ W rfl m ⟨aa,⟨u1,u,a3,B,au,-⟩,⟨u2,y,Vj,C,ax,-⟩,a1,hΨ⟩ a5;obtain⟨H,K,rfl⟩:=cK B;obtain⟨V,c2,rfl⟩:=cK C;obtain⟨n,Q⟩:=J xs.length;rw[<-Q]at u y B C au ax;have a2:=O Q;clear Q;have z:=u.cell;have P:=u.frozen;have Q:=y.cell;have X:=y.frozen
 go_upto_region 4 with fail
 refine jL ?_;refine fP (λg=>g.heap[M+1]?=T (ja #[A H n K] 29 (0,0))/\g.heap[M+2]?=T (ja #[A V n c2] 30 (0,0))) 4 (.t 0 (.t 1 (.o 2 (.o 3 .done)))) af af af af L (λ_ _ _ _ h=>h) ⟨u,y⟩ ?_;have a:=bV W;obtain⟨x,U⟩:=J W.drew;rw[<-U]at a⊢;have v1:=av u a;have a4:=av y a;have j:=ai (i:=0) v1 I;have e2:=ai (i:=0) a4 I;have R:=gt (o:=0) v1;have g2:=gt (o:=0) a4;clear z P Q X U
 (refine cJ (v:=?_) I aj (λg m=>?_) ?_;rotate_left;(have b1:=ai (i:=0) m.1 I;clear m;go_simp;with_reducible rfl);refine G ?_)
 (refine cJ (v:=?_) I aj (λg m=>?_) ?_;rotate_left;(have b1:=ai (i:=0) m.2 I;clear m;go_simp;with_reducible rfl);refine G ?_)
 have w1:=fs (i:=0) (A H n K) v1;have z:=(dC (w:=x) (b:=M+1) (i:=0) (A H n K) (show M+2≠M+1 by omega)).trans a4;refine cV I (λK' f=>?_);go_simp;refine f _ _ ⟨w1,z⟩ λ_=>?_
 clear f j e2 R g2;refine G ?_;have a6:∀k,(x.setCell ⟨M+1,0,jf⟩ (A H n K)).heap[k]?=x.heap[k]?:=λk=>by
  by_cases e:k=M+1
  ·rw[e,w1,v1];rfl
  exact dC _ e
 have bd:jk w w (x.setCell ⟨M+1,0,jf⟩ (A H n K)):=(a1.trans (a.mono a1.size)).setCell (p:=⟨M+1,0,jf⟩) (by rw[<-HM];exact j6 _) _;generalize x.setCell ⟨M+1,0,jf⟩ (A H n K)=P at w1 z a6 bd⊢;have ad:P.heap[M+1]?=T (ja #[A H n K] 29 (0,0)):=w1;have j:=ai (i:=0) ad I;have e2:=ai (i:=0) z I;have R:=gt (o:=0) ad;have g2:=gt (o:=0) z;have Q:=fs (i:=0) (A V n c2) z;have w4:=(dC (w:=P) (b:=M+2) (i:=0) (A V n c2) (show M+1≠M+2 by omega)).trans ad;refine cV I (λK' f=>?_);go_simp;refine f _ _ ⟨w4,Q⟩ λ_=>?_
 clear f j e2 R g2;refine G ?_;have X:∀k,(P.setCell ⟨M+2,0,jf⟩ (A V n c2)).heap[k]?=x.heap[k]?:=λk=>by
  refine Eq.trans ?_ (a6 k)
  by_cases e:k=M+2
  ·rw[e,Q,z];rfl
  exact dC _ e
 have bf:jk w w (P.setCell ⟨M+2,0,jf⟩ (A V n c2)):=bd.setCell (p:=⟨M+2,0,jf⟩) (by rw[<-HM];exact q9 _ _) _;generalize P.setCell ⟨M+2,0,jf⟩ (A V n c2)=W3 at Q w4 X bf⊢;refine fc ?_
 go_wp2_with fail
 have j:W3.heap[s.heap.size]?=T (.deferred (T [])):=(X _).trans (av a5 a);have bg:M+1≠s.heap.size:=λe=>by rw[<-e,w4]at j;cases j
 have bh:M+2≠s.heap.size:=λe=>by rw[<-e,Q]at j;cases j
 have z1:=ai (i:=0) ((nn (w:=W3) (o:=.deferred jf) bg).trans w4) I;have z2:=ai (i:=0) ((nn (w:=W3) (o:=.deferred jf) bh).trans Q) I;have r1:=ownsRow_putObj (iD (cL B a) λb _=>X b) (.deferred jf) j I;have r2:=ownsRow_putObj (iD (cL C a) λb _=>X b) (.deferred jf) j I;have bi:w.heap.size<=s.heap.size:=F.size;refine⟨by simp,.inl ⟨_,_,I,qO (b:=s.heap.size) (ds:=[]) j,?_⟩⟩;refine⟨jI #[A H n K,A V n c2],by simp[results,results6,go_sem,z1,z2],_,_,I,xs,m,?_,?_,?_,?_⟩
 ·rw[<-a2];exact aG.of_own r1 λg f=>⟨by have:=(r1.lt g f).1;rw[<-HM];omega,(r1.lt g f).2⟩
 ·rw[<-a2];exact aG.of_own r2 λg f=>⟨by have:=(r2.lt g f).1;rw[<-HM];omega,(r2.lt g f).2⟩
 ·intro k l
  have h:=aa k l;have g:∀b,(gb k b/\¬Ψ b/\∃c t f,W.heap[b]?=T (ja c t f))->(W3.putObj s.heap.size (.deferred jf)).heap[b]?=W.heap[b]?:=λb q=>by
   obtain⟨-,-,c,t,f,q⟩:=q;refine(nn (λe=>by rw[e,a5]at q;cases q)).trans ((X b).trans (a.block b (jA.1 q).1))
  refine(KD.keep h g).mono λb q=>?_
  obtain⟨h0,h1,c,t,f,h2⟩:=q;exact(jA.1 ((g b ⟨h0,h1,c,t,f,h2⟩).trans h2)).1
 exact bf.trans (iC bi)
section
def BxI(a:jg CP)(w:jj)(V:jg CK->jc->jG Obj)(ys:jg CK)(Ψ:jc->Prop)(W:jj):Prop:=(∀x∈ys,GK a Ψ W x)/\(∀b o,V ys b=T o->o.isCells=ji/\W.heap[b]?=T o/\¬(Ψ b\/gbs ys b))/\(jk w w W/\∀k,Ψ k->w.heap.size<=k)
theorem BxI.stable(j:jg CP)(w:jj)(V:jg CK->jc->jG Obj)(B0:jc)(h:w.heap.size<=B0):bY B0 (BxI j w V):=by
 refine(Dm _ _).and (bY.and ?_ (kI _ _ w (jF _) h));intro ys Ψ k r B l m s n b o p;obtain⟨d,c,f⟩:=l b o p;have q:=(jA.1 c).1;have g:¬(k b\/gbs ys b):=λh=>h.elim (λh=>(n b h).elim (λh=>f (.inl h)) λh=>by omega) λh=>f (.inr h)
 refine⟨d,?_,g⟩
 rcases m.block b q λh=>g (.inl h)with e|⟨-,t,a,i⟩
 ·exact e.trans c
 rw[c]at a;injection a with a;rw[<-a,d]at i;cases i
def EAx(a:jg CP)(E:jc->Prop)(c:jc->CK->jq jl)(x:CK)(d:Act)(Ψ:jc->Prop)(W:jj):Prop:=∃b,d={tmps:=c b x,defers:=[]}/\W.heap[b]?=T (ja (aL x).toArray VK.t (0,0))/\¬Ψ b/\GK a Ψ W x/\∀e,E e->¬gb x e
theorem EAx.stable(g:jg CP)(E:jc->Prop)(i:jc->CK->jq jl)(B0:jc):bY B0 (fun(s:CK×Act) Ψ W=>EAx g E i s.1 s.2 Ψ W):=by
 rintro⟨x,n⟩ Ψ j o B ⟨b,e,a,k,l,m⟩ c p d;have f:¬j b:=λh=>by
  rcases d b h with h|h
  ·exact k h
  have:=(jA.1 a).1;omega
 exact⟨b,e,c.cells a f,f,l.turns c d,m⟩
theorem BxI.step{l:jg CP}{g B:jj}{V:jg CK->jc->jG Obj}{i:jg CK}{x:CK}{n:jc}(h:BxI l w V i Ψ g)(r:GK l Ψ g x)(s:∀e,E e->¬gb x e)(m:∀b o,V (i++[x]) b=T o->E b/\o.isCells=ji/\B.heap[b]?=T o)
 (u:∀b,E b->∃o,V i b=T o) (v:∀k,Ψ k->k<g.heap.size) (y:jk n g B) (z:w.heap.size<=n) (p:∀k,k<g.heap.size->¬E k->B.heap[k]?=g.heap[k]?):BxI l w V (i++[x]) Ψ B/\∀k,Ψ k->B.heap[k]?=g.heap[k]?:=by
 have he:∀e,E e->¬(Ψ e\/gbs i e):=λe a=>by obtain⟨o,j⟩:=u e a;exact(h.2.1 e o j).2.2
 have C:∀k∈i++[x],GK l Ψ g k:=λk a=>by
  rcases oj.1 a with a|a
  ·exact h.1 k a
  rw[jO]at a;rw[a];exact r
 have q:∀e,E e->¬(Ψ e\/gbs (i++[x]) e):=λe a d=>d.elim (λd=>he e a (.inl d)) λd=>(tZ d).elim (λd=>he e a (.inr d)) (s e a)
 refine⟨⟨λk a=>(C k a).keep λb d D ⟨c,t,f,F⟩=>⟨p b (jA.1 F).1 λH=>q b H (.inr ⟨k,a,d⟩),D⟩,λb o j=>⟨(m b o j).2.1,(m b o j).2.2,q b (m b o j).1⟩,h.2.2.1.trans (y.mono z),h.2.2.2⟩,λk a=>p k (v k a) λd=>he k d (.inl a)⟩
noncomputable def kP:jG CK->jq jl
 |none=>VG.Z
 |some k=>(aB k.g k.vm k.vt).toArray
theorem TT{P:o1}{fn:Func}{p q:Tmp}{c i:jM}(h:fn.results= #[.cell p c,.cell q i])(tmps:jq jl)(w:jj)(g j:jc)(t:jM)(f:jq jl)(x:jl)(k:jc×jc)(d:TypeDesc)
 (l:tmps.getD p jm=jt (T ⟨g,0,jf⟩)) (m:tmps.getD q jm=jt (T ⟨j,0,jf⟩)) (n:w.heap[g]?=T (ja f t k)) (o:(loadVar i ⟨j,0,jf⟩).run P w=.ok x w)
 (r:P.underlying c=T d) (s:(match d with| .struct _ | .array _ _=>ji|_=>jn)=ji) (u:(P.info? c).map (·.size)=T f.size):
 (results fn tmps).run P w=.ok (jI #[jh f,x]) w:=by
 have e:(results fn tmps).run P w=((asAddr (tmps.getD p jm)).run P w).andThen λa y=>((loadVar c a).run P y).andThen λv z=>((asAddr (tmps.getD q jm)).run P z).andThen λb B=>((loadVar i b).run P B).andThen λC D=>.ok (jI #[v,C]) D:=by
  simp only[results,h];simp[Sem.run_bind,Result.andThen]
 rw[e,l];simp only[asAddr,Sem.run_pure,Result.andThen_ok,run_loadVar_row w g t c f k d n r s u,m,o]
theorem P7{n:jC}{f:jc×jc}(h:w.heap[b]?=T (ja #[.bool n] o f)):(loadVar 4 ⟨b,0,jf⟩).run jo w=.ok (.bool n) w:=by
 have c:=ai (i:=0) h I;go_simp
noncomputable def cuV(M:jc)(ys:jg CK)(b:jc):jG Obj:=if b=M+1 then T (ja (kP ys.getLast?) VG.t (0,0))else if b=M+2 then T (ja #[.bool ys.getLast?.isSome] 4 (0,0))else jf
def cuE(M b:jc):Prop:=b=M+1\/b=M+2
theorem un(M:jc)(ys:jg CK):cuV M ys (M+1)=T (ja (kP ys.getLast?) VG.t (0,0)):=jr I
theorem ve(M:jc)(ys:jg CK):cuV M ys (M+2)=T (ja #[.bool ys.getLast?.isSome] 4 (0,0)):=(jE Y).trans (jr I)
theorem D7{C:jg CK}{o:Obj}(h:cuV b C M=T o):(M=b+1/\o=ja (kP C.getLast?) VG.t (0,0))\/(M=b+2/\o=ja #[.bool C.getLast?.isSome] 4 (0,0)):=by
 unfold cuV at h
 split at h
 ·rename_i e;injection h with h;exact .inl ⟨e,h.symm⟩
 split at h
 ·rename_i e;injection h with h;exact .inr ⟨e,h.symm⟩
 cases h
theorem Ih{a:jg CP}{v:jl}{k:jG CK}(h:∀x,k=T x->GK a Ψ W x)(c:cA W v a):(kP k).size=VG.n/\(kP k).all (·.oneCell')=ji:=by
 rcases k with _|k
 ·exact⟨VG.hZ,by kernel_rfl⟩
 have b:=KD.kin (h k I) c;refine⟨by unfold kP;rw[jv];exact eH b.leads.llen,?_⟩;unfold kP;rw[jR];exact λd e=>mc b.leads d (ak e)
attribute [local go_sem] Oper.semAt_some
theorem ya(d:jg CP)(v:jl)(fol:jb)(fid:LBy)(r:fid.length=32)(w:jj)(t:cA w v d)(u:∀p∈d,cZ (aR p.1))(y:bH w)(B:d.length<=1000)(C:∀p∈d,p.1.chg.length<=1000000):
 jB jo 12 #[jh (c8 fol fid).toArray,v] w λe w'=>∃k:jG CK,e=jz (jI #[jh (kP k),.bool k.isSome])/\k.map CK.cand=(dA fol fid (d.map (·.1))).getLast?/\(∀x,k=T x->KD (λb=>b<w'.heap.size) d w' x)/\jk w w w':=by
 obtain⟨p1,k1,rfl⟩:=t.form;obtain⟨j,l⟩:=J ((c8 fol fid).toArray);have ZH:N (j.size=VF.n):=O (by rw[l,jv];unfold c8;rw[jX,jw,r];rfl);rw[<-l];obtain⟨M,f⟩:=J w.heap.size;obtain⟨z,a⟩:=J (((w.alloc (ja j 25)).alloc (ja VG.Z VG.t)).alloc (ja #[.bool jn] 4));have H:=ao w (ja j 25);have Uz:=H.trans ((ao (w.alloc (ja j 25)) (ja VG.Z VG.t)).mono H.size);have o:=ao ((w.alloc (ja j 25)).alloc (ja VG.Z VG.t)) (ja #[.bool jn] 4);have c:N (z.heap[M]?=T (ja j VF.t (0,0))):=O (by rw[a,f];exact av (av (jy w _) (ao _ _)) o);have s:N (z.heap[M+1]?=T (ja VG.Z VG.t (0,0))):=O (by
  have h:=jy (w.alloc (ja j 25)) (ja VG.Z VG.t);rw[jp]at h;rw[a,f];exact av h o)
 have P:N (z.heap[M+2]?=T (ja #[.bool jn] 4 (0,0))):=O (by
  have h:=jy ((w.alloc (ja j 25)).alloc (ja VG.Z VG.t)) (ja #[.bool jn] 4);rw[jp,jp]at h;rw[a,f];exact h)
 have m:N (jk w w z):=O (by rw[a];exact Uz.trans (o.mono Uz.size));have a5:N (z.heap.size=M+3):=O (by rw[a,f,jp,jp,jp]);obtain⟨Q,g⟩:=J (w.alloc (ja j 25));have aa:N (Q.heap.size=M+1):=O (by rw[g,f,jp]);have ax:N (jk w w Q):=O (by rw[g];exact H);have q:N (jk (M+1) Q z):=O (by
  have h:=(ao Q (ja VG.Z VG.t)).trans ((ao (Q.alloc (ja VG.Z VG.t)) (ja #[.bool jn] 4)).mono (ao Q _).size);rw[aa,g,<-a]at h;rw[g];exact h)
 have HL:=O t;have HE:=O u;have HT:=O y;have HN:=O B;have Vy:=O C;have HM:=O f;have D:=O a;have a6:=O l;have ba:=O r;clear g H Uz o l f a t u y B C r;refine(qN (n:=0)).1 ?_;refine r7 func12 I trivial ?_ I;refine wpIn_wide.2 ?_;simp only[ntmps12,jv,jX,qx,qy,qz,qA,qB,qC,qD,qe,qE]
 go_upto_region 1 with(first|(refine VG.made I I (G ?_)))
 rw[<-D]
 try simp only[jp]
 try rw[show w.heap.size+1+1=w.heap.size+2 from I]
 rw[<-HM];clear D;refine jL ?_;refine fP (λR=>R.heap[M]?=T (ja j VF.t (0,0))) 4 (.t 0 (.t 2 (.o 1 (.o 3 .done)))) af af af af L (λ_ _ _ _ h=>h) c ?_;have a:=bV z;obtain⟨x1,S⟩:=J z.drew;rw[<-S]at a⊢;have ay:N (M+3<=x1.heap.size):=O (by rw[<-a5];exact a.size);replace m:=ah m a;replace c:=ae c a;replace s:=ae s a;replace q:=O (q.trans (a.mono (by have:=q.size;have:=aa.out;omega)));replace P:=ae P a;clear S a;refine co ?_
 (refine cJ (v:=jh j) I aj (λR C=>dc VF.hu VF.hd (by rw[ZH];exact VF.hi) I I C) ?_;refine G ?_)
 refine cV I (λK' f=>?_);go_simp;refine(pV d _ x1 (HL.below m) HE (HT.below m) HN).mono ?_;rintro e x2 ⟨v2,v3,rfl,l,a⟩;have r:=O (l.mono (E:=λb=>M+3<=b/\b<x2.heap.size) λb g=>⟨jD ay g.1,g.2⟩);have Zj:N (M+3<=x2.heap.size):=O (jD ay a.size);replace m:=ah m a;replace c:=ae c a;replace s:=ae s a;replace q:=O (q.trans (a.mono (by have:=q.size;have:=aa.out;omega)));replace P:=ae P a;refine f _ _ c.out λ_=>?_
 clear f l a;refine G ?_;refine cV I (λK' f=>?_);go_simp;refine(zN _ j x2).mono ?_;rintro e l ⟨rfl,o⟩;have a:jk x2 x2 l:=by rw[o];exact(ao _ _).trans ((ao _ _).mono (ao _ _).size)
 have Za:N (l.heap[x2.heap.size]?=T (ja #[A p1 d.length k1,v2,v3] VP.t (0,0))):=O (by rw[o];exact av (jy x2 _) (ao _ _));have a1:N (l.heap[x2.heap.size+1]?=T (ja j VF.t (0,0))):=O (by
  have h:=jy (x2.alloc (ja #[A p1 d.length k1,v2,v3] 78)) (ja j 25);rw[jp]at h;rw[o];exact h)
 have ZI:N (l.heap.size=x2.heap.size+2):=O (by rw[o,jp,jp]);replace m:=ah m a;replace s:=ae s a;replace q:=O (q.trans (a.mono (by have:=q.size;have:=aa.out;omega)));replace P:=ae P a;have t:N (aG (λb=>M+3<=b/\b<l.heap.size) l v2 32 (bW (d.map (·.1)) d.length).length (eM (d.map (·.1)) (bW (d.map (·.1)) d.length))):=O ((r.ids.keep λb g=>a.block b g.2).mono λb g=>⟨g.1,by have:=ZI.out;omega⟩);have u:N (aG (λb=>M+3<=b/\b<l.heap.size) l v3 1 (bW (d.map (·.1)) d.length).length (fx (bW (d.map (·.1)) d.length))):=O ((r.at_.keep λb g=>a.block b g.2).mono λb g=>⟨g.1,by have:=ZI.out;omega⟩);refine f _ _ (av c a) λ_=>?_
 clear f o a c r;refine G ?_;refine fc ?_
 go_wp2_with fail
 obtain⟨bp,c⟩:=J x2.heap.size;rw[<-c]at Za a1 Zj ZI⊢;have o:=ym d (A p1 d.length k1) v2 v3 fol fid ba Q l (M+1) (M+3) bp (bp+1) (j5 aa) q Y (ee ZI Zj) (HL.below ax) t u Za.out (by rw[<-a6];exact a1) Zj (aJ Zj) HE (HT.below ax) HN Vy;have bb:=O o;clear o c t u;refine(wpIn_wide (n:=0)).1 ?_;refine rF (n:=0) (gf:=57) (lb:=#[jt (T ⟨bp,0,jf⟩),jt (T ⟨bp+1,0,jf⟩)]) I (enters_of func57 af I) bb (ee ZI Zj) (λ_=>rfl) (λk r=>r.2)
  (BxI d w (cuV M)) (λ_ _ _ _=>False) ?hI (λys Ψ B h=>h.1) (λ_=>fp _ _) ?h0
  (EAx d (cuE M) λb x=>#[jh j,A p1 d.length k1,jt (T ⟨M,0,jf⟩),jm,jt (T ⟨M+1,0,jf⟩),jt (T ⟨M+2,0,jf⟩),jt (T ⟨b,0,jf⟩),A p1 d.length k1,jh #[A p1 d.length k1,v2,v3],jh j,.func (.func 57) #[] #[jt (T ⟨bp,0,jf⟩),jt (T ⟨bp+1,0,jf⟩)],jh (aL x).toArray,jm,jm,jm,jm]) ?hAx ?assign ?body ?done ?stop
 case hI=>exact BxI.stable _ _ _ _ m.size
 case h0=>
  refine⟨(λx S=>by cases S),λb o g=>?_,m,λk r=>by have:=HM.out;have:=r.1;omega⟩
  rcases D7 g with⟨rfl,rfl⟩|⟨rfl,rfl⟩
  ·exact⟨I,s,λh=>h.elim (λh=>by have h:=h.1;omega) fun⟨_,r,_⟩=>(by cases r)⟩
  exact⟨I,P,λh=>h.elim (λh=>by have h:=h.1;omega) fun⟨_,r,_⟩=>(by cases r)⟩
 case stop=>
  intro D c u Ψ W _ _ h;exact h.elim
 case hAx=>exact EAx.stable _ _ _ _
 case assign=>
  intro l' u x Ψ t K hI y hV V f;have U:GK d Ψ t x:=by
   obtain⟨⟨B,F,e,h⟩,-⟩:=hV;have e2:=(qY e I).2;injection e2 with e2
   rw[e2];exact h
  have B:=KD.kin U (HL.below hI.2.2.1);obtain⟨X,F⟩:=J ((aL x).toArray);have au:N (X.size=VK.n):=O (by rw[F,jv];exact B.len);have s:N (X.all (·.oneCell')=ji):=O (by rw[F,jR];exact λad hu=>B.ones ad (ak hu));have Zn:=O F;have HK:=O f;have HI:=O hI;have HO:N (∀e,cuE M e->¬gb x e):=O (by
   rintro e (rfl|rfl) h
   ·exact(y.2.1 _ _ (un M u)).2.2 (.inl (.inr h))
   exact(y.2.1 _ _ (ve M u)).2.2 (.inl (.inr h)))
  have a2:=O U;have HΨ:=O V;rw[<-F];clear F f hI y U hV B V;rw[zH];simp only[qZ,q7,q8]
  gi_wp2_with (first|(refine VK.madeI I I (G ?_))|(refine VK.firstI I I I X I au s (G ?_)))
  have y:=ao t (ja X VK.t);have U:∀B0,bQ B0 Ψ t (t.alloc (ja X VK.t)):=λB0=>bQ.ofBelow y λ_ h _=>h
  refine HK _ _ y (BxI.stable d w _ w.heap.size (jF _) _ _ _ _ _ HI.out (U _) (λ_ h=>h) λ_ h=>.inl h) ?_;exact⟨t.heap.size,by rw[Zn],by rw[<-Zn];exact jy _ _,λh=>by have:=HΨ _ h;omega,a2.turns (U 0) (λ_ h=>.inl h),HO⟩
 case body=>
  rintro l' u x Ψ bf K hI ⟨b,rfl,a3,bg,au,a4⟩ hV Ys bh hl bi bk;have B:=KD.kin au (HL.below hI.2.2.1);have H:=(hI.2.1 _ _ (un M u)).2.1;have Uz:=(hI.2.1 _ _ (ve M u)).2.1;have a2:=(Ih (k:=u.getLast?) (λy U=>hI.1 y (rk U)) (HL.below hI.2.2.1)).1;obtain⟨X,F⟩:=J ((aL x).toArray);have bc:N (K.rangeAt b 107 (aB x.g x.vm x.vt)):=O λt ad ht=>ai a3 (by
   rw[ms];have h:=nD B (1+t);rw[<-qn,qt 1 t,qG]at h;exact h.trans ht)
  have Wi:N ((aB x.g x.vm x.vt).length=VG.n):=O (eH B.leads.llen);obtain⟨V,Z8⟩:=J ((aB x.g x.vm x.vt).toArray);have Z2:N (V.size=VG.n):=O (by rw[Z8,jv];exact Wi);have Vv:N (V.all (·.oneCell')=ji):=O (by rw[Z8,jR];exact λad hu=>mc B.leads ad (ak hu));have WT:=O Z8;have k2:(K.setRow (M+1) V).heap[M+2]?=T (ja #[.bool u.getLast?.isSome] 4 (0,0)):=(js _ _ _ _ Y).trans Uz;have c2:=ai (i:=0) k2 I;have f2:=gt (o:=0) k2;have Up:=O H;have bd:=O a2;dsimp only;rw[<-F];clear F Z8 H a2 B Uz
  gi_wp2_with (first|(refine VG.loadI aj I I (aB x.g x.vm x.vt) Wi bc ?_;rw[<-WT];refine G ?_)|(refine VG.storeI I I I V I Z2 Vv Up bd (G ?_)))
  have B:∀k,k≠M+1->k≠M+2->((K.setRow (M+1) V).setCell ⟨M+2,0,jf⟩ (.bool ji)).heap[k]?=K.heap[k]?:=λk h1 h2=>(dC _ h2).trans (js _ _ _ _ h1)
  have F:jk (M+1) K ((K.setRow (M+1) V).setCell ⟨M+2,0,jf⟩ (.bool ji)):=(iR (qc _ K) (jF _) V).setCell (p:=⟨M+2,0,jf⟩) (j6 _) _;have a2:(u++[x]).getLast?=T x:=List.getLast?_concat;obtain⟨s1,s2⟩:=BxI.step (E:=cuE M) hI au a4 (λb o ho=>by
   rcases D7 ho with⟨rfl,rfl⟩|⟨rfl,rfl⟩
   ·rw[a2]
    exact⟨.inl I,I,(dC _ Y).trans (by rw[jT _ _ _ _ _ _ Up.out,WT];rfl)⟩
   rw[a2];exact⟨.inr I,I,fs _ k2⟩) (by rintro b (rfl|rfl);exact⟨_,un _ _⟩;exact⟨_,ve _ _⟩) Ys F (by rw[<-HM];exact j6 _) (λk _ r=>B k (λe=>r (.inl e)) λe=>r (.inr e))
  have r:=ZI.out;have bl:=Zj.out;refine⟨⟨⟨B _ Y Y,B _ Y Y⟩,F,s2⟩,s1⟩
 rintro D xs Ψ W rfl C hI a2;have X:=(hI.2.1 _ _ (un M xs)).2.1;have Wj:=(hI.2.1 _ _ (ve M xs)).2.1;have x:=Ih (k:=xs.getLast?) (λy U=>hI.1 y (rk U)) (HL.below hI.2.2.1);obtain⟨u,K⟩:=J (xs.getLast?);have bc:∀y,u=T y->GK d Ψ W y:=λy U=>hI.1 y (rk (K.symm.trans U))
 have bd:u.map CK.cand=(dA fol fid (d.map (·.1))).getLast?:=by rw[K,<-C,List.getLast?_map]
 have a3:=hI.2.2.1;rw[<-K]at X Wj x;obtain⟨r,hG⟩:=J (kP u);obtain⟨ok,Wb⟩:=J u.isSome;rw[<-hG]at X x;rw[<-Wb]at Wj;have ad:=O x;clear hI K x
 go_upto_region 4 with fail
 refine jL ?_;refine fP (λR=>R.heap[M+1]?=T (ja r VG.t (0,0))/\R.heap[M+2]?=T (ja #[.bool ok] 4 (0,0))) 4 (.t 0 (.t 1 (.o 2 (.o 3 .done)))) af af af af L (λ_ _ _ _ h=>h) ⟨X,Wj⟩ ?_;have a:=bV W;obtain⟨x,S⟩:=J W.drew;rw[<-S]at a⊢;have v1:=av X a;have K:=av Wj a;have e2:=ai (i:=0) K I;have V:=gt (o:=0) K;clear S
 (refine cJ (v:=jh r) I aj (λR C=>dc VG.hu VG.hd (by rw[ad.1];exact VG.hi) I I C.1) ?_;refine G ?_)
 (refine cJ (v:=?_) I aj (λR C=>?_) ?_;rotate_left;(have R:=ai (i:=0) C.2 I;clear C;go_simp;with_reducible rfl);refine G ?_)
 refine cV I (λK' f=>?_);rw[jr aj];refine jQ VG.t _ _ I (M+1) r I I VG.t r v1 (by rw[ad.1];exact VG.hi) I ad.2 ?_;rw[setRow_self _ _ _ _ _ v1];refine f _ _ ⟨v1,K⟩ λ_=>?_
 clear f;refine G ?_;refine cV I (λK' f=>?_);go_simp;have R:(x.setCell ⟨M+2,0,jf⟩ (.bool ok)).heap[M+2]?=T (ja #[.bool ok] 4 (0,0)):=fs (i:=0) (.bool ok) K;have au:∀k,(x.setCell ⟨M+2,0,jf⟩ (.bool ok)).heap[k]?=x.heap[k]?:=λk=>by
  by_cases e:k=M+2
  ·rw[e,R,K]
  exact dC _ e
 have F:jk w w (x.setCell ⟨M+2,0,jf⟩ (.bool ok)):=(a3.trans (a.mono a3.size)).setCell (p:=⟨M+2,0,jf⟩) (by rw[<-HM];exact q9 _ _) _;rw[<-Wb];generalize x.setCell ⟨M+2,0,jf⟩ (.bool ok)=W3 at R au F⊢;have B:=(au _).trans v1;refine f _ _ ⟨B,R⟩ λ_=>?_
 clear f e2 V;refine G ?_;refine fc ?_
 go_wp2_with fail
 have V:W3.heap[l.heap.size]?=T (.deferred (T [])):=(au _).trans (av a2 a);have bf:M+1≠l.heap.size:=λe=>by rw[<-e,B]at V;cases V
 have bg:M+2≠l.heap.size:=λe=>by rw[<-e,R]at V;cases V
 have z1:=(nn (w:=W3) (o:=.deferred jf) bf).trans B;have z2:=(nn (w:=W3) (o:=.deferred jf) bg).trans R;have bh:w.heap.size<=l.heap.size:=m.size;refine⟨by simp,.inl ⟨_,_,I,qO (b:=l.heap.size) (ds:=[]) V,?_⟩⟩;refine⟨jI #[jh r,.bool ok],TT I _ _ (M+1) (M+2) VG.t r _ (0,0) _ I I z1 (P7 z2) VG.hu I (by rw[ad.1];exact VG.hi),u,by rw[hG,Wb],bd,λy U=>?_,F.trans (iC bh)⟩;have h:=bc y U;have a4:∀b,(gb y b/\¬Ψ b/\∃c t f,W.heap[b]?=T (ja c t f))->(W3.putObj l.heap.size (.deferred jf)).heap[b]?=W.heap[b]?:=λb g=>by
  obtain⟨-,-,c,t,f,g⟩:=g;refine(nn (λe=>by rw[e,a2]at g;cases g)).trans ((au b).trans (a.block b (jA.1 g).1))
 refine(KD.keep h a4).mono λb g=>?_
 obtain⟨h0,h1,c,t,f,h2⟩:=g;exact(jA.1 ((a4 b ⟨h0,h1,c,t,f,h2⟩).trans h2)).1
end
theorem Co{P:aM->Prop}(h:∀c,(∀w,dH c.leads d=T w->P w)->P c):∀(n:jc) (c:aM),iF d c.leads<=n->P c
 |0,c,b=>h c λw a=>ju (sO (oy (rE a)).1) Y
 |n+1,c,b=>h c λw a=>Co h n w (by have:=sO (oy (rE a)).1;omega)
theorem G4{l:jg Cmt}{P:aM->Prop}(h:∀c,(∀w,dH c.leads l=T w->P w)->P c)(c:aM):P c:=Co h _ c (jF _)
theorem uA:∀(g:Grp) (a:jg aM) (k:jc) (x:aM),a[k]?=T x->dP g a (k+1)=x.leads
 |g,[],k,x,h=>by simp at h
 |g,c::a,0,x,h=>by
  simp at h;rw[dP,<-h]
  cases a<;>rfl
 |g,c::a,k+1,x,h=>by
  rw[dP];exact uA c.leads a k x (ak h)
theorem GT{l:jg Cmt}(c:aM):∀(g:Grp),fO g l c->∀(k:jc) (x:aM),(fE l c)[k]?=T x->fO (dP g (fE l c) k) l x/\(0<k->dH (dP g (fE l c) k) l=T x):=by
 refine G4 (l:=l) (P:=λc=>∀(g:Grp),fO g l c->∀(k:jc) (x:aM),(fE l c)[k]?=T x->fO (dP g (fE l c) k) l x/\(0<k->dH (dP g (fE l c) k) l=T x)) (λc d g b k x a=>?_) c;rw[nG]at a⊢
 rcases k with _|k
 ·simp at a
  rw[dP,<-a];exact⟨b,λh=>ju h (rn _)⟩
 rw[dP]
 cases hw:dH c.leads l with
 |none=>rw[hw]at a;simp at a
 |some w=>
  rw[hw]at a;dsimp only at a⊢;rw[qG]at a;have f:=(oy (rE hw)).1;have b:=d w hw c.leads f k x a;refine⟨b.1,λ_=>?_⟩
  rcases k with _|k
  ·rw[nG]at a
   simp at a;have e:dP c.leads (fE l w) 0=c.leads:=by rw[dP]
   rw[e,hw,a]
  exact b.2 (qW k)
theorem Mg{l:jg Cmt}(c:aM):∀g,dH (dP g (fE l c) (fE l c).length) l=jf:=by
 refine G4 (l:=l) (P:=λc=>∀g,dH (dP g (fE l c) (fE l c).length) l=jf) (λc a g=>?_) c;rw[nG]
 cases hw:dH c.leads l with
 |none=>
  dsimp only;rw[List.length_singleton,dP];exact hw
 |some w=>
  dsimp only;rw[jX,dP];exact a w hw c.leads
def eD(b:LBy)(a d:jb):jC->jg aM->jC
 |ok,[]=>ok
 |true,c::e=>match c.com.chg.find? λx=>x.d==a&&x.k !=1 with|some x=>decide (d<=x.c)|none=>eD b a d ji e
 |false,c::e=>if c.id=b then(if cG c.leads.mem a=ji then eD b a d ji e else jn)else eD b a d jn e
section
def okS(id:LBy)(ys:jg CK):jC:=ys.any λk=>decide (k.id=id)
def AccP(id:LBy)(dev ctr:jb)(ys:jg CK):Prop:=∀a,eD id dev ctr jn (ys.map CK.cand++a)=eD id dev ctr (okS id ys) a
theorem rD(id:LBy)(ys:jg CK)(x:CK):okS id (ys++[x])=(okS id ys||decide (x.id=id)):=by unfold okS;simp
section
variable {id:LBy} {dev ctr:jb} {ys:jg CK} {x:CK} (h:AccP id dev ctr ys)
include h
theorem AccP.at(a:jg aM):eD id dev ctr jn ((ys++[x]).map CK.cand++a)=eD id dev ctr (okS id ys) (x.cand::a):=by
 rw[mz,qV];exact h _
theorem AccP.on(a:okS id ys=ji)(b:x.p.1.chg.find? (λy=>y.d==dev&&y.k !=1)=jf):AccP id dev ctr (ys++[x]):=λc=>by
 rw[h.at,rD,a,eD,show x.cand.com=x.p.1 from I,b];rfl
theorem AccP.off{y:ap}(a:okS id ys=ji)(b:x.p.1.chg.find? (λy=>y.d==dev&&y.k !=1)=T y)(c:jg aM):eD id dev ctr jn ((ys++[x]).map CK.cand++c)=decide (ctr<=y.c):=by
 rw[h.at,a,eD,show x.cand.com=x.p.1 from I,b]
theorem AccP.ne(b:okS id ys=jn)(a:x.id≠id):AccP id dev ctr (ys++[x]):=λc=>by
 rw[h.at,rD,b,eD,jE (show ¬x.cand.id=id from a),decide_eq_false a];rfl
theorem AccP.met(b:okS id ys=jn)(a:x.id=id)(c:cG x.g.mem dev=ji):AccP id dev ctr (ys++[x]):=λd=>by
 rw[h.at,rD,b,eD,jr (show x.cand.id=id from a),jr (show cG x.cand.leads.mem dev=ji from c),qP a];rfl
theorem AccP.gone(a:okS id ys=jn)(b:x.id=id)(c:cG x.g.mem dev=jn)(d:jg aM):eD id dev ctr jn ((ys++[x]).map CK.cand++d)=jn:=by
 rw[h.at,a,eD,jr (show x.cand.id=id from b),jE (show ¬cG x.cand.leads.mem dev=ji by show ¬cG x.g.mem dev=ji;rw[c];decide)]
end
theorem N3{α:Type}{q:α->jC}{l:jg α}{j:jc}{y:α}(h:∀z∈l.take j,q z=jn)(a:l[j]?=T y)(b:q y=ji):l.find? q=T y:=by
 rw[<-sn j l,sq,qs.2 (λz c=>by rw[h z c];decide),Option.none_or,List.drop_eq_getElem_cons (jU.1 a).1,(jU.1 a).2,List.find?_cons,b]
theorem NZ{α:Type}{q:α->jC}{l:jg α}(h:∀z∈l.take l.length,q z=jn):l.find? q=jf:=qs.2 λz a=>by
 rw[h z (by rw[List.take_length];exact a)];decide
theorem TW(d:jb)(c:jq jl)(b:jc)(x:aK)(w:jj)(f:w.heap[b]?=T (ja c 71 (0,0)))(g:c[33]?=T (jd je d)):
 jB jo 55 #[jh x.cells.toArray,jt (T ⟨b,0,jf⟩)] w λe w'=>e=jz (.bool (x.dev==d))/\jk w w w':=by
 have a:=ao w (ja x.cells.toArray 107);have j:=ai (i:=33) (av f a) g;have h:=O a;clear a f g;obtain⟨x1,x2,g⟩:=x;unfold aK.cells at*;obtain⟨r,a⟩:=J ((x1==d));show jB _ _ _ _ λe w'=>e=jz (.bool (x1==d))/\_
 rw[<-a];have f:=O a;clear a
 go_enter func55,ntmps55
 go_wp2_with fail
 go_ret;exact⟨iB f.symm,h⟩
theorem Oi(d:jb)(a:jq jl)(b c:jc)(e:b<c)(f:a[33]?=T (jd je d)):fV EM 55 #[jt (T ⟨b,0,jf⟩)] c (λW=>W.heap[b]?=T (ja a 71 (0,0))) (λm=>m.dev==d) where
 enter _ _:=I
 keep w w' hn h hB:=(hB.block b e).trans h
 call x w hn h:=TW d a b x w h f
def chZ:ap:=⟨0,0,0,0,0⟩
noncomputable def VH:VarT jo:=⟨62,5,chZ.cells.toArray,_,r8,I,by kernel_rfl,rfl,λ_=>by kernel_rfl⟩
def acV(M:jc)(a:jq jl)(id:LBy)(ys:jg CK)(b:jc):jG Obj:=if b=M+1 then T (ja a 71 (0,0))else if b=M+2 then T (ja #[.bool (okS id ys)] 4 (0,0))else jf
theorem zn(M:jc)(a:jq jl)(id:LBy)(ys:jg CK):acV M a id ys (M+1)=T (ja a 71 (0,0)):=jr I
theorem tV(M:jc)(a:jq jl)(id:LBy)(ys:jg CK):acV M a id ys (M+2)=T (ja #[.bool (okS id ys)] 4 (0,0)):=(jE Y).trans (jr I)
theorem EP{M b:jc}{a:jq jl}{id:LBy}{ys:jg CK}{o:Obj}(h:acV M a id ys b=T o):(b=M+1/\o=ja a 71 (0,0))\/(b=M+2/\o=ja #[.bool (okS id ys)] 4 (0,0)):=by
 unfold acV at h
 split at h
 ·rename_i e;injection h with h;exact .inl ⟨e,h.symm⟩
 split at h
 ·rename_i e;injection h with h;exact .inr ⟨e,h.symm⟩
 cases h
def AcX(w:jj)(M:jc)(id:LBy)(dev ctr:jb)(c:Code)(ys:jg CK)(Ψ:jc->Prop)(W:jj):Prop:=(∃r,c=.ret/\(Boxed W (M+2) 4 (.bool r)/\¬Ψ (M+2))/\∀a,eD id dev ctr jn (ys.map CK.cand++a)=r)/\(jk w w W/\∀k,Ψ k->w.heap.size<=k)
theorem AcX.stable(w:jj)(M:jc)(id:LBy)(dev ctr:jb)(c:Code)(B0:jc)(h:w.heap.size<=B0):bY B0 (AcX w M id dev ctr c):=by
 refine bY.and ?_ (kI _ _ w (jF _) h);rintro ys Ψ a b B ⟨r,d,e,f⟩ g i j;exact⟨r,d,iS B0 (M+2) 4 (λ_:Unit=>.bool r) () Ψ a b B e g i j,f⟩
attribute [local go_sem] Oper.semAt_some
theorem Dv(d:jg CP)(v:jl)(fol:jb)(fid:LBy)(m:fid.length=32)(u:jq jl)(f:LBy)(dev ctr:jb)(q:f.length=32)(r:∀t R,(f.map v8)[t]?=T R->u[1+t]?=T R)(s:u[33]?=T (jd je dev))(x:u[34]?=T (jd je ctr))
 (w:jj) (n:cA w v d) (y:∀p∈d,cZ (aR p.1)) (z:bH w) (B:d.length<=1000) (D:∀p∈d,p.1.chg.length<=1000000) (F:∀k,k∈dA fol fid (d.map (·.1))->k.leads.mem.length<=1000000):
 jB jo 19 #[jh (c8 fol fid).toArray,v,jh u] w λe w'=>e=jz (.bool (eD f dev ctr jn (dA fol fid (d.map (·.1)))))/\jk w w w':=by
 obtain⟨p1,k1,rfl⟩:=n.form;obtain⟨C,i⟩:=J ((c8 fol fid).toArray);have ZH:N (C.size=VF.n):=O (by rw[i,jv];unfold c8;rw[jX,jw,m];rfl);rw[<-i];obtain⟨M,b⟩:=J w.heap.size;obtain⟨x0,a⟩:=J (((w.alloc (ja C 25)).alloc (ja u 71)).alloc (ja #[.bool jn] 4));have S:=ao w (ja C 25);have U:=S.trans ((ao (w.alloc (ja C 25)) (ja u 71)).mono S.size);have j:=ao ((w.alloc (ja C 25)).alloc (ja u 71)) (ja #[.bool jn] 4);have c:N (x0.heap[M]?=T (ja C VF.t (0,0))):=O (by rw[a,b];exact av (av (jy w _) (ao _ _)) j);have U7:N (x0.heap[M+1]?=T (ja u 71 (0,0))):=O (by
  have h:=jy (w.alloc (ja C 25)) (ja u 71);rw[jp]at h;rw[a,b];exact av h j)
 have Vn:N (x0.heap[M+2]?=T (ja #[.bool jn] 4 (0,0))):=O (by
  have h:=jy ((w.alloc (ja C 25)).alloc (ja u 71)) (ja #[.bool jn] 4);rw[jp,jp]at h;rw[a,b];exact h)
 have P:N (jk w w x0):=O (by rw[a];exact U.trans (j.mono U.size));have bC:N (x0.heap.size=M+3):=O (by rw[a,b,jp,jp,jp]);obtain⟨xF,g⟩:=J (w.alloc (ja C 25));have au:N (xF.heap.size=M+1):=O (by rw[g,b,jp]);have bk:N (jk w w xF):=O (by rw[g];exact S);have UM:N (jk (M+1) xF x0):=O (by
  have h:=(ao xF (ja u 71)).trans ((ao (xF.alloc (ja u 71)) (ja #[.bool jn] 4)).mono (ao xF _).size);rw[au,g,<-a]at h;rw[g];exact h)
 have HL:=O n;have HE:=O y;have HT:=O z;have HN:=O B;have Vy:=O D;have HM:=O b;have H:=O a;have bI:=O i;have bK:=O m;have WI:=O r;have WV:=O s;have bl:=O x;have bm:=O q;have Y6:=O F;obtain⟨bn,o⟩:=J (eD f dev ctr jn (dA fol fid (d.map (·.1))));rw[<-o];have Zy:=O o;clear g S U j i b a n y z B D m r s x q F o;refine(qN (n:=0)).1 ?_;refine r7 func19 I trivial ?_ I;refine wpIn_wide.2 ?_;simp only[ntmps19,jv,jX,qx,qy,qz,qA,qB,qC,qD,qe,qE]
 go_upto_region 1 with fail
 rw[<-H]
 try simp only[jp]
 try rw[show w.heap.size+1+1=w.heap.size+2 from I]
 rw[<-HM];clear H;refine jL ?_;refine fP (λb=>b.heap[M]?=T (ja C VF.t (0,0))) 4 (.t 0 (.t 2 (.o 1 (.o 3 .done)))) af af af af L (λ_ _ _ _ h=>h) c ?_;have a:=bV x0;obtain⟨x1,hx⟩:=J x0.drew;rw[<-hx]at a⊢;have bo:N (M+3<=x1.heap.size):=O (by rw[<-bC];exact a.size);replace P:=ah P a;replace c:=ae c a;replace U7:=ae U7 a;replace UM:=O (UM.trans (a.mono (by have:=UM.size;have:=au.out;omega)));replace Vn:=ae Vn a;clear hx a;refine co ?_
 (refine cJ (v:=jh C) I aj (λb hS=>dc VF.hu VF.hd (by rw[ZH];exact VF.hi) I I hS) ?_;refine G ?_)
 refine cV I (λj hK=>?_);go_simp;refine(pV d _ x1 (HL.below P) HE (HT.below P) HN).mono ?_;rintro e x2 ⟨v2,v3,rfl,g,a⟩;have i:=O (g.mono (E:=λb=>M+3<=b/\b<x2.heap.size) λb m=>⟨jD bo m.1,m.2⟩);have Zj:N (M+3<=x2.heap.size):=O (jD bo a.size);replace P:=ah P a;replace c:=ae c a;replace U7:=ae U7 a;replace UM:=O (UM.trans (a.mono (by have:=UM.size;have:=au.out;omega)));replace Vn:=ae Vn a;refine hK _ _ c.out λ_=>?_
 clear hK g a;refine G ?_;refine cV I (λj hK=>?_);go_simp;refine(zN _ C x2).mono ?_;rintro e q ⟨rfl,g⟩;have a:jk x2 x2 q:=by rw[g];exact(ao _ _).trans ((ao _ _).mono (ao _ _).size)
 have Za:N (q.heap[x2.heap.size]?=T (ja #[A p1 d.length k1,v2,v3] VP.t (0,0))):=O (by rw[g];exact av (jy x2 _) (ao _ _));have bq:N (q.heap[x2.heap.size+1]?=T (ja C VF.t (0,0))):=O (by
  have h:=jy (x2.alloc (ja #[A p1 d.length k1,v2,v3] 78)) (ja C 25);rw[jp]at h;rw[g];exact h)
 have ZI:N (q.heap.size=x2.heap.size+2):=O (by rw[g,jp,jp]);replace P:=ah P a;replace U7:=ae U7 a;replace UM:=O (UM.trans (a.mono (by have:=UM.size;have:=au.out;omega)));replace Vn:=ae Vn a;have j:N (aG (λb=>M+3<=b/\b<q.heap.size) q v2 32 (bW (d.map (·.1)) d.length).length (eM (d.map (·.1)) (bW (d.map (·.1)) d.length))):=O ((i.ids.keep λb m=>a.block b m.2).mono λb m=>⟨m.1,by have:=ZI.out;omega⟩);have o:N (aG (λb=>M+3<=b/\b<q.heap.size) q v3 1 (bW (d.map (·.1)) d.length).length (fx (bW (d.map (·.1)) d.length))):=O ((i.at_.keep λb m=>a.block b m.2).mono λb m=>⟨m.1,by have:=ZI.out;omega⟩);refine hK _ _ (av c a) λ_=>?_
 clear hK g a c i;refine G ?_;refine fc ?_
 go_wp2_with fail
 obtain⟨bp,a⟩:=J x2.heap.size;rw[<-a]at Za bq Zj ZI⊢;have c:=ym d (A p1 d.length k1) v2 v3 fol fid bK xF q (M+1) (M+3) bp (bp+1) (j5 au) UM Y (ee ZI Zj) (HL.below bk) j o Za.out (by rw[<-bI];exact bq) Zj (aJ Zj) HE (HT.below bk) HN Vy;have bM:=O c;clear c a j o;refine(wpIn_wide (n:=0)).1 ?_;refine rF (n:=0) (gf:=57) (lb:=#[jt (T ⟨bp,0,jf⟩),jt (T ⟨bp+1,0,jf⟩)]) I (enters_of func57 af I) bM (ee ZI Zj) (λ_=>rfl) (λk s=>s.2)
  (λys Ψ W=>BxI d w (acV M u f) ys Ψ W/\AccP f dev ctr ys) (AcX w M f dev ctr) ?hI (λys Ψ B h=>h.1.1) (λc=>AcX.stable _ _ _ _ _ _ _ P.size) ?h0
  (EAx d (cuE M) λb x=>#[jh C,A p1 d.length k1,jh u,jt (T ⟨M,0,jf⟩),jm,jt (T ⟨M+1,0,jf⟩),jt (T ⟨M+2,0,jf⟩),jt (T ⟨b,0,jf⟩),jm,jm,A p1 d.length k1,jh #[A p1 d.length k1,v2,v3],jh C,.func (.func 57) #[] #[jt (T ⟨bp,0,jf⟩),jt (T ⟨bp+1,0,jf⟩)],jh (aL x).toArray,jm,jm,jm,jm,jm,jm,jm,jm,jm,jm,jm,jm,jm,jm,jm,jm,jm,jm,jm,jm,jm,jm,jm,jm,jm,jm,jm,jm,jm,jm,jm,jm,jm,jm,jm,jm,jm]) ?hAx ?assign ?body ?done ?stop
 case hI=>exact(BxI.stable _ _ _ _ P.size).and (fp _ _)
 case h0=>
  refine⟨⟨(λx hx=>by cases hx),λb o m=>?_,P,λk s=>by have:=HM.out;have:=s.1;omega⟩,λay=>rfl⟩
  rcases EP m with⟨rfl,rfl⟩|⟨rfl,rfl⟩
  ·exact⟨I,U7,λh=>h.elim (λh=>by have h:=h.1;omega) fun⟨_,s,_⟩=>(by cases s)⟩
  exact⟨I,Vn,λh=>h.elim (λh=>by have h:=h.1;omega) fun⟨_,s,_⟩=>(by cases s)⟩
 case stop=>
  rintro D c H Ψ W rfl ⟨V,a⟩ ⟨⟨r,rfl,⟨U,Q⟩,g⟩,ba,z⟩ ax;have HR:N (r=bn):=O (by rw[Zy,<-a];exact(g V).symm);have bb:M+2≠q.heap.size:=λe=>by rw[<-e,U]at ax;cases ax
  have z2:=(nn (w:=W) (o:=.deferred jf) bb).trans U;have bc:w.heap.size<=q.heap.size:=P.size;refine wpIn_wide.2 ?_
  go_wp2_with fail
  refine⟨by simp,.inl ⟨_,_,I,qO (b:=q.heap.size) (ds:=[]) ax,?_⟩⟩;have zc:=ai (i:=0) z2 I;exact⟨.bool r,by simp[results,results19,go_sem,zc],by rw[HR],ba.trans (iC bc)⟩
 case hAx=>exact EAx.stable _ _ _ _
 case assign=>
  intro l' H x Ψ a K hI y hV z hK;have F:GK d Ψ a x:=by
   obtain⟨⟨g,j,e,h⟩,-⟩:=hV;have e2:=(qY e I).2;injection e2 with e2
   rw[e2];exact h
  have g:=KD.kin F (HL.below hI.1.2.2.1);obtain⟨X,j⟩:=J ((aL x).toArray);have aa:N (X.size=VK.n):=O (by rw[j,jv];exact g.len);have U7:N (X.all (·.oneCell')=ji):=O (by rw[j,jR];exact λR hu=>g.ones R (ak hu));have Zn:=O j;have HK:=O hK;have HI:=O hI;have HO:N (∀e,cuE M e->¬gb x e):=O (by
   rintro e (rfl|rfl) h
   ·exact(y.1.2.1 _ _ (zn M u f H)).2.2 (.inl (.inr h))
   exact(y.1.2.1 _ _ (tV M u f H)).2.2 (.inl (.inr h)))
  have a1:=O F;have HΨ:=O z;rw[<-j];clear j hK hI y F hV g z;rw[zH];simp only[qZ,q7,q8]
  gi_wp2_with (first|(refine VK.madeI I I (G ?_))|(refine VK.firstI I I I X I aa U7 (G ?_)))
  have y:=ao a (ja X VK.t);have ad:∀B0,bQ B0 Ψ a (a.alloc (ja X VK.t)):=λB0=>bQ.ofBelow y λ_ h _=>h
  refine HK _ _ y ⟨BxI.stable d w _ w.heap.size (jF _) _ _ _ _ _ HI.1 (ad _) (λ_ h=>h) λ_ h=>.inl h,HI.2⟩ ?_;exact⟨a.heap.size,by rw[Zn],by rw[<-Zn];exact jy _ _,λh=>by have:=HΨ _ h;omega,a1.turns (ad 0) (λ_ h=>.inl h),HO⟩
 case body=>
  rintro l' H x Ψ b2 a ⟨hI,hP⟩ ⟨b,rfl,K,br,z,aa⟩ hV Ys a3 hl a6 bd;have g:=KD.kin z (HL.below hI.2.2.1);have S:=(hI.2.1 _ _ (zn M u f H)).2.1;have U:=(hI.2.1 _ _ (tV M u f H)).2.1;have a1:x.cand∈dA fol fid (d.map (·.1)):=by
   obtain⟨-,-,-,V,hV⟩:=hV;rw[<-hV,mz];exact vi _ (wq _ (jO.2 I))
  have a4:x.g.mem.length<=1000000:=Y6 _ a1;have a5:x.p.1.chg.length<=1000000:=Vy _ (j3 z.at_);have bf:=ZI.out;have bg:=Zj.out;have a2:∀B,(∀k,k<a.heap.size->k≠M+2->B.heap[k]?=a.heap[k]?)->jk (M+1) a B->B.heap[M+2]?=T (ja #[.bool (okS f (H++[x]))] 4 (0,0))->AccP f dev ctr (H++[x])->
   ((B.heap[q.heap.size]?=a.heap[q.heap.size]?/\B.heap[q.heap.size+1]?=a.heap[q.heap.size+1]?)/\jk (M+1) a B/\∀k,Ψ k->B.heap[k]?=a.heap[k]?)/\(BxI d w (acV M u f) (H++[x]) Ψ B/\AccP f dev ctr (H++[x])):=λB s y F hA=>by
   obtain⟨s1,s2⟩:=BxI.step (E:=cuE M) (B:=B) hI z aa (λc o V=>by
    rcases EP V with⟨rfl,rfl⟩|⟨rfl,rfl⟩
    ·exact⟨.inl I,I,(s _ (jA.1 S).1 Y).trans S⟩
    exact⟨.inr I,I,F⟩) (by rintro c (rfl|rfl);exact⟨_,zn _ _ _ _⟩;exact⟨_,tV _ _ _ _⟩) Ys y (by rw[<-HM];exact j6 _) (λk V c=>s k V λe=>c (.inr e))
   exact⟨⟨⟨s _ Y Y,s _ Y Y⟩,y,s2⟩,s1,hA⟩
  have c:∀B r,(∀k,k<a.heap.size->k≠M+2->B.heap[k]?=a.heap[k]?)->jk (M+1) a B->B.heap[M+2]?=T (ja #[.bool r] 4 (0,0))->(∀ay,eD f dev ctr jn ((H++[x]).map CK.cand++ay)=r)->
   ((B.heap[q.heap.size]?=a.heap[q.heap.size]?/\B.heap[q.heap.size+1]?=a.heap[q.heap.size+1]?)/\jk (M+1) a B/\∀k,Ψ k->B.heap[k]?=a.heap[k]?)/\AcX w M f dev ctr .ret (H++[x]) Ψ B:=λB r s y F hA=>by
   have Q:=(hI.2.1 _ _ (tV M u f H)).2.2;exact⟨⟨⟨s _ Y Y,s _ Y Y⟩,y,λk V=>s k (Ys k V) λe=>Q (.inl (e▸V))⟩,⟨r,I,⟨F,λh=>Q (.inl h)⟩,hA⟩,hI.2.2.1.trans (y.mono (by rw[<-HM];exact j6 _)),hI.2.2.2⟩
  have Wd:=O a2;have bs:=O c;have HP:=O hP;have Up:=O S;have YS:N (jk w w a):=O hI.2.2.1;have U8:N (M+3<=a.heap.size):=O Y;clear a2 c hI hV Ys a3 hl a6 bd aa br a1 bg bf z;obtain⟨X,j⟩:=J ((aL x).toArray);have c:=O (mM g);have Q:N (∀i:jc,X[i]?=(aL x)[i]?):=O λi=>by rw[j,ms]
  have UQ:N (a.rangeAt b 74 (x.id.map v8)):=O λt R ht=>ai K (by rw[ms];exact(BH g (by have h:=(jU.1 ht).1;rwa [jw,g.idl]at h)).trans ht)
  have UP:N (a.rangeAt (M+1) 1 (f.map v8)):=O λt R ht=>ai S (WI t R ht)
  have bu:N ((x.id.map v8).length=VD.n):=O (by rw[jw,g.idl];rfl);have bv:N ((f.map v8).length=VD.n):=O (by rw[jw,bm];rfl);have bw:∀z,(Op.equalIn 10000 23 (jh (x.id.map v8).toArray) (jh (f.map v8).toArray)).run jo z=.ok (decide (x.id=f)) z:=λz=>pC x.id f g.idl bm z
  obtain⟨T1,y⟩:=J ((x.id.map v8).toArray);obtain⟨T2,ad⟩:=J ((f.map v8).toArray);rw[<-y,<-ad]at bw;have Vu:=O y;have YT:=O ad;have a1:a.cell? ⟨b,36,jf⟩=T x.p.2.vc:=ai K (by rw[ms];exact c.2.2.1);have bd:a.cell? ⟨b,141,jf⟩=T x.vm:=ai K (by rw[ms];exact c.2.2.2.2.1);have bf:a.cell? ⟨M+1,33,jf⟩=T (jd je dev):=ai S WV;have bg:a.cell? ⟨M+1,34,jf⟩=T (jd je ctr):=ai S bl;have a2:=ai (i:=0) U I;have bh:=gt (o:=0) U;have a3:N (EC.At a x.p.2.vc x.p.1.chg):=O (EK.At.of_sl g.com.chg);have bi:N (EM.At a x.vm x.g.mem):=O g.leads.mem;obtain⟨pc,cc,e1,-⟩:=a3.form;obtain⟨pm,cm,e2,-⟩:=bi.form;rw[e1]at a1 a3;rw[e2]at bd bi;have Ur:=O U;have bN:=O a5;have Wi:=O a4;dsimp only;rw[<-j];clear j g K S e1 e2 y ad c Q U hP a5 a4;obtain⟨bO,Wb⟩:=J (okS f H);rw[<-Wb]at a2 Ur;have aa:=O Wb;clear Wb
  cases bO with
  |true=>
   as_aux_lemma=>
    obtain⟨n,c⟩:=J x.p.1.chg.length;have ZF:=O c;rw[<-c]at a1 a3;have br:n<=1000000:=by rw[c];exact bN
    clear c bd
    gi_wp2_with fail
    gi_loopw [20] (λi wr=>∃j:jc,i=jd je j/\j<=n/\N (∀y∈x.p.1.chg.take j,(y.d==dev&&y.k !=1)=jn)/\N (jk a a wr)) (λi _=>n-(jV i).toNat)
    case atStart=>exact⟨0,I,jN _,O ar,O (qc _ _)⟩
    obtain⟨j,rfl,hj,HG,Q⟩:=hrel;clear a1 a2 bh bf bg
    by_cases bT:j<n
    case neg=>
     have hd:=az ((j:jb)<(n:jb));have UL:=az (j<n);obtain rfl:j=n:=Y
     gi_wp2_with fail
     exact Wd wr (λk s _=>Q.block k s) (Q.mono (aJ U8)) (by rw[rD,<-aa];exact av Ur Q) (HP.on aa.symm (NZ (by rw[<-ZF];exact HG)))
    have hd:=aw ((j:jb)<(n:jb));have UL:=aw (j<n);obtain⟨⟨K,c,xp,xv,xc⟩,he,Vd⟩:=dN (l:=x.p.1.chg) (j:=j) (by rw[<-ZF];exact bT);obtain⟨g,o,rfl,a6⟩:=(a3.below Q).cells.2.2 Y;have Vb:N (wr.rangeAt g (o+j*5) (ap.cells ⟨K,c,xp,xv,xc⟩)):=O λt R ht=>a6 j _ he t R ht
    have HE:=O he;have bA:=O Vd;obtain⟨X5,a4⟩:=J ((ap.cells ⟨K,c,xp,xv,xc⟩).toArray);have a5:=O a4;have b0:N (X5.size=VH.n):=O (by rw[a4];rfl);have b1:N (X5.all (·.oneCell')=ji):=O (by rw[a4,jR];exact λR hu=>EC.one ⟨K,c,xp,xv,xc⟩ R (show R∈ap.cells _ by simpa using hu));clear a6 he Vd a4
    gi_upto_region 7 with(first|(refine VH.loadI aj I I (ap.cells ⟨K,c,xp,xv,xc⟩) I Vb ?_;rw[<-a5];refine G ?_)|(refine VH.madeI I I (G ?_))|(refine VH.firstI I I I X5 I b0 b1 (G ?_)))
    obtain⟨x4,b3,hx,m,WC,bB⟩:=dh wr X5 VH.t;rw[<-hx,<-m];have UA:N (jk a a x4):=ah Q bB;have cd:=ai (i:=1) (v:=jd je c) WC.out (by rw[a5];rfl);have ck:=ai (i:=0) (v:=jd je K) WC.out (by rw[a5];rfl);have b4:=ai (i:=4) (v:=jd je xc) WC.out (by rw[a5];rfl);have bf:=ai (av Up UA) WV;have bg:=ai (av Up UA) bl;have a4:=av Ur UA;have a2:=ai (i:=0) a4 I;have bh:=gt (o:=0) a4;have a6:=O a4;clear hx m bB WC Q Vb a4
    by_cases V:c=dev
    case neg=>
     have e1:(c==dev)=jn:=ak V;have a4:decide (c=dev)=jn:=ak V;have VR:N (∀y∈x.p.1.chg.take (j+1),(y.d==dev&&y.k !=1)=jn):=O (by
      rw[bA];intro y Q
      rcases oj.1 Q with Q|Q
      ·exact HG y Q
      rw[jO]at Q;rw[Q];show(c==dev&&_)=jn;rw[e1];rfl)
     clear V
     gi_wp2_with fail
     exact⟨⟨j+1,by go_num,by omega,VR,UA⟩,by simp only[jV];omega⟩
    have e1:(c==dev)=ji:=ak V;have a4:decide (c=dev)=ji:=ak V;clear V
    by_cases F:K=1
    case pos=>
     have e2:(K !=1)=jn:=by simp[F]
     have bB:decide (K≠1)=jn:=by simp[F]
     have VR:N (∀y∈x.p.1.chg.take (j+1),(y.d==dev&&y.k !=1)=jn):=O (by
      rw[bA];intro y Q
      rcases oj.1 Q with Q|Q
      ·exact HG y Q
      rw[jO]at Q;rw[Q];show(c==dev&&(K !=1))=jn;rw[e2,Bool.and_false])
     clear F
     gi_wp2_with fail
     exact⟨⟨j+1,by go_num,by omega,VR,UA⟩,by simp only[jV];omega⟩
    have e2:(K !=1)=ji:=by simp[F]
    have bB:decide (K≠1)=ji:=by simp[F]
    have Q:N (x.p.1.chg.find? (λy=>y.d==dev&&y.k !=1)=T ⟨K,c,xp,xv,xc⟩):=O (N3 HG HE (by show(c==dev&&(K !=1))=ji;rw[e1,e2];rfl));clear F;obtain⟨r,y⟩:=J (decide (ctr<=xc));have HR:=O y;have b5:decide (ctr<=xc)=r:=y.symm;clear y
    gi_wp2_with fail
    refine bs _ r (λk s F=>(dC _ F).trans (UA.block k s)) ((UA.mono (aJ U8)).setCell (p:=⟨M+2,0,jf⟩) (j6 _) _) (fs _ a6.out) (λay=>?_);rw[HR];exact HP.off aa.symm Q.out ay
  |false=>
   as_aux_lemma=>
    obtain⟨Q,g⟩:=J (decide (x.id=f));rw[<-g]at bw;have c:=O g;clear g
    rcases Q with _|_
    ·gi_wp2_with (first|(refine VD.loadI aj I I (x.id.map v8) bu UQ ?_;rw[<-Vu];refine G ?_)|(refine VD.loadI aj I I (f.map v8) bv UP ?_;rw[<-YT];refine G ?_))
     exact Wd a (λ_ _ _=>rfl) (qc _ _) (by rw[rD,<-aa,<-c];exact Ur) (HP.ne aa.symm (of_decide_eq_false c.symm))
    have y:=O (Aq (Oi dev u (M+1) a.heap.size (aJ U8) WV) x.g.mem _ a bi Up (jF _) Wi);obtain⟨V,g⟩:=J (x.g.mem.any λm=>m.dev==dev);rw[<-g]at y;have K:=O g;clear g
    gi_wp2_with (first|(refine VD.loadI aj I I (x.id.map v8) bu UQ ?_;rw[<-Vu];refine G ?_)|(refine VD.loadI aj I I (f.map v8) bv UP ?_;rw[<-YT];refine G ?_))
    refine⟨trivial,I,(callsIn_wide.2 y).mono ?_⟩;rintro e x5 ⟨rfl,m⟩;have g:=av Ur m;have ay:=ai (i:=0) g I;have a4:=gt (o:=0) g;have j:=O m;have a6:=O g;clear m g a1 bd bf bg a2 bh y
    cases V with
    |true=>
     gi_wp2_with fail
     exact Wd _ (λk s F=>(dC _ F).trans (j.block k s)) ((j.mono (aJ U8)).setCell (p:=⟨M+2,0,jf⟩) (j6 _) _) (by rw[rD,<-aa,<-c];exact fs _ a6.out) (HP.met aa.symm (qM c.symm) K.symm)
    |false=>
     gi_wp2_with fail
     exact bs _ jn (λk s F=>(dC _ F).trans (j.block k s)) ((j.mono (aJ U8)).setCell (p:=⟨M+2,0,jf⟩) (j6 _) _) (fs _ a6.out) (HP.gone aa.symm (qM c.symm) K.symm)
 rintro D xs Ψ W rfl hS ⟨hI,hP⟩ ax;have a:=(hI.2.1 _ _ (tV M u f xs)).2.1;have ba:=hI.2.2.1;obtain⟨ok,Wb⟩:=J (okS f xs);have HR:N (ok=bn):=O (by
  have h:=hP [];rw[qF,hS,eD,<-Wb]at h;rw[Zy];exact h.symm)
 rw[<-Wb]at a;have m:=ai (i:=0) a I;have r:=gt (o:=0) a;clear hI hP hS Wb
 go_wp2_with fail
 have c:(W.setCell ⟨M+2,0,jf⟩ (.bool ok)).heap[M+2]?=T (ja #[.bool ok] 4 (0,0)):=fs (i:=0) (.bool ok) a;have h:∀k,(W.setCell ⟨M+2,0,jf⟩ (.bool ok)).heap[k]?=W.heap[k]?:=λk=>by
  by_cases e:k=M+2
  ·rw[e,c,a]
  exact dC _ e
 have j:jk w w (W.setCell ⟨M+2,0,jf⟩ (.bool ok)):=ba.setCell (p:=⟨M+2,0,jf⟩) (by rw[<-HM];exact q9 _ _) _;have g:(W.setCell ⟨M+2,0,jf⟩ (.bool ok)).heap[q.heap.size]?=T (.deferred (T [])):=(h _).trans ax;have bb:M+2≠q.heap.size:=λe=>by rw[<-e,c]at g;cases g
 have z2:=(nn (w:=W.setCell ⟨M+2,0,jf⟩ (.bool ok)) (o:=.deferred jf) bb).trans c;have bc:w.heap.size<=q.heap.size:=P.size;refine⟨by simp,.inl ⟨_,_,I,qO (b:=q.heap.size) (ds:=[]) g,?_⟩⟩;have zc:=ai (i:=0) z2 I;exact⟨.bool ok,by simp[results,results19,go_sem,zc],by rw[HR],j.trans (iC bc)⟩
end
def vy(g:Grp)(a:jb)(b:jg ap)(c init:LBy)(d:jg Bx)(e:jg Wl):Cmt:=⟨g.folder,g.epoch+1,g.last,a,b,dB c,d,e,cF,0,0⟩
def pI(g:Grp)(a:jb)(c:jg ap)(b init:LBy)(d:jg Bx)(e:jg Wl):Cmt:=
 {vy g a c b init d e with confirm:=iZ (dO g b init) (cW kM ((aR (vy g a c b init d e)).take 8))}
def mkX(g:Grp)(a:jb)(x:jc)(b:jg ap)(c init:LBy)(d:jg Bx)(e:jg Wl):Cmt:=
 {pI g a b c init d e with r:=(ko x (dt (pI g a b c init d e)):jc),s:=(kE x (dt (pI g a b c init d e)):jc)}
def kz(b:n0 8):LBy:=b::wt 31 0#8
def cQ(d:jc):ap:=⟨1,(d:jb),((aY 4 (d+2):jc):jb),((aY 4 (d+2):jc):jb),0⟩
def dM(d a:jc):ap:=⟨2,(d:jb),0,0,(a:jb)⟩
def uD(g:Grp)(a:jb)(c:jg ap)(b seed:LBy)(x:jb×jb)(p:jc):Bx:=
 ⟨x.2,x.1,(aY 4 (gm (dZ seed gQ [x.1,x.2])):jc),gs p (dZ seed gQ [x.1,x.2]) (iW (bX g a c b) gQ [x.1,x.2]) (aA b x.1.toNat)⟩
theorem Mn{g:Grp}{b:jg ap}{c:LBy}{x:jb×jb}{p:jc}(h:tD (aX g.tree b) x.2=p):eA g a b c seed x=uD g a b c seed x p:=by
 unfold eA uD;rw[h]
def pwN:jc->jc->jc->jc
 |0,_,_=>1%PN
 |f+1,a,n=>if n%2=1 then a*pwN f (a*a%PN) (n/2)%PN else pwN f (a*a%PN) (n/2)
theorem Cn:∀(f a n:jc),n<2^f->pwN f a n=a^n%PN
 |0,a,n,h=>by
  obtain rfl:n=0:=ak h;rw[pwN,Nat.pow_zero]
 |f+1,a,n,h=>by
  have c:n/2<2^f:=by rw[Nat.pow_succ]at h;omega
  have e:a^n=(a*a)^(n/2)*a^(n%2):=by
   rw[<-Nat.pow_two,<-Nat.pow_mul,<-Nat.pow_add,Nat.div_add_mod]
  rw[pwN,Cn f _ _ c]
  split
  ·rename_i b
   rw[e,b,Nat.pow_one,Nat.mul_comm _ a,Nat.mul_mod a,<-Nat.pow_mod,Nat.mod_mod,<-Nat.mul_mod,Nat.mul_comm]
  have b:n%2=0:=Y;rw[e,b,Nat.pow_zero,Nat.mul_one,<-Nat.pow_mod]
def pw(a n:jc):jc:=if n<2^64 then pwN 64 a n else aY a n
theorem m8(a n:jc):aY a n=pw a n:=by
 unfold pw
 split
 ·rename_i h
  rw[Cn 64 a n h]
  rfl
 rfl
def ma(a:LBy):jg jb:=(List.range 10).map λi=>((pw 4 (aT (aA a i)):jc):jb)
def nf(x:jc)(msg:LBy):jc:=(iT x msg+rH (pw 4 (iT x msg)) (pw 4 x) msg*x%QN)%QN
def ru(a:jc)(seed b body:LBy):LBy:=oN (nY a (pw 4 (gm seed)) (pw a (gm seed))) sl b body
def iY(g:Grp)(a:jb)(b:jg ap)(c:LBy):Cmt:=⟨g.folder,g.epoch+1,g.last,a,b,ma c,[],[],cF,0,0⟩
def pi(g:Grp)(a:jb)(c:jg ap)(b seed:LBy)(x:jb×jb)(p:jc):Bx:=
 ⟨x.2,x.1,(pw 4 (gm (dZ seed gQ [x.1,x.2])):jc),ru p (dZ seed gQ [x.1,x.2]) (iW (iY g a c b) gQ [x.1,x.2]) (aA b x.1.toNat)⟩
def oR(g:Grp)(a:jb)(c:jg ap)(b init seed:LBy)(y:ap):Wl:=
 ⟨y.d,(pw 4 (gm (dZ seed kt [y.d])):jc),ru y.p.toNat (dZ seed kt [y.d]) (iW (iY g a c b) kt [y.d]) (dO g b init)⟩
def nr(g:Grp)(a:jb)(b:jg ap)(c init:LBy)(d:jg Bx)(e:jg Wl):Cmt:=⟨g.folder,g.epoch+1,g.last,a,b,ma c,d,e,cF,0,0⟩
def lG(g:Grp)(a:jb)(c:jg ap)(b init:LBy)(d:jg Bx)(e:jg Wl):Cmt:=
 {nr g a c b init d e with confirm:=iZ (dO g b init) (cW kM ((aR (nr g a c b init d e)).take 8))}
def mkF(g:Grp)(a:jb)(x:jc)(b:jg ap)(c init:LBy)(d:jg Bx)(e:jg Wl):Cmt:=
 {lG g a b c init d e with r:=(pw 4 (iT x (dt (lG g a b c init d e))):jc),s:=(nf x (dt (lG g a b c init d e)):jc)}
theorem Ha(a:LBy):dB a=ma a:=by unfold dB ma;simp only[m8]
theorem IZ(x:jc)(msg:LBy):kE x msg=nf x msg:=by unfold kE nf ko;simp only[m8]
theorem FU(a:jc)(seed b body:LBy):gs a seed b body=ru a seed b body:=by unfold gs ru;simp only[m8]
theorem Dp(g:Grp)(a:jb)(b:jg ap)(c:LBy):bX g a b c=iY g a b c:=by unfold bX iY;rw[Ha]
theorem Kx(g:Grp)(a:jb)(b:jg ap)(c seed:LBy)(x:jb×jb)(p:jc):uD g a b c seed x p=pi g a b c seed x p:=by unfold uD pi;simp only[m8,FU,Dp]
theorem Tx(g:Grp)(a:jb)(b:jg ap)(c init seed:LBy)(y:ap):fC g a b c init seed y=oR g a b c init seed y:=by unfold fC oR;simp only[m8,FU,Dp]
theorem L2(g:Grp)(a:jb)(b:jg ap)(c init:LBy)(d:jg Bx)(e:jg Wl):pI g a b c init d e=lG g a b c init d e:=by unfold pI lG vy nr;simp only[Ha]
theorem Nu(g:Grp)(a:jb)(x:jc)(b:jg ap)(c init:LBy)(d:jg Bx)(e:jg Wl):mkX g a x b c init d e=mkF g a x b c init d e:=by
 unfold mkX mkF;simp only[L2,IZ,ko,m8]
theorem FK{P:o1}{S:jj->Prop}{t:bE}(r:bE){F:jc->jc->Act}{d:jc->jc->jj->Prop}(e:∀x y w,d x y w->eE P U i S r (F x y) w)(h:(∀x y w,d x y w->eE P U i S r (F x y) w)->eE P U i S t m w):eE P U i S t m w:=h e
theorem CM{a:Act}{o:jK}{x:j0}{c:jM}{d:TypeDesc}{f:jc}{e:jg jl}{g:jj}(h:jo.underlying c=T d)(i:d.isRow=ji)(j:(jo.info? c).map (·.size)=T e.length)(k:o.op=.load c x)(l:a.eval x=jt (T ⟨b,f,jf⟩))(m:g.rangeAt b f e):
 (jP a.eval o).run jo g=.ok (.value (jh e.toArray)) g:=eF o a c x k b f l e d m h i j
theorem L3{a:Act}{o:jK}{parts:jq (jc×j0)}{f e au:jb}{b:jq jl}{p:jG Addr}{n c:jc}(d:b.size=32)(g:o.op=.build 48 parts)(h:(parts.map fun(i,x)=>(i,a.eval x))= #[(0,jd je f),(1,jd je e),(2,jh b),(3,jd je au),(4,A p n c)])(W:jj):
 (jP a.eval o).run jo W=.ok (.value (jh (#[jd je f,jd je e]++b++ #[jd je au,A p n c,A jf 0 0,A jf 0 0,A jf 0 0]++(cF.map v8).toArray++ #[jd je 0,jd je 0]))) W:=by
 simp only[jP,g,h,Sem.run_bind,LP f e au b d p n c,Result.andThen_ok,Sem.run_pure]
theorem Ou{m:Act}(b:B.op=.build 66 #[])(W:jj):
 (jP m.eval B).run jo W=.ok (.value (jh (cF.map v8).toArray)) W:=by
 simp only[jP,b,p6,jZ,Sem.run_bind,OP,Result.andThen_ok,Sem.run_pure]
theorem RJ{R i:jc}{X:jl->jq jl}{g k:jl}{u:jg Bx}(n:e.last.length=32)(l:w.ownsRow b 62 5 j f.length (f.flatMap ap.cells))(m:w.ownsRow M 3 1 g 10 ((dB p).map (jH .i64)))(q:eB z R 48 92 4 Bx.cells Bx.body X W w i k u r)(d:i=u.length):aW (·<w.heap.size) w {bX e a f p with box:=u} ⟨j,g,k,A jf 0 0⟩:=by
 refine⟨aG.of_own l (λe n=>(l.lt e n).2),?_,q.slice d (λe _ n=>n),⟨[],⟨I,jf,0,I,jF _,λ_=>rfl,λh=>ju h (rn 0)⟩,I⟩,n,eJ⟩;have h:=aG.of_own (D:=(·<w.heap.size)) m (λe n=>(m.lt e n).2);show aG _ w g 1 (dB p).length _;rw[lM];exact h
def li(D:jc->Prop)(W:jj)(v:jl)(l:jg Bx):Prop:=∃a,aG D W v 4 l.length (dU Bx.cells l a)/\ez D W (l.map Bx.body) a
theorem li.keep{D':jc->Prop}{v:jl}{l:jg Bx}(h:li D w v l)(a:∀g,D g->w'.heap[g]?=w.heap[g]?)(b:∀g,D g->D' g):li D' w' v l:=by
 obtain⟨c,d,e⟩:=h;exact⟨c,(d.keep a).mono b,(e.keep a).mono b⟩
theorem li.below{v:jl}{l:jg Bx}(h:li (·<w.heap.size) w v l)(b:jk w w w'):li (·<w'.heap.size) w' v l:=h.keep (λg a=>b.block g a) (λg a=>jJ a b.size)
theorem R5{R i:jc}{X:jl->jq jl}{g k l:jl}{u:jg Bx}{c:jg Wl}(d:e.last.length=32)(n:w.ownsRow b 62 5 j f.length (f.flatMap ap.cells))(o:w.ownsRow M 3 1 g 10 ((dB p).map (jH .i64)))(s:li (·<w.heap.size) w k u)(t:eB z R 48 95 3 Wl.cells Wl.body X W w i l c r)(m:i=c.length):aW (·<w.heap.size) w {bX e a f p with box:=u,wel:=c} ⟨j,g,k,l⟩:=by
 refine⟨aG.of_own n (λe d=>(n.lt e d).2),?_,s,t.slice m (λe _ d=>d),d,eJ⟩;have h:=aG.of_own (D:=(·<w.heap.size)) o (λe d=>(o.lt e d).2);show aG _ w g 1 (dB p).length _;rw[lM];exact h
theorem Ry(h:EC.At w j f)(i:∀(g o:jc) (x:jb),w.cell? ⟨g,o,jf⟩=T (jd je x)->W.cell? ⟨g,o,jf⟩=T (jd je x)):EC.At W j f:=by
 obtain⟨k,p,c,e,m,n,q⟩:=h;refine⟨k,p,c,e,m,n,λr=>?_⟩;obtain⟨g,o,ep,s⟩:=q r;refine⟨g,o,ep,λv a b=>?_⟩;have t:=s v a b;have u:∃x,a=jd je x:=by
  have d:=j3 b;unfold EK.flat at d;obtain⟨y,-,z⟩:=List.mem_flatMap.1 d;have l:a∈ap.cells y:=z;simp only[ap.cells,List.mem_cons,List.mem_nil_iff,or_false]at l
  rcases l with rfl|rfl|rfl|rfl|rfl<;>exact⟨_,I⟩
 obtain⟨x,rfl⟩:=u;exact i _ _ _ t
theorem P4{v:jl}{l:jg ap}{j:jc}{X d:jq jl}{e:jM}(h:EC.At w v l)(f:w.heap[b]?=T (ja X e (0,0)))(g:w'.heap[b]?=T (ja d e (0,0)))(m:∀k,k<w.heap.size->k≠b->w'.heap[k]?=w.heap[k]?)
 (k:∀i,i≠j->d[i]?=X[i]?) (a:∃p n c,X[j]?=T (A p n c)):EC.At w' v l:=by
 obtain⟨p,n,c,a⟩:=a;exact Ry h (uI f g k a m)
theorem KH{a:jb}{y seed:LBy}{D:jc->Prop}{g m n:jl}(d:e.last.length=32)(l:w.ownsRow b 62 5 j f.length (f.flatMap ap.cells))(i:w.ownsRow M 3 1 g 10 ((dB p).map (jH .i64)))
 (o:li D w m ((et (aX e.tree f) a).map (eA e a f p seed))) (c:∃h,aG D w n 3 ((dw a f).map (fC e a f p y seed)).length (dU Wl.cells ((dw a f).map (fC e a f p y seed)) h)/\ez D w (((dw a f).map (fC e a f p y seed)).map Wl.body) h)
 (q:∀k,b<=k->k<w.heap.size->D k) (r:∀k,M<=k->k<w.heap.size->D k):aW D w (mk1 e a f p y seed) ⟨j,g,m,n⟩:=by
 refine⟨aG.of_own l (λe d=>q e (l.lt e d).1 (l.lt e d).2),?_,o,c,d,eJ⟩;have h:=aG.of_own (D:=D) i (λe d=>r e (i.lt e d).1 (i.lt e d).2);show aG _ w g 1 (dB p).length _;rw[lM];exact h
theorem aW.conf(h:aW D w H R){k:LBy}(a:k.length=32):aW D w {H with confirm:=k} R:=⟨h.chg,h.path,h.box,h.wel,h.plen,a⟩
theorem aW.rs(h:aW D w H R)(r s:jb):aW D w {H with r:=r,s:=s} R:=⟨h.chg,h.path,h.box,h.wel,h.plen,h.clen⟩
theorem D3{y:LBy}(h:aW D w (mk1 e a f p y seed) R):aW D w (mk2 e a f p y seed) R:=by
 unfold mk2;exact h.conf (sT _ _)
theorem Rk{g:Grp}{x:jc}{b:jg ap}{c init:LBy}{q:CQ}(h:aW D W (mk1 g a b c init seed) q):aW D W (mkC g a x b c init seed) q:=by
 unfold mkC;exact(D3 h).rs _ _
theorem aW.later(h:aW (λk=>b<=k/\k<w.heap.size) w H R)(n:jk w w W):aW (λk=>b<=k/\k<W.heap.size) W H R:=
 (h.keep λg a=>n.block g a.2).mono λg a=>⟨a.1,jJ a.2 n.size⟩
def mP(a:jq jl):jc->jg jl->jq jl
 |_,[]=>a
 |o,v::b=>mP (a.setIfInBounds o v) (o+1) b
theorem BF:∀(d a c b:jg jl),c.length=d.length->mP (a++c++b).toArray a.length d=(a++d++b).toArray
 |[],a,c,b,h=>by
  obtain rfl:c=[]:=List.eq_nil_of_length_eq_zero h
  rfl
 |v::d,a,[],b,h=>by simp at h
 |v::d,a,x::c,b,h=>by
  have e:(a++x::c++b).toArray.setIfInBounds a.length v=((a++[v])++c++b).toArray:=by
   apply Array.ext'
   rw[Array.toList_setIfInBounds];show List.set (a++x::c++b) a.length v=_;rw[qV,List.set_append_right _ _ (jF _),Nat.sub_self];simp
  rw[mP,e];have f:=BF d (a++[v]) c b (ak h);rw[qg]at f;have g:mP ((a++[v])++c++b).toArray (a.length+1) d=(a++[v]++d++b).toArray:=f;rw[g];simp
theorem yR:∀(a:jg jl) (t:jc) (W:jj) (c:jq jl),W.heap[b]?=T (ja c o (0,0))->(W.setCells b t a).heap[b]?=T (ja (mP c t a) o (0,0))
 |[],t,W,c,h=>h
 |v::a,t,W,c,h=>yR a (t+1) _ _ (fs v h)
theorem tU{k:jc}(c:k≠b):∀(a:jg jl) (o:jc) (W:jj),(W.setCells b o a).heap[k]?=W.heap[k]?
 |[],o,W=>rfl
 |v::a,o,W=>(tU c a (o+1) (W.setCell ⟨b,o,jf⟩ v)).trans (dC v c)
theorem yq(b:jc):∀(a:jg jl) (o:jc) (W:jj),(W.setCells b o a).heap.size=W.heap.size
 |[],o,W=>rfl
 |v::a,o,W=>(yq b a (o+1) (W.setCell ⟨b,o,jf⟩ v)).trans (pE _ _ _)
theorem Ol(c:Cmt)(q:CQ)(k:LBy)(a:c.parent.length=32)(b:c.confirm.length=32)(d:k.length=32):mP (aE c q).toArray 39 (k.map v8)=(aE {c with confirm:=k} q).toArray:=by
 have e:∀x:LBy,aE {c with confirm:=x} q=(jd je c.folder::jd je c.epoch::(c.parent.map v8++[jd je c.author,q.vc,q.vp,q.vb,q.vw]))++x.map v8++[jd je c.r,jd je c.s]:=λx=>by simp[aE]
 have h:=BF (k.map v8) (jd je c.folder::jd je c.epoch::(c.parent.map v8++[jd je c.author,q.vc,q.vp,q.vb,q.vw])) (c.confirm.map v8) [jd je c.r,jd je c.s] (by simp[b,d]);have f:(jH .i64 c.folder::jd je c.epoch::(c.parent.map v8++[jd je c.author,q.vc,q.vp,q.vb,q.vw])).length=39:=by simp[a]
 rw[f,<-e,<-e]at h;exact h
theorem TS(c:Cmt)(q:CQ)(r s:jb)(a:c.parent.length=32)(b:c.confirm.length=32):mP (aE c q).toArray 71 [jd je r,jd je s]=(aE {c with r:=r,s:=s} q).toArray:=by
 have e:∀x y:jb,aE {c with r:=x,s:=y} q=(jd je c.folder::jd je c.epoch::(c.parent.map v8++([jd je c.author,q.vc,q.vp,q.vb,q.vw]++c.confirm.map v8)))++[jd je x,jd je y]++[]:=λx y=>by simp[aE]
 have h:=BF [jd je r,jd je s] (jd je c.folder::jd je c.epoch::(c.parent.map v8++([jd je c.author,q.vc,q.vp,q.vb,q.vw]++c.confirm.map v8))) [jd je c.r,jd je c.s] [] I;have d:(jH .i64 c.folder::jd je c.epoch::(c.parent.map v8++([jd je c.author,q.vc,q.vp,q.vb,q.vw]++c.confirm.map v8))).length=71:=by simp[a,b]
 rw[d,<-e,<-e]at h;exact h
theorem fJ.conf(h:fJ H){k:LBy}(a:k.length=32):fJ {H with confirm:=k}:=⟨h.ints,h.plen,a,h.chg,h.path,h.box,h.wel⟩
theorem fJ.rs(h:fJ H){r s:jb}(a:IR r)(b:IR s):fJ {H with r:=r,s:=s}:=⟨⟨h.ints.1,h.ints.2.1,h.ints.2.2.1,a,b⟩,h.plen,h.clen,h.chg,h.path,h.box,h.wel⟩
theorem Pq(c:Cmt)(x y:jb)(l:c.r=0)(m:c.s=0):({({c with r:=x,s:=y}:Cmt)with r:=0,s:=0}:Cmt)=c:=by
 obtain⟨a,b,c,d,e,f,g,h,i,j,k⟩:=c;obtain rfl:j=0:=l;obtain rfl:k=0:=m
 rfl
theorem Kw(c:Cmt)(x:LBy)(l:c.confirm=cF):({({c with confirm:=x}:Cmt)with confirm:=cF}:Cmt)=c:=by
 obtain⟨a,b,c,d,e,f,g,h,i,j,k⟩:=c;obtain rfl:i=cF:=l
 rfl
theorem Tz(g:Grp)(a:jb)(b:jg ap)(c init seed:LBy)(q:CQ):aE (mk1 g a b c init seed) q=aE (bX g a b c) q:=by simp only[aE,mk1,bX]
theorem oe(g:Grp)(a:jb)(b:jg ap)(c init seed:LBy):(mk1 g a b c init seed).parent=g.last/\(mk1 g a b c init seed).confirm.length=32:=by
 unfold mk1;exact⟨I,eJ⟩
theorem Do(g:Grp)(a:jb)(c:jg ap)(b init seed:LBy):mk2 g a c b init seed={mk1 g a c b init seed with confirm:=iZ (dO g b init) (cW kM ((aR (mk1 g a c b init seed)).take 8))}:=by unfold mk2;rfl
theorem Gz(g:Grp)(a:jb)(x:jc)(b:jg ap)(c init seed:LBy):mkC g a x b c init seed={mk2 g a b c init seed with r:=((ko x (dt (mk2 g a b c init seed)):jc):jb),s:=((kE x (dt (mk2 g a b c init seed)):jc):jb)}:=by unfold mkC;rfl
theorem BX(c:Cmt)(k:LBy):({c with confirm:=k}:Cmt).confirm=k/\({c with confirm:=k}:Cmt).parent=c.parent:=⟨I,I⟩
theorem po(g:Grp)(a:jb)(b:jg ap)(c init seed:LBy):(mk2 g a b c init seed).parent=g.last/\(mk2 g a b c init seed).confirm.length=32:=by
 rw[Do,(BX _ _).1,(BX _ _).2];exact⟨(oe ..).1,sT _ _⟩
theorem F3(c:Cmt)(r s:jb):({c with r:=r,s:=s}:Cmt).confirm=c.confirm/\({c with r:=r,s:=s}:Cmt).parent=c.parent:=⟨I,I⟩
theorem BK(g:Grp)(a:jb)(x:jc)(b:jg ap)(c init seed:LBy):(mkC g a x b c init seed).parent=g.last/\(mkC g a x b c init seed).confirm.length=32:=by
 rw[Gz,(F3 _ _ _).1,(F3 _ _ _).2];exact po ..
theorem MP{y:LBy}(h:fJ (mkC e a b f p y seed)):fJ (mk1 e a f p y seed)/\fJ (mk2 e a f p y seed):=by
 have z:IR 0:=⟨by decide,by decide⟩;have g:fJ (mk2 e a f p y seed):=by
  have d:=h.rs z z;unfold mkC at d;rw[Pq _ _ _ I I]at d;exact d
 have d:=g.conf eJ;unfold mk2 at d;rw[Kw _ _ I]at d;exact⟨d,g⟩
theorem vG(k:P)(h:P->K:=by intro k;refine aS (v:=?_) rfl aj (λW' hS=>?_) ?_;rotate_left;(have b0:=ai (i:=1) hS.1 rfl;have b1:=ai (i:=2) hS.1 rfl;clear hS;go_simp;with_reducible rfl);refine G ?_;exact k):K:=h k
theorem RR(g:Grp)(vm vt vl:jl)(a x:jb)(m:jg ap)(u init seed:LBy)(w:jj)(h:bL w g vm vt)(X:aG (·<w.heap.size) w vl 5 m.length (m.flatMap ap.cells))
 (a1:u.length=32) (a2:init.length=32) (hh:seed.length=32) (hT:lx w) (hS:iE w) (bc:g.mem.length<=900000) (bd:g.tree.length<=600000) (D:m.length<=1000000) (Wb:ia g a x m=0):
 jB jo 47 #[jh (aB g vm vt).toArray,jd je a,jd je x,vl,jh (u.map v8).toArray,jh (init.map v8).toArray,jh (seed.map v8).toArray] w (Pn g a x m u init seed (ia g a x m) w):=by
 obtain⟨er,M⟩:=J (ia g a x m);rw[<-M];have hP:=O M;have e2:N (er=0):=O (M.trans Wb);have a3:=rA (vm:=vm) (vt:=vt) h.llen;have VS:=lP (vm:=vm) (vt:=vt) h.llen;have a4:∀(w:jj) (b:jc),w.heap[b]?=T (ja (aB g vm vt).toArray 41 (0,0))->w.rangeAt b 2 (g.last.map v8):=λw b hb=>dG.last ⟨hb,h.llen⟩
 have HN:N (∀W,bL W g vm vt->EC.At W vl m->jB jo 26 #[jh (aB g vm vt).toArray,jd je a,vl] W λe w'=>∃aa,e=jz (jI #[aa,jd je (du g a m)])/\w'.ownsRow W 92 4 aa (dV g a m).length (EB0.flat (dV g a m))/\jk W W w'):=O (λW hW hL=>Gn g vm vt _ _ _ W hW hL Y Y D);have hr:N (∀W,dD g->eX m->gN g a m->bL W g vm vt->EC.At W vl m->jB jo 33 #[jh (aB g vm vt).toArray,jd je a,vl] W λe w'=>e=jz (jd je (dT g a m))/\jk W W w'):=O (λW hv hf hp hW hL=>Gb g vm vt _ _ _ W hW (uz hv) Y hL (λhn=>by
  have c:=hp.own;rw[hn]at c;obtain⟨x,r,h1,-⟩:=hp.first (by have:=hv.ep.1;have h2:=of_decide_eq_false c.symm;omega);rw[h1];simp))
 have hQ:N (∀W,eX m->bL W g vm vt->EC.At W vl m->jB jo 36 #[jh (aB g vm vt).toArray,vl] W λe w'=>∃aa,e=jz (jh #[aa])/\bJ w' aa (aX g.tree m)/\jk W W w'):=O (λW hf hW hL=>yC g vm vt _ _ W hW hf Y hL);obtain⟨ay,P⟩:=J ((aB g vm vt).toArray);obtain⟨Um,hL⟩:=J ((u.map v8).toArray);obtain⟨bM,U⟩:=J ((init.map v8).toArray);obtain⟨S,V⟩:=J ((seed.map v8).toArray);have c:∀(l:LBy),l.length=32->(jo.info? 66).map (·.size)=T (l.map v8).toArray.size:=λl D=>by rw[jv,jw,D];kernel_rfl
 have ZX:N ((jo.info? 66).map (·.size)=T Um.size):=O (by rw[hL];exact c _ a1);have lo:N ((jo.info? 66).map (·.size)=T bM.size):=O (by rw[U];exact c _ a2);have hR:N ((jo.info? 66).map (·.size)=T S.size):=O (by rw[V];exact c _ hh);rw[<-P]at a3 HN hr hQ a4⊢;rw[<-hL,<-U,<-V];clear c;obtain⟨x0,k⟩:=J (((((((w.alloc (ja ay 41)).alloc (ja Um 66)).alloc (ja bM 66)).alloc (ja S 66)).alloc (ja zeroCells48 48)).alloc (ja a8 66)));obtain⟨t,hG⟩:=J w.heap.size;have i:=jy w (ja ay 41);have c:=ao w (ja ay 41);have bo:=jy (w.alloc (ja ay 41)) (ja Um 66);have d:=ao (w.alloc (ja ay 41)) (ja Um 66);have Vj:=jy ((w.alloc (ja ay 41)).alloc (ja Um 66)) (ja bM 66);have j:=ao ((w.alloc (ja ay 41)).alloc (ja Um 66)) (ja bM 66);have o:=jy (((w.alloc (ja ay 41)).alloc (ja Um 66)).alloc (ja bM 66)) (ja S 66);have q:=ao (((w.alloc (ja ay 41)).alloc (ja Um 66)).alloc (ja bM 66)) (ja S 66);have C:=jy ((((w.alloc (ja ay 41)).alloc (ja Um 66)).alloc (ja bM 66)).alloc (ja S 66)) (ja zeroCells48 48);have s:=ao ((((w.alloc (ja ay 41)).alloc (ja Um 66)).alloc (ja bM 66)).alloc (ja S 66)) (ja zeroCells48 48);have e3:=jy (((((w.alloc (ja ay 41)).alloc (ja Um 66)).alloc (ja bM 66)).alloc (ja S 66)).alloc (ja zeroCells48 48)) (ja a8 66);have v:=ao (((((w.alloc (ja ay 41)).alloc (ja Um 66)).alloc (ja bM 66)).alloc (ja S 66)).alloc (ja zeroCells48 48)) (ja a8 66);replace i:=av i d;replace i:=av i j;replace i:=av i q;replace i:=av i s;replace i:=av i v;rw[jp]at bo;replace bo:=av bo j;replace bo:=av bo q;replace bo:=av bo s;replace bo:=av bo v;rw[jp,jp]at Vj;replace Vj:=av Vj q;replace Vj:=av Vj s;replace Vj:=av Vj v;rw[jp,jp,jp]at o;replace o:=av o s;replace o:=av o v;rw[jp,jp,jp,jp]at C;replace C:=av C v;rw[jp,jp,jp,jp,jp]at e3;have hB:=(((((c).trans (d.mono (c).size)).trans (j.mono ((c).trans (d.mono (c).size)).size)).trans (q.mono (((c).trans (d.mono (c).size)).trans (j.mono ((c).trans (d.mono (c).size)).size)).size)).trans (s.mono ((((c).trans (d.mono (c).size)).trans (j.mono ((c).trans (d.mono (c).size)).size)).trans (q.mono (((c).trans (d.mono (c).size)).trans (j.mono ((c).trans (d.mono (c).size)).size)).size)).size)).trans (v.mono (((((c).trans (d.mono (c).size)).trans (j.mono ((c).trans (d.mono (c).size)).size)).trans (q.mono (((c).trans (d.mono (c).size)).trans (j.mono ((c).trans (d.mono (c).size)).size)).size)).trans (s.mono ((((c).trans (d.mono (c).size)).trans (j.mono ((c).trans (d.mono (c).size)).size)).trans (q.mono (((c).trans (d.mono (c).size)).trans (j.mono ((c).trans (d.mono (c).size)).size)).size)).size)).size);rw[<-k]at hB;rw[<-k,<-hG]at i;rw[<-k,<-hG]at bo;rw[<-k,<-hG]at Vj;rw[<-k,<-hG]at o;rw[<-k,<-hG]at C;rw[<-k,<-hG]at e3;have Q:=O i;have ad:=O bo;have ax:=O Vj;have UY:=O o;have UN:=O C;have U0:=O e3;have Uq:=O hB;have HW:=O k;have HG:=O hG;have hs:=O h;have e4:=O X;obtain⟨Z,F⟩:∃y:jq jl,y=zeroCells48:=⟨_,I⟩;obtain⟨K,z⟩:∃y:jq jl,y=a8:=⟨_,I⟩;have i4:N ((aE mO nE).toArray=Z):=O (by rw[F];rfl);have Ze:N ((cF.map v8).toArray=K):=O (by rw[z];rfl);have U8:N ((jo.info? 48).map (·.size)=T Z.size):=O (by rw[F];kernel_rfl);have lp:N ((jo.info? 66).map (·.size)=T K.size):=O (by rw[z];kernel_rfl);have lr:N (Z.all (·.oneCell')=ji):=O (by rw[F];kernel_rfl);have lv:N (K.all (·.oneCell')=ji):=O (by rw[z];kernel_rfl);replace UN:N (x0.heap[(t+1+1+1+1)]?=T (ja Z 48 (0,0))):=O (by rw[F];exact UN);replace U0:N (x0.heap[(t+1+1+1+1+1)]?=T (ja K 66 (0,0))):=O (by rw[z];exact U0);have YU:=O a3;have i5:=O a4;have hU:=O hT;have Wd:=O hS;have Wi:=O bc;have Wx:=O bd;have hl:=O D;have Vx:=O a1;have hV:=O a2;have hX:=O hh;have Yc:=O h.llen;have c7:N (ay[0]?=T (jd je g.folder)/\ay[1]?=T (jd je g.epoch)):=O (by rw[P];have:=VS;exact⟨by simpa using this.1,by simpa using this.2.1⟩);have Yx:=O P;have i6:=O hL;have hY:=O U;have hZ:=O V;obtain⟨R,nc,H,i7⟩:∃p n c',vl=A p n c':=by obtain⟨p,c',h⟩:=X.form;exact⟨p,_,c',h⟩
 subst i7;obtain⟨ep,a5⟩:=J g.epoch;obtain⟨fd,a6⟩:=J g.folder;rw[<-a5,<-a6]at c7;have WK:=O a5;have ka:=O a6;have ba:=O (yD g a m);obtain⟨ne,bb⟩:=J (du g a m);rw[<-bb]at HN ba;have e5:=O bb;clear h X a1 a2 hh hT hS bc bd D M a3 VS a4 P hL U V F z a5 a6 bb;clear hB k hG i c bo d Vj j o q C s e3 v
 go_enter func47,ntmps47
 go_upto_region 1 with fail
 rw[<-HW,<-HG];have e6:N ((t+1+1+1+1+1)<x0.heap.size):=O (jA.1 U0).1;have k:=ai Q c7.2
 by_cases h1:1099511627776<=ep
 case pos=>
  have hT:decide (1099511627776<=ep)=ji:=ak h1;have c:N (er=1):=O (by rw[hP];unfold ia;rw[jr (by rw[<-WK];exact h1)]);clear h1;exact ju (c.symm.trans e2) L
 have hT:decide (1099511627776<=ep)=jn:=ak h1;have kb:ep<1099511627776:=Y;have i:N (er=if du g a m≠0 then du g a m else if x<1\/2305843009213688669<=x then 50 else if((aY 4 x.toNat:jc):jb)≠dT g a m then 221 else 0):=O (by rw[hP];unfold ia;rw[jE (by rw[<-WK];exact h1)]);clear h1
 go_upto_region 3 with fail
 clear hT k;refine jY ?_;refine j7 I 41 _ I t I 41 ay (0,0) _ Q.out qQ I YU ?_
 go_wp2_with fail
 refine(HN x0 (hs.below Uq) ((EK.At.of_sl (E:=EC) e4).below Uq)).mono ?_;rintro e x1 ⟨aa,rfl,hu,d⟩;have q:=O hu;clear hu;have s:=ae Q d;have a1:=ae ad d;have V:=ae ax d;have Vi:=ae UY d;have UK:=ae UN d;have UQ:=ae U0 d;have U:=ah Uq d;clear Q ad ax UY UN U0 Uq;clear d;obtain⟨pu,kg,rfl⟩:=cK q;obtain⟨nu,j⟩:=J ((dV g a m).length);rw[<-j]at q⊢;have h0:=O j;clear j
 rcases ba.out with⟨-,C⟩|⟨-,-,C⟩|⟨hv,hf,hp,C⟩
 case inl=>
  have c:N (er=1):=O (by rw[i,<-e5,C];rfl);subst C;clear q;exact ju (c.symm.trans e2) L
 case inr.inl=>
  have c:N (er=221):=O (by rw[i,<-e5,C];rfl);subst C;clear q;exact ju (c.symm.trans e2) L
 have o:N (er=if x<1\/2305843009213688669<=x then 50 else if((aY 4 x.toNat:jc):jb)≠dT g a m then 221 else 0):=O (by rw[i,<-e5,C];rfl);subst C;have j:dD g:=by
  by_cases C:dD g
  ·exact C
  rw[kj C]at hv;cases hv
 have b9:=O j;have Yo:=O (oA.1 hf);have ht:=O (tH.1 hp);have hw:N (dV g a m=et (aX g.tree m) a):=O (ye e5.symm);have lw:0<=ep:=by rw[WK];exact j.ep.1
 have em:=O (vQ j Yo ht);clear hv hf hp j i ba
 by_cases e7:k6 x
 case neg=>
  have c:N (er=50):=O (by rw[o,jr (by unfold k6 at e7;omega)]);have i:=O (Jd x e7);clear e7 q
  go_wp2_with fail
  refine(i x1).mono ?_;rintro e x2 ⟨rfl,rfl⟩;exact ju (c.symm.trans e2) L
 obtain⟨X,h4⟩:=qH (show 0<=x by have:=e7.1;omega);have Zn:=O h4;obtain⟨i,j⟩:=e7;subst h4;have U7:N (1<=X/\X<2305843009213688669):=O ⟨by omega,by omega⟩;have hm:N (er=if((aY 4 X:jc):jb)≠dT g a m then 221 else 0):=O (by rw[o,jE Y];rfl);clear i j o
 go_wp2_with fail
 refine(Ac X U7.1 U7.2 x1).mono ?_;rintro e x2 ⟨rfl,d⟩;have i:=ae s d;have v:=ae a1 d;have D:=ae V d;have UO:=ae Vi d;have UH:=ae UK d;have UP:=ae UQ d;have Ur:=ah U d;have e8:=bj q d;clear s a1 V Vi UK UQ U q;clear d;obtain⟨vk,j⟩:=J (dT g a m);obtain⟨pb,e9⟩:∃y:jb,y=((aY 4 X:jc):jb):=⟨_,I⟩;rw[<-j]at hr hm;rw[<-e9]at hm⊢;have ZN:=O j;have ki:=O e9;clear j e9
 go_upto_region 9 with fail
 refine jY ?_;refine eh ?_;refine j7 I 41 _ I t I 41 ay (0,0) _ i.out qQ I YU (G ?_)
 go_wp2_with fail
 refine(hr x2 b9 Yo ht (hs.below Ur) ((EK.At.of_sl (E:=EC) e4).below Ur)).mono ?_;rintro e x3 ⟨rfl,d⟩;have WZ:=ae i d;have ZC:=ae v d;have o:=ae D d;have VZ:=ae UO d;have U2:=ae UH d;have Vh:=ae UP d;have Ut:=ah Ur d;have a2:=bj e8 d;clear i v D UO UH UP Ur e8;clear d
 by_cases h2:pb=vk
 case neg=>
  have hd2:(pb !=vk)=ji:=ak h2;have ho:(pb==vk)=jn:=ak h2;have c:N (er=221):=O (by rw[hm,jr h2]);clear h2 a2;exact ju (c.symm.trans e2) L
 have hd2:(pb !=vk)=jn:=ak h2;have ho:(pb==vk)=ji:=ak h2;have kl:N (er=0):=O (by rw[hm,jE (λhn=>hn h2)]);have km:N (dT g a m=(aY 4 X:jc)):=O (by rw[<-ZN,<-h2,ki]);clear h2;have k:=ai WZ c7.2;obtain⟨ix,c⟩:=J (if g.epoch=0 then cF else init);obtain⟨IX,i⟩:=J ((ix.map v8).toArray);have j:ix.length=32:=by rw[c];split;exact eJ;exact hV
 have kn:=O j;have bm:=O c;have bn:=O i;have hx:N ((jo.info? 66).map (·.size)=T IX.size):=O (by rw[i,jv,jw,j];kernel_rfl);clear j
 go_upto_if 69 with fail
 go_cut []from 69 (λj=>j=x3.setRow (t+1+1) IX)
 case first=>
  by_cases j:ep=0
  ·have hd3:(ep==0)=ji:=ak j
   have v:IX=(cF.map v8).toArray:=by rw[i,c,jr (by rw[<-WK];exact j)]
   have D:N ((cF.map v8).toArray.all (·.oneCell')=ji):=O (eU _);have F:N (bM.size=(cF.map v8).toArray.size):=O (by rw[hY,jv,jw,jv,jw,hV,eJ]);rw[v]at hx;have M:=O v;clear j v i c
   try rw[hd3]
   go_upto_region 12 with fail
   refine jY ?_;refine ei (v:=jh (cF.map v8).toArray) aj (Ou I _) ?_;refine o8 I λ_ z=>jQ 66 _ _ I (t+1+1) (cF.map v8).toArray I I 66 _ o.out hx F D (z _ _ ?_)
   refine G ?_
   go_wp2_with fail
   go_meet
   rw[M]
  have hd3:(ep==0)=jn:=ak j;have D:IX=bM:=by rw[i,c,jE (by rw[<-WK];exact j),hY]
  have F:=O D;clear j D i c
  try rw[hd3]
  go_wp2_with fail
  go_meet
  rw[F];exact(rp o).symm
 subst hcut;clear i c hd2 ho k;have c:N ((x3.setRow (t+1+1) IX).heap[t]?=T (ja ay 41 (0,0))):=O ((js _ _ _ _ (by first|omega|(have:=Zb.out;omega))).trans WZ);have D:N ((x3.setRow (t+1+1) IX).heap[t+1]?=T (ja Um 66 (0,0))):=O ((js _ _ _ _ (by first|omega|(have:=Zb.out;omega))).trans ZC);have F:N ((x3.setRow (t+1+1) IX).heap[t+1+1]?=T (ja IX 66 (0,0))):=O (jT _ _ _ _ _ _ o.out);have M:N ((x3.setRow (t+1+1) IX).heap[t+1+1+1]?=T (ja S 66 (0,0))):=O ((js _ _ _ _ (by first|omega|(have:=Zb.out;omega))).trans VZ);have bd:N ((x3.setRow (t+1+1) IX).heap[(t+1+1+1+1)]?=T (ja Z 48 (0,0))):=O ((js _ _ _ _ (by first|omega|(have:=Zb.out;omega))).trans U2);have bf:N ((x3.setRow (t+1+1) IX).heap[(t+1+1+1+1+1)]?=T (ja K 66 (0,0))):=O ((js _ _ _ _ (by first|omega|(have:=Zb.out;omega))).trans Vh);have bg:N (jk w w (x3.setRow (t+1+1) IX)):=O (ob Ut.out (by rw[HG];omega) _);have P:=O (nh (w':=(x3.setRow (t+1+1) IX)) a2 (λk hk=>js _ _ _ _ (aJ e6)));generalize(x3.setRow (t+1+1) IX)=x4 at c D F M bd bf bg P⊢;clear WZ ZC o VZ U2 Vh Ut a2;have a3:=c;clear c;have o:=D;clear D;have a4:=F;clear F;have WQ:=M;clear M;have Yl:=bd;clear bd;have YL:=bf;clear bf;have UA:=bg;clear bg;have a5:=P;clear P
 go_upto_region 13 with fail
 refine jY ?_;refine j7 I 66 _ I (t+1) I 66 Um (0,0) _ o.out jW I ZX ?_;have a2:N (∀W,bH W->jB jo 96 #[jh Um] W λe w'=>∃v,e=jz v/\w'.ownsRow W 66 32 v 10 (im (gI u 10))/\jk W W w'):=O (by rw[i6];exact λW hW=>Lx u Vx W hW)
 go_wp2_with fail
 refine(a2 x4 (Wd.dig.below UA)).mono ?_;rintro e x5 ⟨v,rfl,hv,d⟩;obtain⟨gl,cl,LC,rfl,l6,a6,ba,bb⟩:=S3 hv L;have fe:=O ba;have Zb:N (t+6<=gl):=O (by have bp:=(jA.1 YL).1;have:=a6;omega);have hq:N (∀i j aa,i<10->((aA u i).map v8)[j]?=T aa->LC[i*32+j]?=T aa):=O (λi j aa hi hj=>bb _ _ (RN u Vx 10 i j hi aa hj));clear hv ba bb a6 a2;have bc:=ae a3 d;have bh:=ae o d;have a2:=ae a4 d;have b6:=ae WQ d;have eq:=ae Yl d;have ev:=ae YL d;have UF:=ah UA d;have bi:=bj a5 d;clear a3 o a4 WQ Yl YL UA a5;clear d;obtain⟨RL,a3⟩:=J (((aA u 9).map v8).toArray);obtain⟨SA,o⟩:=J (((dO g u init).map v8).toArray);have bq:N (∀W,iE W->jB jo 97 #[jh IX,jh RL] W λe w'=>e=jz (jh SA)/\jk W W w'):=O (by
  rw[bn,a3,o];unfold dO;rw[<-bm];exact λW hW=>QU ix (aA u 9) kn (fL u Vx 9) W hW)
 have fm:N ((jo.info? 66).map (·.size)=T SA.size):=O (by rw[o,jv,jw,lF];kernel_rfl);have kq:N (K.size=SA.size):=O (by rw[o,<-Ze,jv,jw,jv,jw,lF,eJ]);have h5:N (SA.all (·.oneCell')=ji):=O (by rw[o];exact eU _);have bu:=O a3;have hz:=O o;have bv:N ((jo.info? 66).map (·.size)=T ((aA u 9).map v8).length):=O (by rw[jw,fL u Vx];kernel_rfl);clear a3 o
 go_upto_region 14 with fail
 refine jL ?_;refine dj (λW'=>W'.heap[t+1+1]?=T (ja IX 66 (0,0))/\W'.heap[gl]?=T (ja LC 66 (0,0))) (.t 0 (.t 1 (.t 2 (.t 3 (.o 4 (.o 5 .done)))))) af af af L (λ_ _ _ _ h=>h) ⟨a2,fe⟩ ?_;obtain⟨y0,UJ⟩:=J x5.drew;have d:=bV x5;rw[<-UJ]at d⊢;have a4:=ae bc d;have a6:=ae bh d;have ba:=ae a2 d;have b1:=ae b6 d;have cs:=ae eq d;have ct:=ae ev d;have ZE:=ah UF d;have bb:=bj bi d;have cu:=ae fe d;clear d UJ bc bh a2 b6 eq ev UF bi fe;have Q:=a4;clear a4;have ad:=a6;clear a6;have ax:=ba;clear ba;have UY:=b1;clear b1;have UN:=cs;clear cs;have U0:=ct;clear ct;have Uq:=ZE;clear ZE;have bc:=bb;clear bb;have bN:=cu;clear cu
 (refine aS (v:=jh IX) I aj (λW' hS=>mx jW I hx I I hS.1) (G ?_))
 iterate 2 refine aO ?_
 (refine aS (v:=jh RL) I aj (λW' hS=>by rw[bu];exact CM jW I bv I I (G8 (o:=288) hS.2 (λj aa hj=>hq 9 j aa L hj))) ?_;refine G ?_)
 refine aF I (λK' z=>?_);go_simp;refine(bq y0 (Wd.below Uq)).mono ?_;rintro e y1 ⟨rfl,d⟩;have s:=ae Q d;have a1:=ae ad d;have V:=ae ax d;have Vi:=ae UY d;have UK:=ae UN d;have UQ:=ae U0 d;have U:=ah Uq d;have q:=bj bc d;have a3:=ae bN d;clear Q ad ax UY UN U0 Uq bc bN;clear d;refine z _ _ ⟨V,a3⟩ λ_=>?_
 clear z;refine G ?_;refine aF I (λK' z=>?_);rw[jr aj];refine jQ 66 _ _ I (t+1+1+1+1+1) SA I I 66 _ UQ.out fm kq h5 ?_;refine z _ _ ⟨(js _ _ _ _ Y).trans V,(js _ _ _ _ (aJ Zb)).trans a3⟩ λ_=>?_
 clear z;have c:N ((y1.setRow (t+1+1+1+1+1) SA).heap[t]?=T (ja ay 41 (0,0))):=O ((js _ _ _ _ (by first|omega|(have:=Zb.out;omega))).trans s);have D:N ((y1.setRow (t+1+1+1+1+1) SA).heap[t+1]?=T (ja Um 66 (0,0))):=O ((js _ _ _ _ (by first|omega|(have:=Zb.out;omega))).trans a1);have F:N ((y1.setRow (t+1+1+1+1+1) SA).heap[t+1+1]?=T (ja IX 66 (0,0))):=O ((js _ _ _ _ (by first|omega|(have:=Zb.out;omega))).trans V);have M:N ((y1.setRow (t+1+1+1+1+1) SA).heap[t+1+1+1]?=T (ja S 66 (0,0))):=O ((js _ _ _ _ (by first|omega|(have:=Zb.out;omega))).trans Vi);have bd:N ((y1.setRow (t+1+1+1+1+1) SA).heap[(t+1+1+1+1)]?=T (ja Z 48 (0,0))):=O ((js _ _ _ _ (by first|omega|(have:=Zb.out;omega))).trans UK);have bf:N ((y1.setRow (t+1+1+1+1+1) SA).heap[(t+1+1+1+1+1)]?=T (ja SA 66 (0,0))):=O (jT _ _ _ _ _ _ UQ.out);have bg:N (jk w w (y1.setRow (t+1+1+1+1+1) SA)):=O (ob U.out (by rw[HG];omega) _);have P:=O (nh (w':=(y1.setRow (t+1+1+1+1+1) SA)) q (λk hk=>js _ _ _ _ (aJ e6)));have a2:N ((y1.setRow (t+1+1+1+1+1) SA).heap[gl]?=T (ja LC 66 (0,0))):=O ((js _ _ _ _ (by first|omega|(have:=Zb.out;omega))).trans a3);generalize(y1.setRow (t+1+1+1+1+1) SA)=y9 at c D F M bd bf bg P a2⊢;clear s a1 V Vi UK UQ U q a3;have ZW:=c;clear c;have bi:=D;clear D;have bk:=F;clear F;have ZD:=M;clear M;have Zm:=bd;clear bd;have Z6:=bf;clear bf;have VJ:=bg;clear bg;have bh:=P;clear P;have a5:=a2;clear a2;refine G ?_;refine ow ?_;have bw:N ((jo.info? 23).map (·.size)=T (g.last.map v8).length):=O (by rw[jw,Yc];kernel_rfl);obtain⟨DL,bl⟩:=J ((g.last.map v8).toArray);have WR:=O bl;have h6:N (IntKind.i64.wrap (ep+1)=ep+1):=O (by rw[IntKind.wrap_i64];omega);have bA:N (DL.size=32):=O (by rw[bl,jv,jw,Yc]);clear bl
 go_upto_region 15 with fail
 refine jL ?_;refine dj (λW'=>W'.heap[t]?=T (ja ay 41 (0,0))) (.t 0 (.t 1 (.t 2 (.t 3 (.t 4 (.t 5 (.t 6 (.t 7 (.t 8 (.o 9 (.t 10 (.o 11 .done)))))))))))) af af af L (λ_ _ _ _ h=>h) ZW ?_;obtain⟨z0,UJ⟩:=J y9.drew;have d:=bV y9;rw[<-UJ]at d⊢;have a4:=ae ZW d;have a6:=ae bi d;have ba:=ae bk d;have b1:=ae ZD d;have cs:=ae Zm d;have ct:=ae Z6 d;have ZE:=ah VJ d;have bb:=bj bh d;have cu:=ae a5 d;clear d UJ ZW bi bk ZD Zm Z6 VJ bh a5;have Q:=a4;clear a4;have ad:=a6;clear a6;have ax:=ba;clear ba;have UY:=b1;clear b1;have UN:=cs;clear cs;have U0:=ct;clear ct;have Uq:=ZE;clear ZE;have bc:=bb;clear bb;have bN:=cu;clear cu;iterate 6 (refine aS (v:=?_) I aj (λW' hS=>?_) ?_;rotate_left;(have b0:=ai hS c7.1;have a4:=ai hS c7.2;go_simp;with_reducible rfl);refine G ?_)
 (refine aS (v:=jh DL) I aj (λW' hS=>by rw[WR];exact CM underlying23 I bw I I (i5 W' t hS)) ?_;refine G ?_)
 iterate 2 (refine aS (v:=?_) I aj (λW' hS=>?_) ?_;rotate_left;(have b0:=ai hS c7.1;have a4:=ai hS c7.2;go_simp;with_reducible rfl);refine G ?_)
 refine aF I (λK' z=>?_);go_simp;refine(Iq m _ z0 ((EK.At.of_sl (E:=EC) e4).below Uq) hl).mono ?_;rintro e z1 ⟨aa,rfl,hu,d⟩;obtain⟨EE,a4⟩:=J z0.heap.size;rw[<-a4]at hu;have c9:N (t+6<=EE):=O (by have bp:=(jA.1 U0).1;omega);clear a4;have Zc:=O hu;clear hu;obtain⟨V9,c1,rfl⟩:=cK Zc;obtain⟨X0,a6⟩:∃y:jq jl,y= #[jd je fd,jd je (ep+1)]++DL++ #[jd je a,A V9 m.length c1,A jf 0 0,A jf 0 0,A jf 0 0]++(cF.map v8).toArray++ #[jd je 0,jd je 0]:=⟨_,I⟩;have ba:=O a6;have a4:X0=(aE (bX g a m u) ⟨A V9 m.length c1,A jf 0 0,A jf 0 0,A jf 0 0⟩).toArray:=by rw[a6,WR,ka,WK];unfold aE bX;simp
 have bb:=O a4;have bl:N ((jo.info? 48).map (·.size)=T X0.size):=O (by rw[a4,jv,dl _ _ Yc.out eJ];exact mQ);have bB:N (X0.all (·.oneCell')=ji):=O (by rw[a4];exact zL _ _ _ _ _ _ _ _ _ _ _ _ _);have bC:N (Z.size=X0.size):=O (by rw[a4,<-i4,jv,jv,dl (bX g a m u) _ Yc.out eJ,dl mO nE eJ eJ]);clear a6 a4;have s:=ae Q d;have a1:=ae ad d;have V:=ae ax d;have Vi:=ae UY d;have UK:=ae UN d;have UQ:=ae U0 d;have U:=ah Uq d;have q:=bj bc d;have a3:=ae bN d;clear Q ad ax UY UN U0 Uq bc bN;clear d;refine z _ _ s.out λ_=>?_
 clear z;refine G ?_
 (refine aS (v:=jh X0) I aj (λW' hS=>by rw[ba];exact L3 (f:=fd) (e:=ep+1) (au:=a) bA I (by simp only[p6,j1,jZ,Act.eval,Array.getD_eq_getD_getElem?];simp;exact h6) W') ?_;refine G ?_)
 refine aF I (λK' z=>?_);rw[jr aj];refine jQ 48 _ _ I (t+1+1+1+1) X0 I I 48 _ UK.out bl bC bB ?_;refine z _ _ ((js _ _ _ _ Y).trans s) λ_=>?_
 clear z;have Q:N ((z1.setRow (t+1+1+1+1) X0).ownsRow EE 62 5 (A V9 m.length c1) m.length (m.flatMap ap.cells)):=O (nh Zc (λk hk=>js _ _ _ _ (aJ c9)));have c:N ((z1.setRow (t+1+1+1+1) X0).heap[t]?=T (ja ay 41 (0,0))):=O ((js _ _ _ _ (by first|omega|(have:=Zb.out;omega))).trans s);have D:N ((z1.setRow (t+1+1+1+1) X0).heap[t+1]?=T (ja Um 66 (0,0))):=O ((js _ _ _ _ (by first|omega|(have:=Zb.out;omega))).trans a1);have F:N ((z1.setRow (t+1+1+1+1) X0).heap[t+1+1]?=T (ja IX 66 (0,0))):=O ((js _ _ _ _ (by first|omega|(have:=Zb.out;omega))).trans V);have M:N ((z1.setRow (t+1+1+1+1) X0).heap[t+1+1+1]?=T (ja S 66 (0,0))):=O ((js _ _ _ _ (by first|omega|(have:=Zb.out;omega))).trans Vi);have bd:N ((z1.setRow (t+1+1+1+1) X0).heap[(t+1+1+1+1)]?=T (ja X0 48 (0,0))):=O (jT _ _ _ _ _ _ UK.out);have bf:N ((z1.setRow (t+1+1+1+1) X0).heap[(t+1+1+1+1+1)]?=T (ja SA 66 (0,0))):=O ((js _ _ _ _ (by first|omega|(have:=Zb.out;omega))).trans UQ);have bg:N (jk w w (z1.setRow (t+1+1+1+1) X0)):=O (ob U.out (by rw[HG];omega) _);have P:=O (nh (w':=(z1.setRow (t+1+1+1+1) X0)) q (λk hk=>js _ _ _ _ (aJ e6)));have a2:N ((z1.setRow (t+1+1+1+1) X0).heap[gl]?=T (ja LC 66 (0,0))):=O ((js _ _ _ _ (by first|omega|(have:=Zb.out;omega))).trans a3);generalize(z1.setRow (t+1+1+1+1) X0)=z9 at c D F M bd bf bg P a2 Q⊢;clear s a1 V Vi UK UQ U q a3;have ZW:=c;clear c;have bi:=D;clear D;have bk:=F;clear F;have ZD:=M;clear M;have Zm:=bd;clear bd;have Z6:=bf;clear bf;have VJ:=bg;clear bg;have bh:=P;clear P;have a5:=a2;clear a2;clear Zc;have ad:=Q;clear Q;refine G ?_;refine ow ?_;obtain⟨M,c⟩:=J z9.heap.size;have Yp:N ((t+1+1+1+1)<M):=O (by rw[c];exact(jA.1 Zm).1);have fo:N (gl<M):=O (by rw[c];exact(jA.1 a5).1);have h7:=O c;have fv:N ((t+1+1+1+1+1)<M):=O (by rw[c];exact(jA.1 Z6).1);have YN:N (∀aa v,((λv=>(aE (bX g a m u) ⟨A V9 m.length c1,v,A jf 0 0,A jf 0 0⟩).toArray) aa).setIfInBounds 36 v=(λv=>(aE (bX g a m u) ⟨A V9 m.length c1,v,A jf 0 0,A jf 0 0⟩).toArray) v):=O (λaa v=>RV (bX g a m u) _ _ _ _ _ Yc.out);have D:N (gB M (t+1+1+1+1) 48 3 1 (λv=>(aE (bX g a m u) ⟨A V9 m.length c1,v,A jf 0 0,A jf 0 0⟩).toArray) z9 z9 0 (A jf 0 0) (((dB u).take 0).map (jH .i64))):=O ⟨by have h:=Zm.out;rw[bb]at h;exact h,qX _ _ _ _,dy.refl _ _ _,j5 c⟩;have kv:N (∀w,(Instr.alloc 66 ji (jI #[])).run jo w=.ok (jt (T ⟨w,0,jf⟩)) (w.alloc (ja K 66))):=O (λw=>by rw[<-Ze];kernel_rfl);clear c;rw[h6]
 go_upto_region 16 with fail
 go_wp2_with fail
 go_loopw [91] (λv wr=>∃(i:jc) (pv:jG Addr) (cv:jc),v=jd je i/\i<=10/\N (gB M (t+1+1+1+1) 48 3 1 (λv=>(aE (bX g a m u) ⟨A V9 m.length c1,v,A jf 0 0,A jf 0 0⟩).toArray) z9 wr i (A pv i cv) (((dB u).take i).map (jH .i64)))) (λv _=>10-(jV v).toNat)
 case atStart=>exact⟨0,jf,0,I,jN _,D⟩
 clear D;obtain⟨i,pv,cv,rfl,hi,P⟩:=hrel
 by_cases ca:i<10
 ·have hd:=aw ((i:jb)<10)
  have UL:=aw (i<10);have h8:(i:jb)<10:=Y;obtain⟨RK,c⟩:=J (((aA u i).map v8).toArray);have a4:=O c;have ax:N ((jo.info? 66).map (·.size)=T RK.size):=O (by rw[c,jv,jw,fL u Vx];kernel_rfl);have a6:N (K.size=RK.size):=O (by rw[c,<-Ze,jv,jw,jv,jw,fL u Vx,eJ]);have bc:N (RK.all (·.oneCell')=ji):=O (by rw[c];exact eU _);have bs:N ((jo.info? 66).map (·.size)=T ((aA u i).map v8).length):=O (by rw[jw,fL u Vx];kernel_rfl);have bI:N (∀W,iE W->jB jo 98 #[jh RK] W λe w'=>e=jz (jd je (aT (aA u i):jc))/\jk W W w'):=O (by rw[c];exact λW hW=>S2 _ (fL u Vx i) W hW);have D:N (wr.heap[gl]?=T (ja LC 66 (0,0))):=O ((P.but.block gl fo (aJ Zb)).trans a5);have F:N (wr.rangeAt gl (i*32) ((aA u i).map v8)):=O (G8 D (λj aa hj=>hq i j aa ca hj));have WP:N (jk w w wr):=O (VJ.trans (P.but.below (n:=w.heap.size) (by rw[HG];omega) (ee Yp HG)));clear c
  go_upto_region 18 with fail
  refine jY ?_;refine eh ?_;refine uQ aj λ_ z=>wp_load_mid 66 _ I _ _ I ((aA u i).map v8) _ (by first|exact F|simpa using F.out) jW I bs (z _ _ ?_)
  rw[<-a4];refine o8 I λ_ z=>gM 66 I K kv (z _ _ ?_)
  refine o8 I λ_ z=>jQ 66 _ _ I wr.heap.size RK I I 66 K (jy wr _) ax a6 bc (z _ _ ?_)
  have bp:((wr.alloc (ja K 66)).setRow wr.heap.size RK).heap[wr.heap.size]?=T (ja RK 66 (0,0)):=jT _ _ _ _ _ _ (jy wr _);have d:jk wr wr ((wr.alloc (ja K 66)).setRow wr.heap.size RK):=iR (ao wr _) (jF _) _;obtain⟨k0,Zl⟩:=J ((wr.alloc (ja K 66)).setRow wr.heap.size RK);obtain⟨bK,c⟩:=J wr.heap.size;rw[<-Zl,<-c]at bp;rw[<-Zl]at d⊢;rw[<-c]at⊢;have V:=O (P.later (aJ Yp) d);have Q:=O bp;have Uq:N (jk w w k0):=ah WP d;clear bp d Zl c P WP D F
  go_upto_region 19 with fail
  refine jY ?_;refine j7 I 66 _ I bK I 66 RK (0,0) _ Q.out jW I ax ?_
  go_wp2_with fail
  refine(bI k0 (Wd.below Uq)).mono ?_;rintro e k1 ⟨rfl,d⟩;have a1:=O (V.later Yp d);have a2:=ae Q d;have U:=ah Uq d;clear V Q Uq;clear d
  go_wp2_with fail
  refine(Ac (aT (aA u i)) (D5 _).1 (D5 _).2 k1).mono ?_;rintro e c ⟨rfl,d⟩;have F:=O (a1.later Yp d);have bT:=ae a2 d;have Ur:=ah U d;clear a1 a2 U;clear d;obtain⟨Q,V⟩:∃y:jb,y=((aY 4 (aT (aA u i)):jc):jb):=⟨_,I⟩;rw[<-V];have a1:=O V;clear V;have a2:=ai F.box (show((λv=>(aE (bX g a m u) ⟨A V9 m.length c1,v,A jf 0 0,A jf 0 0⟩).toArray) (A pv i cv))[36]?=T (A pv i cv) by have h:=(iO (bX g a m u) ⟨A V9 m.length c1,A pv i cv,A jf 0 0,A jf 0 0⟩ Yc eJ).2.2.2.2.1;simpa using h);have V:((λv=>(aE (bX g a m u) ⟨A V9 m.length c1,v,A jf 0 0,A jf 0 0⟩).toArray) (A pv i cv)).size=73:=by rw[jv,dl _ _ Yc.out eJ]
  have bO:=O V;clear V
  go_wp2_with (at_builtin;refine Hid.out ?_)
  refine O ?_;refine o8 I λ_ z=>SH _ _ I M (A pv i cv) i _ I (cL F.own (ao c _)) _ 1 [jd je Q] I (lz c [jd je Q] 3 (0,0) 1 1 1 I (jF _)) (by simp[j4]) Y (jD F.sz' (ao c _).size) λv' k9 U1=>z _ _ ?_
  clear z;have br:gB M (t+1+1+1+1) 48 3 1 (λv=>(aE (bX g a m u) ⟨A V9 m.length c1,v,A jf 0 0,A jf 0 0⟩).toArray) z9 (c.alloc (ja #[jd je Q] 3)) i (A pv i cv) (((dB u).take i).map (jH .i64)):=F.later (aJ Yp) (ao c _);have cw:=lf br.box U1.grown (eY br.own (.inr Yp));obtain⟨pn,cn,rfl⟩:=cK U1.own;have ga:N (gB M (t+1+1+1+1) 48 3 1 (λv=>(aE (bX g a m u) ⟨A V9 m.length c1,v,A jf 0 0,A jf 0 0⟩).toArray) z9 (k9.setCell ⟨(t+1+1+1+1),36,jf⟩ (A pn (i+1) cn)) (i+1) (A pn (i+1) cn) (((dB u).take (i+1)).map (jH .i64))):=O (by
   have h:=br.push (i:=36) Yp U1 (YN _ _);rw[PR u i ca,mz,j1,jZ,<-a1];exact h)
  obtain⟨⟨vo,c3⟩,f3,-,-⟩:=kp (i:=36) (A pn (i+1) cn) cw (by rw[bO];decide);clear br U1 cw a2
  go_wp2_with fail
  go_roundw
  case rel=>exact⟨i+1,pn,cn,by go_num,by omega,ga⟩
  case measure=>simp only[jV];omega
 obtain rfl:i=10:=Y;have hd:decide ((10:jb)<10)=jn:=by decide
 have UL:decide (10<10)=jn:=by decide
 rename jj=>p1;have cx:(dB u).take 10=dB u:=qo (by rw[lM];exact jF _);rw[cx]at P;have c:(dB u).length=10:=lM u;have s:N (p1.heap[t]?=T (ja ay 41 (0,0))):=O ((P.but.block (t) (by first|(have:=Yp.out;omega)|(have:=fv.out;omega)|(have:=fo.out;omega)) (by first|omega|(have:=Zb.out;omega))).trans ZW);have Vi:N (p1.heap[t+1+1+1]?=T (ja S 66 (0,0))):=O ((P.but.block (t+1+1+1) (by first|(have:=Yp.out;omega)|(have:=fv.out;omega)|(have:=fo.out;omega)) (by first|omega|(have:=Zb.out;omega))).trans ZD);have UQ:N (p1.heap[(t+1+1+1+1+1)]?=T (ja SA 66 (0,0))):=O ((P.but.block (t+1+1+1+1+1) (by first|(have:=Yp.out;omega)|(have:=fv.out;omega)|(have:=fo.out;omega)) (by first|omega|(have:=Zb.out;omega))).trans Z6);have a3:N (p1.heap[gl]?=T (ja LC 66 (0,0))):=O ((P.but.block (gl) (by first|(have:=Yp.out;omega)|(have:=fv.out;omega)|(have:=fo.out;omega)) (by first|omega|(have:=Zb.out;omega))).trans a5);have UK:N (p1.heap[(t+1+1+1+1)]?=T (ja ((λv=>(aE (bX g a m u) ⟨A V9 m.length c1,v,A jf 0 0,A jf 0 0⟩).toArray) (A pv 10 cv)) 48 (0,0))):=O P.box;have U:N (jk w w p1):=O (VJ.trans (P.but.below (n:=w.heap.size) (by rw[HG];omega) (ee Yp HG)));have Zc:N (p1.ownsRow EE 62 5 (A V9 m.length c1) m.length (m.flatMap ap.cells)):=O (kL ad (λk bs ax=>P.but.block k (by rw[h7];exact ax) (aJ c9)));have q:=O (kL bh (λk bs ax=>P.but.block k (by rw[h7];exact ax) (aJ e6)));have F:N (M<=p1.heap.size):=O P.sz';have a4:N (p1.ownsRow M 3 1 (A pv 10 cv) 10 ((dB u).map (jH .i64))):=O P.own;clear cx c P ca hi bh ZW bi bk ZD Zm Z6 VJ a5 ad YN bn bm bu bq bv WR bw ba bl bB bC bb bA;obtain⟨pq,cq,kx,Y5⟩:∃(p:jG Addr) (c:jc),p=pv/\c=cv:=⟨_,_,I,I⟩;subst kx;subst Y5
 go_upto_region 22 with fail
 refine jY ?_;refine j7 I 41 _ I t I 41 ay (0,0) _ s.out qQ I YU ?_;have Q:N (M<=p1.heap.size):=F;clear s F
 go_wp2_with fail
 refine(hQ p1 Yo (hs.below U) ((EK.At.of_sl (E:=EC) e4).below U)).mono ?_;rintro e pm ⟨u1,rfl,hu,d⟩;have s:=O hu;clear hu;obtain⟨pt,nt,cy,rfl⟩:=gP s;have V:N (M<=pm.heap.size):=O (jD Q d.size);have ad:=ae Vi d;have a1:=ae UQ d;have a2:=ae a3 d;have ba:=ae UK d;have bb:=ah U d;have bc:=bj Zc d;have bh:=bj a4 d;have bi:=bj q d;clear Vi UQ a3 UK U Zc a4 q;clear d;clear Q
 go_upto_region 23 with fail
 have d:=ao pm (ja #[A pt nt cy] 39);have F:=jy pm (ja #[A pt nt cy] 39);obtain⟨p2,C⟩:=J (pm.alloc (ja #[A pt nt cy] 39));rw[<-C]at d F⊢;obtain⟨bt,Q⟩:=J pm.heap.size;rw[<-Q]at F⊢;have q:=O Q;have UO:=ae ad d;have UP:=ae a1 d;have bO:=ae a2 d;have UH:=ae ba d;have Ur:=ah bb d;have a5:=bj bc d;have a6:=bj bh d;have e8:=bj bi d;have b2:=O (s.below d);clear ad a1 a2 ba bb bc bh bi s;have s:=O F;clear F C d Q;have ky:N (M<=bt):=O (by rw[q];exact V);have hB:=s;clear s V q;obtain⟨M2,q⟩:=J p2.heap.size;have bu:N ((t+1+1+1+1)<M2):=O (by rw[q];exact(jA.1 UH).1);have h9:N ((t+1+1+1+1+1)<M2):=O (by rw[q];exact(jA.1 UP).1);have ic:N (gl<M2):=O (by rw[q];exact(jA.1 bO).1);have ih:N (bt<M2):=O (by rw[q];exact(jA.1 hB).1);have ii:N (bt≠(t+1+1+1+1)):=O (ee ky Yp);have VL:=O q;have WC:N (∀aa v,((λv=>(aE (bX g a m u) ⟨A V9 m.length c1,A pq 10 cq,v,A jf 0 0⟩).toArray) aa).setIfInBounds 37 v=(λv=>(aE (bX g a m u) ⟨A V9 m.length c1,A pq 10 cq,v,A jf 0 0⟩).toArray) v):=O (λaa v=>Dq (bX g a m u) _ _ _ _ _ Yc.out);obtain⟨nl,s⟩:=J (dV g a m);have hD:=O s;have ZF:N (nu=nl.length):=O (by rw[s];exact h0);have i0:N (nu<=511):=O (by rw[h0,hw];exact CG _ em.1 em.2);have k2:=O (oT m _ (lO b9.tree) (rf b9 Yo ht)).1;have V:N (eB M2 (t+1+1+1+1) 48 92 4 Bx.cells Bx.body (λv=>(aE (bX g a m u) ⟨A V9 m.length c1,A pq 10 cq,v,A jf 0 0⟩).toArray) p2 p2 0 (A jf 0 0) ((nl.take 0).map (eA g a m u seed)) []):=O (eB.start UH (j5 q));clear q s
 go_upto_region 23 with fail
 go_wp2_with fail
 go_loopw [113] (λv wr=>∃(i:jc) (pv:jG Addr) (cv:jc) (us:jg jl),v=jd je i/\i<=nu/\N (eB M2 (t+1+1+1+1) 48 92 4 Bx.cells Bx.body (λv=>(aE (bX g a m u) ⟨A V9 m.length c1,A pq 10 cq,v,A jf 0 0⟩).toArray) p2 wr i (A pv i cv) ((nl.take i).map (eA g a m u seed)) us)) (λv _=>nu-(jV v).toNat)
 case atStart=>exact⟨0,jf,0,[],I,jN _,V⟩
 clear V;obtain⟨i,pv,cv,us,rfl,hi,P⟩:=hrel;have e3:=i0.out
 by_cases ca:i<nu
 ·have hd:=aw ((i:jb)<(nu:jb))
  have UL:=aw (i<nu);have h8:(i:jb)<(nu:jb):=Y;have WP:N (jk w w wr):=O (Ur.trans (P.row.but.below (n:=w.heap.size) (by rw[HG];omega) (ee bu HG)));have ad:=P.row.but;have V:=O (kL e8 (λk bs ax=>ad.block k (by rw[VL];exact ax) (aJ e6)));have gf:=O (kL a5 (λk bs ax=>ad.block k (by rw[VL];exact ax) (aJ c9)));have gi:=O (kL a6 (λk bs ax=>ad.block k (by rw[VL];exact ax) (aJ Yp)));have a1:N (bJ wr (A pt nt cy) (aX g.tree m)):=O (MC b2 (j:=37) UH P.row.box (λk hk hn=>ad.block k (by rw[VL];exact hk) hn) (λj hj=>Mm (bX g a m u) _ _ _ _ _ Yc.out j hj) ⟨_,_,_,(rR (bX g a m u) _ _ _ _ Yc.out eJ).2.1⟩);have gk:N (wr.heap[t+1+1+1]?=T (ja S 66 (0,0))):=O ((ad.block (t+1+1+1) (aJ bu) Y).trans UO);have D:N (wr.heap[gl]?=T (ja LC 66 (0,0))):=O ((ad.block gl ic (aJ Zb)).trans bO);have a2:N (wr.heap[bt]?=T (ja #[A pt nt cy] 39 (0,0))):=O ((ad.block bt ih ii).trans hB);have VS:EB0.At wr (A pu nu kg) nl:=EK.At.of_own (E:=EB0) (B:=x0.heap.size) (by rw[<-ZF,hD];exact V);obtain⟨-,-,VB⟩:=VS.cells;obtain⟨g0,o,k3,bT⟩:=VB Y;subst k3;obtain⟨⟨kk,s⟩,C,gn⟩:=dN (l:=nl) (j:=i) (by rw[<-ZF];exact ca);have d0:wr.cell? ⟨g0,o+i*4,jf⟩=T (jd je s):=bT i _ C 0 _ I;have d1:wr.cell? ⟨g0,o+i*4+1,jf⟩=T (jd je kk):=bT i _ C 1 _ I;have d2:wr.cell? ⟨g0,o+i*4+2,jf⟩=T (jd je 0):=bT i _ C 2 _ I;have d3:wr.cell? ⟨g0,o+i*4+3,jf⟩=T (A jf 0 0):=bT i _ C 3 _ I;have Vg:=j3 C;rw[hD,hw]at Vg;obtain⟨⟨bs,ax⟩,⟨bo,Vj⟩,ba,cz⟩:=F2 k2 em.1 em.2 Vg;obtain⟨q,rfl⟩:=qH (show 0<=kk by omega);obtain⟨Vs,ew⟩:=qH (show 0<=(bG (aX g.tree m) s).getD 0 by have:=cz.1;omega);have k4:N (tD (aX g.tree m) s=Vs):=O (by unfold tD;rw[ew];rfl);rw[ew]at cz;have hE:=O cz;have k5:N (∀W,bJ W (A pt nt cy) (aX g.tree m)->jB jo 99 #[jh #[A pt nt cy],jd je s] W λe w'=>e=jz (jI #[jd je (Vs:jb),.bool ji])/\jk W W w'):=O (λW hW=>by
   have h:=JL (aX g.tree m) _ s W hW (by have:=wM g.tree m;have:=Wx.out;have:=Yo.len;omega) (aP.of Y);rw[ew,ba]at h;exact h)
  have hF:N ((nl.take (i+1)).map (eA g a m u seed)=(nl.take i).map (eA g a m u seed)++[eA g a m u seed ((q:jb),s)]):=O (by rw[gn,mz];rfl);have gp:N (q<10/\1<=q):=O ⟨by omega,by omega⟩;have i1:N (1<=s/\s<1024):=O ⟨bo,Vj⟩;clear VS VB bT C gn Vg bs ax bo Vj ba cz ew V ad
  go_upto_region 26 with fail
  obtain⟨bb,b7⟩:=J wr.heap.size;have bp:=jy wr (ja #[jd je s,jd je (q:jb),jd je 0,A jf 0 0] 92);have d:=ao wr (ja #[jd je s,jd je (q:jb),jd je 0,A jf 0 0] 92);have db:N (M2<=bb):=O (by rw[b7];exact P.row.sz');have YC:N ((qh pv i cv).ownBlock≠T bb):=O (eY P.row.own (.inl (j5 b7.symm)));rw[<-b7]at bp⊢;obtain⟨k0,Zl⟩:=J (wr.alloc (ja #[jd je s,jd je (q:jb),jd je 0,A jf 0 0] 92));rw[<-Zl]at bp d⊢;have bB:=O d;have bv:=O (av P.row.box d);have bw:=O bp;have Uq:=ah WP d;have bC:=bj gf d;have bI:=bj gi d;have ci:=O (a1.below d);have UY:=ae gk d;have bN:=ae D d;have V:=ae a2 d;have gu:N (wr.heap.size=bb):=O b7.symm;clear bp d Zl b7 WP gf gi a1 gk D a2 d0 d1 d2 d3;have D:=ai (i:=0) bw I
  go_upto_region 26 with fail
  refine jY ?_;refine j7 I 39 _ I bt I 39 #[A pt nt cy] (0,0) _ V.out underlying39 I ri ?_
  go_wp2_with fail
  refine(k5 k0 ci).mono ?_;rintro e k1 ⟨rfl,d⟩;have bi:=ah bB d;have ZJ:=ae bv d;have bc:=ae bw d;have U:=ah Uq d;have Zc:=bj bC d;have a4:=bj bI d;have b8:=O (ci.below d);have Vi:=ae UY d;have a3:=ae bN d;clear bB bv bw Uq bC bI ci UY bN;clear d D V;have bk:N (k1.cell? ⟨bb,0,jf⟩=T (jd je s)/\k1.cell? ⟨bb,1,jf⟩=T (jd je (q:jb))):=O ⟨ai bc I,ai bc I⟩;obtain⟨ex,cc⟩:=J (dZ seed gQ [(q:jb),s]);have gv:ex.length=32:=by rw[cc];exact pD _ _ _
  obtain⟨EX,dd⟩:=J ((ex.map v8).toArray);obtain⟨cd,ce⟩:=J (iW (bX g a m u) gQ [(q:jb),s]);obtain⟨V,dk⟩:∃y:jb,y=((aY 4 (gm ex):jc):jb):=⟨_,I⟩;obtain⟨bq,cf⟩:=J (gs Vs ex cd (aA u q));have hH:N (bq.length=48):=O (by rw[cf,nJ,fL u Vx]);have cg:N (∀W v,df W v [(q:jb),s]->bH W->jB jo 101 #[jh S,ql ⟨#[98,111,120]⟩,v] W λe w'=>e=jz (jh EX)/\jk W W w'):=O (λW v hv hW=>by
   rw[hZ,dd,cc];exact sD seed hX gQ [(q:jb),s] v W hv (GC L (by have:=i1.out;have:=gp.out;intro x C;simp at C;rcases C with rfl|rfl<;>exact⟨by omega,by omega⟩) ar) hW)
  have gw:N (∀W v Yg,aW (·<W.heap.size) W {bX g a m u with box:=Yg} ⟨A V9 m.length c1,A pq 10 cq,A pv i cv,A jf 0 0⟩->Yg.length<=1000000->df W v [(q:jb),s]->bH W->jB jo 102 #[jh ((λv=>(aE (bX g a m u) ⟨A V9 m.length c1,A pq 10 cq,v,A jf 0 0⟩).toArray) (A pv i cv)),ql ⟨#[98,111,120]⟩,v] W λe w'=>∃D,e=jz (A (T ⟨D,0,jf⟩) 32 32)/\bD w' (A (T ⟨D,0,jf⟩) 32 32) cd/\jk W W w'):=O (λW v Yg hC hu hv hW=>by
   rw[ce];exact Er {bX g a m u with box:=Yg} _ gQ [(q:jb),s] v W L hC hv ar ⟨hl,by show(dB u).length<=_;rw[lM];decide,hu,jN _⟩
    (DC (c:={bX g a m u with box:=Yg}) (nums:=[(q:jb),s]) (by have h1:=b9.fol.1;have h2:=b9.fol.2;exact⟨by show _ <=g.folder;omega,by show g.folder<_;omega⟩) (by have h1:=b9.ep;exact⟨by show _ <=g.epoch+1;omega,by show g.epoch+1<_;omega⟩) (by have:=em.out;exact⟨by show _ <=a;omega,by show a<_;omega⟩) Yc (by have:=i1.out;have:=gp.out;intro x C;simp at C;rcases C with rfl|rfl<;>exact⟨by omega,by omega⟩) ar) hW)
  have gx:N (∀W vh vb,bD W vh cd->bD W vb (aA u q)->lx W->jB jo 100 #[jd je (Vs:jb),jh EX,vh,vb] W λe w'=>∃c,e=jz (jI #[jh #[jd je V,c],jd je 0])/\w'.ownsRow W 5 1 c 48 (bq.map v8)/\jk W W w'):=O (λW vh vb h1 h2 h3=>by
   have h:=Hl Vs hE ex cd (aA u q) gv (by rw[ce];unfold iW;rw[eT];decide) (by rw[fL u Vx];decide) vh vb W h1 h2 h3;rw[fL u Vx]at h;rw[dd,dk,cf];exact h)
  have UM:N (eA g a m u seed ((q:jb),s)=⟨s,(q:jb),V,bq⟩):=O (by rw[cf,dk,ce,cc,<-k4];rfl);have lb:N ((jo.info? 48).map (·.size)=T ((λv=>(aE (bX g a m u) ⟨A V9 m.length c1,A pq 10 cq,v,A jf 0 0⟩).toArray) (A pv i cv)).size):=O (by rw[jv,dl _ _ Yc.out eJ];exact mQ);have l7:decide ((q:jb)<10)=ji:=by have:=gp.out;simp;omega
  have mb:(q:jb)<10:=aJ gp;have lc:q<10:=aJ gp;clear gv dd ce dk cf cc
  go_upto_region 27 with fail
  refine jL ?_;refine dj (λW'=>(W'.cell? ⟨bb,0,jf⟩=T (jd je s)/\W'.cell? ⟨bb,1,jf⟩=T (jd je (q:jb)))/\W'.heap[t+1+1+1]?=T (ja S 66 (0,0))/\W'.heap[(t+1+1+1+1)]?=T (ja ((λv=>(aE (bX g a m u) ⟨A V9 m.length c1,A pq 10 cq,v,A jf 0 0⟩).toArray) (A pv i cv)) 48 (0,0))) (.t 0 (.t 1 (.t 2 (.t 3 (.t 4 (.t 5 (.t 8 (.t 9 (.t 10 (.t 11 (.t 12 (.t 15 (.t 16 (.t 17 (.t 18 (.t 19 (.w 6 13 (.w 7 13 (.o 13 (.o 14 (.o 20 (.t 21 (.t 22 (.t 23 (.t 24 (.o 25 .done)))))))) (.o 7 (.o 14 (.o 20 (.t 21 (.t 22 (.t 23 (.t 24 (.o 25 .done))))))))) (.o 6 (.o 7 (.o 14 (.o 20 (.t 21 (.t 22 (.t 23 (.t 24 (.o 25 .done)))))))))))))))))))))))))) af af af L (λ_ _ _ _ h=>h) ⟨bk,Vi,ZJ⟩ ?_;obtain⟨l0,UJ⟩:=J k1.drew;have d:=bV k1;rw[<-UJ]at d⊢;have gy:=ah bi d;have g1:=ae ZJ d;have g2:=ae bc d;have ZE:=ah U d;have g3:=bj Zc d;have g4:=bj a4 d;have a1:=O (b8.below d);have b1:=ae Vi d;have cu:=ae a3 d;have a2:=O (And.intro (aD bk.1 d) (aD bk.2 d));clear d UJ bi ZJ bc U Zc a4 b8 Vi a3 bk;have bB:=gy;clear gy;have bv:=g1;clear g1;have bw:=g2;clear g2;have Uq:=ZE;clear ZE;have bC:=g3;clear g3;have bI:=g4;clear g4;have ci:=a1;clear a1;have UY:=b1;clear b1;have bN:=cu;clear cu;have cj:=a2;clear a2;refine wO ?_
  (refine aS (v:=jh S) I aj (λW' hS=>mx jW I hR I I hS.2.1) (G ?_))
  iterate 4 refine wO ?_
  (refine aS (v:=jh ((λv=>(aE (bX g a m u) ⟨A V9 m.length c1,A pq 10 cq,v,A jf 0 0⟩).toArray) (A pv i cv))) I aj (λW' hS=>mx pz I lb I I hS.2.2) (G ?_))
  iterate 9 refine wO ?_
  apply FK (.o 14 (.o 20 (.t 21 (.t 22 (.t 23 (.t 24 (.o 25 .done)))))))
  rotate_left
  ·intro YP
   refine iX ?_ ?_
   ·refine aF I (λK' z=>?_)
    go_simp;have d:=ao l0 (ja #[jd je (q:jb),jd je s] 3);have F:=mw l0 (q:jb) s;obtain⟨l1,C⟩:=J (l0.alloc (ja #[jd je (q:jb),jd je s] 3));rw[<-C]at d F⊢;obtain⟨b3,Q⟩:=J l0.heap.size;rw[<-Q]at F⊢;clear Q;have bi:=ah bB d;have ZJ:=ae bv d;have bc:=ae bw d;have U:=ah Uq d;have Zc:=bj bC d;have a4:=bj bI d;have b8:=O (ci.below d);have Vi:=ae UY d;have a3:=ae bN d;have bk:=O (And.intro (aD cj.1 d) (aD cj.2 d));have b4:=O F;clear F C d;refine z _ _ ⟨bk,Vi,ZJ⟩ λ_=>?_
    clear z;refine G ?_;refine iX ?_ ?_
    ·refine aF I (λK' z=>?_)
     go_simp;refine(cg l1 _ b4.out (Wd.dig.below U)).mono ?_;rintro e l2 ⟨rfl,d⟩;have Yb:=ah bi d;have YZ:=ae ZJ d;have bl:=ae bc d;have Ur:=ah U d;have a5:=bj Zc d;have a6:=bj a4 d;have b2:=O (b8.below d);have UO:=ae Vi d;have bO:=ae a3 d;have bA:=O (And.intro (aD bk.1 d) (aD bk.2 d));have ba:=O (eu b4 d);clear bi ZJ bc U Zc a4 b8 Vi a3 bk b4;clear d;refine z _ _ ⟨bA,UO,YZ⟩ λ_=>?_
     clear z;refine G ?_;refine aF I (λK' z=>?_);go_simp;have d:=ao l2 (ja #[jd je (q:jb),jd je s] 3);have F:=mw l2 (q:jb) s;obtain⟨l3,C⟩:=J (l2.alloc (ja #[jd je (q:jb),jd je s] 3));rw[<-C]at d F⊢;obtain⟨bK,Q⟩:=J l2.heap.size;rw[<-Q]at F⊢;clear Q;have Y9:=ah Yb d;have WB:=ae YZ d;have bm:=ae bl d;have Ut:=ah Ur d;have a1:=bj a5 d;have a2:=bj a6 d;have cb:=O (b2.below d);have VZ:=ae UO d;have c5:=ae bO d;have b0:=O (And.intro (aD bA.1 d) (aD bA.2 d));have bn:=O (eu ba d);clear Yb YZ bl Ur a5 a6 b2 UO bO bA ba;have bh:=O F;clear F C d;refine z _ _ ⟨b0,VZ,WB⟩ λ_=>?_
     clear z;refine G ?_;have hG:=(And.intro Y9 (And.intro WB (And.intro bm (And.intro Ut (And.intro a1 (And.intro a2 (And.intro cb (And.intro VZ (And.intro c5 (And.intro b0 (And.intro bn bh)))))))))));exact YP b3 bK l3 hG
    refine aF I (λK' z=>?_);go_simp;have d:=ao l1 (ja #[jd je (q:jb),jd je s] 3);have F:=mw l1 (q:jb) s;obtain⟨l2,C⟩:=J (l1.alloc (ja #[jd je (q:jb),jd je s] 3));rw[<-C]at d F⊢;obtain⟨bK,Q⟩:=J l1.heap.size;rw[<-Q]at F⊢;clear Q;have Yb:=ah bi d;have YZ:=ae ZJ d;have bl:=ae bc d;have Ur:=ah U d;have a5:=bj Zc d;have a6:=bj a4 d;have b2:=O (b8.below d);have UO:=ae Vi d;have bO:=ae a3 d;have bA:=O (And.intro (aD bk.1 d) (aD bk.2 d));have ba:=O (eu b4 d);clear bi ZJ bc U Zc a4 b8 Vi a3 bk b4;have b5:=O F;clear F C d;refine z _ _ ⟨bA,UO,YZ⟩ λ_=>?_
    clear z;refine G ?_;refine aF I (λK' z=>?_);go_simp;refine(cg l2 _ ba.out (Wd.dig.below Ur)).mono ?_;rintro e l3 ⟨rfl,d⟩;have Y9:=ah Yb d;have WB:=ae YZ d;have bm:=ae bl d;have Ut:=ah Ur d;have a1:=bj a5 d;have a2:=bj a6 d;have cb:=O (b2.below d);have VZ:=ae UO d;have c5:=ae bO d;have b0:=O (And.intro (aD bA.1 d) (aD bA.2 d));have bn:=O (eu ba d);have bh:=O (eu b5 d);clear Yb YZ bl Ur a5 a6 b2 UO bO bA ba b5;clear d;refine z _ _ ⟨b0,VZ,WB⟩ λ_=>?_
    clear z;refine G ?_;have hG:=(And.intro Y9 (And.intro WB (And.intro bm (And.intro Ut (And.intro a1 (And.intro a2 (And.intro cb (And.intro VZ (And.intro c5 (And.intro b0 (And.intro bn bh)))))))))));exact YP b3 bK l3 hG
   refine aF I (λK' z=>?_);go_simp;have d:=ao l0 (ja #[jd je (q:jb),jd je s] 3);have F:=mw l0 (q:jb) s;obtain⟨l1,C⟩:=J (l0.alloc (ja #[jd je (q:jb),jd je s] 3));rw[<-C]at d F⊢;obtain⟨bK,Q⟩:=J l0.heap.size;rw[<-Q]at F⊢;clear Q;have bi:=ah bB d;have ZJ:=ae bv d;have bc:=ae bw d;have U:=ah Uq d;have Zc:=bj bC d;have a4:=bj bI d;have b8:=O (ci.below d);have Vi:=ae UY d;have a3:=ae bN d;have bk:=O (And.intro (aD cj.1 d) (aD cj.2 d));have g5:=O F;clear F C d;refine z _ _ ⟨bk,Vi,ZJ⟩ λ_=>?_
   clear z;refine G ?_;refine aF I (λK' z=>?_);go_simp;have d:=ao l1 (ja #[jd je (q:jb),jd je s] 3);have F:=mw l1 (q:jb) s;obtain⟨l2,C⟩:=J (l1.alloc (ja #[jd je (q:jb),jd je s] 3));rw[<-C]at d F⊢;obtain⟨b3,Q⟩:=J l1.heap.size;rw[<-Q]at F⊢;clear Q;have Yb:=ah bi d;have YZ:=ae ZJ d;have bl:=ae bc d;have Ur:=ah U d;have a5:=bj Zc d;have a6:=bj a4 d;have b2:=O (b8.below d);have UO:=ae Vi d;have bO:=ae a3 d;have bA:=O (And.intro (aD bk.1 d) (aD bk.2 d));have b5:=O (eu g5 d);clear bi ZJ bc U Zc a4 b8 Vi a3 bk g5;have ba:=O F;clear F C d;refine z _ _ ⟨bA,UO,YZ⟩ λ_=>?_
   clear z;refine G ?_;refine aF I (λK' z=>?_);go_simp;refine(cg l2 _ ba.out (Wd.dig.below Ur)).mono ?_;rintro e l3 ⟨rfl,d⟩;have Y9:=ah Yb d;have WB:=ae YZ d;have bm:=ae bl d;have Ut:=ah Ur d;have a1:=bj a5 d;have a2:=bj a6 d;have cb:=O (b2.below d);have VZ:=ae UO d;have c5:=ae bO d;have b0:=O (And.intro (aD bA.1 d) (aD bA.2 d));have bh:=O (eu b5 d);have bn:=O (eu ba d);clear Yb YZ bl Ur a5 a6 b2 UO bO bA b5 ba;clear d;refine z _ _ ⟨b0,VZ,WB⟩ λ_=>?_
   clear z;refine G ?_;have hG:=(And.intro Y9 (And.intro WB (And.intro bm (And.intro Ut (And.intro a1 (And.intro a2 (And.intro cb (And.intro VZ (And.intro c5 (And.intro b0 (And.intro bn bh)))))))))));exact YP b3 bK l3 hG
  clear bB bv bw Uq bC bI ci UY bN cj;rintro b3 bK l3 ⟨Y9,WB,bm,Ut,a1,a2,cb,VZ,c5,b0,bn,bh⟩;refine aF I (λK' z=>?_);go_simp;refine(gw l3 _ _ (RJ Yc a1 a2 (P.later bu Y9) (by rw[jw,qI];have:=ZF.out;omega)) (by rw[jw,qI];omega) bh (Wd.dig.below Ut)).mono ?_;rintro e l4 ⟨i3,rfl,c6,d⟩;have dr:=O c6;clear c6;have g6:=ah Y9 d;have dv:=ae WB d;have ea:=ae bm d;have UA:=ah Ut d;have ci:=bj a1 d;have cj:=bj a2 d;have cp:=O (cb.below d);have WQ:=ae VZ d;have cm:=ae c5 d;have bA:=O (And.intro (aD b0.1 d) (aD b0.2 d));have g7:=O (eu bn d);have g8:=O (eu bh d);clear Y9 WB bm Ut a1 a2 cb VZ c5 b0 bn bh;clear d;refine z _ _ ⟨bA,WQ,dv⟩ λ_=>?_
  clear z;refine G ?_;refine aF I (λK' z=>?_);go_simp;refine(gx l4 _ _ dr.out (Ex cm (λj aa hj=>hq q j aa lc hj) (fL u Vx q)) (hU.below UA)).mono ?_;rintro e l5 ⟨c,rfl,ck,d⟩;have Va:N (bb<l4.heap.size):=O (jA.1 ea).1;obtain⟨lj,hI⟩:=J l4.heap.size;rw[<-hI]at ck Va;have g9:=O ck;obtain⟨R,H,rfl⟩:=cK ck;clear ck;have ha:=ah g6 d;have eb:=ae dv d;have ec:=ae ea d;have UF:=ah UA d;have e0:=bj ci d;have e1:=bj cj d;have lk:=O (cp.below d);have b6:=ae WQ d;have fe:=ae cm d;have hg:=O (And.intro (aD bA.1 d) (aD bA.2 d));have hJ:=O (eu g7 d);have hK:=O (eu g8 d);have hM:=O (dr.below d);clear g6 dv ea UA ci cj cp WQ cm bA g7 g8 dr;clear d;refine z _ _ ⟨hg,b6,eb⟩ λ_=>?_
  clear z;refine G ?_;iterate 4 refine wO ?_
  refine aF I (λK' z=>?_);rw[jr aj];refine qS 90 _ _ I bb 2 #[jd je V,A R 48 H] I I (su (o:=2) (n:=2) ec ar) af (by simp[j4]) ?_;rw[show(#[jd je V,A R 48 H]:jq jl).toList=[jd je V,A R 48 H]from I];obtain⟨s1,s2⟩:=FQ (i:=2) (x:=jd je V) (y:=A R 48 H) ec;have s3:jk wr wr (l5.setCells bb 2 [jd je V,A R 48 H]):=Below.cellsFrom ha bb (j5 gu) _ _;have ed:=nh (w':=l5.setCells bb 2 [jd je V,A R 48 H]) g9 (λk hk=>s2 k (aJ Va));refine z _ _ ⟨⟨ai s1 I,ai s1 I⟩,(s2 (t+1+1+1) (ee db bu)).trans b6,(s2 (t+1+1+1+1) (ee db bu)).trans eb⟩ λ_=>?_
  clear z;have eg:N ((l5.setCells bb 2 [jd je V,A R 48 H]).heap[bb]?=T (ja #[jd je s,jd je (q:jb),jd je V,A R 48 H] 92 (0,0))):=O s1;have ej:N (eB M2 (t+1+1+1+1) 48 92 4 Bx.cells Bx.body (λv=>(aE (bX g a m u) ⟨A V9 m.length c1,A pq 10 cq,v,A jf 0 0⟩).toArray) p2 (l5.setCells bb 2 [jd je V,A R 48 H]) i (A pv i cv) ((nl.take i).map (eA g a m u seed)) us):=O (P.later bu s3);have ek:N (aG (λg=>M2<=g/\g<(l5.setCells bb 2 [jd je V,A R 48 H]).heap.size/\(qh pv i cv).ownBlock≠T g) (l5.setCells bb 2 [jd je V,A R 48 H]) (A R 48 H) 1 48 (bq.map v8)):=O (aG.of_own ed (λg Q=>by
   have h1:=ed.lt g Q;have h2:=Va.out;have h3:=db.out;have ll:=gu.out;exact⟨by omega,h1.2,eY P.row.own (.inl Y)⟩))
  clear s1 s2 s3 ed;generalize l5.setCells bb 2 [jd je V,A R 48 H]=kc at eg ej ek⊢;have hN:=eg;have cm:=ej;have hO:=ek;clear eg ej ek;refine G ?_;refine ow ?_;clear ha eb ec UF e0 e1 lk b6 fe hg g9 hM hJ hK P cg gw gx;have bA:=ai cm.row.box (rR (bX g a m u) (A V9 m.length c1) (A pq 10 cq) (A pv i cv) (A jf 0 0) Yc eJ).2.1
  go_upto_region 28 with fail
  refine jY ?_;iterate 2 refine eh ?_
  refine j7 I 92 _ I bb I 92 #[jd je s,jd je (q:jb),jd je V,A R 48 H] (0,0) _ hN.out underlying92 I af ?_
  go_wp2_with (at_builtin;refine Hid.out ?_)
  refine O ?_;refine o8 I λ_ z=>MR _ _ I M2 (A pv i cv) i _ I (cL cm.row.own (ao kc _)) _ 1 [jd je s,jd je (q:jb),jd je V,A R 48 H] I (lz kc [jd je s,jd je (q:jb),jd je V,A R 48 H] 92 (0,0) 4 1 1 I (jF _)) (by simp[j4]) Y (jD cm.row.sz' (ao kc _).size) λv' k9 U1=>z _ _ ?_
  clear z;have cp:=ao kc (ja #[jd je s,jd je (q:jb),jd je V,A R 48 H] 92);have br:=cm.later bu cp;have hg:=(aG.keep hO (w':=kc.alloc (ja #[jd je s,jd je (q:jb),jd je V,A R 48 H] 92)) (λg Q=>cp.block g Q.2.1)).mono (D':=λg=>M2<=g/\g<(kc.alloc (ja #[jd je s,jd je (q:jb),jd je V,A R 48 H] 92)).heap.size/\(qh pv i cv).ownBlock≠T g) (λg Q=>⟨Q.1,jJ Q.2.1 cp.size,Q.2.2⟩);have cw:=lf br.row.box U1.grown (eY br.row.own (.inr bu));obtain⟨pn,cn,rfl⟩:=cK U1.own;have ga:N (eB M2 (t+1+1+1+1) 48 92 4 Bx.cells Bx.body (λv=>(aE (bX g a m u) ⟨A V9 m.length c1,A pq 10 cq,v,A jf 0 0⟩).toArray) p2 (k9.setCell ⟨(t+1+1+1+1),37,jf⟩ (A pn (i+1) cn)) (i+1) (A pn (i+1) cn) ((nl.take (i+1)).map (eA g a m u seed)) (us++[A R 48 H])):=O (by
   rw[hF,UM];exact eB.push (x:=(⟨s,(q:jb),V,bq⟩:Bx)) br bu (by show aG _ _ _ 1 bq.length (bq.map v8);rw[hH];exact hg) U1 (WC _ _))
  obtain⟨⟨vo,c3⟩,f3,-,-⟩:=kp (i:=37) (A pn (i+1) cn) cw (by rw[(rR (bX g a m u) (A V9 m.length c1) (A pq 10 cq) (A pv i cv) (A jf 0 0) Yc eJ).2.2.2];decide);clear br hg U1 cw bA cp
  go_wp2_with fail
  go_roundw
  case rel=>exact⟨i+1,pn,cn,us++[A R 48 H],by go_num,by omega,ga⟩
  case measure=>simp only[jV];omega
 obtain rfl:nu=i:=Y;have hd:decide ((nu:jb)<(nu:jb))=jn:=by simp
 have UL:decide (nu<nu)=jn:=by simp
 rename jj=>p3;obtain⟨pb,cb,e9,i1⟩:∃(p:jG Addr) (c:jc),p=pv/\c=cv:=⟨_,_,I,I⟩;subst e9;subst i1;have cx:nl.take nu=nl:=qo (by rw[ZF];exact jF _);rw[cx]at P;have ad:=P.row.but;have U2:=O P.row.box;have Ut:N (jk w w p3):=O (Ur.trans (P.row.but.below (n:=w.heap.size) (by rw[HG];omega) (ee bu HG)));have a1:=O (kL a5 (λk bs ax=>ad.block k (by rw[VL];exact ax) (aJ c9)));have a2:=O (kL a6 (λk bs ax=>ad.block k (by rw[VL];exact ax) (aJ Yp)));have VZ:N (p3.heap[t+1+1+1]?=T (ja S 66 (0,0))):=O ((ad.block (t+1+1+1) (aJ bu) Y).trans UO);have Vh:N (p3.heap[(t+1+1+1+1+1)]?=T (ja SA 66 (0,0))):=O ((ad.block (t+1+1+1+1+1) (aJ h9) Y).trans UP);have Wk:=P;clear ad cx P Ur a5 a6 UO UP UH bO hB b2 e8 ca hi WC Zb hq ic ih ii;have s:N (∀W,EC.At W (A R nc H) m->jB jo 31 #[jd je a,A R nc H] W λe w'=>∃aa,e=jz aa/\EC.At w' aa (dw a m)/\jk W W w'):=O (λW hW=>zu a m _ W hW Yo.once hl);obtain⟨wl,q⟩:=J (dw a m);rw[<-q]at s;have gp:=O q;have hB:N (wl.length<=64):=O (by rw[q];have:=CE a m;have:=Yo.len;omega);clear q
 go_upto_region 30 with fail
 go_wp2_with fail
 refine(s p3 ((EK.At.of_sl (E:=EC) e4).below Ut)).mono ?_;rintro e p4 ⟨aa,rfl,hu,d⟩;have c5:=O hu;obtain⟨pw,ic,rfl,-,-⟩:=hu.form;clear hu;have Yl:=ae U2 d;have YL:=ae Vh d;have WQ:=ae VZ d;have UA:=ah Ut d;have ci:=bj a1 d;have cj:=bj a2 d;have VN:=O (Wk.later bu d);clear U2 Vh VZ Ut a1 a2 Wk;clear d;obtain⟨nw,q⟩:=J wl.length;rw[<-q]at c5 hB⊢;have YB:=O q;clear q s;obtain⟨M3,q⟩:=J p4.heap.size;have Wy:=O q;have bA:N ((t+1+1+1+1)<M3):=O (by rw[q];exact(jA.1 Yl).1);have e8:N ((t+1+1+1+1+1)<M3):=O (by rw[q];exact(jA.1 YL).1);have Za:N (li (λk=>M2<=k/\k<M3) p4 (A pb nu cb) (nl.map (eA g a m u seed))):=O (by
  obtain⟨s,h1,h2⟩:=VN.slice (by rw[jw];exact ZF) (D:=λk=>M2<=k/\k<M3) (λk bs ax=>⟨bs,by rw[q];exact ax⟩);exact⟨s,h1,h2⟩)
 have ih:N (∀aa v,((λv=>(aE (bX g a m u) ⟨A V9 m.length c1,A pq 10 cq,A pb nu cb,v⟩).toArray) aa).setIfInBounds 38 v=(λv=>(aE (bX g a m u) ⟨A V9 m.length c1,A pq 10 cq,A pb nu cb,v⟩).toArray) v):=O (λaa v=>Ek (bX g a m u) _ _ _ _ _ Yc.out);have s:N (eB M3 (t+1+1+1+1) 48 95 3 Wl.cells Wl.body (λv=>(aE (bX g a m u) ⟨A V9 m.length c1,A pq 10 cq,A pb nu cb,v⟩).toArray) p4 p4 0 (A jf 0 0) ((wl.take 0).map (fC g a m u init seed)) []):=O (eB.start Yl (j5 q));clear q VN
 go_wp2_with fail
 go_loopw [160] (λv wr=>∃(i:jc) (pv:jG Addr) (cv:jc) (us:jg jl),v=jd je i/\i<=nw/\N (eB M3 (t+1+1+1+1) 48 95 3 Wl.cells Wl.body (λv=>(aE (bX g a m u) ⟨A V9 m.length c1,A pq 10 cq,A pb nu cb,v⟩).toArray) p4 wr i (A pv i cv) ((wl.take i).map (fC g a m u init seed)) us)) (λv _=>nw-(jV v).toNat)
 case atStart=>exact⟨0,jf,0,[],I,jN _,s⟩
 clear s;obtain⟨i,pv,cv,us,rfl,hi,P⟩:=hrel;have kk:=hB.out
 by_cases ca:i<nw
 ·have hd2:=aw ((i:jb)<(nw:jb))
  have ho:=aw (i<nw);have h8:(i:jb)<(nw:jb):=Y;have WP:N (jk w w wr):=O (UA.trans (P.row.but.below (n:=w.heap.size) (by rw[HG];omega) (ee bA HG)));have ad:=P.row.but;have gf:=O (kL ci (λk bs ax=>ad.block k (by rw[Wy];exact ax) (aJ c9)));have gi:=O (kL cj (λk bs ax=>ad.block k (by rw[Wy];exact ax) (aJ Yp)));have bO:N (EC.At wr (A pw nw ic) wl):=O (P4 c5 (j:=38) Yl P.row.box (λk hk hn=>ad.block k (by rw[Wy];exact hk) hn) (λj hj=>JM (bX g a m u) _ _ _ _ _ Yc.out j hj) ⟨_,_,_,(rR (bX g a m u) _ _ _ _ Yc.out eJ).2.2.1⟩);have gk:N (wr.heap[t+1+1+1]?=T (ja S 66 (0,0))):=O ((ad.block (t+1+1+1) (aJ bA) Y).trans WQ);have b2:N (wr.heap[(t+1+1+1+1+1)]?=T (ja SA 66 (0,0))):=O ((ad.block (t+1+1+1+1+1) e8 Y).trans YL);have hn:N (li (·<wr.heap.size) wr (A pb nu cb) (nl.map (eA g a m u seed))):=O (Za.keep (λk hk=>ad.block k hk.2 (aJ bu)) (λk hk=>by have:=P.row.sz';omega));obtain⟨-,-,VB⟩:=bO.cells;obtain⟨g0,o,ii,bT⟩:=VB Y;subst ii;obtain⟨⟨yk,q,yp,yv,yc⟩,C,gn⟩:=dN (l:=wl) (j:=i) (by rw[<-YB];exact ca);have d0:wr.cell? ⟨g0,o+i*5,jf⟩=T (jd je yk):=bT i _ C 0 _ I;have d1:wr.cell? ⟨g0,o+i*5+1,jf⟩=T (jd je q):=bT i _ C 1 _ I;have d2:wr.cell? ⟨g0,o+i*5+2,jf⟩=T (jd je yp):=bT i _ C 2 _ I;have d3:wr.cell? ⟨g0,o+i*5+3,jf⟩=T (jd je yv):=bT i _ C 3 _ I;have d4:wr.cell? ⟨g0,o+i*5+4,jf⟩=T (jd je yc):=bT i _ C 4 _ I;have Vg:=j3 C;rw[gp]at Vg;obtain⟨bk,YQ,b8⟩:=Ip.1 Vg;have s:=Yo.each _ bk;have cz:bP yp:=by
   rcases s.2 with⟨_,b,_,_⟩|⟨a,_⟩|⟨_,b,_⟩
   ·exact b
   ·exact ju a YQ
   exact b
  have b0:0<=q/\q<512:=s.1;obtain⟨Vs,ew⟩:=qH (show 0<=yp by have:=cz.1;omega);subst ew;have hE:=O cz;have hq:=O b0;have hF:N ((wl.take (i+1)).map (fC g a m u init seed)=(wl.take i).map (fC g a m u init seed)++[fC g a m u init seed ⟨yk,q,(Vs:jb),yv,yc⟩]):=O (by rw[gn,mz];rfl);clear VB bT C gn Vg bk YQ b8 s cz b0 ad
  go_upto_region 34 with fail
  obtain⟨bb,b7⟩:=J wr.heap.size;have bp:=jy wr (ja #[jd je yk,jd je q,jd je (Vs:jb),jd je yv,jd je yc] 62);have d:=ao wr (ja #[jd je yk,jd je q,jd je (Vs:jb),jd je yv,jd je yc] 62);have s:=jy (wr.alloc (ja #[jd je yk,jd je q,jd je (Vs:jb),jd je yv,jd je yc] 62)) (ja #[jd je q,jd je 0,A jf 0 0] 95);have bk:=ao (wr.alloc (ja #[jd je yk,jd je q,jd je (Vs:jb),jd je yv,jd je yc] 62)) (ja #[jd je q,jd je 0,A jf 0 0] 95);rw[jp]at s;replace bp:=av bp bk;replace d:=d.trans (bk.mono d.size);have db:N (M3<=bb):=O (by rw[b7];exact P.row.sz');rw[<-b7]at bp s⊢;obtain⟨k0,Zl⟩:=J ((wr.alloc (ja #[jd je yk,jd je q,jd je (Vs:jb),jd je yv,jd je yc] 62)).alloc (ja #[jd je q,jd je 0,A jf 0 0] 95));rw[<-Zl]at bp s d⊢;have bB:=O d;have bv:=O (av P.row.box d);have b0:=O bp;have bw:=O s;have Uq:=ah WP d;have bC:=bj gf d;have bI:=bj gi d;have b8:=O (hn.below d);have UY:=ae gk d;have cz:=ae b2 d;have gu:N (wr.heap.size=bb):=O b7.symm;clear bp s d bk Zl b7 WP gf gi bO gk b2 hn d0 d1 d2 d3 d4;obtain⟨ex,cc⟩:=J (dZ seed kt [q]);have gv:ex.length=32:=by rw[cc];exact pD _ _ _
  obtain⟨EX,dd⟩:=J ((ex.map v8).toArray);obtain⟨cd,ce⟩:=J (iW (bX g a m u) kt [q]);obtain⟨V,dk⟩:∃y:jb,y=((aY 4 (gm ex):jc):jb):=⟨_,I⟩;obtain⟨bq,cf⟩:=J (gs Vs ex cd (dO g u init));have hH:N (bq.length=48):=O (by rw[cf,nJ,lF]);have cg:N (∀W v,df W v [q]->bH W->jB jo 101 #[jh S,ql ⟨#[119,101,108,99,111,109,101]⟩,v] W λe w'=>e=jz (jh EX)/\jk W W w'):=O (λW v hv hW=>by
   rw[hZ,dd,cc];exact sD seed hX kt [q] v W hv (GC L (by have:=hq.out;intro x C;simp at C;rcases C with rfl;exact⟨by omega,by omega⟩) ar) hW)
  have gw:N (∀W v s,aW (·<W.heap.size) W {bX g a m u with box:=nl.map (eA g a m u seed),wel:=s} ⟨A V9 m.length c1,A pq 10 cq,A pb nu cb,A pv i cv⟩->s.length<=1000000->df W v [q]->bH W->jB jo 102 #[jh ((λv=>(aE (bX g a m u) ⟨A V9 m.length c1,A pq 10 cq,A pb nu cb,v⟩).toArray) (A pv i cv)),ql ⟨#[119,101,108,99,111,109,101]⟩,v] W λe w'=>∃D,e=jz (A (T ⟨D,0,jf⟩) 32 32)/\bD w' (A (T ⟨D,0,jf⟩) 32 32) cd/\jk W W w'):=O (λW v s hC hu hv hW=>by
   rw[ce];exact Er {bX g a m u with box:=nl.map (eA g a m u seed),wel:=s} _ kt [q] v W L hC hv ar ⟨hl,by show(dB u).length<=_;rw[lM];decide,by show(nl.map (eA g a m u seed)).length<=_;rw[jw,<-ZF];have:=i0.out;omega,hu⟩
    (DC (c:={bX g a m u with box:=nl.map (eA g a m u seed),wel:=s}) (nums:=[q]) (by have h1:=b9.fol.1;have h2:=b9.fol.2;exact⟨by show _ <=g.folder;omega,by show g.folder<_;omega⟩) (by have h1:=b9.ep;exact⟨by show _ <=g.epoch+1;omega,by show g.epoch+1<_;omega⟩) (by have:=em.out;exact⟨by show _ <=a;omega,by show a<_;omega⟩) Yc (by have:=hq.out;intro x C;simp at C;rcases C with rfl;exact⟨by omega,by omega⟩) ar) hW)
  have gx:N (∀W vh vb,bD W vh cd->bD W vb (dO g u init)->lx W->jB jo 100 #[jd je (Vs:jb),jh EX,vh,vb] W λe w'=>∃c,e=jz (jI #[jh #[jd je V,c],jd je 0])/\w'.ownsRow W 5 1 c 48 (bq.map v8)/\jk W W w'):=O (λW vh vb h1 h2 h3=>by
   have h:=Hl Vs hE ex cd (dO g u init) gv (by rw[ce];unfold iW;rw[eT];decide) (by rw[lF];decide) vh vb W h1 h2 h3;rw[lF]at h;rw[dd,dk,cf];exact h)
  have gf:N (fC g a m u init seed ⟨yk,q,(Vs:jb),yv,yc⟩=⟨q,V,bq⟩):=O (by rw[cf,dk,ce,cc];rfl);have gi:N ((jo.info? 48).map (·.size)=T ((λv=>(aE (bX g a m u) ⟨A V9 m.length c1,A pq 10 cq,A pb nu cb,v⟩).toArray) (A pv i cv)).size):=O (by rw[jv,dl _ _ Yc.out eJ];exact mQ);clear gv dd ce dk cf cc
  go_upto_region 34 with fail
  refine jL ?_;refine dj (λW'=>W'.heap[bb]?=T (ja #[jd je yk,jd je q,jd je (Vs:jb),jd je yv,jd je yc] 62 (0,0))/\W'.heap[t+1+1+1]?=T (ja S 66 (0,0))/\W'.heap[(t+1+1+1+1)]?=T (ja ((λv=>(aE (bX g a m u) ⟨A V9 m.length c1,A pq 10 cq,A pb nu cb,v⟩).toArray) (A pv i cv)) 48 (0,0))) (.t 0 (.t 1 (.t 2 (.t 3 (.t 4 (.t 7 (.t 8 (.t 9 (.t 12 (.w 5 10 (.w 6 10 (.o 10 (.o 11 (.o 13 (.t 14 (.t 15 (.t 16 (.t 17 (.o 18 .done)))))))) (.o 6 (.o 11 (.o 13 (.t 14 (.t 15 (.t 16 (.t 17 (.o 18 .done))))))))) (.o 5 (.o 6 (.o 11 (.o 13 (.t 14 (.t 15 (.t 16 (.t 17 (.o 18 .done))))))))))))))))))) af af af L (λ_ _ _ _ h=>h) ⟨b0,UY,bv⟩ ?_;obtain⟨l0,UJ⟩:=J k0.drew;have d:=bV k0;rw[<-UJ]at d⊢;have gy:=ah bB d;have g1:=ae bv d;have s:=ae b0 d;have g2:=ae bw d;have ZE:=ah Uq d;have g3:=bj bC d;have g4:=bj bI d;have bk:=O (b8.below d);have b1:=ae UY d;have bp:=ae cz d;clear d UJ bB bv b0 bw Uq bC bI b8 UY cz;have bB:=gy;clear gy;have bv:=g1;clear g1;have b0:=s;clear s;have bw:=g2;clear g2;have Uq:=ZE;clear ZE;have bC:=g3;clear g3;have bI:=g4;clear g4;have b8:=bk;clear bk;have UY:=b1;clear b1;have cz:=bp;clear bp;iterate 2 refine vG ?_
  (refine aS (v:=jh S) I aj (λW' hS=>mx jW I hR I I hS.2.1) (G ?_))
  iterate 2 refine vG ?_
  (refine aS (v:=jh ((λv=>(aE (bX g a m u) ⟨A V9 m.length c1,A pq 10 cq,A pb nu cb,v⟩).toArray) (A pv i cv))) I aj (λW' hS=>mx pz I gi I I hS.2.2) (G ?_))
  iterate 3 refine vG ?_
  apply FK (.o 11 (.o 13 (.t 14 (.t 15 (.t 16 (.t 17 (.o 18 .done)))))))
  rotate_left
  ·intro YP
   refine iX ?_ ?_
   ·refine aF I (λK' z=>?_)
    go_simp;have d:=ao l0 (ja #[jd je q] 3);have F:=oh l0 q;obtain⟨l1,C⟩:=J (l0.alloc (ja #[jd je q] 3));rw[<-C]at d F⊢;obtain⟨b3,Q⟩:=J l0.heap.size;rw[<-Q]at F⊢;clear Q;have bi:=ah bB d;have ZJ:=ae bv d;have bp:=ae b0 d;have bc:=ae bw d;have U:=ah Uq d;have Zc:=bj bC d;have a4:=bj bI d;have b2:=O (b8.below d);have Vi:=ae UY d;have b7:=ae cz d;have b4:=O F;clear F C d;refine z _ _ ⟨bp,Vi,ZJ⟩ λ_=>?_
    clear z;refine G ?_;refine iX ?_ ?_
    ·refine aF I (λK' z=>?_)
     go_simp;refine(cg l1 _ b4.out (Wd.dig.below U)).mono ?_;rintro e l2 ⟨rfl,d⟩;have Yb:=ah bi d;have YZ:=ae ZJ d;have s:=ae bp d;have bl:=ae bc d;have Ur:=ah U d;have a5:=bj Zc d;have a6:=bj a4 d;have Wr:=O (b2.below d);have UO:=ae Vi d;have bO:=ae b7 d;have ba:=O (eu b4 d);clear bi ZJ bp bc U Zc a4 b2 Vi b7 b4;clear d;refine z _ _ ⟨s,UO,YZ⟩ λ_=>?_
     clear z;refine G ?_;refine aF I (λK' z=>?_);go_simp;have d:=ao l2 (ja #[jd je q] 3);have F:=oh l2 q;obtain⟨l3,C⟩:=J (l2.alloc (ja #[jd je q] 3));rw[<-C]at d F⊢;obtain⟨bK,Q⟩:=J l2.heap.size;rw[<-Q]at F⊢;clear Q;have Y9:=ah Yb d;have WB:=ae YZ d;have bk:=ae s d;have bm:=ae bl d;have Ut:=ah Ur d;have a1:=bj a5 d;have a2:=bj a6 d;have Wk:=O (Wr.below d);have VZ:=ae UO d;have bT:=ae bO d;have bn:=O (eu ba d);clear Yb YZ s bl Ur a5 a6 Wr UO bO ba;have bh:=O F;clear F C d;refine z _ _ ⟨bk,VZ,WB⟩ λ_=>?_
     clear z;refine G ?_;have hG:=(And.intro Y9 (And.intro WB (And.intro bk (And.intro bm (And.intro Ut (And.intro a1 (And.intro a2 (And.intro Wk (And.intro VZ (And.intro bT (And.intro bn bh)))))))))));exact YP b3 bK l3 hG
    refine aF I (λK' z=>?_);go_simp;have d:=ao l1 (ja #[jd je q] 3);have F:=oh l1 q;obtain⟨l2,C⟩:=J (l1.alloc (ja #[jd je q] 3));rw[<-C]at d F⊢;obtain⟨bK,Q⟩:=J l1.heap.size;rw[<-Q]at F⊢;clear Q;have Yb:=ah bi d;have YZ:=ae ZJ d;have s:=ae bp d;have bl:=ae bc d;have Ur:=ah U d;have a5:=bj Zc d;have a6:=bj a4 d;have Wr:=O (b2.below d);have UO:=ae Vi d;have bO:=ae b7 d;have ba:=O (eu b4 d);clear bi ZJ bp bc U Zc a4 b2 Vi b7 b4;have b5:=O F;clear F C d;refine z _ _ ⟨s,UO,YZ⟩ λ_=>?_
    clear z;refine G ?_;refine aF I (λK' z=>?_);go_simp;refine(cg l2 _ ba.out (Wd.dig.below Ur)).mono ?_;rintro e l3 ⟨rfl,d⟩;have Y9:=ah Yb d;have WB:=ae YZ d;have bk:=ae s d;have bm:=ae bl d;have Ut:=ah Ur d;have a1:=bj a5 d;have a2:=bj a6 d;have Wk:=O (Wr.below d);have VZ:=ae UO d;have bT:=ae bO d;have bn:=O (eu ba d);have bh:=O (eu b5 d);clear Yb YZ s bl Ur a5 a6 Wr UO bO ba b5;clear d;refine z _ _ ⟨bk,VZ,WB⟩ λ_=>?_
    clear z;refine G ?_;have hG:=(And.intro Y9 (And.intro WB (And.intro bk (And.intro bm (And.intro Ut (And.intro a1 (And.intro a2 (And.intro Wk (And.intro VZ (And.intro bT (And.intro bn bh)))))))))));exact YP b3 bK l3 hG
   refine aF I (λK' z=>?_);go_simp;have d:=ao l0 (ja #[jd je q] 3);have F:=oh l0 q;obtain⟨l1,C⟩:=J (l0.alloc (ja #[jd je q] 3));rw[<-C]at d F⊢;obtain⟨bK,Q⟩:=J l0.heap.size;rw[<-Q]at F⊢;clear Q;have bi:=ah bB d;have ZJ:=ae bv d;have bp:=ae b0 d;have bc:=ae bw d;have U:=ah Uq d;have Zc:=bj bC d;have a4:=bj bI d;have b2:=O (b8.below d);have Vi:=ae UY d;have b7:=ae cz d;have g5:=O F;clear F C d;refine z _ _ ⟨bp,Vi,ZJ⟩ λ_=>?_
   clear z;refine G ?_;refine aF I (λK' z=>?_);go_simp;have d:=ao l1 (ja #[jd je q] 3);have F:=oh l1 q;obtain⟨l2,C⟩:=J (l1.alloc (ja #[jd je q] 3));rw[<-C]at d F⊢;obtain⟨b3,Q⟩:=J l1.heap.size;rw[<-Q]at F⊢;clear Q;have Yb:=ah bi d;have YZ:=ae ZJ d;have s:=ae bp d;have bl:=ae bc d;have Ur:=ah U d;have a5:=bj Zc d;have a6:=bj a4 d;have Wr:=O (b2.below d);have UO:=ae Vi d;have bO:=ae b7 d;have b5:=O (eu g5 d);clear bi ZJ bp bc U Zc a4 b2 Vi b7 g5;have ba:=O F;clear F C d;refine z _ _ ⟨s,UO,YZ⟩ λ_=>?_
   clear z;refine G ?_;refine aF I (λK' z=>?_);go_simp;refine(cg l2 _ ba.out (Wd.dig.below Ur)).mono ?_;rintro e l3 ⟨rfl,d⟩;have Y9:=ah Yb d;have WB:=ae YZ d;have bk:=ae s d;have bm:=ae bl d;have Ut:=ah Ur d;have a1:=bj a5 d;have a2:=bj a6 d;have Wk:=O (Wr.below d);have VZ:=ae UO d;have bT:=ae bO d;have bh:=O (eu b5 d);have bn:=O (eu ba d);clear Yb YZ s bl Ur a5 a6 Wr UO bO b5 ba;clear d;refine z _ _ ⟨bk,VZ,WB⟩ λ_=>?_
   clear z;refine G ?_;have hG:=(And.intro Y9 (And.intro WB (And.intro bk (And.intro bm (And.intro Ut (And.intro a1 (And.intro a2 (And.intro Wk (And.intro VZ (And.intro bT (And.intro bn bh)))))))))));exact YP b3 bK l3 hG
  clear bB bv b0 bw Uq bC bI b8 UY cz;rintro b3 bK l3 ⟨Y9,WB,bk,bm,Ut,a1,a2,Wk,VZ,bT,bn,bh⟩;refine aF I (λK' z=>?_);go_simp;refine(gw l3 _ _ (R5 Yc a1 a2 Wk (P.later bA Y9) (by rw[jw,qI];have:=YB.out;omega)) (by rw[jw,qI];omega) bh (Wd.dig.below Ut)).mono ?_;rintro e l4 ⟨i3,rfl,c6,d⟩;have dr:=O c6;clear c6;have g6:=ah Y9 d;have dv:=ae WB d;have s:=ae bk d;have ea:=ae bm d;have UA:=ah Ut d;have ci:=bj a1 d;have cj:=bj a2 d;have VN:=O (Wk.below d);have WQ:=ae VZ d;have ba:=ae bT d;have g7:=O (eu bn d);have g8:=O (eu bh d);clear Y9 WB bk bm Ut a1 a2 Wk VZ bT bn bh;clear d;refine z _ _ ⟨s,WQ,dv⟩ λ_=>?_
  clear z;refine G ?_;refine aF I (λK' z=>?_);go_simp;refine(gx l4 _ _ dr.out (Ex ba (λj aa hj=>by rw[hz,Nat.zero_add];simpa using hj) (lF _ _ _)) (hU.below UA)).mono ?_;rintro e l5 ⟨c,rfl,ck,d⟩;have Va:N (bb+1<l4.heap.size):=O (jA.1 ea).1;obtain⟨lj,hI⟩:=J l4.heap.size;rw[<-hI]at ck Va;have g9:=O ck;obtain⟨R,H,rfl⟩:=cK ck;clear ck;have ha:=ah g6 d;have eb:=ae dv d;have bc:=ae s d;have ec:=ae ea d;have UF:=ah UA d;have e0:=bj ci d;have e1:=bj cj d;have YE:=O (VN.below d);have b6:=ae WQ d;have bi:=ae ba d;have hJ:=O (eu g7 d);have hK:=O (eu g8 d);have hM:=O (dr.below d);clear g6 dv s ea UA ci cj VN WQ ba g7 g8 dr;clear d;refine z _ _ ⟨bc,b6,eb⟩ λ_=>?_
  clear z;refine G ?_;iterate 4 refine vG ?_
  refine aF I (λK' z=>?_);rw[jr aj];refine qS 90 _ _ I (bb+1) 1 #[jd je V,A R 48 H] I I (su (o:=1) (n:=2) ec ar) af (by simp[j4]) ?_;rw[show(#[jd je V,A R 48 H]:jq jl).toList=[jd je V,A R 48 H]from I];obtain⟨s1,s2⟩:=FQ (i:=1) (x:=jd je V) (y:=A R 48 H) ec;have s3:jk wr wr (l5.setCells (bb+1) 1 [jd je V,A R 48 H]):=Below.cellsFrom ha (bb+1) (by rw[gu];omega) _ _;have ed:=nh (w':=l5.setCells (bb+1) 1 [jd je V,A R 48 H]) g9 (λk hk=>s2 k (aJ Va));refine z _ _ ⟨(s2 bb Y).trans bc,(s2 (t+1+1+1) (ee db bA)).trans b6,(s2 (t+1+1+1+1) (ee db bA)).trans eb⟩ λ_=>?_
  clear z;have eg:N ((l5.setCells (bb+1) 1 [jd je V,A R 48 H]).heap[bb+1]?=T (ja #[jd je q,jd je V,A R 48 H] 95 (0,0))):=O s1;have ej:N (eB M3 (t+1+1+1+1) 48 95 3 Wl.cells Wl.body (λv=>(aE (bX g a m u) ⟨A V9 m.length c1,A pq 10 cq,A pb nu cb,v⟩).toArray) p4 (l5.setCells (bb+1) 1 [jd je V,A R 48 H]) i (A pv i cv) ((wl.take i).map (fC g a m u init seed)) us):=O (P.later bA s3);have ek:N (aG (λg=>M3<=g/\g<(l5.setCells (bb+1) 1 [jd je V,A R 48 H]).heap.size/\(qh pv i cv).ownBlock≠T g) (l5.setCells (bb+1) 1 [jd je V,A R 48 H]) (A R 48 H) 1 48 (bq.map v8)):=O (aG.of_own ed (λg Q=>by
   have h1:=ed.lt g Q;have h2:=Va.out;have h3:=db.out;have ll:=gu.out;exact⟨by omega,h1.2,eY P.row.own (.inl Y)⟩))
  clear s1 s2 s3 ed;generalize l5.setCells (bb+1) 1 [jd je V,A R 48 H]=kc at eg ej ek⊢;have hN:=eg;have cm:=ej;have hO:=ek;clear eg ej ek;refine G ?_;refine ow ?_;clear ha eb bc ec UF e0 e1 YE b6 bi g9 hM hJ hK P cg gw gx;have s:=ai cm.row.box (rR (bX g a m u) (A V9 m.length c1) (A pq 10 cq) (A pb nu cb) (A pv i cv) Yc eJ).2.2.1
  go_upto_region 35 with fail
  refine jY ?_;iterate 2 refine eh ?_
  refine j7 I 95 _ I (bb+1) I 95 #[jd je q,jd je V,A R 48 H] (0,0) _ hN.out underlying95 I af ?_
  go_wp2_with (at_builtin;refine Hid.out ?_)
  refine O ?_;refine o8 I λ_ z=>Lr _ _ I M3 (A pv i cv) i _ I (cL cm.row.own (ao kc _)) _ 1 [jd je q,jd je V,A R 48 H] I (lz kc [jd je q,jd je V,A R 48 H] 95 (0,0) 3 1 1 I (jF _)) (by simp[j4]) Y (jD cm.row.sz' (ao kc _).size) λv' k9 U1=>z _ _ ?_
  clear z;have cp:=ao kc (ja #[jd je q,jd je V,A R 48 H] 95);have br:=cm.later bA cp;have hg:=(aG.keep hO (w':=kc.alloc (ja #[jd je q,jd je V,A R 48 H] 95)) (λg Q=>cp.block g Q.2.1)).mono (D':=λg=>M3<=g/\g<(kc.alloc (ja #[jd je q,jd je V,A R 48 H] 95)).heap.size/\(qh pv i cv).ownBlock≠T g) (λg Q=>⟨Q.1,jJ Q.2.1 cp.size,Q.2.2⟩);have cw:=lf br.row.box U1.grown (eY br.row.own (.inr bA));obtain⟨pn,cn,rfl⟩:=cK U1.own;have ga:N (eB M3 (t+1+1+1+1) 48 95 3 Wl.cells Wl.body (λv=>(aE (bX g a m u) ⟨A V9 m.length c1,A pq 10 cq,A pb nu cb,v⟩).toArray) p4 (k9.setCell ⟨(t+1+1+1+1),38,jf⟩ (A pn (i+1) cn)) (i+1) (A pn (i+1) cn) ((wl.take (i+1)).map (fC g a m u init seed)) (us++[A R 48 H])):=O (by
   rw[hF,gf];exact eB.push (x:=(⟨q,V,bq⟩:Wl)) br bA (by show aG _ _ _ 1 bq.length (bq.map v8);rw[hH];exact hg) U1 (ih _ _))
  obtain⟨⟨vo,c3⟩,f3,-,-⟩:=kp (i:=38) (A pn (i+1) cn) cw (by rw[(rR (bX g a m u) (A V9 m.length c1) (A pq 10 cq) (A pb nu cb) (A pv i cv) Yc eJ).2.2.2];decide);clear br hg U1 cw s cp
  go_wp2_with fail
  go_roundw
  case rel=>exact⟨i+1,pn,cn,us++[A R 48 H],by go_num,by omega,ga⟩
  case measure=>simp only[jV];omega
 obtain rfl:nw=i:=Y;have hd2:decide ((nw:jb)<(nw:jb))=jn:=by simp
 have ho:decide (nw<nw)=jn:=by simp
 rename jj=>p5;obtain⟨pe,ce,bK,bO⟩:∃(p:jG Addr) (c:jc),p=pv/\c=cv:=⟨_,_,I,I⟩;subst bK;subst bO;have cx:wl.take nw=wl:=qo (by rw[YB];exact jF _);rw[cx]at P;have ad:=P.row.but;have UF:N (jk w w p5):=O (UA.trans (P.row.but.below (n:=w.heap.size) (by rw[HG];omega) (ee bA HG)));have e0:=kL ci (λk bs ax=>ad.block k (by rw[Wy];exact ax) (aJ c9));have e1:=kL cj (λk bs ax=>ad.block k (by rw[Wy];exact ax) (aJ Yp));have ev:N (p5.heap[(t+1+1+1+1+1)]?=T (ja SA 66 (0,0))):=O ((ad.block (t+1+1+1+1+1) e8 Y).trans YL);have bk:li (λk=>t+6<=k/\k<p5.heap.size) p5 (A pb nu cb) (nl.map (eA g a m u seed)):=Za.keep (λk hk=>ad.block k hk.2 (aJ bu)) (λk hk=>⟨by have:=h9.out;omega,by have:=P.row.sz';omega⟩);have bl:=P.slice (by rw[jw];exact YB) (D:=λk=>t+6<=k/\k<p5.heap.size) (λk h1 h2=>⟨by have:=e8.out;omega,h2⟩);obtain⟨q,hq⟩:∃y:CQ,y=⟨A V9 m.length c1,A pq 10 cq,A pb nu cb,A pe nw ce⟩:=⟨_,I⟩;have br:N (aW (λk=>t+6<=k/\k<p5.heap.size) p5 (mk1 g a m u init seed) q):=O (by
  rw[hD,hw]at bk;rw[gp]at bl;rw[hq];exact KH Yc e0 e1 bk bl (λk h1 h2=>⟨by have:=c9.out;omega,h2⟩) (λk h1 h2=>⟨by have:=fv.out;omega,h2⟩))
 obtain⟨Y1,ax⟩:=J ((aE (mk1 g a m u init seed) q).toArray);have eq:N (p5.heap[(t+1+1+1+1)]?=T (ja Y1 48 (0,0))):=O (by rw[ax,hq,Tz];exact P.row.box);have bs:=Rv (x:=X) (init:=init) (seed:=seed) e5.symm (by rw[<-WK];exact kb) km Vx Yc;obtain⟨bv,bw⟩:=MP bs;have bB:=O bv.encOk;have bT:=O bw.encOk;have b0:=O ax;have Yq:∀c:Cmt,c.parent.length=32->c.confirm.length=32->(jo.info? 48).map (·.size)=T (aE c q).toArray.size:=λc h1 h2=>by rw[jv,dl c q h1 h2];exact mQ
 have Vi:N ((jo.info? 48).map (·.size)=T Y1.size):=O (by rw[ax];exact Yq _ (by rw[(oe ..).1];exact Yc) (oe ..).2);have b2:N (∀W,aW (·<W.heap.size) W (mk1 g a m u init seed) q->jB jo 51 #[jh Y1] W λe w'=>∃v,e=jz v/\vB W w' (mk1 g a m u init seed) v/\jk W W w'):=O (λW hW=>by
  obtain⟨l1,l2,l3,l4⟩:=bB.lens;rw[ax];exact tm _ q W hW l1 l2 l3 l4)
 obtain⟨bC,bh⟩:=J (cW kM ((aR (mk1 g a m u init seed)).take 8));obtain⟨YS,bm⟩:=J ((bC.map v8).toArray);obtain⟨cf,bi⟩:=J (iZ (dO g u init) bC);obtain⟨j,bb⟩:=J ((cf.map v8).toArray);have bn:cf.length=32:=by rw[bi];exact sT _ _
 have b3:N (mk2 g a m u init seed={mk1 g a m u init seed with confirm:=cf}):=O (by rw[bi,bh];exact Do ..);have b4:N (∀W p H,aV (·<W.heap.size) W (vL ((aR (mk1 g a m u init seed)).take 8)) (A p 8 H)->bH W->jB jo 50 #[ql ⟨#[99,111,109,109,105,116,32,98,111,100,121]⟩,A p 8 H] W λe w'=>e=jz (jh YS)/\jk W W w'):=O (λW p H hv hW=>by
  rw[bm,bh];exact mK kM L _ _ W hv (bB.take (by rw[zz];decide) 8) hW.num hW.start)
 have b5:N (∀W,iE W->jB jo 103 #[jh SA,jh YS] W λe w'=>e=jz (jh j)/\jk W W w'):=O (λW hW=>by
  rw[bb,bi,hz,bm];exact PD _ _ (lF _ _ _) (by rw[bh];exact eT _ _) W hW)
 have bI:N (j.size=32):=O (by rw[bb,jv,jw,bn]);have b7:N (j.all (·.oneCell')=ji):=O (by rw[bb];exact eU _);have b8:N ((jo.info? 23).map (·.size)=T j.size):=O (by rw[bI];kernel_rfl);obtain⟨Y2,ba⟩:=J ((aE (mk2 g a m u init seed) q).toArray);have cc:N (mP Y1 39 j.toList=Y2):=O (by
  rw[ba,b3,bb,ax];exact Ol _ q cf (by rw[(oe ..).1];exact Yc) (oe ..).2 bn)
 have UO:N ((jo.info? 48).map (·.size)=T Y2.size):=O (by rw[ba];exact Yq _ (by rw[(po ..).1];exact Yc) (po ..).2);have cd:N (Y1.size=73):=O (by rw[ax,jv,dl _ _ (by rw[(oe ..).1];exact Yc) (oe ..).2]);have cg:N (Y2.size=73):=O (by rw[ba,jv,dl _ _ (by rw[(po ..).1];exact Yc) (po ..).2]);have ck:N (∀W,aW (·<W.heap.size) W (mk1 g a m u init seed) q->bH W->jB jo 34 #[jh Y2] W λe w'=>∃D,e=jz (A (T ⟨D,0,jf⟩) 32 32)/\bD w' (A (T ⟨D,0,jf⟩) 32 32) (dt (mk2 g a m u init seed))/\jk W W w'):=O (λW hC hW=>by
  rw[ba];exact Hn _ q W (D3 hC) bT hW)
 obtain⟨sr,bp⟩:∃y:jb,y=((ko X (dt (mk2 g a m u init seed)):jc):jb):=⟨_,I⟩;obtain⟨ss,bq⟩:∃y:jb,y=((kE X (dt (mk2 g a m u init seed)):jc):jb):=⟨_,I⟩;have cm:N (∀W v,bD W v (dt (mk2 g a m u init seed))->bH W->jB jo 104 #[jd je (X:jb),v] W λe w'=>e=jz (jI #[jh #[jd je sr,jd je ss],jd je 0])/\jk W W w'):=O (λW v hv hW=>by
  rw[bp,bq];exact R3 X U7.1 U7.2 _ v (by unfold dt;rw[eT];decide) W hv hW)
 obtain⟨Y3,bc⟩:=J ((aE (mkC g a X m u init seed) q).toArray);have cn:N (mkC g a X m u init seed={mk2 g a m u init seed with r:=sr,s:=ss}):=O (by rw[bp,bq];exact Gz ..);have cp:N (mP Y2 71 [jd je sr,jd je ss]=Y3):=O (by
  rw[bc,cn,ba];exact TS _ q sr ss (by rw[(po ..).1];exact Yc) (po ..).2)
 have VZ:N ((jo.info? 48).map (·.size)=T Y3.size):=O (by rw[bc];exact Yq _ (by rw[(BK ..).1];exact Yc) (BK ..).2);have cw:N (Y3.all (·.oneCell')=ji):=O (by rw[bc,hq];exact zL _ _ _ _ _ _ _ _ _ _ _ _ _);have cz:=O bc;clear bl bk e1 e0 ad cx P Yq bs bv bw hq ax ba bc bp bq bn bb bi bm bh Za Yl YL WQ UA ci cj c5 b0 ca hi
 go_upto_region 37 with fail
 refine jL ?_;refine lJ (λW'=>W'.heap[(t+1+1+1+1)]?=T (ja Y1 48 (0,0))/\W'.heap[(t+1+1+1+1+1)]?=T (ja SA 66 (0,0))) 7 [(0,ji),(1,ji),(2,jn),(3,ji),(4,jn),(5,jn),(6,ji),(7,jn)] af af af L (λ_ _ _ _ h=>h) ⟨eq,ev⟩ ?_;obtain⟨q0,UJ⟩:=J p5.drew;have d:=bV p5;rw[<-UJ]at d⊢;have UN:=ae eq d;have U0:=ae ev d;have Uq:=ah UF d;have P:=O (br.later d);clear d UJ eq ev UF br
 (refine fZ (v:=jh SA) I aj (λW' hS=>mx jW I fm I I hS.2) (G ?_))
 (refine fZ (v:=jh Y1) I aj (λW' hS=>mx pz I Vi I I hS.1) (G ?_))
 refine dq I (λK' z=>?_);go_simp;refine(b2 q0 (P.mono (λk hk=>hk.2))).mono ?_;rintro e q1 ⟨v,rfl,ad,d⟩;obtain⟨gc,bb,rfl,VB⟩:∃g H,v=A (T ⟨g,0,jf⟩) 11 H/\11<=H:=by
  obtain⟨us,ax,-⟩:=ad;obtain⟨g,c,h1,h2,-⟩:=vu ax L;exact⟨g,c,h1,h2⟩
 have bc:=O (ad.val 8 L).2;have hh:∀W,(Instr.sliceAt 124 (A (T ⟨gc,0,jf⟩) 11 bb) jf (T (jd je 8)) jf).run jo W=.ok (A (T ⟨gc,0,jf⟩) 8 bb) W:=λW=>wn 124 184 4 underlying124 wS gc 0 11 bb 8 Y W
 clear ad;have UK:=ae UN d;have UQ:=ae U0 d;have U:=ah Uq d;have ax:=O (P.later d);clear UN U0 Uq P;clear d;refine z _ _ ⟨UK,UQ⟩ λ_=>?_
 clear z;refine G ?_;refine Ez ?_;refine dq I (λK' z=>?_);go_simp;refine(b4 q1 _ _ bc.out (Wd.dig.below U)).mono ?_;rintro e q2 ⟨rfl,d⟩;have UH:=ae UK d;have UP:=ae UQ d;have Ur:=ah U d;have ba:=O (ax.later d);clear UK UQ U ax bc;clear d;refine z _ _ ⟨UH,UP⟩ λ_=>?_
 clear z;refine G ?_;refine dq I (λK' z=>?_);go_simp;refine(b5 q2 (Wd.below Ur)).mono ?_;rintro e q3 ⟨rfl,d⟩;have U2:=ae UH d;have Vh:=ae UP d;have Ut:=ah Ur d;have bc:=O (ba.later d);clear UH UP Ur ba;clear d;refine z _ _ ⟨U2,Vh⟩ λ_=>?_
 clear z;refine G ?_;refine Ez ?_;refine pB I (λK' z=>?_);rw[jr aj];refine qS 23 _ _ I (t+1+1+1+1) 39 j I I (su (o:=39) U2.out (by rw[cd,bI];decide)) b8 b7 ?_;have s1:=yR j.toList 39 q3 Y1 U2;rw[cc]at s1;have bd:=O s1;have bf:=O ((tU (k:=(t+1+1+1+1+1)) (b:=(t+1+1+1+1)) Y j.toList 39 q3).trans Vh);have bg:=O (Below.cellsFrom Ut (t+1+1+1+1) (by rw[HG];omega) j.toList 39);have ad:N (aW (λk=>t+6<=k/\k<(q3.setCells (t+1+1+1+1) 39 j.toList).heap.size) (q3.setCells (t+1+1+1+1) 39 j.toList) (mk1 g a m u init seed) q):=O ((bc.keep (λk hk=>tU Y _ _ _)).mono (λk hk=>by rw[yq];exact hk));clear s1;generalize q3.setCells (t+1+1+1+1) 39 j.toList=r0 at bd bf bg ad⊢;clear U2 Vh Ut bc;refine z _ _ ?_;clear z;have UN:=bd;have U0:=bf;have Uq:=bg;have P:=ad;clear bd bf bg ad;refine ow ?_
 go_upto_region 38 with fail
 refine jY ?_;refine eh ?_;refine j7 I 48 _ I (t+1+1+1+1) I 48 Y2 (0,0) _ UN.out pz I UO ?_
 go_wp2_with fail
 refine(ck r0 (P.mono (λk hk=>hk.2)) (Wd.dig.below Uq)).mono ?_;rintro e r1 ⟨i3,rfl,c6,d⟩;have bc:=O c6;clear c6;have UK:=ae UN d;have UQ:=ae U0 d;have U:=ah Uq d;have ax:=O (P.later d);clear UN U0 Uq P;clear d
 go_wp2_with fail
 refine(cm r1 _ bc.out (Wd.dig.below U)).mono ?_;rintro e r2 ⟨rfl,d⟩;have UH:=ae UK d;have UP:=ae UQ d;have Ur:=ah U d;have ba:=O (ax.later d);clear UK UQ U ax bc;clear d
 go_wp2_with (refine o8 I λ_ z=>qS 46 _ _ I (t+1+1+1+1) 71 #[jd je sr,jd je ss] I I (su (o:=71) (n:=2) UH.out (by rw[cg];decide)) af (by simp[j4]) (z _ _ ?_))
 have s1:=yR [jd je sr,jd je ss] 71 r2 Y2 UH;rw[cp]at s1;have bd:=O s1;have bf:=O ((tU (k:=(t+1+1+1+1+1)) (b:=(t+1+1+1+1)) Y [jd je sr,jd je ss] 71 r2).trans UP);have bg:=O (Below.cellsFrom Ur (t+1+1+1+1) (by rw[HG];omega) [jd je sr,jd je ss] 71);have ad:N (aW (λk=>t+6<=k/\k<(r2.setCells (t+1+1+1+1) 71 [jd je sr,jd je ss]).heap.size) (r2.setCells (t+1+1+1+1) 71 [jd je sr,jd je ss]) (mk1 g a m u init seed) q):=O ((ba.keep (λk hk=>tU Y _ _ _)).mono (λk hk=>by rw[yq];exact hk));clear s1;generalize r2.setCells (t+1+1+1+1) 71 [jd je sr,jd je ss]=U at bd bf bg ad⊢;clear UH UP Ur ba;have Zm:=bd;have Z6:=bf;have VJ:=bg;have ax:=ad;clear bd bf bg ad
 go_upto_region 41 with fail
 refine jL ?_;refine dj (λW'=>W'.heap[(t+1+1+1+1)]?=T (ja Y3 48 (0,0))/\W'.heap[(t+1+1+1+1+1)]?=T (ja SA 66 (0,0))) (.t 0 (.t 1 (.o 2 (.o 3 (.t 4 .done))))) af af af L (λ_ _ _ _ h=>h) ⟨Zm,Z6⟩ ?_;obtain⟨V,UJ⟩:=J U.drew;have d:=bV U;rw[<-UJ]at d⊢;have cs:=ae Zm d;have ct:=ae Z6 d;have ZE:=ah VJ d;have ad:=O (ax.later d);clear d UJ Zm Z6 VJ ax;have UN:=cs;clear cs;have U0:=ct;clear ct;have Uq:=ZE;clear ZE;have P:=ad;clear ad
 (refine aS (v:=jh Y3) I aj (λW' hS=>mx pz I VZ I I hS.1) (G ?_))
 (refine aS (v:=jh SA) I aj (λW' hS=>mx jW I fm I I hS.2) (G ?_))
 refine aF I (λK' z=>?_);rw[jr aj];refine jQ 48 _ _ I (t+1+1+1+1) Y3 I I 48 _ UN.out VZ I cw ?_;rw[rp UN];refine z _ _ ⟨UN,U0⟩ λ_=>?_
 clear z;refine G ?_;refine aF I (λK' z=>?_);rw[jr aj];refine jQ 66 _ _ I (t+1+1+1+1+1) SA I I 66 _ U0.out fm I h5 ?_;rw[rp U0];refine z _ _ ⟨UN,U0⟩ λ_=>?_
 clear z;refine G ?_;refine aO ?_;refine ow ?_
 go_wp2_with fail
 refine qj (FW I _ _ (t+1+1+1+1) (t+1+1+1+1+1) 48 66 Y3 SA (0,0) (0,0) _ _ I I UN U0 pz I VZ jW I fm) I ⟨λ_=>⟨q,?_,?_⟩,λh=>ju kl h,Uq⟩
 ·rw[cz,hz,qJ]
  rfl
 rw[qJ];exact(Rk (x:=X) P).mono (λk hk=>⟨by have h1:=HG.out;have h2:=hk.1;omega,hk.2⟩)
noncomputable def VY:VarT jo:=⟨66,32,(cF.map v8).toArray,_,jW,I,by kernel_rfl,by rfl,λ_=>by kernel_rfl⟩
def kzA(b:n0 8):jq jl:=((kz b).map v8).toArray
def kzN(n:jb):jq jl:=(jH .u8 n::wt 31 (jH .u8 0)).toArray
theorem Mb(b:n0 8):kzA b=kzN b.toNat:=by unfold kzA kzN kz;rw[j1,List.map_replicate];rfl
theorem JN(b:n0 8)(c:B.op=.build 66 #[(0,Q)])(d:m.eval Q=v8 b)(W:jj):(jP m.eval B).run jo W=.ok (.value (jh (kzA b))) W:=by
 have h:∀n:jb,(Instr.build 66 #[(0,jd .u8 n)]).run jo W=.ok (jh (kzN n)) W:=λn=>by kernel_rfl
 rw[Mb];have e:m.eval Q=jd .u8 (b.toNat:jb):=d;simp only[jP,c,p6,j1,jZ,e,Sem.run_bind,h,Result.andThen_ok,Sem.run_pure]
theorem C9(b:n0 8)(w:jj):jB jo 48 #[v8 b] w λe w'=>e=jz (jh (kzA b))/\jk w w w':=by
 obtain⟨K,a⟩:=J (kzA b);have c:N (K.size=VY.n):=O (by rw[a];rfl);have f:N (K.all (·.oneCell')=ji):=O (by rw[a,jR];exact λg d=>iu (kz b) g (by unfold kzA at d;simpa using d));have d:=O a;rw[<-a];clear a
 go_enter func48,ntmps48
 go_upto_region 1 with(first|(refine VY.made I I (G ?_)))
 go_wp2_with (first|(refine ei (v:=jh K) aj (by rw[d];exact JN b I I _) ?_;refine G ?_)|(refine VY.first I I I K I c f (G ?_)))
 obtain⟨x1,g,a,h,i,j⟩:=dh w K VY.t;rw[<-a];exact r9 (v:=jh K) (sh I _ _ w.heap.size VY.t _ (0,0) _ I (h▸i.out) jW I (by rw[c];exact VY.hi)) I ⟨I,j⟩
theorem Pi{y:j0}(b:B.op=.build 62 #[(0,.const (jd je 2)),(1,Q),(4,y)])(f:m.eval Q=jd je a)(g:m.eval y=jd je F)(W:jj):
 (jP m.eval B).run jo W=.ok (.value (jh (ap.cells ⟨2,a,0,0,F⟩).toArray)) W:=by
 have h:∀a F:jb,(Instr.build 62 #[(0,jd je 2),(1,jd je a),(4,jd je F)]).run jo W=.ok (jh (ap.cells ⟨2,a,0,0,F⟩).toArray) W:=λa F=>by kernel_rfl
 have e:m.eval (.const (jd je 2))=jd je 2:=I;simp only[jP,b,p6,j1,jZ,f,g,e,Sem.run_bind,h,Result.andThen_ok,Sem.run_pure]
theorem Em(x:ap):x.cells.toArray.size=VH.n/\x.cells.toArray.all (·.oneCell')=ji:=⟨I,by
 rw[jR];exact λa b=>EC.one x a (show a∈ap.cells _ by simpa using b)⟩
theorem Gp(d c:jb)(w:jj):jB jo 15 #[jd je d,jd je c] w λe w'=>e=jz (jh (ap.cells ⟨2,d,0,0,c⟩).toArray)/\jk w w w':=by
 obtain⟨K,b⟩:=J ((ap.cells ⟨2,d,0,0,c⟩).toArray);have a:=O (Em ⟨2,d,0,0,c⟩);have f:=O b;rw[<-b]at a⊢;clear b
 go_enter func15,ntmps15
 go_upto_region 1 with(first|(refine VH.made I I (G ?_)))
 go_wp2_with (first|(refine ei (v:=jh K) aj (by rw[f];exact Pi I I I _) ?_;refine G ?_)|(refine VH.first I I I K I a.1 a.2 (G ?_)))
 obtain⟨x1,g,b,h,i,j⟩:=dh w K VH.t;rw[<-b];exact r9 (v:=jh K) (sh I _ _ w.heap.size VH.t _ (0,0) _ I (h▸i.out) r8 I (by rw[a.1];exact VH.hi)) I ⟨I,j⟩
theorem Mi{y z:j0}{q:jb}(b:B.op=.build 62 #[(0,.const (jd je 1)),(1,Q),(2,y),(3,z)])(c:m.eval Q=jd je a)(f:m.eval y=jd je F)(g:m.eval z=jd je q)(W:jj):
 (jP m.eval B).run jo W=.ok (.value (jh (ap.cells ⟨1,a,F,q,0⟩).toArray)) W:=by
 have h:∀a F q:jb,(Instr.build 62 #[(0,jd je 1),(1,jd je a),(2,jd je F),(3,jd je q)]).run jo W=.ok (jh (ap.cells ⟨1,a,F,q,0⟩).toArray) W:=λa F q=>by kernel_rfl
 have e:m.eval (.const (jd je 1))=jd je 1:=I;simp only[jP,b,p6,j1,jZ,c,f,g,e,Sem.run_bind,h,Result.andThen_ok,Sem.run_pure]
theorem FF(d:jc)(q:d<512)(w:jj):jB jo 14 #[jd je d] w λe w'=>e=jz (jh (cQ d).cells.toArray)/\jk w w w':=by
 obtain⟨x1,c,j,k,a,l⟩:=dh w chZ.cells.toArray VH.t;have f:N (∀W,jB jo 49 #[jd je ((d:jb)+2)] W λe w'=>e=jz (jI #[jd je (aY 4 (d+2):jc),jd je 0])/\jk W W w'):=O (λW=>by
  rw[show(d:jb)+2=((d+2:jc):jb) by omega];exact Ac (d+2) Y Y W)
 obtain⟨p,g⟩:∃y:jb,y=((aY 4 (d+2):jc):jb):=⟨_,I⟩;obtain⟨K,h⟩:=J ((cQ d).cells.toArray);have n:N (K=(ap.cells ⟨1,d,p,p,0⟩).toArray):=O (by rw[h,g];rfl);have b:=O (Em (cQ d));rw[<-g]at f;rw[<-h]at b⊢;have o:=O j;have m:=O k;have i:=O l;clear g h j k l
 go_enter func14,ntmps14
 go_upto_region 1 with(first|(refine VH.made I I (G ?_)))
 change Code.wp _ _ _ _ (w.alloc (ja chZ.cells.toArray VH.t));rw[<-o,<-m]
 go_wp2_with fail
 refine(f _).mono ?_;rintro e h ⟨rfl,g⟩;replace a:=ae a g;replace i:=ah i g;clear g f;have f:=O (jT h c _ K _ _ a.out);have g:=O (ob i (j5 m.symm) K)
 go_wp2_with (first|(refine ei (v:=jh K) aj (by rw[n];exact Mi I I I I _) ?_;refine G ?_)|(refine VH.store I I I K I b.1 b.2 a I (G ?_)))
 generalize h.setRow c K=j at f g⊢;exact r9 (v:=jh K) (sh I _ _ c VH.t _ (0,0) _ I f r8 I (by rw[b.1];exact VH.hi)) I ⟨I,g⟩
section
section
variable {P:o1} {ops:jq jK} {Q:Exit->Act->jj->Prop} {md:Region.Mode} {S:jj->Prop}
def tb(P:o1)(ops:jq jK)(S:jj->Prop):jg jc->(Act->jj->Prop)->Act->jj->Prop
 |[],K,a,w=>K a w
 |i::r,K,a,w=>∃o v,ops[i]?=T o/\fT P ops S o v a/\tb P ops S r K (a.put o.dst v) w
def vD(md:Region.Mode)(ops:jq jK):jg jc->jq jC->jC
 |[],_=>ji
 |i::r,a=>Region.free md ops a i&&(Region.ready md ops a).contains i&&vD md ops r (a.setIfInBounds i ji)
def od:jg jc->jq jC->jq jC
 |[],a=>a
 |i::r,a=>od r (a.setIfInBounds i ji)
theorem H8(k:Region.noSelect ops=ji)(m:∀c a b w,Q (.panic c) a w->Q (.panic c) b w){K:Act->jj->Prop}{n:jc}{g:jq jC}(p:∀a w,K a w->ip P md ops Q S ops.size n g a w):
 ∀(l:jg jc) (b:jq jC) (a:Act) (w:jj),vD md ops l b=ji->od l b=g->S w->tb P ops S l K a w->ip P md ops Q S ops.size (n+l.length) b a w
 |[],b,a,w,_,e,_,h=>by
  have d:b=g:=e;rw[d];exact p a w h
 |i::r,b,a,w,f,e,q,⟨o,v,s,t,h⟩=>by
  simp only[vD,nv]at f;refine vX s (Region.noSelect_spec k) (λc a d v w=>m c _ a w) (n+r.length) b a w (Region.free_spec s f.1.1) (λj c d u _=>(Ea j c d u).elim) (ak f.1.2) t q (H8 k m p r _ _ _ f.2 e q h)
def kV(md:Region.Mode)(ops:jq jK)(e f:jc)(g:jq jC):jc->jg (jc×jC)->jC->jC->jq jC->jC
 |0,b,c,d,a=>b.isEmpty&&c&&d&&(a==g)
 |n+1,b,c,d,a=>match b.head? with
  |some (k,ji)=>Region.free md ops a k&&(Region.ready md ops a).contains k&&kV md ops e f g n b.tail c d (a.setIfInBounds k ji)
  |_=> !(Region.ready md ops a).isEmpty&&(Region.ready md ops a).all λi=>
   (b.head?==T (i,jn)&&kV md ops e f g n b.tail c d (a.setIfInBounds i ji))||(i==e&& !c&&kV md ops e f g n b ji d (a.setIfInBounds i ji))||(i==f&& !d&&kV md ops e f g n b c ji (a.setIfInBounds i ji))
theorem tM{s t:jc}{u:jq jC}{l:jg (jc×jC)}{fe:jc}(x:Region.noSelect ops=ji)(y:∀c a r w,Q (.panic c) a w->Q (.panic c) r w)(g:jc->jC->jC->Act->jj->Prop)(q:∀j b f a w,g j b f a w->S w)
 (z:∀j i,l[j]?=T (i,ji)->∀b f a w,g j b f a w->∃o v,ops[i]?=T o/\fT P ops S o v a/\g (j+1) b f (a.put o.dst v) w) (B:∀j i,l[j]?=T (i,jn)->∀b f a w,g j b f a w->wpOp P ops Q i (g (j+1) b f) a w) (C:∀j f a w,g j jn f a w->wpOp P ops Q s (g j ji f) a w) (D:∀j b a w,g j b jn a w->wpOp P ops Q t (g j b ji) a w)
 (E:∀a w,g l.length ji ji a w->ip P md ops Q S ops.size fe u a w):
 ∀(n j:jc) (b f:jC) (p:jq jC) (a:Act) (w:jj),j<=l.length->kV md ops s t u n (l.drop j) b f p=ji->g j b f a w->ip P md ops Q S ops.size (fe+n) p a w
 |0,j,b,f,p,a,w,F,m,h=>by
  simp only[kV,nv,beq_iff_eq,List.isEmpty_iff,List.drop_eq_nil_iff]at m;obtain⟨⟨⟨d,rfl⟩,rfl⟩,rfl⟩:=m;obtain rfl:j=l.length:=Y;exact E a w h
 |n+1,j,b,f,p,a,w,F,m,h=>by
  rw[kV,List.head?_drop]at m
  by_cases K:∃k,l[j]?=T (k,ji)
  ·obtain⟨k,e⟩:=K
   rw[e]at m;simp only[nv]at m;have H:j<l.length:=(jU.1 e).1;obtain⟨o,v,M,R,U⟩:=z j k e b f a w h;rw[wv]at m;refine vX M (Region.noSelect_spec x) (λc a d v w=>y c _ a w) (fe+n) p a w (Region.free_spec M m.1.1) (λj c F d _=>(Ea j c F d).elim) (ak m.1.2) R (q _ _ _ _ _ h) (tM x y g q z B C D E n (j+1) b f _ _ w H m.2 U)
  have d:(!(Region.ready md ops p).isEmpty&&(Region.ready md ops p).all λi=>
   (l[j]?==T (i,jn)&&kV md ops s t u n (l.drop j).tail b f (p.setIfInBounds i ji))||(i==s&& !b&&kV md ops s t u n (l.drop j) ji f (p.setIfInBounds i ji))||(i==t&& !f&&kV md ops s t u n (l.drop j) b ji (p.setIfInBounds i ji)))=ji:=by
   split at m
   ·rename_i k e
    exact ju ⟨k,e⟩ K
   exact m
  simp only[nv,wx]at d;refine λ_=>⟨λv=>(by rw[v]at d;simp at d),λi M=>?_⟩
  have o:=d.2 i M;simp only[xa,nv,beq_iff_eq,Bool.not_eq_true']at o
  rcases o with(⟨e,k⟩|⟨⟨rfl,rfl⟩,k⟩)|⟨⟨rfl,rfl⟩,k⟩
  ·rw[wv]at k
   have H:j<l.length:=(jU.1 e).1;exact wpOp_mono (λr w' c=>⟨.inr (q _ _ _ _ _ c),tM x y g q z B C D E n (j+1) b f _ r w' H k c⟩) (B j i e b f a w h)
  ·exact wpOp_mono (λr w' c=>⟨.inr (q _ _ _ _ _ c),tM x y g q z B C D E n j ji f _ r w' F k c⟩) (C j f a w h)
  exact wpOp_mono (λr w' c=>⟨.inr (q _ _ _ _ _ c),tM x y g q z B C D E n j b ji _ r w' F k c⟩) (D j b a w h)
theorem uo{r:jc}{a:Act}{w:jj}(S:jj->Prop)(g:jg jc)(b:jg (jc×jC))(h k:jc)(t:bE)(d:jc->jC->jC->Act->jj->Prop)(s:P.follows .mixedOrders=ji)(l:Region.noSelect ops=ji)
 (u:vD .any ops g (qf ops.size jn)=ji) (x:kV .any ops h k (od (b.map Prod.fst++[h,k]) (od g (qf ops.size jn))) (b.length+2) b jn jn (od g (qf ops.size jn))=ji)
 (y:gC .any ops t (od (b.map Prod.fst++[h,k]) (od g (qf ops.size jn)))=ji) (H:g.length+(b.length+2)+t.len<=ops.size) (m:∀c a p w,Q (.panic c) a w->Q (.panic c) p w)
 (z:S w.drew) (q:∀j c e a w,d j c e a w->S w)
 (B:∀j i,b[j]?=T (i,ji)->∀c e a w,d j c e a w->∃o v,ops[i]?=T o/\fT P ops S o v a/\d (j+1) c e (a.put o.dst v) w) (o:∀j i,b[j]?=T (i,jn)->∀c e a w,d j c e a w->wpOp P ops Q i (d (j+1) c e) a w) (i:∀j e a w,d j jn e a w->wpOp P ops Q h (d j ji e) a w) (v:∀j c a w,d j c jn a w->wpOp P ops Q k (d j c ji) a w)
 (j:∀a w,d b.length ji ji a w->eE P ops Q S t a w) (C:tb P ops S g (d 0 jn jn) a w.drew):(Code.region r ops ji).wp P Q a w:=by
 refine wp_region_any s (rM (S:=S) (f:=ops.size) _ _ _ _ (iN.zero _) ?_);have e:ops.size=(ops.size-g.length-(b.length+2))+(b.length+2)+g.length:=Y;have key:=H8 (md:=.any) (S:=S) l m (K:=d 0 jn jn) (n:=ops.size-g.length-(b.length+2)+(b.length+2)) (λp w' D=>tM (md:=.any) (fe:=ops.size-g.length-(b.length+2)) l m d q B o i v (λE F c=>kD l m t _ _ _ _ Y y (bE.waits_size t) (.inr (q _ _ _ _ _ c)) (eN.toF t _ _ (j E F c))) (b.length+2) 0 jn jn _ p w' (jN _) x D) g _ a w.drew u I z C;rw[<-e]at key;exact key
theorem nH{i:jc}{o:jK}{v:jl}{r:jg jc}{K:Act->jj->Prop}{a:Act}{w:jj}(b:ops[i]?=T o)(c:Region.wanted o (yielded ops a.tmps)=ji)
 (d:∀w,S w->(jP a.eval o).run P w=.ok (.value v) w) (h:tb P ops S r K (a.put o.dst v) w):tb P ops S (i::r) K a w:=
 ⟨o,v,b,.inl ⟨c,λw e=>.inl (d w e)⟩,h⟩
end
end
theorem kzl(b:n0 8):(kz b).length=32:=by unfold kz;simp
structure gJ(w:jj):Prop where
 t:lx w
 s:iE w
theorem gJ.below(h:gJ w)(a:jk w w w'):gJ w':=⟨h.t.below a,h.s.below a⟩
abbrev ptr(g:jc):jl:=jt (T ⟨g,0,jf⟩)
def iA(c:jM)(Z:jq jl)(d:jj)(b:jC)(a:jl)(W:jj):Prop:=
 (b=ji->∃g,a=ptr g/\W.heap[g]?=T (ja Z c (0,0))/\d.heap.size<=g)/\(b=jn->a=jm)
theorem iA.keep{a:jM}{Z:jq jl}{c d:jj}{b:jC}{f:jl}(h:iA a Z c b f W)(i:jk W W d):iA a Z c b f d:=
 ⟨λe=>let⟨g,j,k,l⟩:=h.1 e;⟨g,j,av k i,l⟩,h.2⟩
theorem iA.ne{X:jq jl}{b:jC}(h:iA o X w b j W){g:jc}(i:W.heap.size<=g):j≠ptr g:=by
 cases b with
 |true=>
  obtain⟨k,rfl,f,-⟩:=h.1 I;intro e;injection e with e
  injection e with e
  injection e with e
  have:=(jA.1 f).1;omega
 |false=>rw[h.2 I];intro e;cases e
def PO(b:jj)(M:jc)(e:jq jl)(d:jc)(V:jl)(f:jG Addr)(h cl:jc)(i l:jq jl)(c:Cmt)(k:jq jl)(j:jc)(m n:jC)(a:Act)(W:jj):Prop:=
 ∃WE T12 T16 T23 T24 T26 T27 T28 T29 T30,a={tmps:=#[jh e,jd je (d:jb),V,A f h cl,ptr M,jm,jm,jm,ptr (M+1),ptr (M+2),.bool jn,WE,T12,jm,jm,jm,T16,jh e,jd je (d:jb),jd je (d:jb),jd je ((d:jb)+2),A f h cl,V,T23,T24,V,T26,T27,T28,T29,T30,jm,jm,jm,jm,jm,jm,jm,jm,jm,jm,jm,jm,jm,jm],defers:=[]}/\jk b b W/\(1<=j->T23=jh i)/\(2<=j->T24=jh l)/\(3<=j->T26=jh i)/\
  (4<=j->∃(q:CQ) (D:jc->Prop),(T27=jI #[jh (aE c q).toArray,jh k,jd je 0]/\(5<=j->T16=T27)/\(6<=j->T28=jh (aE c q).toArray)/\(7<=j->T29=jh k)/\(8<=j->T30=jd je 0))/\aW D W c q/\∀g,D g->b.heap.size<=g/\g<W.heap.size/\WE≠ptr g/\T12≠ptr g)/\
  iA VC.t VC.Z b m WE W/\iA VY.t VY.Z b n T12 W
theorem RH(g:Grp)(vm vt:jl)(d:jc)(m:d<512)(b:n0 8)(vl:jl)(ch:jg ap)(w:jj)(j:bL w g vm vt)(p:aG (·<w.heap.size) w vl 5 ch.length (ch.flatMap ap.cells))(hT:gJ w)(t:ia g (d:jb) ((d+2:jc):jb) ch=0)
 (c:Cmt) (V:c=mkC g (d:jb) (d+2) ch (kz b) (kz 1) (kz b)) (X:cN g c=0) (hE:cZ (aR c)) (u:g.mem.length<=900000) (z:g.tree.length<=600000) (ba:ch.length<=1000000):
 jB jo 13 #[jh (aB g vm vt).toArray,jd je (d:jb),v8 b,vl] w λe w'=>∃q x y,e=jz (jI #[jh (aE c q).toArray,jh (aB (aC g c) x y).toArray,.bool ji])/\
  aW (λk=>w.heap.size<=k/\k<w'.heap.size) w' c q/\bL w' (aC g c) x y/\Fr w.heap.size x/\Fr w.heap.size y/\jk w w w':=by
 obtain⟨pl,cl,rfl⟩:=p.form;obtain⟨nl,B⟩:=J ch.length;obtain⟨S,i⟩:=J ((aB g vm vt).toArray);obtain⟨KA,C⟩:=J (kzA b);obtain⟨K1,D⟩:=J (kzA 1);obtain⟨s,l⟩:=J (((dO g (kz b) (kz 1)).map v8).toArray);obtain⟨NG,E⟩:=J (aC g c);have bn:N (S.size=VG.n):=O (by rw[i,jv];exact eH j.llen);have bo:N (∀W,jk w w W->jB jo 47 #[jh S,jd je (d:jb),jd je ((d:jb)+2),A pl nl cl,jh KA,jh K1,jh KA] W λe w'=>(∃q,e=jz (jI #[jh (aE c q).toArray,jh s,jd je 0])/\aW (λk=>W.heap.size<=k/\k<w'.heap.size) w' c q)/\jk W W w'):=O (λW a=>by
  have h:=RR g vm vt (A pl ch.length cl) (d:jb) ((d+2:jc):jb) ch (kz b) (kz 1) (kz b) W (j.below a) ((p.keep λk n=>a.block k n).mono λk (n:k<w.heap.size)=>jJ n a.size) (kzl _) (kzl _) (kzl _) (hT.t.below a) (hT.s.below a) u z ba t;rw[t]at h;rw[i,C,D,l,B,show(d:jb)+2=((d+2:jc):jb) by omega];refine h.mono ?_;rintro e w' ⟨h1,-,f⟩;have r:=h1 I;rw[qJ,<-V]at r;exact⟨r,f⟩)
 have bA:N (∀W q,jk w w W->aW (·<W.heap.size) W c q->jB jo 9 #[jh S,jh (aE c q).toArray] W λe w'=>(∃vm vt,e=jz (jI #[jh (aB NG vm vt).toArray,jd je 0])/\bL w' NG vm vt/\Fr W.heap.size vm/\Fr W.heap.size vt)/\jk W W w'):=O (λW q a r=>by
  rw[i,E];refine(yS g vm vt c q W (j.below a) r hE (hT.s.dig.below a) u z).mono ?_;rintro e w' ⟨h1,-,f⟩;exact⟨h1 X,f⟩)
 have au:N (∀W,jB jo 48 #[v8 b] W λe w'=>e=jz (jh KA)/\jk W W w'):=O (λW=>by rw[C];exact C9 b W);have bp:N (∀W,jB jo 48 #[jd .u8 1] W λe w'=>e=jz (jh K1)/\jk W W w'):=O (λW=>by rw[D];exact C9 1 W);have bb:N (s.size=VY.n/\s.all (·.oneCell')=ji):=O ⟨by rw[l,jv,jw,lF];rfl,by rw[l,jR];exact λa3 hu=>iu _ a3 (ak hu)⟩;rw[<-i];rw[<-B];obtain⟨P,F⟩:∃P:Ending->jj->Prop,P=λe w'=>∃q x y,e=jz (jI #[jh (aE c q).toArray,jh (aB (aC g c) x y).toArray,.bool ji])/\
  aW (λk=>w.heap.size<=k/\k<w'.heap.size) w' c q/\bL w' (aC g c) x y/\Fr w.heap.size x/\Fr w.heap.size y/\jk w w w':=⟨_,I⟩
 have HP:N (∀e w',(∃q x y,e=jz (jI #[jh (aE c q).toArray,jh (aB NG x y).toArray,.bool ji])/\aW (λk=>w.heap.size<=k/\k<w'.heap.size) w' c q/\bL w' NG x y/\Fr w.heap.size x/\Fr w.heap.size y/\jk w w w')->P e w'):=O (by
  rw[F,E];exact λe w' h=>h)
 rw[<-F];obtain⟨x1,M,H,K,U7,f⟩:=dh w S VG.t;obtain⟨x2,M1,ax,Q,Vn,aa⟩:=dh x1 VC.Z VC.t;obtain⟨x3,M2,Zo,R,bc,a⟩:=dh x2 VG.Z VG.t;have e1:M1=M+1:=by rw[Q,H,jp,K]
 have e2:M2=M+2:=by rw[R,ax,jp,<-Q,e1]
 subst e1;subst e2;have U:=f.trans (aa.mono f.size);replace U7:=O (av (av U7 aa) a);replace Vn:=ae Vn a;have HB:N (jk w w x3):=O (U.trans (a.mono U.size));have HW:N (x3=((w.alloc (ja S VG.t)).alloc (ja VC.Z VC.t)).alloc (ja VG.Z VG.t)):=O (by rw[Zo,ax,H]);have HM:=O K;have ZI:N (x3.heap.size=M+3):=O (by rw[Zo,jp,<-R]);clear H ax Zo K Q R f aa a U i C D l E F j p hT t V X hE u z ba B
 go_enter func13,ntmps13
 go_upto_region 1 with(first|(refine VC.made I I (G ?_))|(refine VG.made I I (G ?_)))
 rw[show((w.alloc (ja S 41)).alloc (ja VC.Z VC.t)).alloc (ja VG.Z VG.t)=x3 from HW.symm]
 try simp only[jp]
 try rw[show w.heap.size+1+1=w.heap.size+2 from I]
 rw[<-HM];clear HW;obtain⟨V,a⟩:=J (v8 b);rw[<-a]at au⊢;clear a;have f:=bV x3;obtain⟨x4,hx⟩:=J x3.drew;rw[<-hx]at f;have bq:=O hx;replace U7:=ae U7 f;replace Vn:=ae Vn f;replace bc:=ae bc f;replace HB:=ah HB f;have br:N (M+3<=x4.heap.size):=O (by rw[<-ZI];exact f.size);clear hx f ZI;refine jL ?_;refine uo (λt=>t.heap[M]?=T (ja S VG.t (0,0))) [0,1,2,3,4,5,8] [(6,jn),(7,jn),(9,jn),(10,jn),(11,ji),(12,ji),(13,ji),(14,ji)] 15 16 (.o 17 (.o 18 (.t 19 .done))) (PO x4 M S d V pl nl cl KA K1 c s) af af af af af L (λ_ _ _ _ h=>h) (by rw[<-bq];exact U7) ?hI ?hT ?hC ?h1 ?h2 ?hE ?h0
 case hI=>
  rintro j U b2 a W ⟨WE,T12,T16,T23,T24,T26,T27,T28,T29,T30,rfl,l,-⟩;exact av U7 l
 case h1=>
  rintro j b2 a W ⟨WE,T12,T16,T23,T24,T26,T27,T28,T29,T30,rfl,l,E,F,H,R,z,B⟩;refine qb (o:=_) I (λX u=>?_);rw[jr aj];refine gM VC.t I VC.Z VC.hal ?_;have f:=ao W (ja VC.Z VC.t);refine u _ _ ⟨ptr W.heap.size,T12,T16,T23,T24,T26,T27,T28,T29,T30,I,l.trans (f.mono l.size),E,F,H,λe=>?_,⟨λ_=>⟨_,I,jy _ _,l.size⟩,λh=>(by cases h)⟩,B.keep f⟩;obtain⟨q,D,K,r,m⟩:=R e;exact⟨q,D,K,r.keep λg p=>f.block g (m g p).2.1,λg p=>⟨(m g p).1,jJ (m g p).2.1 f.size,(λe=>by injection e with e;injection e with e;injection e with e;have:=(m g p).2.1;omega),(m g p).2.2.2⟩⟩
 case h2=>
  rintro j U a W ⟨WE,T12,T16,T23,T24,T26,T27,T28,T29,T30,rfl,l,E,F,H,R,z,B⟩;refine qb (o:=_) I (λX u=>?_);rw[jr aj];refine gM VY.t I VY.Z VY.hal ?_;have f:=ao W (ja VY.Z VY.t);refine u _ _ ⟨WE,ptr W.heap.size,T16,T23,T24,T26,T27,T28,T29,T30,I,l.trans (f.mono l.size),E,F,H,λe=>?_,z.keep f,⟨λ_=>⟨_,I,jy _ _,l.size⟩,λh=>(by cases h)⟩⟩;obtain⟨q,D,K,r,m⟩:=R e;exact⟨q,D,K,r.keep λg p=>f.block g (m g p).2.1,λg p=>⟨(m g p).1,jJ (m g p).2.1 f.size,(m g p).2.2.1,(λe=>by injection e with e;injection e with e;injection e with e;have:=(m g p).2.1;omega)⟩⟩
 case h0=>
  rw[<-bq]
  (refine nH (v:=jh S) I aj (λt Q=>dc VG.hu VG.hd (by rw[bn];exact VG.hi) I I Q) ?_;refine G ?_)
  iterate 2 (refine nH (v:=jd je (d:jb)) I aj (λt Q=>by go_simp;try with_reducible rfl) ?_;refine G ?_)
  (refine nH (v:=jd je ((d:jb)+2)) I aj (λt Q=>by have e:=wrap_small ((d:jb)+2) Y Y;go_simp;try rw[e];try with_reducible rfl) ?_;refine G ?_)
  (refine nH (v:=A pl nl cl) I aj (λt Q=>by go_simp;try with_reducible rfl) ?_;refine G ?_)
  iterate 2 (refine nH (v:=V) I aj (λt Q=>by go_simp;try with_reducible rfl) ?_;refine G ?_)
  exact⟨jm,jm,jm,jm,jm,jm,jm,jm,jm,jm,I,qc _ _,λh=>ju h L,λh=>ju h L,λh=>ju h L,λh=>ju h L,⟨λh=>(by cases h),λ_=>rfl⟩,⟨λh=>(by cases h),λ_=>rfl⟩⟩
 case hT=>
  rintro j i C U b2 a W ⟨WE,T12,T16,T23,T24,T26,T27,T28,T29,T30,rfl,l,E,F,H,R,z,B⟩
  rcases j with _ |_ |_ |_ |_ |_ |_ |_ |j
  iterate 4 (·simp at C)
  ·obtain rfl:i=11:=ak C.symm
   obtain⟨q,D,K,r,m⟩:=R Y;refine⟨_,T27,I,.inl ⟨by rfl,λt Q=>.inl (by go_simp;try with_reducible rfl)⟩,?_⟩;exact⟨WE,T12,T27,T23,T24,T26,T27,T28,T29,T30,I,l,λ_=>E Y,λ_=>F Y,λ_=>H Y,λ_=>⟨q,D,⟨K.1,λ_=>rfl,(λh=>ju h Y),(λh=>ju h Y),(λh=>ju h Y)⟩,r,m⟩,z,B⟩
  ·obtain rfl:i=12:=ak C.symm
   obtain⟨q,D,⟨rfl,ad,ay,a2,a4⟩,r,m⟩:=R Y;obtain rfl:=ad Y;refine⟨_,jh (aE c q).toArray,I,.inl ⟨by rfl,λt Q=>.inl (by go_simp;try with_reducible rfl)⟩,?_⟩;exact⟨WE,T12,_,T23,T24,T26,_,_,T29,T30,I,l,λ_=>E Y,λ_=>F Y,λ_=>H Y,λ_=>⟨q,D,⟨I,λ_=>rfl,λ_=>rfl,(λh=>ju h Y),(λh=>ju h Y)⟩,r,m⟩,z,B⟩
  ·obtain rfl:i=13:=ak C.symm
   obtain⟨q,D,⟨rfl,ad,ay,a2,a4⟩,r,m⟩:=R Y;obtain rfl:=ad Y;refine⟨_,jh s,I,.inl ⟨by rfl,λt Q=>.inl (by go_simp;try with_reducible rfl)⟩,?_⟩;exact⟨WE,T12,_,T23,T24,T26,_,T28,_,T30,I,l,λ_=>E Y,λ_=>F Y,λ_=>H Y,λ_=>⟨q,D,⟨I,λ_=>rfl,λ_=>ay Y,λ_=>rfl,(λh=>ju h Y)⟩,r,m⟩,z,B⟩
  ·obtain rfl:i=14:=ak C.symm
   obtain⟨q,D,⟨rfl,ad,ay,a2,a4⟩,r,m⟩:=R Y;obtain rfl:=ad Y;refine⟨_,jd je 0,I,.inl ⟨by rfl,λt Q=>.inl (by go_simp;try with_reducible rfl)⟩,?_⟩;exact⟨WE,T12,_,T23,T24,T26,_,T28,T29,_,I,l,λ_=>E Y,λ_=>F Y,λ_=>H Y,λ_=>⟨q,D,⟨I,λ_=>rfl,λ_=>ay Y,λ_=>a2 Y,λ_=>rfl⟩,r,m⟩,z,B⟩
  simp at C
 case hC=>
  rintro j i C U b2 a W ⟨WE,T12,T16,T23,T24,T26,T27,T28,T29,T30,rfl,l,E,F,H,R,z,B⟩
  rcases j with _ |_ |_ |_ |_ |_ |_ |_ |j
  ·obtain rfl:i=6:=ak C.symm
   refine qb (o:=_) I (λX u=>?_);go_simp;refine(au W).mono ?_;rintro e t ⟨rfl,f⟩;exact u _ _ ⟨WE,T12,T16,_,T24,T26,T27,T28,T29,T30,I,l.trans (f.mono l.size),λ_=>rfl,(λh=>ju h Y),(λh=>ju h Y),λe=>ju e Y,z.keep f,B.keep f⟩
  ·obtain rfl:i=7:=ak C.symm
   refine qb (o:=_) I (λX u=>?_);go_simp;refine(bp W).mono ?_;rintro e t ⟨rfl,f⟩;exact u _ _ ⟨WE,T12,T16,_,_,T26,T27,T28,T29,T30,I,l.trans (f.mono l.size),λ_=>rfl,λ_=>rfl,(λh=>ju h Y),λe=>ju e Y,z.keep f,B.keep f⟩
  ·obtain rfl:i=9:=ak C.symm
   refine qb (o:=_) I (λX u=>?_);go_simp;refine(au W).mono ?_;rintro e t ⟨rfl,f⟩;exact u _ _ ⟨WE,T12,T16,_,_,_,T27,T28,T29,T30,I,l.trans (f.mono l.size),λ_=>rfl,λ_=>rfl,λ_=>rfl,λe=>ju e Y,z.keep f,B.keep f⟩
  ·obtain rfl:i=10:=ak C.symm
   obtain rfl:=E Y;obtain rfl:=F Y;obtain rfl:=H Y;refine qb (o:=_) I (λX u=>?_);go_simp;refine(bo W (HB.trans (l.mono HB.size))).mono ?_;rintro e t ⟨⟨q,rfl,r⟩,f⟩;exact u _ _ ⟨WE,T12,T16,_,_,_,_,T28,T29,T30,I,l.trans (f.mono l.size),λ_=>rfl,λ_=>rfl,λ_=>rfl,λ_=>⟨q,_,⟨I,(λh=>ju h Y),(λh=>ju h Y),(λh=>ju h Y),(λh=>ju h Y)⟩,r,λg p=>⟨jD l.size p.1,p.2,z.ne p.1,B.ne p.1⟩⟩,z.keep f,B.keep f⟩
  iterate 5 (·simp at C)
 rintro a W ⟨WE,T12,T16,T23,T24,T26,T27,T28,T29,T30,rfl,l,E,F,H,R,z,B⟩;obtain⟨q,D,⟨rfl,ad,ay,a2,a4⟩,r,m⟩:=R L;obtain rfl:=ad L;obtain rfl:=ay L;obtain rfl:=a2 L;obtain rfl:=a4 L;obtain rfl:=E L;obtain rfl:=F L;obtain rfl:=H L;obtain⟨C,rfl,hC,bi⟩:=z.1 I;obtain⟨K,rfl,u,bs⟩:=B.1 I;have bk:C≠K:=by
  rintro rfl;rw[hC]at u;simp[VC,VY]at u
 have bd:w.heap.size<=x4.heap.size:=HB.size;have bl:=br.out;obtain⟨i,j⟩:=J ((aE c q).toArray);have a1:N (i.size=VC.n):=O (by rw[j,jv];exact dl _ _ r.plen r.clen);have bu:N (i.all (·.oneCell')=ji):=O (by
  rw[j,jR];exact λa3 hu=>mC r a3 (ak hu))
 have UK:=O (jT W C _ i _ _ hC);have bv:=(js W C K i (Ne.symm bk)).trans u;have UH:=O ((js (W.setRow C i) K C s bk).trans UK);have bf:∀k,k<x4.heap.size->((W.setRow C i).setRow K s).heap[k]?=x4.heap[k]?:=λk n=>(js _ K k s Y).trans ((js W C k i Y).trans (l.block k n))
 have bg:N (((W.setRow C i).setRow K s).heap[M]?=T (ja S VG.t (0,0))):=O ((bf M Y).trans U7);have a5:N (((W.setRow C i).setRow K s).heap[M+1]?=T (ja VC.Z VC.t (0,0))):=O ((bf (M+1) Y).trans Vn);have a6:N (((W.setRow C i).setRow K s).heap[M+2]?=T (ja VG.Z VG.t (0,0))):=O ((bf (M+2) Y).trans bc);have Ur:N (jk w w ((W.setRow C i).setRow K s)):=O (ob (ob (HB.trans (l.mono bd)) (jD bd bi) i) (jD bd bs) s);have bm:((W.setRow C i).setRow K s).heap.size=W.heap.size:=by rw[setRow_size,setRow_size]
 have bh:N (aW (λk=>x4.heap.size<=k/\k<((W.setRow C i).setRow K s).heap.size) ((W.setRow C i).setRow K s) c q):=O ((r.keep λg p=>(js _ K g s (λe=>(m g p).2.2.2 (by rw[e]))).trans (js W C g i (λe=>(m g p).2.2.1 (by rw[e])))).mono λg p=>⟨(m g p).1,by rw[bm];exact(m g p).2.1⟩);have Vq:N (C<((W.setRow C i).setRow K s).heap.size):=O (by rw[bm];exact(jA.1 hC).1);have bw:=O j;rw[<-j];refine aF I (λX U=>?_);rw[jr aj];refine jQ VC.t _ _ I C i I I VC.t VC.Z hC (by rw[a1];exact VC.hi) (VC.hZ.trans a1.symm) bu ?_;refine U _ _ ((js W C M i Y).trans ((l.block M Y).trans U7)) λ_=>?_
 clear U;refine G ?_;refine aF I (λX U=>?_);rw[jr aj];refine jQ VY.t _ _ I K s I I VY.t VY.Z bv (by rw[bb.1];exact VY.hi) (VY.hZ.trans bb.1.symm) bb.2 ?_;refine U _ _ bg.out λ_=>?_
 clear U;refine G ?_;have UN:=O bi;generalize(W.setRow C i).setRow K s=y1 at UH bg a5 a6 Ur bh Vq⊢;clear hC u bi bs l E F H R ad ay a2 a4 z B r m bk j bv bf bm UK U7 Vn bc bo au bp bb bd bl;refine aO ?_;refine ow ?_
 go_wp2_with (first|(refine VG.loadA aj I I S bn bg (G ?_))|(refine VC.loadA aj I I i a1 UH (G ?_)))
 have au:=bA y1 q Ur (bh.mono λk n=>n.2);rw[<-bw]at au;refine au.mono ?_;rintro e y2 ⟨⟨x,y,rfl,Z5,bb,bc⟩,f⟩;obtain⟨j,p⟩:=J ((aB NG x y).toArray);have Z2:N (j.size=VG.n):=O (by rw[p,jv];exact eH Z5.llen);have Vv:N (j.all (·.oneCell')=ji):=O (by rw[p,jR];exact λa3 hu=>mc Z5 a3 (ak hu));have bm:=O p;have bi:=O (dz.of Z5 bb bc);have bk:N (aW (λk=>x4.heap.size<=k/\k<y2.heap.size) y2 c q):=O ((bh.keep λk n=>f.block k n.2).mono λk n=>⟨n.1,jJ n.2 f.size⟩);have HF:N (Fr y1.heap.size x/\Fr y1.heap.size y):=O ⟨bb,bc⟩;replace UH:=ae UH f;replace a5:=ae a5 f;replace a6:=ae a6 f;have Ut:=ah Ur f;have bd:N (x4.heap.size<=y1.heap.size/\y1.heap.size<=y2.heap.size):=O ⟨by have:=Vq.out;have:=UN.out;omega,f.size⟩;rw[<-p];clear au Z5 bb bc p f bg Ur bh
 go_upto_region 3 with(first|(refine VG.made I I (G ?_))|(refine VG.first I I I j I Z2 Vv (G ?_)))
 obtain⟨y3,bx,hx,hb,WC,f⟩:=dh y2 j VG.t;rw[<-hx,<-hb];have aa:=bV y3;obtain⟨p,bb⟩:=J y3.drew;rw[<-bb]at aa;have au:jk y2 y2 p:=f.trans (aa.mono f.size);have bc:=av WC aa;have bf:=av UH au;have ax:=av a5 au;have Zo:=av a6 au;refine jL ?_;refine fP (λt=>t.heap[C]?=T (ja i VC.t (0,0))/\t.heap[bx]?=T (ja j VG.t (0,0))) 10 (.t 0 (.t 1 (.t 2 (.t 3 (.t 4 (.t 5 (.t 6 (.t 7 (.o 8 (.o 9 (.o 10 .done))))))))))) af af af af L (λ_ _ _ _ h=>h) (by rw[<-bb];exact⟨bf,bc⟩) ?_;rw[<-bb];have bg:bx=y2.heap.size:=hb;have bh:N (aW (λk=>x4.heap.size<=k/\k<y2.heap.size) p c q):=O (bk.keep λk n=>au.block k n.2);have bo:N (dz (λk=>y1.heap.size<=k/\k<y2.heap.size) p NG x y):=O (bi.keep λk n=>au.block k n.2);have UA:=ah Ut au;have WQ:=O au.size;clear hx hb f aa bb au WC bk bi Ut UH a5 a6
 (refine cJ (v:=jh i) I aj (λt Q=>dc VC.hu VC.hd (by rw[a1];exact VC.hi) I I Q.1) ?_;refine G ?_)
 (refine cJ (v:=jh j) I aj (λt Q=>dc VG.hu VG.hd (by rw[Z2];exact VG.hi) I I Q.2) ?_;refine G ?_)
 iterate 6 refine co ?_
 have bl:=br.out;have VB:=UN.out;have ba:=Vq.out;have a6:=bd.1;have Q:C≠M+1:=Y;have n2:C≠M+2:=Y;have n3:bx≠M+1:=by have:=bd.2;omega
 have n4:bx≠M+2:=by have:=bd.2;omega
 have r1:=(js p (M+1) C i Q).trans bf;have r2:=(js p (M+1) bx i n3).trans bc;have r3:=jT p (M+1) _ i _ _ ax;have h:=(js p (M+1) (M+2) i Y).trans Zo;refine cV I (λX U=>?_);rw[jr aj];refine jQ VC.t _ _ I (M+1) i I I VC.t VC.Z ax (by rw[a1];exact VC.hi) (VC.hZ.trans a1.symm) bu ?_;refine U _ _ ⟨r1,r2⟩ λ_=>?_
 clear U;refine G ?_;have s1:=(js (p.setRow (M+1) i) (M+2) C j n2).trans r1;have s2:=(js (p.setRow (M+1) i) (M+2) bx j n4).trans r2;have Vi:=O ((js (p.setRow (M+1) i) (M+2) (M+1) j Y).trans r3);have UO:=O (jT (p.setRow (M+1) i) (M+2) _ j _ _ h);refine cV I (λX U=>?_);rw[jr aj];refine jQ VG.t _ _ I (M+2) j I I VG.t VG.Z h (by rw[Z2];exact VG.hi) (VG.hZ.trans Z2.symm) Vv ?_;refine U _ _ ⟨s1,s2⟩ λ_=>?_
 clear U;refine G ?_;refine nC I L af (λX u=>?_);go_simp;refine u _ _ ?_;clear u;refine G ?_;refine fc ?_;have t:∀k,M+3<=k->((p.setRow (M+1) i).setRow (M+2) j).heap[k]?=p.heap[k]?:=λk n=>(js _ _ k _ Y).trans (js _ _ k _ Y)
 have bb:w.heap.size=M:=HM.symm;have U:N (jk w w ((p.setRow (M+1) i).setRow (M+2) j)):=O (ob (ob UA Y i) Y j);have X:((p.setRow (M+1) i).setRow (M+2) j).heap.size=p.heap.size:=by rw[setRow_size,setRow_size]
 have aa:N (aW (λk=>w.heap.size<=k/\k<((p.setRow (M+1) i).setRow (M+2) j).heap.size) ((p.setRow (M+1) i).setRow (M+2) j) c q):=O ((bh.keep λk n=>t k (cT n.1)).mono λk n=>⟨by have:=n.1;omega,by rw[X];exact jJ n.2 WQ⟩);have au:N (bL ((p.setRow (M+1) i).setRow (M+2) j) NG x y):=O (bo.keep λk n=>t k (cT n.1)).grp;have a5:N (Fr w.heap.size x/\Fr w.heap.size y):=O ⟨HF.1.mono Y,HF.2.mono Y⟩;clear t bb X s1 s2 r1 r2 r3 h Q n2 n3 n4 bf bc ax Zo bl VB ba a6 bg;generalize(p.setRow (M+1) i).setRow (M+2) j=h at Vi UO U aa au⊢;refine‹∀(a:Act) (w:jj),Code.wp jo Code.ret (bodyPost jo _ P) a w->_› _ _ ?_;refine wp_ret ?_;show bodyPost _ _ P .ret _ _;refine qj (FW I _ _ (M+1) (M+2) VC.t VG.t i j (0,0) (0,0) _ _ I I Vi UO pz I (by rw[a1];exact VC.hi) qQ I (by rw[Z2];exact VG.hi)) I (HP _ _ ⟨q,x,y,by rw[bw,bm];rfl,aa,au,a5.1,a5.2,U⟩)
theorem CX(x y:jb):cC x y<0↔x<y:=by
 unfold cC
 split
 ·constructor<;>intro<;>first|assumption|decide
 split
 ·constructor
  ·intro h;exact ju h L
  intro h;omega
 constructor
 ·intro h;exact ju h L
 intro h;omega
theorem Bs(x y:jb):cC x y=0↔x=y:=by
 unfold cC
 split
 ·constructor
  ·intro h;exact ju h L
  intro h;omega
 split
 ·constructor
  ·intro h;exact ju h L
  intro h;omega
 constructor
 ·intro h;omega
 intro h;rfl
theorem KN{b:aM}(h:x.com.author≠b.com.author):(kQ x b<0↔x.since<b.since\/x.since=b.since/\x.com.author<b.com.author):=by
 unfold kQ
 by_cases d:x.since=b.since
 ·rw[jE (by rw[(Bs _ _).2 d];exact λh=>h I),jr (λe=>h ((Bs _ _).1 e)),CX]
  constructor
  ·exact λc=>.inr ⟨d,c⟩
  rintro(c|c)
  ·omega
  exact c.2
 rw[jr (λe=>d ((Bs _ _).1 e)),CX]
 constructor
 ·exact .inl
 rintro(c|c)
 ·exact c
 exact ju c.1 d
def wN(g:Grp)(a b:Cmt):Prop:=eV g a.author<eV g b.author\/eV g a.author=eV g b.author/\a.author<b.author
noncomputable def cO(g:Grp)(c:Cmt)(i:jc):aM:=⟨i,c,aH c,eV g c.author,aC g c⟩
theorem Ni(x y:aM):[x,y].mergeSort leC=if leC x y=ji then [x,y]else [y,x]:=by
 cases h:leC x y with
 |true=>simp[xd,List.MergeSort.Internal.splitInTwo,List.merge,h]
 |false=>simp[xd,List.MergeSort.Internal.splitInTwo,List.merge,h]
theorem JO{y:aM}(h:x.com.author≠y.com.author)(a:oY x.com y.com.author=ji):([x,y].foldl gz ([],jf)).2=T x:=by
 have b:gz ([],jf) x=([x],T x):=by
  unfold gz;rw[jE (by unfold rN;rw[List.any_nil];decide)];unfold wj;rw[jr I];rfl
 have c:gz ([x],T x) y=([x],T x):=by
  unfold gz;rw[jr];unfold rN;rw[List.any_cons,a,bne_iff_ne.2 h];rfl
 rw[rv,rv,r4,b,c]
noncomputable def tO(l:jg Cmt)(S:jg aM)(k:jc):jg aM:=match S[k]? with|none=>S|some c=>S++fg c.leads l
noncomputable def eC(l:jg Cmt)(c:aM):jc->jg aM
 |0=>[c]
 |k+1=>tO l (eC l c k) k
noncomputable def sJ(l:jg Cmt)(c:aM):jg aM:=eC l c l.length
theorem GG(h:S.length<=b):tO d S b=S:=by
 unfold tO;rw[List.getElem?_eq_none h]
theorem pZ{l:jg Cmt}{k:jc}{c:aM}(h:S[k]?=T c):tO l S k=S++fg c.leads l:=by
 unfold tO;rw[h]
structure fh(l:jg Cmt)(g:Grp)(c:aM):Prop where
 ok:fO g l c
 par:c.com.parent=g.last
 least:∀j,j<c.ix->aH (aQ l j)≠c.id
theorem fh.ofU(h:x∈eR e d):fh d e x:=by
 obtain⟨a,b,-,l⟩:=oy h;exact⟨a,b,l⟩
theorem fh.com{g':Grp}{l:aM}(h:fh d e x)(b:fh d g' l)(g:x.id=l.id):x.com=l.com:=by
 have f:x.ix=l.ix:=by
  rcases xe x.ix l.ix with a|a|a
  ·exact ju (by rw[<-h.ok.com,<-h.ok.id];exact g) (b.least _ a)
  ·exact a
  exact ju (by rw[<-b.ok.com,<-b.ok.id];exact g.symm) (h.least _ a)
 rw[h.ok.com,b.ok.com,f]
theorem fh.last{l:jg Cmt}{g:Grp}{c:aM}(h:fh l g c):c.leads.last=c.id:=by rw[h.ok.leads,vV,h.ok.id]
theorem fh.epoch(h:fh d e x):x.leads.epoch=e.epoch+1/\x.com.epoch=e.epoch+1:=by
 have a:=(nS h.ok).ep;exact⟨by rw[h.ok.leads,ig];exact a,a⟩
theorem KZ(g:Grp)(l:jg Cmt):((eR g l).map aM.id).Nodup:=by
 unfold eR;have n:(bW l l.length).Nodup:=by
  unfold bW;exact(List.nodup_range).filter _
 have key:∀(a:jg jc),a.Nodup->(∀i∈a,i∈bW l l.length)->((a.filterMap (eW g l)).map aM.id).Nodup:=by
  intro a
  induction a with
  |nil=>intro _ _;rw[qK,jZ];exact List.nodup_nil
  |cons i a o=>
   intro f h;rw[xf]at f;have k:=o f.2 λj e=>h j (qw _ e)
   rw[jS]
   cases hc:eW g l i with
   |none=>exact k
   |some c=>
    dsimp only;rw[j1,xf];refine⟨λp=>?_,k⟩;obtain⟨d,q,he⟩:=qd.1 p;obtain⟨j,e,r⟩:=List.mem_filterMap.1 q;obtain⟨y,s,t,-⟩:=tQ hc;obtain⟨z,u,v,-⟩:=tQ r;have w:=(oS.1 (h i (qv ..))).2;have x:=(oS.1 (h j (qw _ e))).2;have m:aH (aQ l j)=aH (aQ l i):=by rw[<-u,<-v,<-s,<-t];exact he
    rcases xe i j with b|b|b
    ·exact x i b m.symm
    ·exact f.1 (b▸e)
    exact w j b m
 exact key _ n λi b=>b
theorem Qj(g:Grp)(l:jg Cmt):((fg g l).map aM.id).Nodup:=((List.mergeSort_perm (eR g l) leC).map aM.id).nodup_iff.2 (KZ g l)
structure tG(l:jg Cmt)(a:Grp)(b:aM)(S:jg aM)(k:jc):Prop where
 head:S[0]?=T b
 par:∀i c,S[i]?=T c->0<i->∃n x,n<k/\n<i/\S[n]?=T x/\fh l x.leads c
 all:∀n x,n<k->S[n]?=T x->∀c∈eR x.leads l,c∈S
 ids:(S.map aM.id).Nodup
 ep:∀c∈S,a.epoch+1<=c.leads.epoch
theorem tG.at{l:jg Cmt}{b:Grp}{d:aM}{k:jc}(h:tG l b d S k)(e:fh l b d){i:jc}{c:aM}(a:S[i]?=T c):∃g,fh l g c/\(i=0->g=b):=by
 rcases i with _|i
 ·rw[h.head]at a
  injection a with a
  exact⟨b,by rw[<-a];exact e,λ_=>rfl⟩
 obtain⟨n,x,-,-,-,f⟩:=h.par _ c a (qW i);exact⟨_,f,λh=>ju h (Nat.succ_ne_zero i)⟩
theorem Qy(h:(S.map aM.id).Nodup){i j:jc}{c d:aM}(a:S[i]?=T c)(b:S[j]?=T d)(e:c.id=d.id):i=j:=by
 have f:(S.map aM.id)[i]?=T c.id:=by rw[qT,a];rfl
 have g:(S.map aM.id)[j]?=T c.id:=by rw[qT,b,Option.map_some,e]
 obtain⟨m,k⟩:=jU.1 f;obtain⟨n,l⟩:=jU.1 g;exact(List.getElem_inj h).1 (k.trans l.symm)
theorem BI(p:fh d e x):∀k,tG d e x (eC d x k) k
 |0=>by
  rw[eC];refine⟨by simp,?_,λn s t=>ju t (xg n),by simp,?_⟩
  ·intro i c h f
   cases i with
   |zero=>exact ju f (rn 0)
   |succ i=>simp at h
  intro c h;rw[jO]at h;rw[h,(p.epoch).1];omega
 |k+1=>by
  have h:=BI p k;rw[eC];generalize eC d x k=S at h⊢
  cases hx:S[k]? with
  |none=>
   have a:=List.getElem?_eq_none_iff.1 hx;rw[GG a];refine⟨h.head,?_,?_,h.ids,h.ep⟩
   ·intro i c f q
    obtain⟨n,s,j,r⟩:=h.par i c f q;exact⟨n,s,by omega,r⟩
   intro n s t b c o;have:=(jU.1 b).1;exact h.all n s Y b c o
  |some s=>
   rw[pZ hx];have w:=(jU.1 hx).1;obtain⟨R,D,-⟩:=h.at p hx;refine⟨by rw[qa Y];exact h.head,?_,?_,?_,?_⟩
   ·intro i c f q
    by_cases a:i<S.length
    ·rw[qa a]at f
     obtain⟨n,y,j,r,z,b⟩:=h.par i c f q;exact⟨n,y,by omega,r,by rw[qa Y];exact z,b⟩
    rw[List.getElem?_append_right Y]at f;exact⟨k,s,Nat.lt_succ_self k,by omega,by rw[qa w];exact hx,fh.ofU (sE.1 (j3 f))⟩
   ·intro n y t m c o
    by_cases a:n=k
    ·rw[a,qa w,hx]at m
     injection m with m
     rw[<-m]at o;exact wq _ (sE.2 o)
    have b:n<k:=Y;rw[qa Y]at m;exact vi _ (h.all n y b m c o)
   ·rw[mz,List.nodup_append]
    refine⟨h.ids,Qj _ _,?_⟩;intro a E b F v;obtain⟨c,H,rfl⟩:=qd.1 E;obtain⟨l,K,rfl⟩:=qd.1 F;have u:=fh.ofU (sE.1 K);obtain⟨i,f⟩:=xh.1 H;obtain⟨g,B,M⟩:=h.at p f;have C:=B.com u v
    by_cases q:i=0
    ·have P:=M q
     subst P;have j:=B.epoch.2;rw[C,u.epoch.2]at j;have r:=h.ep s (j3 hx);omega
    obtain⟨n,y,t,-,m,P⟩:=h.par i c f Y;obtain⟨U,Q,-⟩:=h.at p m;have j:y.id=s.id:=by rw[<-Q.last,<-D.last,<-P.par,<-u.par,C]
    have:=Qy h.ids m hx j;omega
   intro c o
   rcases oj.1 o with j|j
   ·exact h.ep c j
   have r:=(fh.ofU (sE.1 j)).epoch.1;have z:=h.ep s (j3 hx);omega
theorem Q4(h:(S.map aM.id).Nodup)(f:∀c∈S,∃g,fh d g c):S.length<=d.length:=by
 have j:(S.map aM.ix).Nodup:=by
  refine xi.2 ?_;refine List.Pairwise.imp_of_mem ?_ (xi.1 h);intro a b k m n e;obtain⟨o,l⟩:=f a k;obtain⟨gb,i⟩:=f b m;exact n (by rw[l.ok.id,i.ok.id,l.ok.com,i.ok.com,e])
 have b:S.map aM.ix⊆List.range d.length:=by
  intro i a;obtain⟨c,e,rfl⟩:=qd.1 a;obtain⟨g,l⟩:=f c e;exact List.mem_range.2 l.ok.lt
 have a:=List.Nodup.length_le_of_subset j b;rw[jw,List.length_range]at a;exact a
theorem tG.len(h:tG d e x S b)(l:fh d e x):S.length<=d.length:=by
 refine Q4 h.ids λc a=>?_
 obtain⟨i,f⟩:=xh.1 a;obtain⟨g,j,-⟩:=h.at l f;exact⟨g,j⟩
theorem Gm(h:(eC d x b).length<=b):∀m,b<=m->eC d x m=eC d x b
 |0,k=>by
  obtain rfl:b=0:=Y
  rfl
 |m+1,k=>by
  by_cases e:b=m+1
  ·rw[e]
  have c:=Gm h m Y;rw[eC,c,GG Y]
theorem Nm(l:fh d e x){k:jc}(h:(eC d x k).length<=k)(c:k<=d.length):sJ d x=eC d x k:=Gm h _ c
section
theorem mf{g:Grp}{l:jg Cmt}{i:jc}(h:cN g (aQ l i)≠0):eW g l i=jf:=by
 unfold eW;rw[jE λe=>h e.2]
theorem zO{g:Grp}{l:jg Cmt}{i:jc}{c:Cmt}(e:aQ l i=c)(h:cN g c=0):eW g l i=T (cO g c i):=by
 unfold eW cO;rw[e,jr ⟨(fQ.1 h).par,h⟩]
theorem mj{g:Grp}{c:Cmt}(h:c.epoch≠g.epoch+1):cN g c≠0:=λe=>h (fQ.1 e).ep
theorem wE{a b c d:Cmt}(k:aH a≠aH b)(l:aH a≠aH c)(m:aH a≠aH d)(n:aH b≠aH c)(o:aH b≠aH d)(p:aH c≠aH d):bW [a,b,c,d] 4=[0,1,2,3]:=by
 have q:bW [a,b,c,d] 0=[]:=I;have f:aQ [a,b,c,d] 0=a:=I;have g:aQ [a,b,c,d] 1=b:=I;have h:aQ [a,b,c,d] 2=c:=I;have i:aQ [a,b,c,d] 3=d:=I;have r:∀j,j<1->aH (aQ [a,b,c,d] j)≠aH (aQ [a,b,c,d] 1):=λj e=>by
  obtain rfl:j=0:=Y;rw[f,g];exact k
 have s:∀j,j<2->aH (aQ [a,b,c,d] j)≠aH (aQ [a,b,c,d] 2):=λj e=>by
  rcases(by omega:j=0\/j=1)with rfl|rfl
  ·rw[f,h];exact l
  rw[g,h];exact n
 have t:∀j,j<3->aH (aQ [a,b,c,d] j)≠aH (aQ [a,b,c,d] 3):=λj e=>by
  rcases(by omega:j=0\/j=1\/j=2)with rfl|rfl|rfl
  ·rw[f,i];exact m
  ·rw[g,i];exact o
  rw[h,i];exact p
 rw[oX,jr t,oX,jr s,oX,jr r,oX,jr (λj e=>ju e (xg j)),q]
 rfl
structure dX(fol:jb)(y s o f:Cmt):Prop where
 ys:aH y≠aH s
 yo:aH y≠aH o
 yf:aH y≠aH f
 so:aH s≠aH o
 sf:aH s≠aH f
 of:aH o≠aH f
 hf:cN (aI fol) f=0
 hs:cN (aC (aI fol) f) s=0
 hy:cN (aC (aC (aI fol) f) s) y=0
 ho:cN (aC (aC (aI fol) f) s) o=0
 auth:o.author≠y.author
 ahead:wN (aC (aC (aI fol) f) s) o y
 ro:oY o y.author=ji
section
variable {fol:jb} {y s o f:Cmt}
theorem dX.eps(h:dX fol y s o f):f.epoch=1/\s.epoch=2/\y.epoch=3/\o.epoch=3:=by
 have d:f.epoch=(aI fol).epoch+1:=(fQ.1 h.hf).ep;have a:=(fQ.1 h.hs).ep;have b:=(fQ.1 h.hy).ep;have c:=(fQ.1 h.ho).ep;rw[ig]at a b c;have e:(aI fol).epoch=0:=I;exact⟨by omega,by omega,by omega,by omega⟩
theorem dX.first(h:dX fol y s o f):eS fol (aH f) [y,s,o,f]=T ⟨3,f,aH f,0,aC (aI fol) f⟩:=by
 have b:aQ [y,s,o,f] 0=y:=I;have c:aQ [y,s,o,f] 1=s:=I;have d:aQ [y,s,o,f] 2=o:=I;have a:aQ [y,s,o,f] 3=f:=I;unfold eS;rw[show [y,s,o,f].length=4 from I,wE h.ys h.yo h.yf h.so h.sf h.of,
  r5 (by rw[b,decide_eq_true_eq];exact h.yf),r5 (by rw[c,decide_eq_true_eq];exact h.sf),
  r5 (by rw[d,decide_eq_true_eq];exact h.of),List.find?_cons_of_pos (by rw[a,decide_eq_true_eq]),Option.bind_some,a,jr h.hf]
theorem dX.cand1(h:dX fol y s o f):eR (aC (aI fol) f) [y,s,o,f]=[cO (aC (aI fol) f) s 1]:=by
 obtain⟨e,g,i,j⟩:=h.eps;have a:cN (aC (aI fol) f) (aQ [y,s,o,f] 0)≠0:=mj (c:=y) (by rw[ig];omega);have b:cN (aC (aI fol) f) (aQ [y,s,o,f] 2)≠0:=mj (c:=o) (by rw[ig];omega);have d:cN (aC (aI fol) f) (aQ [y,s,o,f] 3)≠0:=mj (c:=f) (by rw[ig];omega);unfold eR;rw[show [y,s,o,f].length=4 from I,wE h.ys h.yo h.yf h.so h.sf h.of,jS,mf a,jS,zO (c:=s) I h.hs,jS,mf b,
  jS,mf d,qK]
theorem dX.cand2(h:dX fol y s o f):eR (aC (aC (aI fol) f) s) [y,s,o,f]=[cO (aC (aC (aI fol) f) s) y 0,cO (aC (aC (aI fol) f) s) o 2]:=by
 obtain⟨d,e,g,i⟩:=h.eps;have a:cN (aC (aC (aI fol) f) s) (aQ [y,s,o,f] 1)≠0:=mj (c:=s) (by rw[ig];omega);have b:cN (aC (aC (aI fol) f) s) (aQ [y,s,o,f] 3)≠0:=mj (c:=f) (by rw[ig];omega);unfold eR;rw[show [y,s,o,f].length=4 from I,wE h.ys h.yo h.yf h.so h.sf h.of,jS,zO (c:=y) I h.hy,jS,mf a,jS,zO (c:=o) I h.ho,
  jS,mf b,qK]
theorem dX.cand3(h:dX fol y s o f){g:Grp}(i:g.epoch=3):eR g [y,s,o,f]=[]:=by
 obtain⟨j,k,l,m⟩:=h.eps;have a:cN g (aQ [y,s,o,f] 0)≠0:=mj (c:=y) Y;have b:cN g (aQ [y,s,o,f] 1)≠0:=mj (c:=s) Y;have d:cN g (aQ [y,s,o,f] 2)≠0:=mj (c:=o) Y;have e:cN g (aQ [y,s,o,f] 3)≠0:=mj (c:=f) Y;unfold eR;rw[show [y,s,o,f].length=4 from I,wE h.ys h.yo h.yf h.so h.sf h.of,jS,mf a,jS,mf b,jS,mf d,
  jS,mf e,qK]
theorem dX.list2(h:dX fol y s o f):fg (aC (aC (aI fol) f) s) [y,s,o,f]=[cO (aC (aC (aI fol) f) s) o 2,cO (aC (aC (aI fol) f) s) y 0]:=by
 have a:(kQ (cO (aC (aC (aI fol) f) s) o 2) (cO (aC (aC (aI fol) f) s) y 0)<0)↔wN (aC (aC (aI fol) f) s) o y:=by
  rw[KN (by unfold cO;exact h.auth)];unfold cO wN;exact Iff.rfl
 unfold fg;rw[h.cand2,Ni,jE];unfold leC;rw[qP (a.2 h.ahead)]
 decide
theorem dX.win1(h:dX fol y s o f):dH (aC (aI fol) f) [y,s,o,f]=T (cO (aC (aI fol) f) s 1):=by
 unfold dH fg;rw[h.cand1,xj,rv,r4];unfold gz;rw[jE (by unfold rN;rw[List.any_nil];decide)];unfold wj;rw[jr I]
theorem dX.win2(h:dX fol y s o f):dH (aC (aC (aI fol) f) s) [y,s,o,f]=T (cO (aC (aC (aI fol) f) s) o 2):=by
 unfold dH;rw[h.list2];exact JO (x:=cO (aC (aC (aI fol) f) s) o 2) (y:=cO (aC (aC (aI fol) f) s) y 0) h.auth h.ro
theorem dX.win3(h:dX fol y s o f){g:Grp}(a:g.epoch=3):dH g [y,s,o,f]=jf:=by
 unfold dH fg;rw[h.cand3 a,xk,r4]
theorem rI(g:Grp)(c:Cmt)(i:jc):(cO g c i).leads=aC g c:=by unfold cO;dsimp only
theorem dX.chain(h:dX fol y s o f):dA fol (aH f) [y,s,o,f]=[⟨3,f,aH f,0,aC (aI fol) f⟩,cO (aC (aI fol) f) s 1,cO (aC (aC (aI fol) f) s) o 2]:=by
 obtain⟨c,d,e,a⟩:=h.eps;have b:(cO (aC (aC (aI fol) f) s) o 2).leads.epoch=3:=by rw[rI,ig];exact a
 rw[pQ,h.first];dsimp only;rw[nG];dsimp only;rw[h.win1];dsimp only;rw[nG,rI,h.win2];dsimp only;rw[nG,h.win3 b]
theorem dX.all(h:dX fol y s o f):sJ [y,s,o,f] ⟨3,f,aH f,0,aC (aI fol) f⟩=[⟨3,f,aH f,0,aC (aI fol) f⟩,cO (aC (aI fol) f) s 1,cO (aC (aC (aI fol) f) s) o 2,cO (aC (aC (aI fol) f) s) y 0]:=by
 obtain⟨j,l,b,d⟩:=h.eps;have e:fg (aC (aI fol) f) [y,s,o,f]=[cO (aC (aI fol) f) s 1]:=by unfold fg;rw[h.cand1,xj]
 have a:∀g:Grp,g.epoch=3->fg g [y,s,o,f]=[]:=λg i=>by unfold fg;rw[h.cand3 i,xk]
 have s1:eC [y,s,o,f] ⟨3,f,aH f,0,aC (aI fol) f⟩ 1=[⟨3,f,aH f,0,aC (aI fol) f⟩,cO (aC (aI fol) f) s 1]:=by
  rw[eC,eC,pZ (c:=⟨3,f,aH f,0,aC (aI fol) f⟩) I];dsimp only;rw[e];rfl
 have s2:eC [y,s,o,f] ⟨3,f,aH f,0,aC (aI fol) f⟩ 2=[⟨3,f,aH f,0,aC (aI fol) f⟩,cO (aC (aI fol) f) s 1,cO (aC (aC (aI fol) f) s) o 2,cO (aC (aC (aI fol) f) s) y 0]:=by
  rw[eC,s1,pZ (c:=cO (aC (aI fol) f) s 1) I,rI,h.list2];rfl
 unfold sJ;show eC _ _ 4=_;rw[eC,eC,s2,pZ (k:=2) (c:=cO (aC (aC (aI fol) f) s) o 2) I,a _ (by rw[rI,ig];exact d),qF,
  pZ (k:=3) (c:=cO (aC (aC (aI fol) f) s) y 0) rfl,a _ (by rw[rI,ig];exact b),qF]
end
end
theorem Oz:bP 4:=by
 refine⟨by decide,by decide,?_⟩;rw[<-wu _ QN 62 L]
 decide+kernel
theorem SU:bP 16:=by
 refine⟨by decide,by decide,?_⟩;rw[<-wu _ QN 62 L]
 decide+kernel
theorem Ny(d:0<=a)(b:a<512)(x:jb):lD (512+a) x=decide (x∈(512+a)::bU a):=by
 by_cases h:x∈(512+a)::bU a
 ·rw[qP h,ue ((pf a d b x).1 h)]
 rw[decide_eq_false h,En (λc=>h ((pf a d b x).2 c))]
def kW(t:jg (jb×jb))(d:jb):jg (jb×jb):=t.filter λe=> !decide (e.1∈(512+d)::bU d)
theorem za(d:0<=a)(b:a<512)(t:jg (jb×jb)):dL t a=kW t a:=by
 unfold dL kW;refine List.filter_congr λe _=>?_
 rw[Ny d b]
def uZ(b:jg (jb×jb))(d:jb)(l:jg jb):jc->jg (jb×jb)
 |0=>b
 |k+1=>eo ((512+d)/2^k,l.getD k 0) (uZ b d l k)
theorem D8(t:jg (jb×jb))(d:jb)(l:jg jb):∀k,eI t d l k=uZ (dL t d) d l k
 |0=>rfl
 |k+1=>by unfold eI uZ;rw[D8 t d l k]
def pT:jg (jb×jb)->jC
 |[]=>ji
 |[_]=>ji
 |x::y::r=>decide (x.1<y.1)&&pT (y::r)
theorem Hz:∀{t:jg (jb×jb)} {x:jb×jb},pT (x::t)=ji->∀e∈t,x.1<e.1
 |[],x,_,e,he=>by cases he
 |y::r,x,h,e,he=>by
  simp only[pT,nv,decide_eq_true_eq]at h
  rcases List.mem_cons.1 he with rfl|he
  ·exact h.1
  have:=Hz h.2 e he;omega
theorem GJ:∀{t:jg (jb×jb)},pT t=ji->Str t
 |[],_=>List.Pairwise.nil
 |[x],_=>List.pairwise_singleton _ _
 |x::y::r,h=>by
  refine sx.2 ⟨Hz h,GJ ?_⟩;simp only[pT,nv]at h;exact h.2
def Et(t:jg (jb×jb)):jC:=
 pT t&&t.all λe=>decide (1<=e.1)&&decide (e.1<=1023)&&(decide (e.2=4)||decide (e.2=16))&&t.any λf=>decide (512<=f.1)&&decide (f.1<=1023)&&decide (e.1∈f.1::bU (f.1-512))
theorem Qq(h:Et t=ji):fX t:=by
 unfold Et at h;simp only[nv,wx,List.any_eq_true,decide_eq_true_eq,xa]at h;refine⟨GJ h.1,λe he=>?_⟩;obtain⟨⟨⟨b,c⟩,a⟩,f,d,⟨g,j⟩,i⟩:=h.2 e he;refine⟨b,c,?_,f,d,g,?_⟩
 ·rcases a with a|a
  ·rw[a];exact Oz
  rw[a];exact SU
 have:=(pf (f.1-512) Y Y e.1).1;rw[show 512+(f.1-512)=f.1 by omega]at this;exact this i
theorem FY:de []=0:=tv (Qq (by decide+kernel))
theorem vY(n:jc):bP ((aY 4 n:jc):jb):=o7 (a:=4) mV n
theorem EQ(h:b<512):oO (cQ b):=⟨⟨by show(0:jb)<=(b:jb);omega,by show(b:jb)<512;omega⟩,.inl ⟨I,vY _,vY _,I⟩⟩
theorem DR(h:b<512)(a:M<=1048576):oO (dM b M):=⟨⟨by show(0:jb)<=(b:jb);omega,by show(b:jb)<512;omega⟩,.inr (.inl ⟨I,I,I,by show(0:jb)<=(M:jb);omega,by show(M:jb)<=1048576;omega⟩)⟩
theorem ug{x:ap}(h:oO x):eX [x]:=⟨λy a=>by
 rw[jO]at a;rw[a];exact h,by simp,by simp⟩
theorem SS:cr []=[]:=by decide+kernel
theorem Jp(f:kf a):dD (aI a) where
 fol:=f
 ep:=⟨Int.le_refl _,by show(0:jb)<=1099511627776;omega⟩
 tree:=FY
 zero:=λ_=>⟨I,I⟩
 dev:=SS.symm
 ok:=λm b=>by cases b
theorem oI{l:jg aK}{o:jG aK}(h:dn l a=o):cG l a=o.isSome:=by rw[<-yP,h]
theorem rC{m:aK}(h:dn e.mem a=T m):dT e a f=m.ver:=by
 unfold dT;have g:(e.mem.find? λm=>m.dev==a)=T m:=h;rw[g]
theorem Ck{m:aK}(h:dn e.mem a=T m):eV e a=m.since:=by
 unfold eV;rw[h];rfl
theorem zD{x:ap}:m0 [x] x.d=T x:=by unfold m0;simp
theorem zr{x:ap}(h:x.d≠a):m0 [x] a=jf:=by unfold m0;simp[h]
theorem A6{x:ap}(c:cG e.mem a=ji)(d:0<e.epoch)(g:cG e.mem x.d=decide (x.k≠1))(f:x.d≠a):gN e a [x]:=
 ⟨by rw[c,qP d],λh=>by omega,λy b=>by
  rw[jO]at b;rw[b];exact⟨g,λ_=>f⟩⟩
theorem wL(g:e.epoch<1099511627776)(c:du e a f=0)(x:1<=b)(i:b<2305843009213688669)(d:dT e a f=((aY 4 b:jc):jb)):ia e a (b:jb) f=0:=by
 unfold ia;rw[jE Y,jE (λh=>h c),jE Y,jE (λh=>h (by rw[d,qJ]))]
theorem uF{g g':Grp}{x:jc}{c:jg ap}{b init:LBy}{d:jg Bx}{e:jg Wl}(h:g.folder=g'.folder)(f:g.epoch=g'.epoch)(i:g.last=g'.last):mkF g a x c b init d e=mkF g' a x c b init d e:=by
 have j:nr g a c b init d e=nr g' a c b init d e:=by unfold nr;rw[h,f,i]
 have k:dO g b init=dO g' b init:=by unfold dO;rw[f]
 have l:lG g a c b init d e=lG g' a c b init d e:=by unfold lG;rw[j,k]
 unfold mkF;rw[l]
noncomputable def bF:Cmt:=mkC (aI 3) 1 3 [cQ 1] (kz 1) (kz 1) (kz 1)
noncomputable def gS1:Grp:=aC (aI 3) bF
noncomputable def bS:Cmt:=mkC gS1 1 3 [cQ 0] (kz 2) (kz 1) (kz 2)
noncomputable def cU:Grp:=aC gS1 bS
noncomputable def cS3:Cmt:=mkC cU 0 2 [dM 1 5] (kz 3) (kz 1) (kz 3)
noncomputable def cM:Cmt:=mkC cU 1 3 [dM 0 5] (kz 4) (kz 1) (kz 4)
theorem uv(b:n0 8):(kz b).length=32:=by unfold kz;simp
theorem AZ:du (aI 3) 1 [cQ 1]=0:=lB.2 ⟨Jp L,ug (EQ L),⟨I,λ_=>⟨_,_,I,I⟩,λy a=>by
 rw[jO]at a;rw[a];exact⟨I,λh=>by cases h⟩⟩⟩
theorem lS:gS (aI 3) bF:=sa AZ (by show(0:jb)<1099511627776;omega) I (uv _)
theorem mr:bF.chg=[cQ 1]/\bF.author=1/\bF.epoch=1:=by
 refine⟨?_,?_,lS.ep.trans I⟩<;>rfl
theorem lZ:dn gS1.mem 1=T ⟨1,1,((aY 4 3:jc):jb)⟩/\dn gS1.mem 0=jf/\gS1.epoch=1:=by
 have a:=Fe lS (d:=1) (y:=cQ 1) (by rw[mr.1];exact zD) L;have b:=zJ lS (d:=0) (by rw[mr.1];exact zr L);rw[mr.2.2]at a;exact⟨a.1,b.trans I,(ig _ _).trans mr.2.2⟩
theorem A5:du gS1 1 [cQ 0]=0:=lB.2 ⟨gY lS,ug (EQ L),
 A6 (oI lZ.1) (by rw[lZ.2.2];decide) (by rw[show(cQ 0).d=0 from I,oI lZ.2.1];rfl) L⟩
theorem lh:gS gS1 bS:=sa A5 (by rw[lZ.2.2];decide) (rC lZ.1) (uv _)
theorem nN:bS.chg=[cQ 0]/\bS.author=1/\bS.epoch=2:=by
 refine⟨I,I,?_⟩;rw[lh.ep,lZ.2.2];rfl
theorem fy:dn cU.mem 1=T ⟨1,1,((aY 4 3:jc):jb)⟩/\dn cU.mem 0=T ⟨0,2,((aY 4 2:jc):jb)⟩/\cU.epoch=2:=by
 have a:=Fe lh (d:=0) (y:=cQ 0) (by rw[nN.1];exact zD) L;have b:=zJ lh (d:=1) (by rw[nN.1];exact zr L);rw[nN.2.2]at a;exact⟨b.trans lZ.1,a.1,(ig _ _).trans nN.2.2⟩
theorem yG:du cU 0 [dM 1 5]=0:=lB.2 ⟨gY lh,ug (DR L L),
 A6 (oI fy.2.1) (by rw[fy.2.2];decide) (by rw[show(dM 1 5).d=1 from I,oI fy.1];rfl) L⟩
theorem DY:gS cU cS3:=sa yG (by rw[fy.2.2];decide) (rC fy.2.1) (uv _)
theorem zx:du cU 1 [dM 0 5]=0:=lB.2 ⟨gY lh,ug (DR L L),
 A6 (oI fy.1) (by rw[fy.2.2];decide) (by rw[show(dM 0 5).d=0 from I,oI fy.2.1];rfl) L⟩
theorem mR:gS cU cM:=sa zx (by rw[fy.2.2];decide) (rC fy.1) (uv _)
theorem iM:cS3.chg=[dM 1 5]/\cS3.author=0/\cM.chg=[dM 0 5]/\cM.author=1:=⟨I,I,I,I⟩
theorem SI:wN cU cM cS3:=by
 left
 rw[iM.2.2.2,iM.2.1,Ck fy.1,Ck fy.2.1]
 decide
theorem wh:ia (aI 3) 1 (3:jc) [cQ 1]=0/\ia gS1 1 (3:jc) [cQ 0]=0/\ia cU 0 (2:jc) [dM 1 5]=0/\ia cU 1 (3:jc) [dM 0 5]=0:=
 ⟨wL (by show(0:jb)<1099511627776;omega) AZ L L rfl,wL (by rw[lZ.2.2];decide) A5 L L (rC lZ.1),
  wL (by rw[fy.2.2];decide) yG L L (rC fy.2.1),wL (by rw[fy.2.2];decide) zx L L (rC fy.1)⟩
theorem Jg(a:aH cS3≠aH bS)(b:aH cS3≠aH cM)(c:aH cS3≠aH bF)(d:aH bS≠aH cM)(e:aH bS≠aH bF)(f:aH cM≠aH bF):dX 3 cS3 bS cM bF where
 ys:=a
 yo:=b
 yf:=c
 so:=d
 sf:=e
 of:=f
 hf:=fQ.2 lS
 hs:=fQ.2 lh
 hy:=fQ.2 DY
 ho:=fQ.2 mR
 auth:=by rw[iM.2.2.2,iM.2.1];decide
 ahead:=SI
 ro:=by unfold oY;rw[iM.2.2.1,iM.2.1];decide
theorem Jl(g:Grp)(c:Cmt)(i:jc):(cO g c i).id=aH c:=by unfold cO;dsimp only
theorem Jb(g:Grp)(c:Cmt)(i:jc):(cO g c i).com=c:=by unfold cO;dsimp only
theorem MM(h:dX 3 cS3 bS cM bF)(a:jb):eD (aH bS) 0 a jn (dA 3 (aH bF) [cS3,bS,cM,bF])=decide (a<=5):=by
 have b:cG (aC (aC (aI 3) bF) bS).mem 0=ji:=oI fy.2.1;have c:¬aH bF=aH bS:=λe=>h.sf e.symm
 have d:(cM.chg.find? λx=>x.d==0&&x.k !=1)=T (dM 0 5):=by rw[iM.2.2.1];rfl
 rw[h.chain,eD];dsimp only;rw[jE c,eD,jr (Jl _ _ _),rI,jr b,eD,Jb,d]
 rfl
theorem Ts(h:dX 3 cS3 bS cM bF):(aC cU cM).mem.length=1:=by
 have n:=gY mR;have o:=Sv mR (d:=0) (y:=dM 0 5) (by rw[iM.2.2.1];exact zD) I;have g:=zJ mR (d:=1) (by rw[iM.2.2.1];exact zr L);rw[fy.1]at g;have c:∀m∈(aC cU cM).mem,m=⟨1,1,((aY 4 3:jc):jb)⟩:=λm j=>by
  rcases(pH mR m).1 j with⟨f,i⟩|⟨x,a,b,rfl⟩
  ·rcases(pH lh m).1 f with⟨k,p⟩|⟨x,a,b,rfl⟩
   ·rcases(pH lS m).1 k with⟨l,-⟩|⟨x,a,b,rfl⟩
    ·cases l
    rw[mr.1,jO]at a;subst a;rw[mr.2.2];rfl
   rw[nN.1,jO]at a;subst a;exact ju I (i (dM 0 5) (by rw[iM.2.2.1];exact jO.2 I))
  rw[iM.2.2.1,jO]at a;subst a;exact ju I b
 have i:=((sS (rZ mR) _ _).1 g).1;have f:=rZ mR
 cases e:(aC cU cM).mem with
 |nil=>rw[e]at i;cases i
 |cons m l=>
  rcases l with _|⟨k,p⟩
  ·rfl
  rw[e]at c f;have a:=c m (qv ..);have b:=c k (qw _ (qv ..));rw[a,b]at f;simp at f
theorem Mf(d:de t=0)(b:0<=a)(c:a<512):dI t a jn=0:=by
 unfold dI;rw[jr d,jE];rintro(h|h|⟨h,-⟩)
 ·omega
 ·omega
 cases h
theorem ME(d:de t=0)(b:0<=a)(c:a<512)(e:bP F):gK t a F=0:=by
 unfold gK;rw[jr (Mf d b c),jr (gF e)]
theorem CV(c:de t=0)(d:0<=a)(b:a<512)(e:bP F):kS t a F=eo (512+a,F) (kW t a):=by
 unfold kS;rw[jr (ME c d b e),za d b]
theorem Ro(d:de t=0)(c:0<=a)(e:a<512)(b:bG t (512+a)≠jf):dI t a ji=0:=by
 unfold dI;rw[jr d,jE];rintro(h|h|⟨-,h⟩)
 ·omega
 ·omega
 exact b h
theorem Gi(c:de t=0)(d:0<=a)(b:a<512)(e:bG t (512+a)≠jf):kH t a=kW t a:=by
 unfold kH;rw[jr (Ro c d b e),za d b]
theorem Fp{l:jg jb}(h:fb t a l=0)(d:0<=a)(b:a<512):gr t a l=uZ (kW t a) a l 10:=by
 unfold gr;rw[jr h,D8,za d b]
theorem CC(a:LBy):∃b c d e f g h i j k:jb,dB a=[b,c,d,e,f,g,h,i,j,k]:=by
 unfold dB;exact⟨_,_,_,_,_,_,_,_,_,_,I⟩
theorem Fj(g:Grp)(c:Cmt):(aC g c).tree=gr (aX g.tree c.chg) c.author c.path:=by unfold aC;dsimp only
theorem Gv:aX (aI 3).tree [cQ 1]=[(513,((aY 4 3:jc):jb))]:=by
 show kS [] 1 ((aY 4 3:jc):jb)=_;rw[CV FY L L (vY _)]
 rfl
theorem M5:∃a b c d f g i j k l:jb,gS1.tree=[(1,l),(2,k),(4,j),(8,i),(16,g),(32,f),(64,d),(128,c),(256,b),(513,a)]:=by
 obtain⟨a,b,c,d,f,g,i,j,k,l,m⟩:=CC (kz 1);refine⟨a,b,c,d,f,g,i,j,k,l,?_⟩;have h:=lS.ren;have e:gS1.tree=gr (aX (aI 3).tree bF.chg) bF.author bF.path:=Fj _ _;have n:bF.path=dB (kz 1):=(yE (aI 3) 1 3 [cQ 1] (kz 1) (kz 1) (kz 1)).2.2.2.2.2;rw[mr.1,mr.2.1,n]at h e;rw[e,Fp h L L,Gv,m];generalize((aY 4 3:jc):jb)=q;have:kW [(513,q)] 1=[]:=by
  unfold kW;rw[qL (by show ¬(!decide ((513:jb)∈(512+1)::bU 1))=ji;decide+kernel),qi]
 rw[this]
 rfl
theorem pz0:bU 0=[256,128,64,32,16,8,4,2,1]:=by decide+kernel
theorem pz1:bU 1=[256,128,64,32,16,8,4,2,1]:=by decide+kernel
theorem Bf:∃a:jb,aX gS1.tree [cQ 0]=[(512,((aY 4 2:jc):jb)),(513,a)]:=by
 obtain⟨a,c,d,f,g,h,i,j,k,l,e⟩:=M5;have b:de gS1.tree=0:=(gY lS).tree;refine⟨a,?_⟩;show kS gS1.tree 0 ((aY 4 2:jc):jb)=_;rw[CV b L L (vY _),e];generalize((aY 4 2:jc):jb)=q;unfold kW;rw[pz0]
 rfl
theorem Sz:∃a r1 r2 r3 b c d f g i:jb,cU.tree=[(1,i),(2,g),(4,f),(8,d),(16,c),(32,b),(64,r3),(128,r2),(256,r1),(512,((aY 4 2:jc):jb)),(513,a)]:=by
 obtain⟨m,j⟩:=Bf;obtain⟨a,r1,r2,r3,b,c,d,f,g,i,k⟩:=CC (kz 2);refine⟨a,r1,r2,r3,b,c,d,f,g,i,?_⟩;have h:=lh.ren;have e:cU.tree=gr (aX gS1.tree bS.chg) bS.author bS.path:=Fj _ _;have l:bS.path=dB (kz 2):=(yE gS1 1 3 [cQ 0] (kz 2) (kz 1) (kz 2)).2.2.2.2.2;rw[nN.1,nN.2.1,l]at h e;rw[e,Fp h L L,j,k];generalize((aY 4 2:jc):jb)=q;unfold kW;rw[pz1]
 rfl
theorem Nn:aX cU.tree [dM 1 5]=[(512,((aY 4 2:jc):jb))]/\∃a:jb,aX cU.tree [dM 0 5]=[(513,a)]:=by
 obtain⟨a,r1,r2,r3,c,d,f,g,i,j,e⟩:=Sz;have b:de cU.tree=0:=(gY lh).tree;refine⟨?_,a,?_⟩
 ·show kH cU.tree 1=_
  rw[Gi b L L (by rw[e];exact λh=>by cases h),e];generalize((aY 4 2:jc):jb)=q;unfold kW;rw[pz1]
  rfl
 show kH cU.tree 0=_;rw[Gi b L L (by rw[e];exact λh=>by cases h),e];generalize((aY 4 2:jc):jb)=q;unfold kW;rw[pz0]
 rfl
theorem mI(h:fX t){x:jb}(a:1<=x)(b:x<=1023):ff t x=di (bG t) (hgt x.toNat) x.toNat:=by
 have e:lR t x=0:=by unfold lR;rw[jr (tv h),jE Y]
 unfold ff;rw[jr e]
theorem R7:ib 0=[513,257,129,65,33,17,9,5,3]:=by decide+kernel
theorem zV:ib 1=[512,257,129,65,33,17,9,5,3]:=by decide+kernel
theorem wJ(h:fX t)(c:ib a=[F,257,129,65,33,17,9,5,3])(d:1<=F)(e:F<=1023){r:jg (jg jb)}(f:(([F,257,129,65,33,17,9,5,3]:jg jb).map λx=>di (bG t) (hgt x.toNat) x.toNat)=r):
 et t a=(r.zipIdx 1).flatMap λx=>x.1.map λn=>((x.2:jb),n):=by
 unfold et fz;rw[c,<-f];simp only[j1,jZ,List.zipIdx_cons,List.zipIdx_nil,List.flatMap_cons,List.flatMap_nil];rw[mI h d e,mI h (x:=257) L L,mI h (x:=129) L L,mI h (x:=65) L L,mI h (x:=33) L L,
  mI h (x:=17) L L,mI h (x:=9) L L,mI h (x:=5) L L,mI h (x:=3) L L]
theorem uR(h:du e a f=0):fX (aX e.tree f):=by
 obtain⟨b,c,d⟩:=lB.1 h;exact(oT f _ (lO b.tree) (rf b c d)).1
theorem Fu:∀p:jb,(([512,257,129,65,33,17,9,5,3]:jg jb).map λx=>di (bG [(513,p)]) (hgt x.toNat) x.toNat)=[[],[],[],[],[],[],[],[],[]]:=by intro p;kernel_rfl
theorem Tu:∀p:jb,(([513,257,129,65,33,17,9,5,3]:jg jb).map λx=>di (bG [(512,p)]) (hgt x.toNat) x.toNat)=[[],[],[],[],[],[],[],[],[]]:=by intro p;kernel_rfl
theorem Uc:∀p q:jb,(([512,257,129,65,33,17,9,5,3]:jg jb).map λx=>di (bG [(512,p),(513,q)]) (hgt x.toNat) x.toNat)=[[512],[],[],[],[],[],[],[],[]]:=by intro p q;kernel_rfl
theorem wP:et (aX (aI 3).tree [cQ 1]) 1=[]/\et (aX gS1.tree [cQ 0]) 1=[(1,512)]/\et (aX cU.tree [dM 1 5]) 0=[]/\et (aX cU.tree [dM 0 5]) 1=[]:=by
 obtain⟨e,b⟩:=Bf;obtain⟨c,f,d⟩:=Nn;refine⟨?_,?_,?_,?_⟩
 ·have a:(([512,257,129,65,33,17,9,5,3]:jg jb).map λx=>di (bG (aX (aI 3).tree [cQ 1])) (hgt x.toNat) x.toNat)=[[],[],[],[],[],[],[],[],[]]:=by rw[Gv];exact Fu _
  rw[wJ (uR AZ) zV L L a]
  rfl
 ·have a:(([512,257,129,65,33,17,9,5,3]:jg jb).map λx=>di (bG (aX gS1.tree [cQ 0])) (hgt x.toNat) x.toNat)=[[512],[],[],[],[],[],[],[],[]]:=by rw[b];exact Uc _ _
  rw[wJ (uR A5) zV L L a]
  rfl
 ·have a:(([513,257,129,65,33,17,9,5,3]:jg jb).map λx=>di (bG (aX cU.tree [dM 1 5])) (hgt x.toNat) x.toNat)=[[],[],[],[],[],[],[],[],[]]:=by rw[c];exact Tu _
  rw[wJ (uR yG) R7 L L a]
  rfl
 have a:(([512,257,129,65,33,17,9,5,3]:jg jb).map λx=>di (bG (aX cU.tree [dM 0 5])) (hgt x.toNat) x.toNat)=[[],[],[],[],[],[],[],[],[]]:=by rw[d];exact Fu _
 rw[wJ (uR zx) zV L L a]
 rfl
theorem wF:dw 1 [cQ 1]=[]/\dw 1 [cQ 0]=[cQ 0]/\dw 0 [dM 1 5]=[]/\dw 1 [dM 0 5]=[]:=by
 refine⟨?_,?_,?_,?_⟩
 ·unfold dw kX
  rw[qL L,qi];simp[fj]
 ·unfold dw kX
  rw[List.filter_cons_of_pos L,qi];simp[fj]
 ·unfold dw kX
  rw[qL L,qi];simp[fj]
 unfold dw kX;rw[qL L,qi];simp[fj]
end Go.Proofs.YtngkfaggaccpoaaGreatDoor
