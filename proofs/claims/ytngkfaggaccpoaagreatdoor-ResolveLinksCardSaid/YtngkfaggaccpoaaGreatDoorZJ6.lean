/- Contracts of functions that the law reaches, part 6 of 7; no condition. -/
import Derived.Test.YtngkfaggaccpoaaGreatDoorZJ5
namespace Go.Proofs.YtngkfaggaccpoaaGreatDoor
set_option maxHeartbeats 64000000
set_option maxRecDepth 100000
set_option linter.unusedVariables false
set_option linter.unusedSimpArgs false
set_option linter.unusedSectionVars false
open Go.RowKit
open Go.Proofs.Tryz
open _root_ renaming rfl->I,Int->N,Nat->ja,List->jg,Array->jp,if_pos->jr,absurd->jt,Bool->jC,if_neg->jF,Option->jG,BitVec->j8,decide_eq_true->qc,congrArg->qs,of_decide_eq_true->qQ
open Go.RowKit renaming Hid->T,Below->jl
open _root_.Option renaming some->A,none->jf
open Go.Value renaming slice->jb,agg->jh,pointer->ju,tuple->jH,string->qt
open Go.Obj renaming cells->jc
open Go.Value renaming int->jd
open Go.IntKind renaming i64->je
open _root_.Bool renaming true->ji,false->jn,and_eq_true->oj,or_eq_true->xh
open Go renaming World->jj,Value->jk,undef->jm,setRow_other->js,Calls->jz,TypeId->jJ,Oper->jK,wp_region_noPanic->jO,execOp->jP,wp_store_row->jR,setRow_heap->jU,wp_region_lit->j0,Operand->j1,wpList_load_row->j9,below_setRow->ow,Program->o8,wpList_plain->pz,wpOp_step->qd,bodyPost_ret_by->qo,callsIn_wide->qS,run_takeDeferred->qT,wp_store_mid->qV,callsIn_of_wp_marks->sn,bodyPost_ret->sv,results_cell_row->sx
open Go.Proofs.Tryz renaming prog->jo
open Go.World renaming size_alloc->jq,alloc_heap_new->jA,putObj_heap_other->ob,cell?_of_block->qy,ownsRow_nil->q7
open _root_.List renaming size_toArray->jv,length_map->jy,mem_singleton->jN,filterMap_cons->jT,map_nil->jV,getElem?_eq_some_iff->jW,map_cons->jY,length_cons->jZ,mem_append->j3,mem_of_getElem?->j4,getElem?_toArray->nv,map_append->n0,map_toArray->qa,getElem?_append_left->qb,getElem?_map->qe,mem_map->qf,nil_append->qg,append_nil->qh,length_append->qj,mem_cons->qk,filter_nil->qn,take_of_length_le->qv,find?_eq_none->qw,mem_cons_self->qz,mem_cons_of_mem->qA,length_nil->qB,push_toArray->qG,append_toArray->qH,cons_append->qI,getElem?_cons_succ->qJ,length_take->qM,filterMap_nil->qO,filter_cons_of_neg->qP,append_assoc->qY,append_inj'->q8,setIfInBounds_toArray->q9,set_cons_zero->rk,set_cons_succ->rn,mem_of_getLast?->r4,take_length->r5,range->r6,foldl_cons->r7,foldl_nil->r8,find?_cons_of_neg->r9,take_append_drop->sy,find?_append->vi,getElem?_eq_getElem->wq,pairwise_cons->wt,mem_append_left->xa,mem_append_right->xd,replicate->xe,tail_drop->xf,all_eq_true->xg,mergeSort->xi,nodup_cons->xk,mem_iff_getElem?->xm,pairwise_map->xn,mergeSort_singleton->xo,mergeSort_nil->xq,flatMap_cons->xr,flatMap_nil->xt
open Go.Ending renaming returned->jw
open _root_.Array renaming getElem?_eq_some_iff->jB,all_eq_true_iff_forall_mem->jS,size_append->mz,all_append->nn,replicate->qi,replicate_succ->qE,replicate_zero->qF,toArray_toList->qW,length_toList->wv
open _root_.Nat renaming le_refl->jD,le_trans->jE,lt_of_lt_of_le->jL,zero_le->jM,le_of_eq->j6,le_succ->j7,add_assoc->qu,add_comm->qx,reduceAdd->qC,reduceSub->qD,lt_irrefl->qK,zero_add->qX,succ_pos->qZ,le_add_right->rv,lt_trichotomy->xj,not_lt_zero->xl
open Go.Value renaming int->jI,oneCell'->j5,slice->ql,ownBlock->wx
open Go.Proofs renaming intOf->jQ
open Go.Proofs.Tryz renaming underlying66->jX,underlying48->p6,underlying41->qU,underlying82->sh,underlying62->sq
open Go.RowKit.Below renaming refl->ms
open Go.NoPanic renaming normal->o1
open _root_.Int renaming eq_ofNat_of_zero_le->qL,toNat_natCast->qN
variable{m:Act}{R:CQ}{H:Cmt}{h:Exit->Act->jj->Prop}{a g':Grp}{i o u:LBy}{f:N}{K P:Prop}{x:aM}{U:ap}{Q:j1}{r:jJ}{B:jK}{M b y:ja}{D E Ψ:ja->Prop}{t:jg (N×N)}{p:jg Bx}{d:jg Cmt}{S:jg aM}{e:jg ap}{z:jg jk}{W w w':jj}{j:jk}{V:jp jK}
theorem M4(l:jg Cmt)(P:jg ja)(d:LBy)(k:d.length=32)(v:jk)(w:jj)(h:cE w v 32 P.length (eM l P))(F:P.length<=1000000):
 jz jo 113 #[v,jh (d.map v8).toArray] w λe w'=>∃r,e=jw (jd je r)/\mX (λi=>decide (aH (aQ l i)=d)) P r/\jl w w w':=by
 obtain⟨-,q,c,rfl,H,-,p⟩:=h;have u:=O p;obtain⟨n,o⟩:=J P.length;have x:=O o;rw[<-o]at F H u⊢;obtain⟨a,f⟩:=J ((d.map v8).toArray);have K:=O f;have M:T (a.size=VD.n):=O (by rw[f,jv,jy,k];rfl);obtain⟨m,g⟩:=J (w.alloc (jc a 23));have b:T (jl w w m):=O (by rw[g];exact ao _ _);have Q:T (m.heap[w.heap.size]?=A (jc a VD.t (0,0))):=O (by rw[g];exact jA _ _);have s:=O g;have R:=O k;rw[<-f];clear o p f g k
 go_enter func113,ntmps113
 go_upto_region 1 with fail
 rw[<-s];clear s
 go_wp2_with fail
 go_loopw [8] (λi wr=>∃k:ja,i=jd je k/\k<=n/\T (∀y∈P.take k,decide (aH (aQ l y)=d)=jn)/\T (jl m m wr)) (λi _=>n-(jQ i).toNat)
 case atStart=>exact⟨0,I,jM _,O ar,O (ms _ _)⟩
 obtain⟨k,rfl,hk,p,i⟩:=hrel
 by_cases S:k<n
 ·have V:=aw ((k:N)<(n:N))
  have W:=aw (k<n);obtain⟨e,he,B⟩:=dN (l:=P) (j:=k) (by rw[<-x];exact S);obtain⟨g,o,rfl,C⟩:=u Y;have D:T (wr.rangeAt g (o+k*32) ((aH (aQ l e)).map v8)):=O λt X ht=>by
   rw[qu];exact aD (C _ X (BB he ht)) (b.trans (i.mono b.size))
  have We:=O (av Q i);obtain⟨r,f⟩:=J (decide (aH (aQ l e)=d));obtain⟨U,s⟩:=J (((aH (aQ l e)).map v8).toArray);have ad:∀z,(Op.equalIn 10000 23 (jh a) (jh U)).run jo z=.ok r z:=by
   rw[K,s,f,show decide (aH (aQ l e)=d)=decide (d=aH (aQ l e))from decide_eq_decide.2 ⟨Eq.symm,Eq.symm⟩];exact λz=>pC _ _ R.out (dQ _) z
  have E:=O f;have HU:=O s;have Vu:=O B;have HE:=O he;have aa:T (((aH (aQ l e)).map v8).length=VD.n):=O (by rw[jy,dQ];rfl);clear C he B f s
  go_upto_region 4 with fail
  refine jO ?_;refine fP (λf=>f.heap[w.heap.size]?=A (jc a VD.t (0,0))/\f.rangeAt g (o+k*32) ((aH (aQ l e)).map v8)) 6 (.t 0 (.t 1 (.t 2 (.t 3 (.t 4 (.t 5 .done)))))) af af af af L (λ_ _ _ _ h=>h) ⟨We,D⟩ ?_
  (refine cJ (v:=jh a) I aj (λf s=>dc VD.hu VD.hd (by rw[M];exact VD.hi) I I s.1) ?_;refine G ?_)
  iterate 3 refine co ?_
  (refine cJ (v:=jh U) I aj (λf s=>by rw[HU];exact eF _ _ VD.t _ I _ _ I _ VD.d s.2 VD.hu VD.hd (by rw[aa];exact VD.hi)) ?_;refine G ?_)
  refine co ?_;refine fc ?_;have f:=bV wr;obtain⟨C,s⟩:=J wr.drew;rw[<-s]at f⊢;have B:=ah i f;clear f s D
  rcases r with _|_
  ·go_wp2_with fail
   exact⟨⟨k+1,by go_num,by omega,O (by
    rw[Vu];intro y f
    rcases j3.1 f with f|f
    ·exact p y f
    rw[jN]at f;rw[f];exact E.symm),B⟩,by simp only[jQ];omega⟩
  go_wp2_with fail
  go_ret;exact⟨_,I,.inr ⟨k,_,I,HE,E.symm,p⟩,b.trans (B.mono b.size)⟩
 have V:=az ((k:N)<(n:N));have W:=az (k<n);obtain rfl:k=n:=Y
 go_wp2_with fail
 go_ret;exact⟨_,I,.inl ⟨I,by have h:=p.out;rw[qv (by rw[<-x];exact jD _)]at h;exact h⟩,b.trans (i.mono b.size)⟩
def c8(fol:N)(fid:LBy):jg jk:=jd je fol::fid.map v8
noncomputable def VF:VarT jo:=⟨25,33,(c8 0 cF).toArray,_,underlying25,I,by kernel_rfl,rfl,λ_=>by kernel_rfl⟩
theorem Bg{P:o8}{S:jj->Prop}{x j:bE}(d:cX P V h S b (.one M x) m w)(e:cX P V h S b (.one y j) m w):cX P V h S b (.two M y x j) m w:=⟨d,e⟩
theorem El(b:B.op=.build 41 #[(0,Q)])(c:m.eval Q=jd je f)(W:jj):
 (jP m.eval B).run jo W=.ok (.value (jh (aB (aI f) (jb jf 0 0) (jb jf 0 0)).toArray)) W:=by
 have d:=uB (P:=jo) (t:=41) (zero:=jh VG.Z) (places:=#[(0,1),(1,1),(2,32),(34,1),(35,1)]) (λw=>by kernel_rfl) VG.hu (λw=>by kernel_rfl) (parts:=#[(0,jd je f)]) (X:=(aB (aI f) (jb jf 0 0) (jb jf 0 0)).toArray) af W;simp only[jP,b,qa,jY,jV,c,Sem.run_bind,d,Result.andThen_ok,Sem.run_pure]
theorem mX.find{α:Type}{p:α->jC}{l:jg α}(h:mX p l f):(f= -1/\l.find? p=jf)\/∃(k:ja) (x:α),f=k/\l[k]?=A x/\l.find? p=A x:=by
 rcases h with⟨b,a⟩|⟨k,x,b,a,c,d⟩
 ·exact .inl ⟨b,qw.2 λx e=>by rw[a x e];decide⟩
 refine .inr ⟨k,x,b,a,?_⟩;have g:=(jW.1 a).1;have e:l=l.take k++x::l.drop (k+1):=by
  rw[<-(jW.1 a).2,List.getElem_cons_drop,sy]
 rw[e,vi,qw.2 λy r=>by rw[d y r];decide];simp[c]
theorem G2(fol:N)(w:jj):bL w (aI fol) (jb jf 0 0) (jb jf 0 0):=⟨EK.At.nil,oG w,I⟩
theorem yr(k:P)(h:P->K:=by intro k;refine cJ (v:=?_) rfl aj (λW' hS=>?_) ?_;rotate_left;(have b1:=ai (i:=0) hS.1 rfl;clear hS;go_simp;with_reducible rfl);refine G ?_;exact k):K:=h k
theorem tS(k:P)(h:P->K:=by intro k;refine cJ (v:=?_) rfl aj (λW' hS=>?_) ?_;rotate_left;(have b1:=ai (i:=2) hS.1 rfl;clear hS;go_simp;with_reducible rfl);refine G ?_;exact k):K:=h k
theorem tY(k:P)(h:P->K:=by intro k;refine cJ (v:=?_) rfl aj (λW' hS=>?_) ?_;rotate_left;(have b1:=hS.2.2.2.1;clear hS;go_simp;with_reducible rfl);refine G ?_;exact k):K:=h k
theorem Fs(Um:jg CP)(v1 v2 v3:jk)(fol:N)(fid:LBy)(i:fid.length=32)(w:jj)(r:iw (·<w.heap.size) w v1 v2 v3 Um)(U:∀p∈Um,cZ (aR p.1))(V:bH w)(hn:Um.length<=1000):
 jz jo 52 #[jh #[v1,v2,v3],jh (c8 fol fid).toArray] w λe w'=>∃m o,e=jw (jH #[jh m,.bool o])/\m.size=VK.n/\m.all (·.oneCell')=ji/\
  (o=ji->∃k,m=(aL k).toArray/\KD (λb=>w.heap.size<=b/\b<w'.heap.size) Um w' k/\eS fol fid (Um.map (·.1))=A k.cand)/\(o=jn->eS fol fid (Um.map (·.1))=jf)/\jl w w w':=by
 obtain⟨l,u⟩:∃l:jg Cmt,l=Um.map (·.1):=⟨_,I⟩;obtain⟨PL,y⟩:=J (bW l l.length);have H:l.length=Um.length:=by rw[u,jy]
 have bk:PL.length<=1000:=by rw[y];have:=rV l l.length;omega
 have Q:=r.ids;have z:=r.at_;rw[<-u,<-H,<-y]at Q z;obtain⟨p1,k1,rfl⟩:=r.list.form;obtain⟨p2,k2,rfl⟩:=Q.form;obtain⟨p3,k3,rfl⟩:=z.form;have HL:=O r.list;have HI:=O Q;have HA:=O z;have HE:=O U;have HT:=O V;have bl:=O u;have VM:=O y;have bf:=O i;obtain⟨n,B⟩:=J Um.length;obtain⟨E,C⟩:=J PL.length;have ZF:=O B;have bm:=O C;have Vx:T (l.length=n):=O (H.trans B.symm);rw[<-B]at hn⊢;rw[<-C]at bk HI HA⊢;rw[<-u];obtain⟨FA,x⟩:=J ((c8 fol fid).toArray);have ZH:T (FA.size=VF.n):=O (by rw[x,jv];unfold c8;rw[jZ,jy,i];rfl);have bn:T (FA[0]?=A (jd je fol)):=O (by rw[x];rfl);have ZY:T (∀(j:ja) d,(fid.map v8)[j]?=A d->FA[1+j]?=A d):=O λj d hj=>by
  rw[x,qx]
  simpa [c8]using hj
 have Yo:T ((fid.map v8).length=VD.n):=O (by rw[jy,i];rfl);rw[<-x];obtain⟨M,f⟩:=J w.heap.size;have HM:=O f;obtain⟨W0,c⟩:=J (((w.alloc (jc #[jb p1 n k1,jb p2 E k2,jb p3 E k3] 78)).alloc (jc FA 25)).alloc (jc VK.Z VK.t));have K:=ao w (jc #[jb p1 n k1,jb p2 E k2,jb p3 E k3] 78);have P:=K.trans ((ao (w.alloc (jc #[jb p1 n k1,jb p2 E k2,jb p3 E k3] 78)) (jc FA 25)).mono K.size);have D:=ao ((w.alloc (jc #[jb p1 n k1,jb p2 E k2,jb p3 E k3] 78)).alloc (jc FA 25)) (jc VK.Z VK.t);have R:T (W0.heap[M]?=A (jc #[jb p1 n k1,jb p2 E k2,jb p3 E k3] 78 (0,0))):=O (by rw[c,f];exact av (av (jA w _) (ao _ _)) D);have S:T (W0.heap[M+1]?=A (jc FA VF.t (0,0))):=O (by
  have h:=jA (w.alloc (jc #[jb p1 n k1,jb p2 E k2,jb p3 E k3] 78)) (jc FA 25);rw[jq]at h;rw[c,f];exact av h D)
 have W:T (W0.heap[M+2]?=A (jc VK.Z VK.t (0,0))):=O (by
  have h:=jA ((w.alloc (jc #[jb p1 n k1,jb p2 E k2,jb p3 E k3] 78)).alloc (jc FA 25)) (jc VK.Z VK.t);rw[jq,jq]at h;rw[c,f];exact h)
 have Uq:T (jl w w W0):=O (by rw[c];exact P.trans (D.mono P.size));have bo:T (W0.heap.size=M+3):=O (by rw[c,f,jq,jq,jq]);have X:=O c;have aa:T (W0.rangeAt (M+1) 1 (fid.map v8)):=O λt d q=>ai S (ZY t d q)
 have F:=M4 l PL fid i (jb p2 PL.length k2) W0 ((Q.keep λg hg=>Uq.block g hg).row) Y;rw[<-C]at F;obtain⟨TF,g⟩:=J ((fid.map v8).toArray);rw[<-g]at F;have au:=O g;have ad:=O F;clear g;clear F K P D c f x B C u H y Q z r U V i
 go_enter func52,ntmps52
 go_upto_region 1 with(first|(refine VK.made I I (G ?_)))
 rw[<-X];simp only[jq];rw[show w.heap.size+1+1=w.heap.size+2 from I,<-HM];clear X;have g:=ai (i:=1) R I
 go_upto_region 2 with(first|(refine VD.load aj I I (fid.map v8) Yo aa ?_;rw[<-au];refine G ?_))
 refine ad.mono ?_;rintro e x1 ⟨r,rfl,f,c⟩;have HB:=O c;have U:T (jl w w x1):=ah Uq c;have F:=ae R c;have H:=ae S c;have x:=ae W c;have bp:=f.find;clear f c ad aa R S W g
 rcases bp with⟨rfl,c⟩|⟨kk,i,rfl,g,c⟩
 ·have HF:T (eS fol fid l=jf):=O (by unfold eS;rw[<-VM,c];rfl)
  clear c
  go_wp2_with (first|(refine VK.loadA aj I I VK.Z VK.hZ x (G ?_))|(refine VK.store I I I VK.Z I VK.hZ af x VK.hZ ?_;rw[setRow_self _ _ _ _ _ x.out];refine G ?_))
  refine qo (fS I _ _ (M+2) VK.t VK.Z (0,0) _ I x sh I (by rw[VK.hZ];exact VK.hi)) I ?_;exact⟨_,_,I,VK.hZ,by kernel_rfl,(λh=>by cases h),(λ_=>HF),U⟩
 have HF:T (eS fol fid l=if cN (aI fol) (aQ l i)=0 then A ⟨i,aQ l i,fid,0,aC (aI fol) (aQ l i)⟩else jf):=O (by unfold eS;rw[<-VM,c];rfl);have bv:kk<E:=by rw[bm];exact(jW.1 g).1
 have bq:i<n:=by
  have h:=j4 g;rw[VM]at h;have Q:=(oS.1 h).1;rw[Vx]at Q;exact Q
 have hd:decide ((kk:N)<0)=jn:=by simp<;>omega
 have bw:=aw (kk<E);have hd2:=aw (i<n);obtain⟨ga,oa,ka,e3,B,-,D⟩:=HA.at1 Y;injection e3 with e1 y e2
 subst e1;subst e2;clear y;obtain⟨⟨u,qm⟩,f⟩:∃p,Um[i]?=A p:=⟨_,wq (by rw[<-ZF];exact bq)⟩;obtain⟨V,ol,kl,e5,R,-,-,S⟩:=HL.elem f;injection e5 with e1 y e2
 subst e1;subst e2;clear y;have y:=j4 f;have K:T (x1.cell? ⟨ga,oa+kk,jf⟩=A (jd je (i:ja))):=O (aD (D kk _ (by unfold fx;rw[qe,g];rfl)) U);have P:T (x1.rangeAt V (ol+i*73) (aE u qm)):=O λj d hj=>aD (S j d hj) U
 have HQ:=O (HL.all _ y);have bg:=O (HE _ y);have bh:=O f;have Z7:T (aQ l i=u):=O (by unfold aQ;rw[bl];simp[List.getD,f]);have Vq:T ((aE u qm).length=VC.n):=O (dl u qm HQ.plen HQ.clen);obtain⟨C,z⟩:=J ((aE u qm).toArray);have VV:=O z;have Wc:T (C.size=VC.n):=O (by rw[z,jv];exact Vq);obtain⟨G0,W⟩:=J ((aB (aI fol) (jb jf 0 0) (jb jf 0 0)).toArray);have a5:=O W;have ay:T (cN (aI fol) (aQ l i)=cN (aI fol) u/\aC (aI fol) (aQ l i)=aC (aI fol) u):=O (by rw[Z7];exact⟨I,I⟩);have WT:T (ga<M/\V<M):=O ⟨by rw[HM];exact B,by rw[HM];exact R⟩;clear z W y f S D B R c g
 go_upto_region 4 with fail
 refine jO ?_;refine fP (λg=>g.heap[M]?=A (jc #[jb (A ⟨V,ol,jf⟩) n k1,jb p2 E k2,jb (A ⟨ga,oa,jf⟩) E k3] 78 (0,0))/\g.heap[M+1]?=A (jc FA VF.t (0,0))/\g.heap[M+2]?=A (jc VK.Z VK.t (0,0))/\g.cell? ⟨ga,oa+kk,jf⟩=A (jd je (i:ja))/\g.rangeAt V (ol+i*73) (aE u qm)) 19
  (.t 0 (.t 1 (.t 2 (.t 3 (.t 4 (.t 5 (.t 6 (.t 7 (.t 8 (.t 9 (.t 10 (.t 11 (.w 12 16 (.t 13 (.t 14 (.t 15 (.o 16 (.o 17 (.t 18 .done)))))) (.o 12 (.t 13 (.t 14 (.t 15 (.o 17 (.t 18 .done))))))))))))))))))) af af af af L (λ_ _ _ _ h=>h) ⟨F,H,x,K,P⟩ ?_
 have c:=bV x1;obtain⟨x2,hx⟩:=J x1.drew;rw[<-hx]at c⊢;replace HB:=ah HB c;replace U:=ah U c;replace F:=ae F c;replace H:=ae H c;replace x:=ae x c;replace K:=O (aD K c);replace P:T (x2.rangeAt V (ol+i*73) (aE u qm)):=O (λt d q=>aD (P t d q) c);have a4:T (M+3<=x2.heap.size):=O (by rw[<-bo];exact HB.size);clear hx c;refine co ?_
 (refine cJ (v:=?_) I aj (λg R=>?_) ?_;rotate_left;(have f:=ai (i:=0) R.2.1 bn;clear R;go_simp;with_reducible rfl);refine G ?_)
 (refine cJ (v:=jh G0) I aj (λg R=>by rw[a5];exact El I I g) ?_;refine G ?_)
 refine co ?_;refine yr ?_;refine co ?_;refine tS ?_;iterate 2 refine co ?_
 refine tY ?_;refine co ?_
 (refine cJ (v:=jh C) I aj (λg R=>by rw[VV];exact eF _ _ VC.t _ I _ _ I _ VC.d R.2.2.2.2 VC.hu VC.hd (by rw[Vq];exact VC.hi)) ?_;refine G ?_)
 refine Bg ?_ ?_
 ·refine cV I (λK' z=>?_)
  go_simp;have hN:=AW (aI fol) (jb jf 0 0) (jb jf 0 0) u qm x2 (G2 fol _) (HQ.below U) bg (HT.below U) (jM _) (jM _);rw[<-a5,<-VV]at hN;refine hN.mono ?_;clear hN;rintro e x3 ⟨X,W,rfl,hN⟩;have y:=O hN;clear hN;have S:=O y.bel;refine z _ _ ⟨av F (S),av H (S),av x (S),aD K (S),λt d q=>aD (P t d q) (S)⟩ λ_=>?_
  clear z;refine G ?_;iterate 3 refine co ?_
  refine cV I (λK' z=>?_);rw[jr aj];refine gM VG.t I VG.Z VG.hal ?_;have f:=S.trans ((ao x3 (jc VG.Z VG.t)).mono S.size);refine z _ _ ⟨av F (f),av H (f),av x (f),aD K (f),λt d q=>aD (P t d q) (f)⟩ λ_=>?_
  clear z f;refine G ?_;refine cV I (λK' z=>?_);rw[jr aj];refine jR VG.t _ _ I x3.heap.size X I I VG.t VG.Z (jA x3 _) (by rw[y.sz];exact VG.hi) (VG.hZ.trans y.sz.symm) y.one ?_;rw[yh];obtain⟨x5,b7,hx,f,Wm,aa⟩:=dh x3 X VG.t;rw[<-hx,<-f];have Zh:T (M+3<=b7):=O (by rw[f];exact jE a4 S.size);have UT:T (W=0->∃B D,X=(aB (aC (aI fol) u) B D).toArray/\dz (λk=>M+3<=k/\k<x5.heap.size) x5 (aC (aI fol) u) B D):=O λh=>by
   obtain⟨B,D,e1,Q⟩:=y.new h;exact⟨B,D,e1,(Q.below aa).mono λb f=>⟨jE a4 f.1,f.2⟩⟩
  have c:=S.trans (aa.mono S.size);refine z _ _ ⟨av F (c),av H (c),av x (c),aD K (c),λt d q=>aD (P t d q) (c)⟩ λ_=>?_
  replace HB:=ah HB c;replace U:=ah U c;replace F:=ae F c;replace H:=ae H c;replace x:=ae x c;replace K:=O (aD K c);replace P:T (x5.rangeAt V (ol+i*73) (aE u qm)):=O (λt d q=>aD (P t d q) c);clear c;clear z hx f aa;refine G ?_;refine co ?_;refine fc ?_;obtain⟨o,ho⟩:=J (decide (W=0));have a1:=O ho;have br:(W==0)=o:=by rw[ho];by_cases h:W=0<;>simp[h]
  have bs:decide (W=0)=o:=ho.symm;clear ho
  go_upto_region 5 with fail
  refine jO ?_;refine fP (λg=>g.heap[M]?=A (jc #[jb (A ⟨V,ol,jf⟩) n k1,jb p2 E k2,jb (A ⟨ga,oa,jf⟩) E k3] 78 (0,0))/\g.heap[M+1]?=A (jc FA VF.t (0,0))/\g.heap[b7]?=A (jc X VG.t (0,0))/\g.cell? ⟨ga,oa+kk,jf⟩=A (jd je (i:ja))/\g.rangeAt V (ol+i*73) (aE u qm)) 22
   (.t 0 (.t 1 (.t 2 (.t 3 (.t 4 (.t 5 (.t 6 (.t 7 (.t 8 (.t 9 (.t 10 (.t 11 (.t 12 (.t 13 (.t 14 (.t 15 (.t 16 (.t 17 (.t 18 (.t 19 (.o 20 (.t 21 .done)))))))))))))))))))))) af af af af L (λ_ _ _ _ h=>h) ⟨F,H,Wm,K,P⟩ ?_
  have c:=bV x5;obtain⟨x6,hx⟩:=J x5.drew;rw[<-hx]at c⊢;replace U:=ah U c;replace F:=ae F c;replace H:=ae H c;replace x:=ae x c;replace Wm:=ae Wm c;replace K:=O (aD K c);replace P:T (x6.rangeAt V (ol+i*73) (aE u qm)):=O (λt d q=>aD (P t d q) c);have a6:=O c;clear hx c;refine co ?_;refine tS ?_;iterate 2 refine co ?_
  refine tY ?_;refine co ?_;refine yr ?_;refine co ?_;refine tS ?_;iterate 2 refine co ?_
  refine tY ?_;refine co ?_
  (refine cJ (v:=jh C) I aj (λg R=>by rw[VV];exact eF _ _ VC.t _ I _ _ I _ VC.d R.2.2.2.2 VC.hu VC.hd (by rw[Vq];exact VC.hi)) ?_;refine G ?_)
  refine co ?_
  (refine cJ (v:=jh TF) I aj (λg R=>by rw[au];exact eF _ _ VD.t _ I (M+1) 1 I _ VD.d (λt d q=>ai R.2.1 (ZY t d q)) VD.hu VD.hd (by rw[Yo];exact VD.hi)) ?_;refine G ?_)
  (refine cJ (v:=jh X) I aj (λg R=>dc VG.hu VG.hd (by rw[y.sz];exact VG.hi) I I R.2.2.1) ?_;refine G ?_)
  have WH:T (TF.size=32):=O (by rw[au,jv];exact Yo);obtain⟨m,hY⟩:=J ((#[jI .i64 (i:ja)]++C++TF++ #[jI .i64 (0:N)]++X))
  (refine cJ (v:=jh m) I aj (λg R=>by rw[hY];exact zv (i:=(i:ja)) (s:=0) (C:=C) (I0:=TF) (G0:=X) Wc WH y.sz I af g) ?_;refine G ?_)
  have Yq:T (m.size=VK.n):=O (by rw[hY,mz,mz,mz,mz,Wc,WH,y.sz];rfl);have a2:T (m.all (·.oneCell')=ji):=O (by
   have Wg:C.all (·.oneCell')=ji:=by rw[VV,jS];exact λd hu=>mC HQ d (ak hu)
   have Vd:TF.all (·.oneCell')=ji:=by rw[au];exact eU _
   rw[hY,nn,nn,nn,nn,y.one,Wg,Vd];simp[j5])
  have ba:=O hY;clear hY;iterate 2 refine co ?_
  refine cV I (λK' z=>?_);rw[jr aj];refine jR VK.t _ _ I (M+2) m I I VK.t VK.Z x.out (by rw[Yq];exact VK.hi) (VK.hZ.trans Yq.symm) a2 ?_;have aa:∀b,b≠M+2->(x6.setRow (M+2) m).heap[b]?=x6.heap[b]?:=λb f=>js _ _ _ _ f
  have ax:jl w w (x6.setRow (M+2) m):=iR U.out (by rw[<-HM];omega) m;have ad:(x6.setRow (M+2) m).heap.size=x6.heap.size:=setRow_size _ _ _;have a3:T ((x6.setRow (M+2) m).heap[M+2]?=A (jc m VK.t (0,0))):=O (jU _ _ _ _ _ _ x.out);generalize x6.setRow (M+2) m=x7 at aa ax ad a3⊢;refine z _ _ ⟨(aa M Y).trans F,(aa (M+1) Y).trans H,(aa b7 (aJ Zh)).trans Wm,(qy (a:=⟨ga,oa+kk,jf⟩) (aa ga (cT WT.1))).trans K,λt d q=>(qy (a:=⟨V,ol+i*73+t,jf⟩) (aa V (cT WT.2))).trans (P t d q)⟩ λ_=>?_
  have bb:T (W=0->∃B D,X=(aB (aC (aI fol) u) B D).toArray/\dz (λk=>M+3<=k/\k<x7.heap.size) x7 (aC (aI fol) u) B D):=O λh=>by
   obtain⟨B,D,e1,Q⟩:=UT h;exact⟨B,D,e1,((Q.below a6).keep λb f=>aa b Y).mono λb f=>⟨f.1,by rw[ad];exact f.2⟩⟩
  have bc:=O ax;clear z aa ad ax UT;refine G ?_;refine co ?_;refine fc ?_
  go_wp2_with fail
  refine qo (fS I _ _ (M+2) VK.t m (0,0) _ I a3 sh I (by rw[Yq];exact VK.hi)) I ?_;refine⟨m,o,I,Yq,a2,λh=>?_,λh=>?_,bc⟩
  ·have h0:W=0:=qQ (a1.out▸h)
   obtain⟨B,D,e1,Q⟩:=bb h0;refine⟨⟨i,(u,qm),fid,0,aC (aI fol) u,B,D⟩,?_,KD.of bh (Q.mono λb f=>⟨by rw[<-HM];omega,f.2⟩) bf,?_⟩
   ·rw[ba,VV,au,e1,<-Ao,qW]
   rw[HF,ay.1,ay.2,jr (y.eq.symm.trans h0),Z7];exact qs A CK.cand_of.symm
  have h0:¬W=0:=of_decide_eq_false (a1.out▸h);rw[HF,ay.1,jF (λe=>h0 (y.eq.trans e))]
 refine cV I (λK' z=>?_);rw[jr aj];refine gM VG.t I VG.Z VG.hal ?_;obtain⟨x3,b7,hx,f,bu,bd⟩:=dh x2 VG.Z VG.t;rw[<-hx,<-f];have UM:T (b7=x2.heap.size/\x3.heap.size=b7+1):=O ⟨f,by rw[hx,f,jq]⟩;have S:=O bd;have bi:=ah U bd;refine z _ _ ⟨av F (S),av H (S),av x (S),aD K (S),λt d q=>aD (P t d q) (S)⟩ λ_=>?_
 clear z hx f bd;refine G ?_;refine cV I (λK' z=>?_);go_simp;have hN:=AW (aI fol) (jb jf 0 0) (jb jf 0 0) u qm x3 (G2 fol _) (HQ.below bi) bg (HT.below bi) (jM _) (jM _);rw[<-a5,<-VV]at hN;refine hN.mono ?_;clear hN;rintro e x4 ⟨X,W,rfl,hN⟩;have y:=O hN;clear hN;have UA:=O (S.trans (y.bel.mono S.size));have bd:=O (av bu y.bel);refine z _ _ ⟨av F (UA),av H (UA),av x (UA),aD K (UA),λt d q=>aD (P t d q) (UA)⟩ λ_=>?_
 clear z;refine G ?_;iterate 3 refine co ?_
 refine cV I (λK' z=>?_);rw[jr aj];refine jR VG.t _ _ I b7 X I I VG.t VG.Z bd.out (by rw[y.sz];exact VG.hi) (VG.hZ.trans y.sz.symm) y.one ?_;have Wm:T ((x4.setRow b7 X).heap[b7]?=A (jc X VG.t (0,0))):=O (jU _ _ _ _ _ _ bd.out);have c:jl x2 x2 (x4.setRow b7 X):=iR UA.out (by rw[UM.1];exact jD _) X;have YI:∀b,x3.heap.size<=b->(x4.setRow b7 X).heap[b]?=x4.heap[b]?:=λb f=>js _ _ _ _ (cT UM.2)
 have ad:(x4.setRow b7 X).heap.size=x4.heap.size:=setRow_size _ _ _;generalize x4.setRow b7 X=x5 at Wm c YI ad⊢;have Zh:T (M+3<=b7):=O (by rw[UM.1];exact a4);have UT:T (W=0->∃B D,X=(aB (aC (aI fol) u) B D).toArray/\dz (λk=>M+3<=k/\k<x5.heap.size) x5 (aC (aI fol) u) B D):=O λh=>by
  obtain⟨B,D,e1,Q⟩:=y.new h;exact⟨B,D,e1,(Q.keep λb f=>YI b f.1).mono λb f=>⟨jE a4 (jE S.size f.1),by rw[ad];exact f.2⟩⟩
 refine z _ _ ⟨av F (c),av H (c),av x (c),aD K (c),λt d q=>aD (P t d q) (c)⟩ λ_=>?_
 replace HB:=ah HB c;replace U:=ah U c;replace F:=ae F c;replace H:=ae H c;replace x:=ae x c;replace K:=O (aD K c);replace P:T (x5.rangeAt V (ol+i*73) (aE u qm)):=O (λt d q=>aD (P t d q) c);clear c;clear z YI ad;refine G ?_;refine co ?_;refine fc ?_;obtain⟨o,ho⟩:=J (decide (W=0));have a1:=O ho;have br:(W==0)=o:=by rw[ho];by_cases h:W=0<;>simp[h]
 have bs:decide (W=0)=o:=ho.symm;clear ho
 go_upto_region 5 with fail
 refine jO ?_;refine fP (λg=>g.heap[M]?=A (jc #[jb (A ⟨V,ol,jf⟩) n k1,jb p2 E k2,jb (A ⟨ga,oa,jf⟩) E k3] 78 (0,0))/\g.heap[M+1]?=A (jc FA VF.t (0,0))/\g.heap[b7]?=A (jc X VG.t (0,0))/\g.cell? ⟨ga,oa+kk,jf⟩=A (jd je (i:ja))/\g.rangeAt V (ol+i*73) (aE u qm)) 22
  (.t 0 (.t 1 (.t 2 (.t 3 (.t 4 (.t 5 (.t 6 (.t 7 (.t 8 (.t 9 (.t 10 (.t 11 (.t 12 (.t 13 (.t 14 (.t 15 (.t 16 (.t 17 (.t 18 (.t 19 (.o 20 (.t 21 .done)))))))))))))))))))))) af af af af L (λ_ _ _ _ h=>h) ⟨F,H,Wm,K,P⟩ ?_
 have c:=bV x5;obtain⟨x6,hx⟩:=J x5.drew;rw[<-hx]at c⊢;replace U:=ah U c;replace F:=ae F c;replace H:=ae H c;replace x:=ae x c;replace Wm:=ae Wm c;replace K:=O (aD K c);replace P:T (x6.rangeAt V (ol+i*73) (aE u qm)):=O (λt d q=>aD (P t d q) c);have a6:=O c;clear hx c;refine co ?_;refine tS ?_;iterate 2 refine co ?_
 refine tY ?_;refine co ?_;refine yr ?_;refine co ?_;refine tS ?_;iterate 2 refine co ?_
 refine tY ?_;refine co ?_
 (refine cJ (v:=jh C) I aj (λg R=>by rw[VV];exact eF _ _ VC.t _ I _ _ I _ VC.d R.2.2.2.2 VC.hu VC.hd (by rw[Vq];exact VC.hi)) ?_;refine G ?_)
 refine co ?_
 (refine cJ (v:=jh TF) I aj (λg R=>by rw[au];exact eF _ _ VD.t _ I (M+1) 1 I _ VD.d (λt d q=>ai R.2.1 (ZY t d q)) VD.hu VD.hd (by rw[Yo];exact VD.hi)) ?_;refine G ?_)
 (refine cJ (v:=jh X) I aj (λg R=>dc VG.hu VG.hd (by rw[y.sz];exact VG.hi) I I R.2.2.1) ?_;refine G ?_)
 have WH:T (TF.size=32):=O (by rw[au,jv];exact Yo);obtain⟨m,hY⟩:=J ((#[jI .i64 (i:ja)]++C++TF++ #[jI .i64 (0:N)]++X))
 (refine cJ (v:=jh m) I aj (λg R=>by rw[hY];exact zv (i:=(i:ja)) (s:=0) (C:=C) (I0:=TF) (G0:=X) Wc WH y.sz I af g) ?_;refine G ?_)
 have Yq:T (m.size=VK.n):=O (by rw[hY,mz,mz,mz,mz,Wc,WH,y.sz];rfl);have a2:T (m.all (·.oneCell')=ji):=O (by
  have Wg:C.all (·.oneCell')=ji:=by rw[VV,jS];exact λd hu=>mC HQ d (ak hu)
  have Vd:TF.all (·.oneCell')=ji:=by rw[au];exact eU _
  rw[hY,nn,nn,nn,nn,y.one,Wg,Vd];simp[j5])
 have ba:=O hY;clear hY;iterate 2 refine co ?_
 refine cV I (λK' z=>?_);rw[jr aj];refine jR VK.t _ _ I (M+2) m I I VK.t VK.Z x.out (by rw[Yq];exact VK.hi) (VK.hZ.trans Yq.symm) a2 ?_;have aa:∀b,b≠M+2->(x6.setRow (M+2) m).heap[b]?=x6.heap[b]?:=λb f=>js _ _ _ _ f
 have ax:jl w w (x6.setRow (M+2) m):=iR U.out (by rw[<-HM];omega) m;have ad:(x6.setRow (M+2) m).heap.size=x6.heap.size:=setRow_size _ _ _;have a3:T ((x6.setRow (M+2) m).heap[M+2]?=A (jc m VK.t (0,0))):=O (jU _ _ _ _ _ _ x.out);generalize x6.setRow (M+2) m=x7 at aa ax ad a3⊢;refine z _ _ ⟨(aa M Y).trans F,(aa (M+1) Y).trans H,(aa b7 (aJ Zh)).trans Wm,(qy (a:=⟨ga,oa+kk,jf⟩) (aa ga (cT WT.1))).trans K,λt d q=>(qy (a:=⟨V,ol+i*73+t,jf⟩) (aa V (cT WT.2))).trans (P t d q)⟩ λ_=>?_
 have bb:T (W=0->∃B D,X=(aB (aC (aI fol) u) B D).toArray/\dz (λk=>M+3<=k/\k<x7.heap.size) x7 (aC (aI fol) u) B D):=O λh=>by
  obtain⟨B,D,e1,Q⟩:=UT h;exact⟨B,D,e1,((Q.below a6).keep λb f=>aa b Y).mono λb f=>⟨f.1,by rw[ad];exact f.2⟩⟩
 have bc:=O ax;clear z aa ad ax UT;refine G ?_;refine co ?_;refine fc ?_
 go_wp2_with fail
 refine qo (fS I _ _ (M+2) VK.t m (0,0) _ I a3 sh I (by rw[Yq];exact VK.hi)) I ?_;refine⟨m,o,I,Yq,a2,λh=>?_,λh=>?_,bc⟩
 ·have h0:W=0:=qQ (a1.out▸h)
  obtain⟨B,D,e1,Q⟩:=bb h0;refine⟨⟨i,(u,qm),fid,0,aC (aI fol) u,B,D⟩,?_,KD.of bh (Q.mono λb f=>⟨by rw[<-HM];omega,f.2⟩) bf,?_⟩
  ·rw[ba,VV,au,e1,<-Ao,qW]
  rw[HF,ay.1,ay.2,jr (y.eq.symm.trans h0),Z7];exact qs A CK.cand_of.symm
 have h0:¬W=0:=of_decide_eq_false (a1.out▸h);rw[HF,ay.1,jF (λe=>h0 (y.eq.trans e))]
theorem B9:∀(l:jg N) (a b:N),l.Pairwise (·<·)->(∀x∈l,a<=x/\x<=b)->(l.length:N)<=max 0 (b-a+1)
 |[],a,b,_,_=>by simp;omega
 |x::l,a,b,h,c=>by
  rw[wt]at h;have e:=c x (qz ..);have f:=B9 l (x+1) b h.2 λy d=>⟨by have:=h.1 y d;omega,(c y (qA _ d)).2⟩
  rw[jZ];omega
theorem lU(h:dD a):a.mem.length<=512/\a.tree.length<=1023:=by
 constructor
 ·have g:=qs List.length h.dev
  rw[jy]at g;have:=Gh a.tree;omega
 have b:=lO h.tree;have g:=B9 (a.tree.map (·.1)) 1 1023 b.1.keys λx c=>by
  obtain⟨e,he,rfl⟩:=qf.1 c;exact⟨(b.2 e he).1,(b.2 e he).2.1⟩
 rw[jy]at g;omega
section
variable{b:CK}{e:jk}
section
variable {P:o8} {F:Fence} {nF:ja} {ops:jp jK} {rest:jg jK} {o:jK} {a:Act} {w:jj} {Q:Exit->Act->jj->Prop} (V:VarT P)
theorem VarT.madeI(d:o.guard=jf)(b:o.op=.alloc V.t)(h:wpListIn F nF P ops Q rest (a.put o.dst (ju (A ⟨w,0,jf⟩))) (w.alloc (jc V.Z V.t))):wpListIn F nF P ops Q (o::rest) a w:=by
 refine wpListIn_plain d λg e=>?_
 unfold Oper.wpIn;refine⟨by simp[Oper.about,b],?_⟩;rw[Oper.semAt_plain F _ _ (by rw[b];intro c f;cases f)];simp only[jP,b,Sem.run_bind,V.hal,Result.andThen_ok,Sem.run_pure];exact e _ _ h
theorem VarT.storeI(d:o.guard=jf){x y:j1}(e:o.op=.store V.t x y){g:ja}(f:a.eval x=ju (A ⟨g,0,jf⟩))(C:jp jk)(i:a.eval y=jh C)(c:C.size=V.n)(j:C.all (·.oneCell')=ji)
 {b:jp jk} (k:w.heap[g]?=A (jc b V.t (0,0))) (l:b.size=V.n) (h:wpListIn F nF P ops Q rest (a.put o.dst jm) (w.setRow g C)):wpListIn F nF P ops Q (o::rest) a w:=
 Ap d V.t x y e g C f i V.t b k (by rw[c];exact V.hi) (l.trans c.symm) j h
theorem VarT.firstI(b:o.guard=jf){x y:j1}(c:o.op=.store V.t x y)(d:a.eval x=ju (A ⟨w,0,jf⟩))(C:jp jk)(e:a.eval y=jh C)(f:C.size=V.n)(g:C.all (·.oneCell')=ji)
 (h:wpListIn F nF P ops Q rest (a.put o.dst jm) (w.alloc (jc C V.t))):wpListIn F nF P ops Q (o::rest) a (w.alloc (jc V.Z V.t)):=
 V.storeI b c d C e f g (jA w _) V.hZ (by rw[yh];exact h)
theorem VarT.loadI(e:Region.wanted o (yielded ops a.tmps)=ji){x:j1}(d:o.op=.load V.t x){g f:ja}(i:a.eval x=ju (A ⟨g,f,jf⟩))(b:jg jk)(j:b.length=V.n)(k:w.rangeAt g f b)
 (h:wpListIn F nF P ops Q rest (a.put o.dst (jh b.toArray)) w):wpListIn F nF P ops Q (o::rest) a w:=by
 refine wpListIn_step λn l=>?_
 rw[jr e];unfold Oper.wpIn;refine⟨by simp[Oper.about,d],?_⟩;rw[Oper.semAt_plain F _ _ (by rw[d];intro c m;cases m),eF o a V.t x d g f i b V.d k V.hu V.hd (by rw[j];exact V.hi)];exact l _ _ h
theorem VarT.loadAI(b:Region.wanted o (yielded ops a.tmps)=ji){x:j1}(c:o.op=.load V.t x){g:ja}(d:a.eval x=ju (A ⟨g,0,jf⟩))(C:jp jk)(e:C.size=V.n){t:jJ}(f:w.heap[g]?=A (jc C t (0,0)))
 (h:wpListIn F nF P ops Q rest (a.put o.dst (jh C)) w):wpListIn F nF P ops Q (o::rest) a w:=by
 refine V.loadI b c d C.toList (by rw[wv];exact e) (λj v i=>?_) (by rw[qW];exact h);rw[qX];exact ai f (ak i)
end
theorem Im{w:jj}{g o:ja}(h:w.cell? ⟨g,o,jf⟩=A e):∃c t f,w.heap[g]?=A (jc c t f):=by
 unfold World.cell? at h
 cases ho:w.heap[g]? with
 |none=>simp[ho]at h
 |some a=>
  cases a with
  |cells c t f=>exact⟨c,t,f,I⟩
  |_=>simp[ho]at h
theorem cE.cellsB{w:jj}{sz n:ja}{xs:jg jk}(h:cE w e sz n xs)(i:0<sz):kU (λb=>∃c t f,w.heap[b]?=A (jc c t f)) e:=by
 obtain⟨f,p,c,rfl,-,-,j⟩:=h;rintro r k s v d a rfl;injection v with b l t
 subst l;obtain⟨g,o,rfl,m⟩:=j d;injection b with b
 subst b;have q:0<xs.length:=by rw[f];exact Nat.mul_pos d i
 exact Im (m 0 _ (wq q))
theorem bJ.cellsB{w:jj}{t:jg (N×N)}(h:bJ w e t):kU (λb=>∃c t f,w.heap[b]?=A (jc c t f)) e:=by
 obtain⟨p,c,rfl,-,-,f,-⟩:=h;rintro l k m v d a rfl;injection v with b i n
 subst i;obtain⟨g,o,rfl,j⟩:=f d;injection b with b
 subst b;exact Im (j 0 d).1
theorem dz.cellsOnly{D:ja->Prop}{w:jj}{g:Grp}{vt:jk}(h:dz D w g e vt):dz (λb=>D b/\∃c t f,w.heap[b]?=A (jc c t f)) w g e vt:=by
 refine⟨h.grp,λp k c vm b a d=>⟨h.bm p k c vm b a d,?_⟩,λp k c vm b a d=>⟨h.bt p k c vm b a d,?_⟩⟩
 ·exact cE.cellsB h.grp.mem L p k c vm b a d
 exact bJ.cellsB h.grp.tree p k c vm b a d
def gb(k:CK)(b:ja):Prop:=(∃a n c,k.vm=jb (A a) n c/\0<n/\a.block=b)\/∃a n c,k.vt=jb (A a) n c/\0<n/\a.block=b
theorem KD.own{D:ja->Prop}{f:jg CP}{w:jj}(h:KD D f w b):KD (λk=>gb b k/\D k) f w b:=
 ⟨h.at_,⟨h.grp.grp,λp n c e k a d=>⟨.inl ⟨a,n,c,by rw[e,d],k,I⟩,h.grp.bm p n c e k a d⟩,λp n c e k a d=>⟨.inr ⟨a,n,c,by rw[e,d],k,I⟩,h.grp.bt p n c e k a d⟩⟩,h.idl⟩
theorem rG{D:ja->Prop}{f:jg CP}{w:jj}(h:KD D f w b){k:ja}(g:gb b k):D k:=by
 rcases g with⟨a,n,c,e,d,rfl⟩|⟨a,n,c,e,d,rfl⟩
 ·exact h.grp.bm _ _ _ e d a I
 exact h.grp.bt _ _ _ e d a I
def GK(a:jg CP)(Ψ:ja->Prop)(W:jj)(k:CK):Prop:=KD (λb=>gb k b/\¬Ψ b/\∃c t f,W.heap[b]?=A (jc c t f)) a W k
theorem GK.of{D:ja->Prop}{a:jg CP}{Ψ:ja->Prop}{W:jj}{k:CK}(h:KD D a W k)(d:∀b,D b->¬Ψ b):GK a Ψ W k:=
 KD.own ⟨h.at_,h.grp.cellsOnly.mono λb c=>⟨d b c.1,c.2⟩,h.idl⟩
theorem GK.keep{g:jg CP}{Ψ i:ja->Prop}{d B:jj}{k:CK}(h:GK g Ψ d k)(e:∀b,gb k b->¬Ψ b->(∃c t f,d.heap[b]?=A (jc c t f))->B.heap[b]?=d.heap[b]?/\¬i b):GK g i B k:=
 (KD.keep h λb a=>(e b a.1 a.2.1 a.2.2).1).mono λb a=>⟨a.1,(e b a.1 a.2.1 a.2.2).2,by obtain⟨c,t,f,j⟩:=a.2.2;exact⟨c,t,f,(e b a.1 a.2.1 a.2.2).1.trans j⟩⟩
theorem GK.turns{B0:ja}{i:jg CP}{Ψ a:ja->Prop}{e B:jj}(h:GK i Ψ e b)(l:bQ B0 a e B)(m:∀b,a b->Ψ b\/e.heap.size<=b):GK i a B b:=
 h.keep λk p n o=>by
  obtain⟨c,t,f,g⟩:=o;have d:¬a k:=λd=>by
   rcases m k d with j|j
   ·exact n j
   have:=(jB.1 g).1;omega
  exact⟨(l.cells g d).trans g.symm,d⟩
theorem Dm(B0:ja)(a:jg CP):bY B0 (fun(ys:jg CK) Ψ W=>∀x∈ys,GK a Ψ W x):=
 λs Ψ f g B b c _ d x e=>(b x e).turns c d
structure fi(w0 w:jj)(a m:ja)(Ψ:ja->Prop)(W:jj):Prop where
 lt:∀k,Ψ k->k<W.heap.size
 old:∀k,m<=k->k<w.heap.size->Ψ k
 kept:∀k,m<=k->k<w.heap.size->W.heap[k]?=w.heap[k]?
 bel:jl a w0 W
 low:∀k,Ψ k->m<=k
 sz:w.heap.size<=W.heap.size
theorem fi.below{w0 w W c:jj}{b m:ja}{Ψ:ja->Prop}(h:fi w0 w b m Ψ W)(e:b<=w.heap.size)(a:jl W W c):fi w0 w b m Ψ c:=
 ⟨λk f=>jL (h.lt k f) a.size,h.old,λk g d=>(a.block k (jL d h.sz)).trans (h.kept k g d),h.bel.trans (a.mono (jE e h.sz)),h.low,jE h.sz a.size⟩
theorem fi.yield{w0 w W b:jj}{c m:ja}{Ψ:ja->Prop}(h:fi w0 w c m Ψ W)(d:jl c W b)(f:∀k,Ψ k->b.heap[k]?=W.heap[k]?):fi w0 w c m Ψ b:=
 ⟨λk a=>jL (h.lt k a) d.size,h.old,λk a e=>(f k (h.old k a e)).trans (h.kept k a e),h.bel.trans d,h.low,jE h.sz d.size⟩
theorem fi.more{w0 w W:jj}{c m b:ja}{Ψ:ja->Prop}(h:fi w0 w c m Ψ W)(d:b<W.heap.size)(e:m<=b):fi w0 w c m (λk=>Ψ k\/k=b) W:=
 ⟨λk a=>by rcases a with a|rfl;exact h.lt k a;exact d,λk f g=>.inl (h.old k f g),h.kept,h.bel,λk a=>by rcases a with a|rfl;exact h.low k a;exact e,h.sz⟩
theorem fi.pool{w0 w W:jj}{d m:ja}{Ψ:ja->Prop}{f g:jk}{a:jg CP}(h:fi w0 w d m Ψ W)(i:w0.heap.size<=d)(j:cA w0 e a)(k:aG (λb=>m<=b/\b<w.heap.size) w f 32 (bW (a.map (·.1)) a.length).length (eM (a.map (·.1)) (bW (a.map (·.1)) a.length)))
 (l:aG (λb=>m<=b/\b<w.heap.size) w g 1 (bW (a.map (·.1)) a.length).length (fx (bW (a.map (·.1)) a.length))):iw (·<W.heap.size) W e f g a:=
 ⟨j.below (h.bel.mono i),(k.keep λb c=>h.kept b c.1 c.2).mono λb c=>jL c.2 h.sz,(l.keep λb c=>h.kept b c.1 c.2).mono λb c=>jL c.2 h.sz⟩
noncomputable def uy(l:jg Cmt):jG CK->jg aM
 |none=>[]
 |some k=>fE l k.cand
noncomputable def yA(l:jg Cmt)(k:CK):jg aM:=match dH k.g l with|none=>[]|some w=>fE l w
theorem K5(l:jg Cmt)(k:CK):uy l (A k)=k.cand::yA l k:=nG l k.cand
structure CSt(a:jg CP)(fol:N)(fid:LBy)(w W:jj)(Ψ:ja->Prop)(b:ja)(c:jp jk)(ys:jg CK)(d:jG CK):Prop where
 box:W.heap[b]?=A (jc c VK.t (0,0))
 sz:c.size=VK.n
 one:c.all (·.oneCell')=ji
 mine:Ψ b
 low:w.heap.size<=b
 now:∀k,d=A k->c=(aL k).toArray/\GK a Ψ W k/\∃e,fO e (a.map (·.1)) k.cand
 rest:ys.map CK.cand++uy (a.map (·.1)) d=dA fol fid (a.map (·.1))
noncomputable def chM(l:jg Cmt)(a ok:jk)(W:jj):ja:=
 match ok,a with
 | .bool ji,ju (A ⟨b,_,_⟩)=>(l.countP λc=>decide (((W.cell? ⟨b,108,jf⟩).map jQ).getD 0<c.epoch))+1
 |_,_=>0
theorem GV{a:jg CP}{fol:N}{fid:LBy}{w W:jj}{Ψ:ja->Prop}{k:ja}{d:jp jk}{ys:jg CK}(h:CSt a fol fid w W Ψ k d ys (A b))(v:cA W e a):
 chM (a.map (·.1)) (ju (A ⟨k,0,jf⟩)) (.bool ji) W=iF (a.map (·.1)) b.g+1:=by
 obtain⟨f,g,-⟩:=h.now b I;have c:=KD.kin g v;have i:W.cell? ⟨k,108,jf⟩=A (jd je b.g.epoch):=ai h.box (by
  rw[f,nv];exact(nD c 2).trans (lP (vm:=b.vm) (vt:=b.vt) c.leads.llen).2.1)
 unfold chM;simp only[i]
 rfl
theorem ym(d:jg CP)(E R S:jk)(fol:N)(fid:LBy)(j:fid.length=32)(w0 w:jj)(q m bp bf:ja)(t:w0.heap.size<=q)(C:jl q w0 w)(u:q<=m)(l:m<=w.heap.size)(D:cA w0 E d)
 (K:aG (λb=>m<=b/\b<w.heap.size) w R 32 (bW (d.map (·.1)) d.length).length (eM (d.map (·.1)) (bW (d.map (·.1)) d.length))) (M:aG (λb=>m<=b/\b<w.heap.size) w S 1 (bW (d.map (·.1)) d.length).length (fx (bW (d.map (·.1)) d.length)))
 (o:w.heap[bp]?=A (jc #[E,R,S] VP.t (0,0))) (s:w.heap[bf]?=A (jc (c8 fol fid).toArray VF.t (0,0))) (P:m<=bp) (Q:m<=bf) (v:∀p∈d,cZ (aR p.1)) (U:bH w0) (y:d.length<=1000) (V:∀p∈d,p.1.chg.length<=1000000):
 zY jo 57 #[ju (A ⟨bp,0,jf⟩),ju (A ⟨bf,0,jf⟩)] (λk:CK=>#[jh (aL k).toArray]) (λk=>m<=k/\k<w.heap.size) q (λxs=>xs.map CK.cand=dA fol fid (d.map (·.1))) (λa=>∃c,a.map CK.cand++c=dA fol fid (d.map (·.1)))
  (λys Ψ e=>(∃a x,ys=a++[x]/\GK d Ψ e x)/\∃c,ys.map CK.cand++c=dA fol fid (d.map (·.1))) (λys Ψ B=>∀x∈ys,GK d Ψ B x) gb w:=by
 intro lp F Jx W c p x X hY aa;have e:fi w0 w q m (λk=>m<=k/\k<w.heap.size) W:=⟨λk g=>jL g.2 c.size,λk a b=>⟨a,b⟩,λk _ g=>c.block k g,C.trans (c.mono (jE u l)),λk g=>g.1,c.size⟩;obtain⟨PA,f⟩:=J (#[E,R,S]);obtain⟨FA,i⟩:=J ((c8 fol fid).toArray);have bi:T (PA.size=VP.n):=O (by rw[f];rfl);have ZH:T (FA.size=VF.n):=O (by rw[i,jv];unfold c8;rw[jZ,jy,j];rfl);rw[<-f]at o;rw[<-i]at s;have Za:T (∀Ψ z,fi w0 w q m Ψ z->z.heap[bp]?=A (jc PA VP.t (0,0))):=O λΨ z h=>(h.kept bp P (jB.1 o).1).trans o
 have bw:T (∀Ψ z,fi w0 w q m Ψ z->z.heap[bf]?=A (jc FA VF.t (0,0))):=O λΨ z h=>(h.kept bf Q (jB.1 s).1).trans s
 have YG:T (∀Ψ z,fi w0 w q m Ψ z->iw (·<z.heap.size) z E R S d):=O λΨ z h=>h.pool t D K M
 have bk:T (∀Ψ z,fi w0 w q m Ψ z->bH z):=O λΨ z h=>U.below (h.bel.mono t)
 have bA:=O f;have b6:=O i;have HE:=O v;have HN:=O y;have Vy:=O V;have Zx:=O e;have H:=O p;have b7:=O x;have HG:=O X;have HY:=O hY;have B:=O aa;have YB:=O (jE u l);have bl:=O l;have a6:=O c.size;have b8:=O j;have WL:=O (Za _ _ e);have Ve:=O (bw _ _ e);have r:=Fs d E R S fol fid j W (YG _ _ e) v (bk _ _ e) y;rw[<-f,<-i]at r;replace r:=O r;clear c p x X hY aa e f i o s t C u l D K M P Q v U y V j;refine(qS (n:=0)).1 ?_;refine callsIn_of_wp func57 I trivial ?_ I;simp only[ntmps57,jv,jZ,qB,qC,qD,qE,qF,qG,qH,qg,qI]
 gi_wp2_with (first|(refine VP.loadAI aj I I PA bi WL (G ?_))|(refine VF.loadAI aj I I FA ZH Ve (G ?_)))
 refine⟨trivial,I,(callsIn_wide.2 r).mono ?_⟩;rintro e x1 ⟨p,o,rfl,c,aa,f,i,u⟩;obtain⟨l,rfl,v,x⟩:∃l:jG CK,o=l.isSome/\(∀k,l=A k->p=(aL k).toArray/\KD (λb=>W.heap.size<=b/\b<x1.heap.size) d x1 k/\eS fol fid (d.map (·.1))=A k.cand)/\(l=jf->eS fol fid (d.map (·.1))=jf):=by
  rcases o with _|_
  ·exact⟨jf,I,(λk g=>by cases g),(λ_=>i I)⟩
  obtain⟨k,y,K,h3⟩:=f I;exact⟨A k,I,λj g=>by injection g with g;subst g;exact⟨y,K,h3⟩,λh=>by cases h⟩
 have t:=O c;have C:=O aa;have s:=O v;have P:=O x;have U:=O u;clear c aa f i v x u WL Ve r;obtain⟨ok,c⟩:=J l.isSome;rw[<-c];have bB:=O c;clear c
 gi_wp2_with (first|(refine VK.madeI I I (G ?_))|(refine VK.firstI I I I p I t C (G ?_)))
 obtain⟨x2,b4,hx,r,M,D⟩:=dh x1 p VK.t;rw[<-hx,<-r];have u:=U.trans (D.mono U.size);obtain⟨v,f⟩:∃v:ja->Prop,v=λk=>(m<=k/\k<w.heap.size)\/k=b4:=⟨_,I⟩
 have V:W.heap.size<=b4:=by rw[r];exact U.size
 have Q:∀b,(W.heap.size<=b/\b<x1.heap.size)->¬v b:=λb bm h=>by
  rw[f]at h;have:=a6.out
  rcases h with h|h
  ·omega
  omega
 have X:T (fi w0 w q m v x2):=O (by rw[f];exact(Zx.below YB u).more (by rw[r];have h:=(jB.1 M).1;rw[r]at h;exact h) (ee a6 bl));have U3:T (F [] v x2):=O (H _ _ v _ _ B.out (bQ.ofBelow u λk g _=>g) (λk g=>by rw[f];exact .inl g) (λk g=>by
  rw[f]at g
  rcases g with g|g
  ·exact .inl g
  exact .inr (by rw[g];exact V)))
 have VX:T (∀k,l=A k->F [] (λi=>v i\/gb k i) x2):=O λk g=>H _ _ (λi=>v i\/gb k i) _ _ B.out (bQ.ofBelow u λk g _=>g) (λi c=>by rw[f];exact .inl (.inl c)) (λi c=>by
  rw[f]at c
  rcases c with(c|c)|c
  ·exact .inl c
  ·exact .inr (by rw[c];exact V)
  exact .inr (rG (s k g).2.1 c).1)
 have x:T (CSt d fol fid w x2 v b4 p [] l):=O ⟨M,t,C,by rw[f];exact .inr I,jE a6 V,λk g=>by
  obtain⟨e1,e2,e3⟩:=s k g;refine⟨e1,GK.of (e2.keep λb bm=>D.block b bm.2) Q,_,(tw e3).1⟩,by
  rw[pQ,jV,qg]
  rcases l with _|k
  ·rw[P I];rfl
  rw[(s k I).2.2];rfl⟩
 have U8:T (W.heap.size<=x2.heap.size):=O u.size;clear hx r D u V Q f s P U M t C B Zx
 gi_loopw [4,5] (λf ok wr=>W.heap.size<=wr.heap.size/\∃(b:ja) (p:jp jk) (ys:jg CK) (l:jG CK) (Ψ:ja->Prop),f=ju (A ⟨b,0,jf⟩)/\ok=.bool l.isSome/\T (fi w0 w q m Ψ wr)/\T (F ys Ψ wr)/\T (∀k,l=A k->F ys (λi=>Ψ i\/gb k i) wr)/\T (CSt d fol fid w wr Ψ b p ys l)) (λf ok wr=>chM (d.map (·.1)) f ok wr)
 case atStart=>exact⟨U8,b4,p,[],l,v,I,by rw[bB],X,U3,VX,x⟩
 obtain⟨b9,b,p,ys,l,Ψ,rfl,rfl,X,U3,VX,x⟩:=hrel
 rcases l with _|k
 ·have s:T (ys.map CK.cand=dA fol fid (d.map (·.1))):=O (by have h:=x.rest;unfold uy at h;rw[qh]at h;exact h)
  gi_wp2_with fail
  refine⟨(λf h=>by cases h),?_⟩
  gi_wp2_with fail
  refine bodyPost_end (results_none I _ _ _) I ?_;exact⟨⟨_,I⟩,.inl ⟨_,_,s,U3⟩⟩
 obtain⟨f,s,g0,t⟩:=x.now k I;have bC:=O s;have ZU:=O t;have bI:=O f;have bn:T (cA wr E d):=O (YG _ _ X.out).list;have bK:=O (GV x bn);have U5:T ((ys++[k]).map CK.cand++yA (d.map (·.1)) k=dA fol fid (d.map (·.1))):=O (by
  rw[<-x.rest,n0,qY,K5]
  rfl)
 have UM:=O x.box;have au:=O x.sz;have U:=O x.one;have bo:=HY ys k Ψ wr U3 (VX k I) X.lt ⟨⟨ys,k,I,s⟩,_,U5⟩;rw[<-f]at bo;obtain⟨fn,tmps,assign,body,aa,B⟩:=bo;have HR:=O B;clear B f s t
 gi_wp2_with (first|(refine VK.loadAI aj I I p au UM (G ?_)))
 refine⟨I,HR.mono ?_⟩;rintro e W3 (⟨rfl,Zd,u,U9⟩|⟨rfl,ZT,u,U9⟩)
 ·have C:=O (X.yield u U9)
  have a1:=O (HG _ _ _ Zd k ar);have ax:=O Zd;have Wk:=O ((U9 b x.mine).trans UM);have Wt:=u.size;clear Zd u U9 HR aa X bC U3 VX UM bn
  gi_upto_region 2 with(first|(refine VK.loadAI aj I I p au Wk (G ?_))|(refine VK.madeI I I (G ?_))|(refine VK.firstI I I I p I au U (G ?_)))
  obtain⟨B,s,hx,r,M,D⟩:=dh W3 p VK.t;rw[<-hx,<-r];obtain⟨f,t⟩:∃f:ja->Prop,f=λi=>Ψ i\/i=s:=⟨_,I⟩
  have Y7:s<B.heap.size:=(jB.1 M).1;have ad:T (fi w0 w q m f B):=O (by rw[t];exact(C.below YB D).more Y7 (by rw[r];have:=C.sz;have:=bl.out;omega));have P:∀i,f i->Ψ i\/W3.heap.size<=i:=λi c=>by
   rw[t]at c
   rcases c with c|c
   ·exact .inl c
   exact .inr (by rw[c,r];exact jD _)
  have Q:bQ W.heap.size f W3 B:=bQ.ofBelow D λi c _=>c
  have bq:T (F (ys++[k]) f B):=O (H _ _ f _ _ ax.out Q (λi c=>by rw[t];exact .inl c) P);have bM:T (GK d f B k):=O (a1.turns Q P);have ay:T (f s):=O (by rw[t];exact .inr I);have ba:T (w.heap.size<=s):=O (by rw[r];exact C.sz);have WQ:T (W.heap.size<=B.heap.size/\W.heap.size<=s):=O ⟨by have:=D.size;omega,by rw[r];omega⟩;clear hx r D t Y7 P Q C a1 ax Wk Wt;have bb:=O (YG _ _ ad.out);have WL:=O (Za _ _ ad.out);have Z1:=O (KD.kin bM bb.list);have br:=O (lU (gY (nS ZU)));have Wi:T ((aB k.g k.vm k.vt).length=VG.n):=O (eH Z1.leads.llen);have bN:T (B.rangeAt s 107 (aB k.g k.vm k.vt)):=O λt ca ht=>ai M (by
   rw[bI,nv];have h:=nD Z1 (1+t);rw[<-qu,qx 1 t,qJ]at h;exact h.trans ht)
  have a1:=uf d E R S k.g k.vm k.vt B bb Z1.leads HE (bk _ _ ad.out) HN (by have h:=br.1;rw[<-ZU.leads]at h;have K:k.g.mem.length<=512:=h;omega) (by have h:=br.2;rw[<-ZU.leads]at h;have K:k.g.tree.length<=1023:=h;omega) Vy;obtain⟨GA,C⟩:=J ((aB k.g k.vm k.vt).toArray);rw[<-C,<-bA]at a1;have WT:=O C;replace a1:=O a1;clear C
  gi_wp2_with (first|(refine VP.loadAI aj I I PA bi WL (G ?_))|(refine VG.loadI aj I I (aB k.g k.vm k.vt) Wi bN ?_;rw[<-WT];refine G ?_))
  refine⟨trivial,I,(callsIn_wide.2 a1).mono ?_⟩;rintro e x5 ⟨wk,rfl,a2,a3,P⟩;obtain⟨C,D⟩:=J (x5.setRow s (dm wk));have bc:=ad.lt;have V:=bc s ay;have bd:=av M P;have a4:=sH (wk:=wk) λj h=>(a2 j h).kin (bb.list.below P)
  have bO:=P.size;have bg:∀i,i≠s->C.heap[i]?=x5.heap[i]?:=λi c=>by rw[D];exact js _ _ _ _ c
  have a5:C.heap.size=x5.heap.size:=by rw[D];exact setRow_size _ _ _
  have Q:=ad.below YB P;have bs:T (fi w0 w q m f C):=O ⟨λi c=>by rw[a5];exact Q.lt i c,Q.old,λi y K=>(bg i (aJ ba)).trans (Q.kept i y K),by rw[D];exact iR Q.bel (jE YB ba) _,Q.low,by rw[a5];exact Q.sz⟩;have bT:T (F (ys++[k]) f C):=O (by
   have y:=H.keep bq (bQ.ofBelow P λi c _=>c);rw[D];exact H.keep y (bQ.setRow _ _ _ ay.out))
  have b0:T (∀j,wk=A j->F (ys++[k]) (λi=>f i\/gb j i) C):=O λj h=>by
   have y:=H _ _ (λi=>f i\/gb j i) _ _ bq.out (bQ.ofBelow P λi c _=>c) (λi c=>.inl c) (λi c=>by
    rcases c with c|c
    ·exact .inl c
    exact .inr (rG (a2 j h) c).1)
   rw[D];exact H.keep y (bQ.setRow _ _ _ (.inl ay))
  have bh:∀j,wk=A j->fO k.g (d.map (·.1)) j.cand:=λj h=>by
   rw[h]at a3;exact(oy (rE a3.symm)).1
  have bu:T (CSt d fol fid w C f s (dm wk) (ys++[k]) wk):=O ⟨by rw[D];exact jU _ _ _ _ _ _ bd,a4.1,a4.2,ay,ba,λj h=>by
   refine⟨by rw[h];rfl,GK.of ((a2 j h).keep λi c=>bg i Y) (λi c h3=>by have:=bc i h3;omega),_,bh j h⟩,by
   rw[<-U5];refine qs (_ ++·) ?_;unfold uy yA;rw[<-a3]
   cases wk<;>rfl⟩
  have b1:T (chM (d.map (·.1)) (ju (A ⟨s,0,jf⟩)) (.bool wk.isSome) C<chM (d.map (·.1)) (ju (A ⟨b,0,jf⟩)) (.bool ji) wr):=O (by
   rw[bK]
   cases hwk:wk with
   |none=>exact qZ _
   |some j=>
    have y:=GV (hwk▸bu.out) (YG _ _ bs.out).list;have K:=sO (bh j hwk);have h3:iF (d.map (·.1)) j.g<iF (d.map (·.1)) k.g:=K;show chM _ _ (.bool ji) _ <_;rw[y];omega)
  have b2:=O bd;have bv:=O a4;have b3:=O D;have b5:T (W.heap.size<=C.heap.size):=O (by rw[a5];have:=WQ.out;omega);clear bc V bd a4 bO bg a5 Q bh a2 a3 P D
  gi_wp2_with (first|(refine VK.storeI I I I (dm wk) I bv.1 bv.2 b2 au ?_;rw[<-b3];refine G ?_))
  exact⟨⟨b5,s,dm wk,ys++[k],wk,f,I,I,bs,bT,b0,bu⟩,b1⟩
 have ax:=O ZT;clear ZT u U9 HR aa
 gi_wp2_with fail
 refine bodyPost_end (results_none I _ _ _) I ?_;exact⟨⟨_,I⟩,.inr ⟨_,_,⟨_,U5⟩,ax⟩⟩
end
theorem R8{P:o8}{h:Exit->Act->jj->Prop}{b M y:ja}{m:Act}{w:jj}(S:jj->Prop)(f:ja)(t:bE)(g:P.follows .mixedOrders=ji)(i:Region.noSelect V=ji)(j:rL V=ji)
 (k:gC .any V t (qi V.size jn)=ji) (a:t.waits .any V f=ji) (o:t.len<=V.size) (p:∀c m d w,h (.panic c) m w->h (.panic c) d w) (c:¬LetsOut h)
 (q:S w.drew) (d:cX P V h S f t m w.drew):(Code.region y V ji).wpIn (Fence.wide.inRound b) M P h m w:=
 wpIn_region_any g (yx c j _ _ _ _ (rM _ _ _ _ (iN.zero _) (kD i p t _ _ _ _ o k a (.inr q) d)))
theorem zN(a b:jp jk)(w:jj):jz jo 22 #[jh a,jh b] w λe w'=>
 e=jw (.func (.func 57) #[] #[ju (A ⟨w,0,jf⟩),ju (A ⟨w.heap.size+1,0,jf⟩)])/\w'=(w.alloc (jc a 78)).alloc (jc b 25):=by
 go_enter func22,ntmps22
 go_wp2_with fail
 go_ret;exact⟨I,I⟩
theorem zH(t:jp jk)(p:Tmp)(v:jk):(#[p].zip #[v]).foldl (λt (p,v)=>t.setIfInBounds p v) t=t.setIfInBounds p v:=by simp
theorem ze(l:jg Cmt):∀(n:ja) (c:jG aM),(kT l n c).length<=n
 |0,_=>jD _
 |_ +1,jf=>jM _
 |n+1,A c=>Nat.succ_le_succ (ze l n _)
noncomputable def RG:eL jo:=.of 30 41 36 96 (jh VG.Z) underlying30 af VG.hZ L L L
theorem bQ.more(h:bQ b D w W):bQ b (λB0=>D B0\/E B0) w W:=⟨h.os,h.tape,h.output,h.size,λk B0 d=>h.block k B0 λe=>d (.inl e)⟩
theorem bY.more{β:Type}{c:β->(ja->Prop)->jj->Prop}(h:bY b c)(d:β->ja->Prop):bY b (λs Ψ W=>c s (λB0=>Ψ B0\/d s B0) W):=
 λs Ψ j B0 B e f g i=>h s _ _ B0 B e f.more (λk a=>a.imp (g k) id) λk a=>a.elim (λa=>(i k a).imp .inl id) λa=>.inl (.inr a)
def gbs(ys:jg CK)(b:ja):Prop:=∃k∈ys,gb k b
def ChI(a:jg CP)(M:ja)(w:jj)(ys:jg CK)(Ψ:ja->Prop)(W:jj):Prop:=(∀x∈ys,GK a Ψ W x)/\gR (M+1) 29 (M+1) RI.e RI.k ys.length (ys.map λk=>jI .i64 (k.ix:ja)) (λ_=>True) (λb=>Ψ b\/gbs ys b) W/\gR (M+2) 30 (M+1) RG.e RG.k ys.length (ys.flatMap λk=>aB k.g k.vm k.vt) (λ_=>True) (λb=>Ψ b\/gbs ys b) W/\(jl w w W/\∀k,Ψ k->w.heap.size<=k)
theorem Fo(a:jg CP)(M:ja)(w:jj)(B0:ja)(h:w.heap.size<=B0):bY B0 (ChI a M w):=
 (Dm _ _).and (((m5 _ _ _ _ _ _ (λys:jg CK=>ys.length) (λys=>ys.map λk=>jI .i64 (k.ix:ja)) (λ_ _=>True)).more gbs).and (((m5 _ _ _ _ _ _ (λys:jg CK=>ys.length) (λys=>ys.flatMap λk=>aB k.g k.vm k.vt) (λ_ _=>True)).more gbs).and (kI _ _ w (jD _) h)))
def Off(B M:ja)(t e:jJ)(k:ja)(x:CK)(Ψ:ja->Prop)(W:jj):Prop:=∃n xs,gR B t M e k n xs (λ_=>True) (λb=>Ψ b\/gb x b) W
theorem Off.stable(B M:ja)(t e:jJ)(k B0:ja):bY B0 (Off B M t e k):=by
 rintro x Ψ a b W ⟨n,xs,h⟩ c d f;exact⟨n,xs,((m5 B0 B t M e k (λ_:CK=>n) (λ_=>xs) (λ_ _=>True)).more gb) x Ψ a b W h c d f⟩
theorem Off.sep{e:jJ}{x:CK}(h:Off b M r e y x D w)(c:Boxed w b r j):¬gb x b/\∀v,j.ownBlock=A v->¬gb x v:=by
 obtain⟨n,xs,B,d,f,-,g,-⟩:=h;have e:j=B:=by have a:A (Obj.cells #[j] r (0,0))=A (jc #[B] r (0,0)):=c.symm.trans d;injection a with a;injection a with a;simpa using a
 exact⟨λh=>f (.inr h),λv i h=>g v (by rw[<-e];exact i) (.inr h)⟩
theorem gR.less{e:jJ}{n:ja}{a:jk->Prop}(h:gR b r M e y n z a D w)(d:∀k,E k->D k):gR b r M e y n z a E w:=by
 obtain⟨v,f,g,i,k,l⟩:=h;exact⟨v,f,λh=>g (d _ h),i,λj m h=>k j m (d _ h),l⟩
theorem tZ{C:jg CK}{x:CK}(h:gbs (C++[x]) b):gbs C b\/gb x b:=by
 obtain⟨k,a,h⟩:=h
 rcases j3.1 a with a|a
 ·exact .inl ⟨k,a,h⟩
 rw[jN]at a;exact .inr (a▸h)
def Dz(a:jg CP)(M:ja)(c:ja->CK->jp jk)(x:CK)(d:Act)(Ψ:ja->Prop)(W:jj):Prop:=(∃b,d={tmps:=c b x,defers:=[]}/\W.heap[b]?=A (jc (aL x).toArray VK.t (0,0))/\¬Ψ b/\GK a Ψ W x)/\Off (M+1) (M+1) 29 RI.e RI.k x Ψ W/\Off (M+2) (M+1) 30 RG.e RG.k x Ψ W
theorem TV(i:jg CP)(M:ja)(j:ja->CK->jp jk)(B0:ja):bY B0 (fun(s:CK×Act) Ψ W=>Dz i M j s.1 s.2 Ψ W):=by
 rintro⟨x,p⟩ Ψ k q B ⟨⟨b,e,d,l,m⟩,n,o⟩ a f c;have g:¬k b:=λh=>by
  rcases c b h with h|h
  ·exact l h
  have:=(jB.1 d).1;omega
 exact⟨⟨b,e,a.cells d g,g,m.turns a c⟩,Off.stable _ _ _ _ _ B0 _ _ _ _ _ n a f c,Off.stable _ _ _ _ _ B0 _ _ _ _ _ o a f c⟩
theorem vv{k:ja}(h:w.ownsRow b r M j y z){o:Obj}(d:w.heap[k]?=A o)(c:o.isCells=jn):j.ownBlock≠A k:=λa=>by
 rcases h.2 with f|⟨g,v,l,i,-,B,-⟩
 ·rw[f.1]at a;cases a
 rw[i]at a;obtain rfl:g=k:=by injection a
 rw[d]at B;injection B with B
 rw[B]at c
 cases c
theorem ChI.step{F:jg CP}{n:ja}{a H l:jj}{i:jg CK}{x:CK}{u1 u2 m o y1 y2:jk}(K:∀k∈i++[x],GK F Ψ a k)(hB:jl w w a)(q:jl a a H)(hw:w.heap.size<=M+1)
 (hΨ:∀k,Ψ k->w.heap.size<=k) (hl:∀k,Ψ k->k<a.heap.size) (v:Boxed a (M+1) 29 u1) (P:Boxed a (M+2) 30 u2) (Q:¬(Ψ (M+1)\/gbs (i++[x]) (M+1))) (R:¬(Ψ (M+2)\/gbs (i++[x]) (M+2)))
 (S:∀j,u1.ownBlock=A j->¬(Ψ j\/gbs (i++[x]) j)) (U:∀j,u2.ownBlock=A j->¬(Ψ j\/gbs (i++[x]) j)) (ad:∀j,u1.ownBlock=A j->M+1<=j) (Uz:∀j,u2.ownBlock=A j->M+1<=j) (V:n=i.length)
 (W:u1.ownBlock≠A (M+1)/\u2.ownBlock≠A (M+1)) (X:u1.ownBlock≠A (M+2)/\u2.ownBlock≠A (M+2)) (Zk:y1.cells.toList=[jd je (x.ix:ja)]) (au:y2.cells.toList=aB x.g x.vm x.vt)
 (d:zP RI RG (M+1) H l u1 u2 m o (n+1) (n+1) (i.map (λk=>jI .i64 (k.ix:ja))++y1.cells.toList) (i.flatMap (λk=>aB k.g k.vm k.vt)++y2.cells.toList)):
 ChI F M w (i++[x]) Ψ ((l.setCell ⟨M+1,0,jf⟩ m).setCell ⟨M+2,0,jf⟩ o)/\jl (M+1) a ((l.setCell ⟨M+1,0,jf⟩ m).setCell ⟨M+2,0,jf⟩ o)/\
  ∀k,k<a.heap.size->k≠M+1->k≠M+2->u1.ownBlock≠A k->u2.ownBlock≠A k->((l.setCell ⟨M+1,0,jf⟩ m).setCell ⟨M+2,0,jf⟩ o).heap[k]?=a.heap[k]?:=by
 have y:l.heap[M+1]?=A (jc #[u1] 29 (0,0)):=(d.heap _ (jL v.lt q.size) W.1 W.2).trans (av v q);have z:l.heap[M+2]?=A (jc #[u2] 30 (0,0)):=(d.heap _ (jL P.lt q.size) X.1 X.2).trans (av P q);have B:∀k,k≠M+1->k≠M+2->((l.setCell ⟨M+1,0,jf⟩ m).setCell ⟨M+2,0,jf⟩ o).heap[k]?=l.heap[k]?:=λk C r=>(dC _ r).trans (dC _ C)
 have D:∀k,k<a.heap.size->k≠M+1->k≠M+2->u1.ownBlock≠A k->u2.ownBlock≠A k->((l.setCell ⟨M+1,0,jf⟩ m).setCell ⟨M+2,0,jf⟩ o).heap[k]?=a.heap[k]?:=λk h C r s h4=>
  (B k C r).trans ((d.heap k (jL h q.size) s h4).trans (q.block k h))
 have aa:jl (M+1) a ((l.setCell ⟨M+1,0,jf⟩ m).setCell ⟨M+2,0,jf⟩ o):=by
  have h:=(q.mono (jM _)).trans d.bel;have r:=(h.setCell (p:=⟨M+1,0,jf⟩) (jM _) m).setCell (p:=⟨M+2,0,jf⟩) (jM _) o;refine⟨r.os,r.tape,r.output,r.size,λk u=>?_⟩;have s:=v.lt;exact D k Y Y Y (λe=>by have:=ad k e;omega) (λe=>by have:=Uz k e;omega)
 have E:∀j,(Ψ j\/gbs (i++[x]) j)->j<a.heap.size:=by
  rintro j (h|⟨k,u,h⟩)
  ·exact hl j h
  obtain⟨-,-,c,t,f,s⟩:=rG (K k u) h;exact(jB.1 s).1
 have hz:=q.size;refine⟨⟨λk u=>(K k u).keep λb hb s h4=>⟨?_,s⟩,⟨m,?_,Q,?_,?_,trivial⟩,⟨o,?_,R,?_,?_,trivial⟩,hB.trans (aa.mono hw),hΨ⟩,aa,D⟩
 ·have c:Ψ b\/gbs (i++[x]) b:=.inr ⟨k,u,hb⟩
  exact D b (E b c) (λe=>Q (e▸c)) (λe=>R (e▸c)) (λe=>S b e c) (λe=>U b e c)
 ·exact(dC _ (show M+1≠M+2 by omega)).trans (fs m y)
 ·have h:=iD d.own1 λg f=>B g (λe=>cP d.own1 y L (e▸f)) (λe=>cP d.own1 z L (e▸f))
  rw[Zk,V]at h;rw[qj,n0];exact h
 ·intro j t c
  rcases d.lie1 with h|h
  ·exact S j (h▸t) c
  have:=h j t;have:=E j c;omega
 ·exact fs o ((dC _ (show M+2≠M+1 by omega)).trans z)
 ·have h:=iD d.own2 λg f=>B g (λe=>cP d.own2 y L (e▸f)) (λe=>cP d.own2 z L (e▸f))
  rw[au,V]at h;rw[qj,List.flatMap_append,List.flatMap_singleton];exact h
 intro j t c
 rcases d.lie2 with h|h
 ·exact U j (h▸t) c
 have:=h j t;have:=E j c;omega
theorem yH(d:jg CP)(v:jk)(fol:N)(fid:LBy)(n:fid.length=32)(w:jj)(q:cA w v d)(t:∀p∈d,cZ (aR p.1))(u:bH w)(Q:d.length<=1000)(x:∀p∈d,p.1.chg.length<=1000000):
 jz jo 6 #[jh (c8 fol fid).toArray,v] w λe w'=>∃(u1 u2:jk) (Ks:jg CK),e=jw (jH #[u1,u2])/\Ks.map CK.cand=dA fol fid (d.map (·.1))/\aG (λb=>w.heap.size<=b/\b<w'.heap.size) w' u1 1 Ks.length (Ks.map λk=>jI .i64 k.ix)/\
  aG (λb=>w.heap.size<=b/\b<w'.heap.size) w' u2 36 Ks.length (Ks.flatMap λk=>aB k.g k.vm k.vt)/\(∀k∈Ks,KD (λb=>b<w'.heap.size) d w' k)/\jl w w w':=by
 obtain⟨p1,k1,rfl⟩:=q.form;obtain⟨r,j⟩:=J ((c8 fol fid).toArray);have ZH:T (r.size=VF.n):=O (by rw[j,jv];unfold c8;rw[jZ,jy,n];rfl);rw[<-j];obtain⟨M,f⟩:=J w.heap.size;obtain⟨x0,a⟩:=J (((w.alloc (jc r 25)).alloc (jc #[jb jf 0 0] 29)).alloc (jc #[jb jf 0 0] 30));have l:=ao w (jc r 25);have s:=l.trans ((ao (w.alloc (jc r 25)) (jc #[jb jf 0 0] 29)).mono l.size);have m:=ao ((w.alloc (jc r 25)).alloc (jc #[jb jf 0 0] 29)) (jc #[jb jf 0 0] 30);have c:T (x0.heap[M]?=A (jc r VF.t (0,0))):=O (by rw[a,f];exact av (av (jA w _) (ao _ _)) m);have U7:T (x0.heap[M+1]?=A (jc #[jb jf 0 0] 29 (0,0))):=O (by
  have h:=jA (w.alloc (jc r 25)) (jc #[jb jf 0 0] 29);rw[jq]at h;rw[a,f];exact av h m)
 have Vn:T (x0.heap[M+2]?=A (jc #[jb jf 0 0] 30 (0,0))):=O (by
  have h:=jA ((w.alloc (jc r 25)).alloc (jc #[jb jf 0 0] 29)) (jc #[jb jf 0 0] 30);rw[jq,jq]at h;rw[a,f];exact h)
 have F:T (jl w w x0):=O (by rw[a];exact s.trans (m.mono s.size));have bk:T (x0.heap.size=M+3):=O (by rw[a,f,jq,jq,jq]);obtain⟨xF,g⟩:=J (w.alloc (jc r 25));have ay:T (xF.heap.size=M+1):=O (by rw[g,f,jq]);have ba:T (jl w w xF):=O (by rw[g];exact l);have S:T (jl (M+1) xF x0):=O (by
  have h:=(ao xF (jc #[jb jf 0 0] 29)).trans ((ao (xF.alloc (jc #[jb jf 0 0] 29)) (jc #[jb jf 0 0] 30)).mono (ao xF _).size);rw[ay,g,<-a]at h;rw[g];exact h)
 have HL:=O q;have HE:=O t;have HT:=O u;have HN:=O Q;have Vy:=O x;have HM:=O f;have y:=O a;have bl:=O j;have bm:=O n;clear g l s m j f a q t u Q x n;refine(qS (n:=0)).1 ?_;refine sn func6 I trivial ?_ I;refine wpIn_wide.2 ?_;simp only[ntmps6,jv,jZ,qB,qC,qD,qE,qF,qG,qH,qg,qI]
 go_upto_region 1 with fail
 rw[<-y]
 try simp only[jq]
 try rw[show w.heap.size+1+1=w.heap.size+2 from I]
 rw[<-HM];clear y;refine jO ?_;refine fP (λg=>g.heap[M]?=A (jc r VF.t (0,0))) 4 (.t 0 (.t 2 (.o 1 (.o 3 .done)))) af af af af L (λ_ _ _ _ h=>h) c ?_;have a:=bV x0;obtain⟨x1,U⟩:=J x0.drew;rw[<-U]at a⊢;have bb:T (M+3<=x1.heap.size):=O (by rw[<-bk];exact a.size);replace F:=ah F a;replace c:=ae c a;replace U7:=ae U7 a;replace S:=O (S.trans (a.mono (by have:=S.size;have:=ay.out;omega)));replace Vn:=ae Vn a;clear U a;refine co ?_
 (refine cJ (v:=jh r) I aj (λg m=>dc VF.hu VF.hd (by rw[ZH];exact VF.hi) I I m) ?_;refine G ?_)
 refine cV I (λK' f=>?_);go_simp;refine(pV d _ x1 (HL.below F) HE (HT.below F) HN).mono ?_;rintro e x2 ⟨v2,v3,rfl,j,a⟩;have l:=O (j.mono (E:=λb=>M+3<=b/\b<x2.heap.size) λb q=>⟨jE bb q.1,q.2⟩);have Zj:T (M+3<=x2.heap.size):=O (jE bb a.size);replace F:=ah F a;replace c:=ae c a;replace U7:=ae U7 a;replace S:=O (S.trans (a.mono (by have:=S.size;have:=ay.out;omega)));replace Vn:=ae Vn a;refine f _ _ c.out λ_=>?_
 clear f j a;refine G ?_;refine cV I (λK' f=>?_);go_simp;refine(zN _ r x2).mono ?_;rintro e s ⟨rfl,j⟩;have a:jl x2 x2 s:=by rw[j];exact(ao _ _).trans ((ao _ _).mono (ao _ _).size)
 have Za:T (s.heap[x2.heap.size]?=A (jc #[jb p1 d.length k1,v2,v3] VP.t (0,0))):=O (by rw[j];exact av (jA x2 _) (ao _ _));have bc:T (s.heap[x2.heap.size+1]?=A (jc r VF.t (0,0))):=O (by
  have h:=jA (x2.alloc (jc #[jb p1 d.length k1,v2,v3] 78)) (jc r 25);rw[jq]at h;rw[j];exact h)
 have ZI:T (s.heap.size=x2.heap.size+2):=O (by rw[j,jq,jq]);replace F:=ah F a;replace U7:=ae U7 a;replace S:=O (S.trans (a.mono (by have:=S.size;have:=ay.out;omega)));replace Vn:=ae Vn a;have t:T (aG (λb=>M+3<=b/\b<s.heap.size) s v2 32 (bW (d.map (·.1)) d.length).length (eM (d.map (·.1)) (bW (d.map (·.1)) d.length))):=O ((l.ids.keep λb q=>a.block b q.2).mono λb q=>⟨q.1,by have:=ZI.out;omega⟩);have u:T (aG (λb=>M+3<=b/\b<s.heap.size) s v3 1 (bW (d.map (·.1)) d.length).length (fx (bW (d.map (·.1)) d.length))):=O ((l.at_.keep λb q=>a.block b q.2).mono λb q=>⟨q.1,by have:=ZI.out;omega⟩);refine f _ _ (av c a) λ_=>?_
 clear f j a c l;refine G ?_;refine fc ?_
 go_wp2_with fail
 obtain⟨bp,c⟩:=J x2.heap.size;rw[<-c]at Za bc Zj ZI⊢;have j:=ym d (jb p1 d.length k1) v2 v3 fol fid bm xF s (M+1) (M+3) bp (bp+1) (j6 ay) S Y (ee ZI Zj) (HL.below ba) t u Za.out (by rw[<-bl];exact bc) Zj (aJ Zj) HE (HT.below ba) HN Vy;have bn:=O j;clear j c t u;refine(wpIn_wide (n:=0)).1 ?_;refine rF (n:=0) (gf:=57) (lb:=#[ju (A ⟨bp,0,jf⟩),ju (A ⟨bp+1,0,jf⟩)]) I (enters_of func57 af I) bn (ee ZI Zj) (λ_=>rfl) (λk l=>l.2)
  (ChI d M w)
  (λ_ _ _ _=>False) ?hI (λys Ψ B h=>h.1) (λ_=>fp _ _) ?h0
  (Dz d M λb x=>#[jh r,jb p1 d.length k1,ju (A ⟨M,0,jf⟩),jm,ju (A ⟨M+1,0,jf⟩),ju (A ⟨M+2,0,jf⟩),ju (A ⟨b,0,jf⟩),jb p1 d.length k1,jh #[jb p1 d.length k1,v2,v3],jh r,.func (.func 57) #[] #[ju (A ⟨bp,0,jf⟩),ju (A ⟨bp+1,0,jf⟩)],jh (aL x).toArray,jm,jm,jm,jm,jm,jm,jm,jm,jm,jm,jm,jm]) ?hAx ?assign ?body ?done ?stop
 case hI=>exact Fo _ _ _ _ F.size
 case h0=>exact⟨(λx U=>by cases U),⟨_,U7,λh=>h.elim (λh=>by have h:=h.1;omega) fun⟨_,l,_⟩=>(by cases l),q7 _ _ _ _,by simp[wx],trivial⟩,⟨_,Vn,λh=>h.elim (λh=>by have h:=h.1;omega) fun⟨_,l,_⟩=>(by cases l),q7 _ _ _ _,by simp[wx],trivial⟩,F,λk l=>by have:=HM.out;omega⟩
 case stop=>
  intro D c Us Ψ W _ _ h;exact h.elim
 case hAx=>exact TV _ _ _ _
 case assign=>
  intro l' Us x Ψ t K hI u hV hΨ f;have aa:GK d Ψ t x:=by
   obtain⟨⟨j,y,e,h⟩,-⟩:=hV;have e2:=(q8 e I).2;injection e2 with e2
   rw[e2];exact h
  have P:=KD.kin aa (HL.below hI.2.2.2.1);obtain⟨X,j⟩:=J ((aL x).toArray);have y:X.size=VK.n:=by rw[j,jv];exact P.len
  have z:X.all (·.oneCell')=ji:=by rw[j,jS];exact λad hu=>P.ones ad (ak hu)
  have C:=O y;have U7:=O z;have B:=O j;have H:=O f;have R:=O hI;have V:T (Off (M+1) (M+1) 29 RI.e RI.k x Ψ t):=O ⟨_,_,u.2.1.less λk l=>.inl l⟩;have Vm:T (Off (M+2) (M+1) 30 RG.e RG.k x Ψ t):=O ⟨_,_,u.2.2.1.less λk l=>.inl l⟩;have au:=O aa;have HΨ:=O hΨ;rw[<-j];clear j y z f hI u aa hV P hΨ;rw[zH];simp only[q9,rk,rn]
  gi_wp2_with (first|(refine VK.madeI I I (G ?_))|(refine VK.firstI I I I X I C U7 (G ?_)))
  have u:=ao t (jc X VK.t);refine H _ _ u (Fo d M w w.heap.size (jD _) _ _ _ _ _ R.out (bQ.ofBelow u λ_ h _=>h) (λ_ h=>h) λ_ h=>.inl h) ?_;have y:bQ 0 Ψ t (t.alloc (jc X VK.t)):=bQ.ofBelow u λ_ h _=>h
  refine⟨⟨t.heap.size,by rw[B],by rw[<-B];exact jA _ _,λh=>by have:=HΨ _ h;omega,au.turns y λ_ h=>.inl h⟩,Off.stable _ _ _ _ _ 0 _ _ _ _ _ V.out y (λ_ h=>h) λ_ h=>.inl h,Off.stable _ _ _ _ _ 0 _ _ _ _ _ Vm.out y (λ_ h=>h) λ_ h=>.inl h⟩
 case body=>
  rintro l' Us x Ψ bA a5 ⟨aa,⟨u1,u,a3,B,au,-⟩,⟨u2,y,Vj,C,ax,-⟩,a1,hΨ⟩ ⟨⟨b,rfl,a6,bB,bd⟩,bo,bq⟩ hV Ys br hl bf bs;obtain⟨H,K,rfl⟩:=cK B;obtain⟨V,c2,rfl⟩:=cK C;obtain⟨n,Q⟩:=J Us.length;rw[<-Q]at u y B C au ax;have P:=KD.kin bd (HL.below a1);obtain⟨X,j⟩:=J ((aL x).toArray);have bu:T (X[0]?=A (jd je (x.ix:ja))):=O (by rw[j];simpa using(mM P).1);have bv:T (∀z:jj,z.heap[b]?=A (jc X VK.t (0,0))->z.rangeAt b 107 (aB x.g x.vm x.vt)):=O λz hz t ad ht=>ai hz (by
   rw[j,nv];have h:=nD P (1+t);rw[<-qu,qx 1 t,qJ]at h;exact h.trans ht)
  have Wi:T ((aB x.g x.vm x.vt).length=VG.n):=O (eH P.leads.llen);have Vv:T (∀ad∈aB x.g x.vm x.vt,ad.oneCell'=ji):=O (mc P.leads);obtain⟨GA,R⟩:=J ((aB x.g x.vm x.vt).toArray);have WT:=O R;have a2:=O Q;have bg:T (n<=1000000):=O (by
   obtain⟨-,-,-,a4,hV⟩:=hV;have h1:=qs List.length hV;have h2:(dA fol fid (d.map (·.1))).length<=(d.map (·.1)).length+1:=ze _ _ _;have h3:=HN.out;have h4:=a2.out;rw[qj,jy,qj]at h1;rw[jy]at h2
   omega)
  dsimp only;rw[<-j]at a6⊢;clear j R Q P
  gi_upto_region 3 with fail
  refine R8 (λg=>g.heap[M+1]?=A (jc #[jb H n K] 29 (0,0))/\g.heap[M+2]?=A (jc #[jb V n c2] 30 (0,0))/\g.heap[b]?=A (jc X VK.t (0,0))) 10
   (.t 0 (.t 1 (.t 2 (.t 5 (.t 6 (.t 7 (rU id (.o 10 (.o 11 .done))))))))) af af af af af L (λ_ _ _ _ h=>h) (fun⟨_,_,h⟩=>h) ⟨u,y,a6⟩ ?_
  have a:=bV a5;obtain⟨A1,U⟩:=J a5.drew;rw[<-U]at a⊢;have y1:=av u a;have y2:=av y a;have yb:=av a6 a;have R1:=cL B a;have R2:=cL C a;have bC:a5.heap.size<=A1.heap.size:=a.size;clear U
  (refine cJ (v:=?_) I aj (λg m=>?_) ?_;rotate_left;(have b1:=ai (i:=0) m.1 I;clear m;go_simp;with_reducible rfl);refine G ?_)
  refine co ?_
  (refine cJ (v:=?_) I aj (λg m=>?_) ?_;rotate_left;(have b1:=ai (i:=0) m.2.2 bu;clear m;go_simp;with_reducible rfl);refine G ?_)
  (refine cJ (v:=?_) I aj (λg m=>?_) ?_;rotate_left;(have b1:=ai (i:=0) m.2.1 I;clear m;go_simp;with_reducible rfl);refine G ?_)
  refine co ?_
  (refine cJ (v:=jh GA) I aj (λg m=>by rw[WT];exact eF _ _ VG.t _ I _ _ I _ VG.d (bv g m.2.2) VG.hu VG.hd (by rw[Wi];exact VG.hi)) ?_;refine G ?_)
  refine Ae RI RG (T0:=id) (E:=id) (r1:=15) (r2:=16) (rb:=20) (r3:=21) (s1:=14) (s2:=19) (t1:=12) (t2:=17) af (λ_ _ _ _ h=>h) af af
   rfl rfl rfl rfl rfl rfl rfl rfl rfl rfl rfl rfl rfl rfl rfl rfl (show 15<24 by decide) (show 20<24 by decide) L L L L L L
   (λj v=>rfl) (λj=>rfl) (λj=>rfl) (λj=>rfl) (λj w' R h P=>P)
   (x1:=jd je (x.ix:ja)) (x2:=jh GA) (u1:=jb H n K) (u2:=jb V n c2) rfl rfl rfl rfl rfl (by rw[WT];exact Wi) (by simp[Value.cells,j5]) (λad hu=>Vv ad (by rw[WT]at hu;simpa [Value.cells]using hu)) R1 R2 (AO R1 R2 L) bg bg (by have:=(jB.1 y1).1;omega) ?_ ?_
  ·intro w' l br
   exact⟨(l _ (jB.1 y1).1 (cP R1 y1 L) (cP R2 y1 L)).trans y1,(l _ (jB.1 y2).1 (cP R1 y2 L) (cP R2 y2 L)).trans y2,
    (l _ (jB.1 yb).1 (cP R1 yb L) (cP R2 yb L)).trans yb⟩
  rintro z1 z2 bI a4 A2 j;obtain⟨bK,d1,rfl⟩:=cK j.own1;obtain⟨bM,d2,rfl⟩:=cK j.own2;have bh:=(j.heap _ (jB.1 y1).1 (cP R1 y1 L) (cP R2 y1 L)).trans y1;have bi:=(j.heap _ (jB.1 y2).1 (cP R1 y2 L) (cP R2 y2 L)).trans y2;have P:=ai (i:=0) bh I;have R:=ai (i:=0) bi I;have f1:=gt (o:=0) bh;have f2:=gt (o:=0) bi;have bw:=O j;clear j;refine G ?_;refine nC I L af (λK' f=>?_);go_simp;refine f _ _ ?_;clear f;refine G ?_;refine nC I L af (λK' f=>?_);go_simp;refine f _ _ ?_;clear f P R f1 f2;refine G ?_;show((_ /\_)/\_ /\_)/\_;have R:=bo.sep u;have g2:=bq.sep y;obtain⟨s1,s2,s3⟩:=ChI.step (y1:=jd je (x.ix:ja)) (y2:=jh GA) (λk l=>by
   rcases j3.1 l with l|l
   ·exact aa k l
   ·rw[jN]at l;rw[l];exact bd) a1 a (by rw[<-HM];exact j7 _) hΨ Ys u y
   (λh=>h.elim (λh=>a3 (.inl h)) λh=>(tZ h).elim (λh=>a3 (.inr h)) R.1) (λh=>h.elim (λh=>Vj (.inl h)) λh=>(tZ h).elim (λh=>Vj (.inr h)) g2.1)
   (λj P h=>h.elim (λh=>au j P (.inl h)) λh=>(tZ h).elim (λh=>au j P (.inr h)) (R.2 j P)) (λj P h=>h.elim (λh=>ax j P (.inl h)) λh=>(tZ h).elim (λh=>ax j P (.inr h)) (g2.2 j P))
   (λj P=>(B.lt j P).1) (λj P=>(C.lt j P).1) a2 ⟨cP B u L,cP C u L⟩ ⟨cP B y L,cP C y L⟩ rfl (by rw[WT];rfl) bw
  have P:=ZI.out;have bN:=Zj.out;obtain⟨rl,j⟩:=bs;refine⟨⟨⟨s3 _ Y Y Y (vv B bf I) (vv C bf I),s3 _ Y Y Y (vv B j I) (vv C j I)⟩,s2,λk l=>s3 k (Ys k l) (λe=>a3 (.inl (e▸l))) (λe=>Vj (.inl (e▸l))) (λe=>au k e (.inl l)) (λe=>ax k e (.inl l))⟩,s1⟩
 rintro D xs Ψ W rfl m ⟨aa,⟨u1,u,a3,B,au,-⟩,⟨u2,y,Vj,C,ax,-⟩,a1,hΨ⟩ a5;obtain⟨H,K,rfl⟩:=cK B;obtain⟨V,c2,rfl⟩:=cK C;obtain⟨n,Q⟩:=J xs.length;rw[<-Q]at u y B C au ax;have a2:=O Q;clear Q;have z:=u.cell;have P:=u.frozen;have Q:=y.cell;have X:=y.frozen
 go_upto_region 4 with fail
 refine jO ?_;refine fP (λg=>g.heap[M+1]?=A (jc #[jb H n K] 29 (0,0))/\g.heap[M+2]?=A (jc #[jb V n c2] 30 (0,0))) 4 (.t 0 (.t 1 (.o 2 (.o 3 .done)))) af af af af L (λ_ _ _ _ h=>h) ⟨u,y⟩ ?_;have a:=bV W;obtain⟨x,U⟩:=J W.drew;rw[<-U]at a⊢;have v1:=av u a;have a4:=av y a;have j:=ai (i:=0) v1 I;have e2:=ai (i:=0) a4 I;have R:=gt (o:=0) v1;have g2:=gt (o:=0) a4;clear z P Q X U
 (refine cJ (v:=?_) I aj (λg m=>?_) ?_;rotate_left;(have b1:=ai (i:=0) m.1 I;clear m;go_simp;with_reducible rfl);refine G ?_)
 (refine cJ (v:=?_) I aj (λg m=>?_) ?_;rotate_left;(have b1:=ai (i:=0) m.2 I;clear m;go_simp;with_reducible rfl);refine G ?_)
 have w1:=fs (i:=0) (jb H n K) v1;have z:=(dC (w:=x) (b:=M+1) (i:=0) (jb H n K) (show M+2≠M+1 by omega)).trans a4;refine cV I (λK' f=>?_);go_simp;refine f _ _ ⟨w1,z⟩ λ_=>?_
 clear f j e2 R g2;refine G ?_;have a6:∀k,(x.setCell ⟨M+1,0,jf⟩ (jb H n K)).heap[k]?=x.heap[k]?:=λk=>by
  by_cases e:k=M+1
  ·rw[e,w1,v1];rfl
  exact dC _ e
 have bd:jl w w (x.setCell ⟨M+1,0,jf⟩ (jb H n K)):=(a1.trans (a.mono a1.size)).setCell (p:=⟨M+1,0,jf⟩) (by rw[<-HM];exact j7 _) _;generalize x.setCell ⟨M+1,0,jf⟩ (jb H n K)=P at w1 z a6 bd⊢;have ad:P.heap[M+1]?=A (jc #[jb H n K] 29 (0,0)):=w1;have j:=ai (i:=0) ad I;have e2:=ai (i:=0) z I;have R:=gt (o:=0) ad;have g2:=gt (o:=0) z;have Q:=fs (i:=0) (jb V n c2) z;have w4:=(dC (w:=P) (b:=M+2) (i:=0) (jb V n c2) (show M+1≠M+2 by omega)).trans ad;refine cV I (λK' f=>?_);go_simp;refine f _ _ ⟨w4,Q⟩ λ_=>?_
 clear f j e2 R g2;refine G ?_;have X:∀k,(P.setCell ⟨M+2,0,jf⟩ (jb V n c2)).heap[k]?=x.heap[k]?:=λk=>by
  refine Eq.trans ?_ (a6 k)
  by_cases e:k=M+2
  ·rw[e,Q,z];rfl
  exact dC _ e
 have bf:jl w w (P.setCell ⟨M+2,0,jf⟩ (jb V n c2)):=bd.setCell (p:=⟨M+2,0,jf⟩) (by rw[<-HM];exact rv _ _) _;generalize P.setCell ⟨M+2,0,jf⟩ (jb V n c2)=W3 at Q w4 X bf⊢;refine fc ?_
 go_wp2_with fail
 have j:W3.heap[s.heap.size]?=A (.deferred (A [])):=(X _).trans (av a5 a);have bg:M+1≠s.heap.size:=λe=>by rw[<-e,w4]at j;cases j
 have bh:M+2≠s.heap.size:=λe=>by rw[<-e,Q]at j;cases j
 have z1:=ai (i:=0) ((ob (w:=W3) (o:=.deferred jf) bg).trans w4) I;have z2:=ai (i:=0) ((ob (w:=W3) (o:=.deferred jf) bh).trans Q) I;have r1:=ownsRow_putObj (iD (cL B a) λb _=>X b) (.deferred jf) j I;have r2:=ownsRow_putObj (iD (cL C a) λb _=>X b) (.deferred jf) j I;have bi:w.heap.size<=s.heap.size:=F.size;refine⟨by simp,.inl ⟨_,_,I,qT (b:=s.heap.size) (ds:=[]) j,?_⟩⟩;refine⟨jH #[jb H n K,jb V n c2],by simp[results,results6,go_sem,z1,z2],_,_,I,xs,m,?_,?_,?_,?_⟩
 ·rw[<-a2];exact aG.of_own r1 λg f=>⟨by have:=(r1.lt g f).1;rw[<-HM];omega,(r1.lt g f).2⟩
 ·rw[<-a2];exact aG.of_own r2 λg f=>⟨by have:=(r2.lt g f).1;rw[<-HM];omega,(r2.lt g f).2⟩
 ·intro k l
  have h:=aa k l;have g:∀b,(gb k b/\¬Ψ b/\∃c t f,W.heap[b]?=A (jc c t f))->(W3.putObj s.heap.size (.deferred jf)).heap[b]?=W.heap[b]?:=λb q=>by
   obtain⟨-,-,c,t,f,q⟩:=q;refine(ob (λe=>by rw[e,a5]at q;cases q)).trans ((X b).trans (a.block b (jB.1 q).1))
  refine(KD.keep h g).mono λb q=>?_
  obtain⟨h0,h1,c,t,f,h2⟩:=q;exact(jB.1 ((g b ⟨h0,h1,c,t,f,h2⟩).trans h2)).1
 exact bf.trans (iC bi)
section
def BxI(a:jg CP)(w:jj)(V:jg CK->ja->jG Obj)(ys:jg CK)(Ψ:ja->Prop)(W:jj):Prop:=(∀x∈ys,GK a Ψ W x)/\(∀b o,V ys b=A o->o.isCells=ji/\W.heap[b]?=A o/\¬(Ψ b\/gbs ys b))/\(jl w w W/\∀k,Ψ k->w.heap.size<=k)
theorem BxI.stable(j:jg CP)(w:jj)(V:jg CK->ja->jG Obj)(B0:ja)(h:w.heap.size<=B0):bY B0 (BxI j w V):=by
 refine(Dm _ _).and (bY.and ?_ (kI _ _ w (jD _) h));intro ys Ψ k r B l m s n b o p;obtain⟨d,c,f⟩:=l b o p;have q:=(jB.1 c).1;have g:¬(k b\/gbs ys b):=λh=>h.elim (λh=>(n b h).elim (λh=>f (.inl h)) λh=>by omega) λh=>f (.inr h)
 refine⟨d,?_,g⟩
 rcases m.block b q λh=>g (.inl h)with e|⟨-,t,a,i⟩
 ·exact e.trans c
 rw[c]at a;injection a with a;rw[<-a,d]at i;cases i
def EAx(a:jg CP)(E:ja->Prop)(c:ja->CK->jp jk)(x:CK)(d:Act)(Ψ:ja->Prop)(W:jj):Prop:=∃b,d={tmps:=c b x,defers:=[]}/\W.heap[b]?=A (jc (aL x).toArray VK.t (0,0))/\¬Ψ b/\GK a Ψ W x/\∀e,E e->¬gb x e
theorem EAx.stable(g:jg CP)(E:ja->Prop)(i:ja->CK->jp jk)(B0:ja):bY B0 (fun(s:CK×Act) Ψ W=>EAx g E i s.1 s.2 Ψ W):=by
 rintro⟨x,n⟩ Ψ j o B ⟨b,e,a,k,l,m⟩ c p d;have f:¬j b:=λh=>by
  rcases d b h with h|h
  ·exact k h
  have:=(jB.1 a).1;omega
 exact⟨b,e,c.cells a f,f,l.turns c d,m⟩
theorem BxI.step{l:jg CP}{g B:jj}{V:jg CK->ja->jG Obj}{i:jg CK}{x:CK}{n:ja}(h:BxI l w V i Ψ g)(r:GK l Ψ g x)(s:∀e,E e->¬gb x e)(m:∀b o,V (i++[x]) b=A o->E b/\o.isCells=ji/\B.heap[b]?=A o)
 (u:∀b,E b->∃o,V i b=A o) (v:∀k,Ψ k->k<g.heap.size) (y:jl n g B) (z:w.heap.size<=n) (p:∀k,k<g.heap.size->¬E k->B.heap[k]?=g.heap[k]?):BxI l w V (i++[x]) Ψ B/\∀k,Ψ k->B.heap[k]?=g.heap[k]?:=by
 have he:∀e,E e->¬(Ψ e\/gbs i e):=λe a=>by obtain⟨o,j⟩:=u e a;exact(h.2.1 e o j).2.2
 have C:∀k∈i++[x],GK l Ψ g k:=λk a=>by
  rcases j3.1 a with a|a
  ·exact h.1 k a
  rw[jN]at a;rw[a];exact r
 have q:∀e,E e->¬(Ψ e\/gbs (i++[x]) e):=λe a d=>d.elim (λd=>he e a (.inl d)) λd=>(tZ d).elim (λd=>he e a (.inr d)) (s e a)
 refine⟨⟨λk a=>(C k a).keep λb d D ⟨c,t,f,F⟩=>⟨p b (jB.1 F).1 λH=>q b H (.inr ⟨k,a,d⟩),D⟩,λb o j=>⟨(m b o j).2.1,(m b o j).2.2,q b (m b o j).1⟩,h.2.2.1.trans (y.mono z),h.2.2.2⟩,λk a=>p k (v k a) λd=>he k d (.inl a)⟩
noncomputable def kP:jG CK->jp jk
 |none=>VG.Z
 |some k=>(aB k.g k.vm k.vt).toArray
theorem TT{P:o8}{fn:Func}{p q:Tmp}{c i:jJ}(h:fn.results= #[.cell p c,.cell q i])(tmps:jp jk)(w:jj)(g j:ja)(t:jJ)(f:jp jk)(x:jk)(k:ja×ja)(d:TypeDesc)
 (l:tmps.getD p jm=ju (A ⟨g,0,jf⟩)) (m:tmps.getD q jm=ju (A ⟨j,0,jf⟩)) (n:w.heap[g]?=A (jc f t k)) (o:(loadVar i ⟨j,0,jf⟩).run P w=.ok x w)
 (r:P.underlying c=A d) (s:(match d with| .struct _ | .array _ _=>ji|_=>jn)=ji) (u:(P.info? c).map (·.size)=A f.size):
 (results fn tmps).run P w=.ok (jH #[jh f,x]) w:=by
 have e:(results fn tmps).run P w=((asAddr (tmps.getD p jm)).run P w).andThen λa y=>((loadVar c a).run P y).andThen λv z=>((asAddr (tmps.getD q jm)).run P z).andThen λb B=>((loadVar i b).run P B).andThen λC D=>.ok (jH #[v,C]) D:=by
  simp only[results,h];simp[Sem.run_bind,Result.andThen]
 rw[e,l];simp only[asAddr,Sem.run_pure,Result.andThen_ok,run_loadVar_row w g t c f k d n r s u,m,o]
theorem P7{n:jC}{f:ja×ja}(h:w.heap[b]?=A (jc #[.bool n] r f)):(loadVar 4 ⟨b,0,jf⟩).run jo w=.ok (.bool n) w:=by
 have c:=ai (i:=0) h I;go_simp
noncomputable def cuV(M:ja)(ys:jg CK)(b:ja):jG Obj:=if b=M+1 then A (jc (kP ys.getLast?) VG.t (0,0))else if b=M+2 then A (jc #[.bool ys.getLast?.isSome] 4 (0,0))else jf
def cuE(M b:ja):Prop:=b=M+1\/b=M+2
theorem un(M:ja)(ys:jg CK):cuV M ys (M+1)=A (jc (kP ys.getLast?) VG.t (0,0)):=jr I
theorem ve(M:ja)(ys:jg CK):cuV M ys (M+2)=A (jc #[.bool ys.getLast?.isSome] 4 (0,0)):=(jF Y).trans (jr I)
theorem D7{C:jg CK}{o:Obj}(h:cuV b C M=A o):(M=b+1/\o=jc (kP C.getLast?) VG.t (0,0))\/(M=b+2/\o=jc #[.bool C.getLast?.isSome] 4 (0,0)):=by
 unfold cuV at h
 split at h
 ·rename_i e;injection h with h;exact .inl ⟨e,h.symm⟩
 split at h
 ·rename_i e;injection h with h;exact .inr ⟨e,h.symm⟩
 cases h
theorem Ih{a:jg CP}{v:jk}{k:jG CK}(h:∀x,k=A x->GK a Ψ W x)(c:cA W v a):(kP k).size=VG.n/\(kP k).all (·.oneCell')=ji:=by
 rcases k with _|k
 ·exact⟨VG.hZ,by kernel_rfl⟩
 have b:=KD.kin (h k I) c;refine⟨by unfold kP;rw[jv];exact eH b.leads.llen,?_⟩;unfold kP;rw[jS];exact λd e=>mc b.leads d (ak e)
attribute [local go_sem] Oper.semAt_some
theorem ya(d:jg CP)(v:jk)(fol:N)(fid:LBy)(r:fid.length=32)(w:jj)(t:cA w v d)(u:∀p∈d,cZ (aR p.1))(y:bH w)(B:d.length<=1000)(C:∀p∈d,p.1.chg.length<=1000000):
 jz jo 12 #[jh (c8 fol fid).toArray,v] w λe w'=>∃k:jG CK,e=jw (jH #[jh (kP k),.bool k.isSome])/\k.map CK.cand=(dA fol fid (d.map (·.1))).getLast?/\(∀x,k=A x->KD (λb=>b<w'.heap.size) d w' x)/\jl w w w':=by
 obtain⟨p1,k1,rfl⟩:=t.form;obtain⟨j,l⟩:=J ((c8 fol fid).toArray);have ZH:T (j.size=VF.n):=O (by rw[l,jv];unfold c8;rw[jZ,jy,r];rfl);rw[<-l];obtain⟨M,f⟩:=J w.heap.size;obtain⟨z,a⟩:=J (((w.alloc (jc j 25)).alloc (jc VG.Z VG.t)).alloc (jc #[.bool jn] 4));have H:=ao w (jc j 25);have Uz:=H.trans ((ao (w.alloc (jc j 25)) (jc VG.Z VG.t)).mono H.size);have o:=ao ((w.alloc (jc j 25)).alloc (jc VG.Z VG.t)) (jc #[.bool jn] 4);have c:T (z.heap[M]?=A (jc j VF.t (0,0))):=O (by rw[a,f];exact av (av (jA w _) (ao _ _)) o);have s:T (z.heap[M+1]?=A (jc VG.Z VG.t (0,0))):=O (by
  have h:=jA (w.alloc (jc j 25)) (jc VG.Z VG.t);rw[jq]at h;rw[a,f];exact av h o)
 have P:T (z.heap[M+2]?=A (jc #[.bool jn] 4 (0,0))):=O (by
  have h:=jA ((w.alloc (jc j 25)).alloc (jc VG.Z VG.t)) (jc #[.bool jn] 4);rw[jq,jq]at h;rw[a,f];exact h)
 have m:T (jl w w z):=O (by rw[a];exact Uz.trans (o.mono Uz.size));have a5:T (z.heap.size=M+3):=O (by rw[a,f,jq,jq,jq]);obtain⟨Q,g⟩:=J (w.alloc (jc j 25));have aa:T (Q.heap.size=M+1):=O (by rw[g,f,jq]);have ax:T (jl w w Q):=O (by rw[g];exact H);have q:T (jl (M+1) Q z):=O (by
  have h:=(ao Q (jc VG.Z VG.t)).trans ((ao (Q.alloc (jc VG.Z VG.t)) (jc #[.bool jn] 4)).mono (ao Q _).size);rw[aa,g,<-a]at h;rw[g];exact h)
 have HL:=O t;have HE:=O u;have HT:=O y;have HN:=O B;have Vy:=O C;have HM:=O f;have D:=O a;have a6:=O l;have ba:=O r;clear g H Uz o l f a t u y B C r;refine(qS (n:=0)).1 ?_;refine sn func12 I trivial ?_ I;refine wpIn_wide.2 ?_;simp only[ntmps12,jv,jZ,qB,qC,qD,qE,qF,qG,qH,qg,qI]
 go_upto_region 1 with(first|(refine VG.made I I (G ?_)))
 rw[<-D]
 try simp only[jq]
 try rw[show w.heap.size+1+1=w.heap.size+2 from I]
 rw[<-HM];clear D;refine jO ?_;refine fP (λR=>R.heap[M]?=A (jc j VF.t (0,0))) 4 (.t 0 (.t 2 (.o 1 (.o 3 .done)))) af af af af L (λ_ _ _ _ h=>h) c ?_;have a:=bV z;obtain⟨x1,S⟩:=J z.drew;rw[<-S]at a⊢;have ay:T (M+3<=x1.heap.size):=O (by rw[<-a5];exact a.size);replace m:=ah m a;replace c:=ae c a;replace s:=ae s a;replace q:=O (q.trans (a.mono (by have:=q.size;have:=aa.out;omega)));replace P:=ae P a;clear S a;refine co ?_
 (refine cJ (v:=jh j) I aj (λR C=>dc VF.hu VF.hd (by rw[ZH];exact VF.hi) I I C) ?_;refine G ?_)
 refine cV I (λK' f=>?_);go_simp;refine(pV d _ x1 (HL.below m) HE (HT.below m) HN).mono ?_;rintro e x2 ⟨v2,v3,rfl,l,a⟩;have r:=O (l.mono (E:=λb=>M+3<=b/\b<x2.heap.size) λb g=>⟨jE ay g.1,g.2⟩);have Zj:T (M+3<=x2.heap.size):=O (jE ay a.size);replace m:=ah m a;replace c:=ae c a;replace s:=ae s a;replace q:=O (q.trans (a.mono (by have:=q.size;have:=aa.out;omega)));replace P:=ae P a;refine f _ _ c.out λ_=>?_
 clear f l a;refine G ?_;refine cV I (λK' f=>?_);go_simp;refine(zN _ j x2).mono ?_;rintro e l ⟨rfl,o⟩;have a:jl x2 x2 l:=by rw[o];exact(ao _ _).trans ((ao _ _).mono (ao _ _).size)
 have Za:T (l.heap[x2.heap.size]?=A (jc #[jb p1 d.length k1,v2,v3] VP.t (0,0))):=O (by rw[o];exact av (jA x2 _) (ao _ _));have a1:T (l.heap[x2.heap.size+1]?=A (jc j VF.t (0,0))):=O (by
  have h:=jA (x2.alloc (jc #[jb p1 d.length k1,v2,v3] 78)) (jc j 25);rw[jq]at h;rw[o];exact h)
 have ZI:T (l.heap.size=x2.heap.size+2):=O (by rw[o,jq,jq]);replace m:=ah m a;replace s:=ae s a;replace q:=O (q.trans (a.mono (by have:=q.size;have:=aa.out;omega)));replace P:=ae P a;have t:T (aG (λb=>M+3<=b/\b<l.heap.size) l v2 32 (bW (d.map (·.1)) d.length).length (eM (d.map (·.1)) (bW (d.map (·.1)) d.length))):=O ((r.ids.keep λb g=>a.block b g.2).mono λb g=>⟨g.1,by have:=ZI.out;omega⟩);have u:T (aG (λb=>M+3<=b/\b<l.heap.size) l v3 1 (bW (d.map (·.1)) d.length).length (fx (bW (d.map (·.1)) d.length))):=O ((r.at_.keep λb g=>a.block b g.2).mono λb g=>⟨g.1,by have:=ZI.out;omega⟩);refine f _ _ (av c a) λ_=>?_
 clear f o a c r;refine G ?_;refine fc ?_
 go_wp2_with fail
 obtain⟨bp,c⟩:=J x2.heap.size;rw[<-c]at Za a1 Zj ZI⊢;have o:=ym d (jb p1 d.length k1) v2 v3 fol fid ba Q l (M+1) (M+3) bp (bp+1) (j6 aa) q Y (ee ZI Zj) (HL.below ax) t u Za.out (by rw[<-a6];exact a1) Zj (aJ Zj) HE (HT.below ax) HN Vy;have bb:=O o;clear o c t u;refine(wpIn_wide (n:=0)).1 ?_;refine rF (n:=0) (gf:=57) (lb:=#[ju (A ⟨bp,0,jf⟩),ju (A ⟨bp+1,0,jf⟩)]) I (enters_of func57 af I) bb (ee ZI Zj) (λ_=>rfl) (λk r=>r.2)
  (BxI d w (cuV M)) (λ_ _ _ _=>False) ?hI (λys Ψ B h=>h.1) (λ_=>fp _ _) ?h0
  (EAx d (cuE M) λb x=>#[jh j,jb p1 d.length k1,ju (A ⟨M,0,jf⟩),jm,ju (A ⟨M+1,0,jf⟩),ju (A ⟨M+2,0,jf⟩),ju (A ⟨b,0,jf⟩),jb p1 d.length k1,jh #[jb p1 d.length k1,v2,v3],jh j,.func (.func 57) #[] #[ju (A ⟨bp,0,jf⟩),ju (A ⟨bp+1,0,jf⟩)],jh (aL x).toArray,jm,jm,jm,jm]) ?hAx ?assign ?body ?done ?stop
 case hI=>exact BxI.stable _ _ _ _ m.size
 case h0=>
  refine⟨(λx S=>by cases S),λb o g=>?_,m,λk r=>by have:=HM.out;have:=r.1;omega⟩
  rcases D7 g with⟨rfl,rfl⟩|⟨rfl,rfl⟩
  ·exact⟨I,s,λh=>h.elim (λh=>by have h:=h.1;omega) fun⟨_,r,_⟩=>(by cases r)⟩
  exact⟨I,P,λh=>h.elim (λh=>by have h:=h.1;omega) fun⟨_,r,_⟩=>(by cases r)⟩
 case stop=>
  intro D c u Ψ W _ _ h;exact h.elim
 case hAx=>exact EAx.stable _ _ _ _
 case assign=>
  intro l' u x Ψ t K hI y hV V f;have U:GK d Ψ t x:=by
   obtain⟨⟨B,F,e,h⟩,-⟩:=hV;have e2:=(q8 e I).2;injection e2 with e2
   rw[e2];exact h
  have B:=KD.kin U (HL.below hI.2.2.1);obtain⟨X,F⟩:=J ((aL x).toArray);have au:T (X.size=VK.n):=O (by rw[F,jv];exact B.len);have s:T (X.all (·.oneCell')=ji):=O (by rw[F,jS];exact λad hu=>B.ones ad (ak hu));have Zn:=O F;have HK:=O f;have HI:=O hI;have HO:T (∀e,cuE M e->¬gb x e):=O (by
   rintro e (rfl|rfl) h
   ·exact(y.2.1 _ _ (un M u)).2.2 (.inl (.inr h))
   exact(y.2.1 _ _ (ve M u)).2.2 (.inl (.inr h)))
  have a2:=O U;have HΨ:=O V;rw[<-F];clear F f hI y U hV B V;rw[zH];simp only[q9,rk,rn]
  gi_wp2_with (first|(refine VK.madeI I I (G ?_))|(refine VK.firstI I I I X I au s (G ?_)))
  have y:=ao t (jc X VK.t);have U:∀B0,bQ B0 Ψ t (t.alloc (jc X VK.t)):=λB0=>bQ.ofBelow y λ_ h _=>h
  refine HK _ _ y (BxI.stable d w _ w.heap.size (jD _) _ _ _ _ _ HI.out (U _) (λ_ h=>h) λ_ h=>.inl h) ?_;exact⟨t.heap.size,by rw[Zn],by rw[<-Zn];exact jA _ _,λh=>by have:=HΨ _ h;omega,a2.turns (U 0) (λ_ h=>.inl h),HO⟩
 case body=>
  rintro l' u x Ψ bf K hI ⟨b,rfl,a3,bg,au,a4⟩ hV Ys bh hl bi bk;have B:=KD.kin au (HL.below hI.2.2.1);have H:=(hI.2.1 _ _ (un M u)).2.1;have Uz:=(hI.2.1 _ _ (ve M u)).2.1;have a2:=(Ih (k:=u.getLast?) (λy U=>hI.1 y (r4 U)) (HL.below hI.2.2.1)).1;obtain⟨X,F⟩:=J ((aL x).toArray);have bc:T (K.rangeAt b 107 (aB x.g x.vm x.vt)):=O λt ad ht=>ai a3 (by
   rw[nv];have h:=nD B (1+t);rw[<-qu,qx 1 t,qJ]at h;exact h.trans ht)
  have Wi:T ((aB x.g x.vm x.vt).length=VG.n):=O (eH B.leads.llen);obtain⟨V,Z8⟩:=J ((aB x.g x.vm x.vt).toArray);have Z2:T (V.size=VG.n):=O (by rw[Z8,jv];exact Wi);have Vv:T (V.all (·.oneCell')=ji):=O (by rw[Z8,jS];exact λad hu=>mc B.leads ad (ak hu));have WT:=O Z8;have k2:(K.setRow (M+1) V).heap[M+2]?=A (jc #[.bool u.getLast?.isSome] 4 (0,0)):=(js _ _ _ _ Y).trans Uz;have c2:=ai (i:=0) k2 I;have f2:=gt (o:=0) k2;have Up:=O H;have bd:=O a2;dsimp only;rw[<-F];clear F Z8 H a2 B Uz
  gi_wp2_with (first|(refine VG.loadI aj I I (aB x.g x.vm x.vt) Wi bc ?_;rw[<-WT];refine G ?_)|(refine VG.storeI I I I V I Z2 Vv Up bd (G ?_)))
  have B:∀k,k≠M+1->k≠M+2->((K.setRow (M+1) V).setCell ⟨M+2,0,jf⟩ (.bool ji)).heap[k]?=K.heap[k]?:=λk h1 h2=>(dC _ h2).trans (js _ _ _ _ h1)
  have F:jl (M+1) K ((K.setRow (M+1) V).setCell ⟨M+2,0,jf⟩ (.bool ji)):=(iR (ms _ K) (jD _) V).setCell (p:=⟨M+2,0,jf⟩) (j7 _) _;have a2:(u++[x]).getLast?=A x:=List.getLast?_concat;obtain⟨s1,s2⟩:=BxI.step (E:=cuE M) hI au a4 (λb o ho=>by
   rcases D7 ho with⟨rfl,rfl⟩|⟨rfl,rfl⟩
   ·rw[a2]
    exact⟨.inl I,I,(dC _ Y).trans (by rw[jU _ _ _ _ _ _ Up.out,WT];rfl)⟩
   rw[a2];exact⟨.inr I,I,fs _ k2⟩) (by rintro b (rfl|rfl);exact⟨_,un _ _⟩;exact⟨_,ve _ _⟩) Ys F (by rw[<-HM];exact j7 _) (λk _ r=>B k (λe=>r (.inl e)) λe=>r (.inr e))
  have r:=ZI.out;have bl:=Zj.out;refine⟨⟨⟨B _ Y Y,B _ Y Y⟩,F,s2⟩,s1⟩
 rintro D xs Ψ W rfl C hI a2;have X:=(hI.2.1 _ _ (un M xs)).2.1;have Wj:=(hI.2.1 _ _ (ve M xs)).2.1;have x:=Ih (k:=xs.getLast?) (λy U=>hI.1 y (r4 U)) (HL.below hI.2.2.1);obtain⟨u,K⟩:=J (xs.getLast?);have bc:∀y,u=A y->GK d Ψ W y:=λy U=>hI.1 y (r4 (K.symm.trans U))
 have bd:u.map CK.cand=(dA fol fid (d.map (·.1))).getLast?:=by rw[K,<-C,List.getLast?_map]
 have a3:=hI.2.2.1;rw[<-K]at X Wj x;obtain⟨r,hG⟩:=J (kP u);obtain⟨ok,Wb⟩:=J u.isSome;rw[<-hG]at X x;rw[<-Wb]at Wj;have ad:=O x;clear hI K x
 go_upto_region 4 with fail
 refine jO ?_;refine fP (λR=>R.heap[M+1]?=A (jc r VG.t (0,0))/\R.heap[M+2]?=A (jc #[.bool ok] 4 (0,0))) 4 (.t 0 (.t 1 (.o 2 (.o 3 .done)))) af af af af L (λ_ _ _ _ h=>h) ⟨X,Wj⟩ ?_;have a:=bV W;obtain⟨x,S⟩:=J W.drew;rw[<-S]at a⊢;have v1:=av X a;have K:=av Wj a;have e2:=ai (i:=0) K I;have V:=gt (o:=0) K;clear S
 (refine cJ (v:=jh r) I aj (λR C=>dc VG.hu VG.hd (by rw[ad.1];exact VG.hi) I I C.1) ?_;refine G ?_)
 (refine cJ (v:=?_) I aj (λR C=>?_) ?_;rotate_left;(have R:=ai (i:=0) C.2 I;clear C;go_simp;with_reducible rfl);refine G ?_)
 refine cV I (λK' f=>?_);rw[jr aj];refine jR VG.t _ _ I (M+1) r I I VG.t r v1 (by rw[ad.1];exact VG.hi) I ad.2 ?_;rw[setRow_self _ _ _ _ _ v1];refine f _ _ ⟨v1,K⟩ λ_=>?_
 clear f;refine G ?_;refine cV I (λK' f=>?_);go_simp;have R:(x.setCell ⟨M+2,0,jf⟩ (.bool ok)).heap[M+2]?=A (jc #[.bool ok] 4 (0,0)):=fs (i:=0) (.bool ok) K;have au:∀k,(x.setCell ⟨M+2,0,jf⟩ (.bool ok)).heap[k]?=x.heap[k]?:=λk=>by
  by_cases e:k=M+2
  ·rw[e,R,K]
  exact dC _ e
 have F:jl w w (x.setCell ⟨M+2,0,jf⟩ (.bool ok)):=(a3.trans (a.mono a3.size)).setCell (p:=⟨M+2,0,jf⟩) (by rw[<-HM];exact rv _ _) _;rw[<-Wb];generalize x.setCell ⟨M+2,0,jf⟩ (.bool ok)=W3 at R au F⊢;have B:=(au _).trans v1;refine f _ _ ⟨B,R⟩ λ_=>?_
 clear f e2 V;refine G ?_;refine fc ?_
 go_wp2_with fail
 have V:W3.heap[l.heap.size]?=A (.deferred (A [])):=(au _).trans (av a2 a);have bf:M+1≠l.heap.size:=λe=>by rw[<-e,B]at V;cases V
 have bg:M+2≠l.heap.size:=λe=>by rw[<-e,R]at V;cases V
 have z1:=(ob (w:=W3) (o:=.deferred jf) bf).trans B;have z2:=(ob (w:=W3) (o:=.deferred jf) bg).trans R;have bh:w.heap.size<=l.heap.size:=m.size;refine⟨by simp,.inl ⟨_,_,I,qT (b:=l.heap.size) (ds:=[]) V,?_⟩⟩;refine⟨jH #[jh r,.bool ok],TT I _ _ (M+1) (M+2) VG.t r _ (0,0) _ I I z1 (P7 z2) VG.hu I (by rw[ad.1];exact VG.hi),u,by rw[hG,Wb],bd,λy U=>?_,F.trans (iC bh)⟩;have h:=bc y U;have a4:∀b,(gb y b/\¬Ψ b/\∃c t f,W.heap[b]?=A (jc c t f))->(W3.putObj l.heap.size (.deferred jf)).heap[b]?=W.heap[b]?:=λb g=>by
  obtain⟨-,-,c,t,f,g⟩:=g;refine(ob (λe=>by rw[e,a2]at g;cases g)).trans ((au b).trans (a.block b (jB.1 g).1))
 refine(KD.keep h a4).mono λb g=>?_
 obtain⟨h0,h1,c,t,f,h2⟩:=g;exact(jB.1 ((a4 b ⟨h0,h1,c,t,f,h2⟩).trans h2)).1
end
theorem Co{P:aM->Prop}(h:∀c,(∀w,dH c.leads d=A w->P w)->P c):∀(n:ja) (c:aM),iF d c.leads<=n->P c
 |0,c,b=>h c λw a=>jt (sO (oy (rE a)).1) Y
 |n+1,c,b=>h c λw a=>Co h n w (by have:=sO (oy (rE a)).1;omega)
theorem G4{l:jg Cmt}{P:aM->Prop}(h:∀c,(∀w,dH c.leads l=A w->P w)->P c)(c:aM):P c:=Co h _ c (jD _)
theorem uA:∀(g:Grp) (a:jg aM) (k:ja) (x:aM),a[k]?=A x->dP g a (k+1)=x.leads
 |g,[],k,x,h=>by simp at h
 |g,c::a,0,x,h=>by
  simp at h;rw[dP,<-h]
  cases a<;>rfl
 |g,c::a,k+1,x,h=>by
  rw[dP];exact uA c.leads a k x (ak h)
theorem GT{l:jg Cmt}(c:aM):∀(g:Grp),fO g l c->∀(k:ja) (x:aM),(fE l c)[k]?=A x->fO (dP g (fE l c) k) l x/\(0<k->dH (dP g (fE l c) k) l=A x):=by
 refine G4 (l:=l) (P:=λc=>∀(g:Grp),fO g l c->∀(k:ja) (x:aM),(fE l c)[k]?=A x->fO (dP g (fE l c) k) l x/\(0<k->dH (dP g (fE l c) k) l=A x)) (λc d g b k x a=>?_) c;rw[nG]at a⊢
 rcases k with _|k
 ·simp at a
  rw[dP,<-a];exact⟨b,λh=>jt h (qK _)⟩
 rw[dP]
 cases hw:dH c.leads l with
 |none=>rw[hw]at a;simp at a
 |some w=>
  rw[hw]at a;dsimp only at a⊢;rw[qJ]at a;have f:=(oy (rE hw)).1;have b:=d w hw c.leads f k x a;refine⟨b.1,λ_=>?_⟩
  rcases k with _|k
  ·rw[nG]at a
   simp at a;have e:dP c.leads (fE l w) 0=c.leads:=by rw[dP]
   rw[e,hw,a]
  exact b.2 (qZ k)
theorem Mg{l:jg Cmt}(c:aM):∀g,dH (dP g (fE l c) (fE l c).length) l=jf:=by
 refine G4 (l:=l) (P:=λc=>∀g,dH (dP g (fE l c) (fE l c).length) l=jf) (λc a g=>?_) c;rw[nG]
 cases hw:dH c.leads l with
 |none=>
  dsimp only;rw[List.length_singleton,dP];exact hw
 |some w=>
  dsimp only;rw[jZ,dP];exact a w hw c.leads
def eD(b:LBy)(a d:N):jC->jg aM->jC
 |ok,[]=>ok
 |true,c::e=>match c.com.chg.find? λx=>x.d==a&&x.k !=1 with|some x=>decide (d<=x.c)|none=>eD b a d ji e
 |false,c::e=>if c.id=b then(if cG c.leads.mem a=ji then eD b a d ji e else jn)else eD b a d jn e
section
def okS(id:LBy)(ys:jg CK):jC:=ys.any λk=>decide (k.id=id)
def AccP(id:LBy)(dev ctr:N)(ys:jg CK):Prop:=∀a,eD id dev ctr jn (ys.map CK.cand++a)=eD id dev ctr (okS id ys) a
theorem rD(id:LBy)(ys:jg CK)(x:CK):okS id (ys++[x])=(okS id ys||decide (x.id=id)):=by unfold okS;simp
section
variable {id:LBy} {dev ctr:N} {ys:jg CK} {x:CK} (h:AccP id dev ctr ys)
include h
theorem AccP.at(a:jg aM):eD id dev ctr jn ((ys++[x]).map CK.cand++a)=eD id dev ctr (okS id ys) (x.cand::a):=by
 rw[n0,qY];exact h _
theorem AccP.on(a:okS id ys=ji)(b:x.p.1.chg.find? (λy=>y.d==dev&&y.k !=1)=jf):AccP id dev ctr (ys++[x]):=λc=>by
 rw[h.at,rD,a,eD,show x.cand.com=x.p.1 from I,b];rfl
theorem AccP.off{y:ap}(a:okS id ys=ji)(b:x.p.1.chg.find? (λy=>y.d==dev&&y.k !=1)=A y)(c:jg aM):eD id dev ctr jn ((ys++[x]).map CK.cand++c)=decide (ctr<=y.c):=by
 rw[h.at,a,eD,show x.cand.com=x.p.1 from I,b]
theorem AccP.ne(b:okS id ys=jn)(a:x.id≠id):AccP id dev ctr (ys++[x]):=λc=>by
 rw[h.at,rD,b,eD,jF (show ¬x.cand.id=id from a),decide_eq_false a];rfl
theorem AccP.met(b:okS id ys=jn)(a:x.id=id)(c:cG x.g.mem dev=ji):AccP id dev ctr (ys++[x]):=λd=>by
 rw[h.at,rD,b,eD,jr (show x.cand.id=id from a),jr (show cG x.cand.leads.mem dev=ji from c),qc a];rfl
theorem AccP.gone(a:okS id ys=jn)(b:x.id=id)(c:cG x.g.mem dev=jn)(d:jg aM):eD id dev ctr jn ((ys++[x]).map CK.cand++d)=jn:=by
 rw[h.at,a,eD,jr (show x.cand.id=id from b),jF (show ¬cG x.cand.leads.mem dev=ji by show ¬cG x.g.mem dev=ji;rw[c];decide)]
end
theorem N3{α:Type}{q:α->jC}{l:jg α}{j:ja}{y:α}(h:∀z∈l.take j,q z=jn)(a:l[j]?=A y)(b:q y=ji):l.find? q=A y:=by
 rw[<-sy j l,vi,qw.2 (λz c=>by rw[h z c];decide),Option.none_or,List.drop_eq_getElem_cons (jW.1 a).1,(jW.1 a).2,List.find?_cons,b]
theorem NZ{α:Type}{q:α->jC}{l:jg α}(h:∀z∈l.take l.length,q z=jn):l.find? q=jf:=qw.2 λz a=>by
 rw[h z (by rw[r5];exact a)];decide
theorem TW(d:N)(c:jp jk)(b:ja)(x:aK)(w:jj)(f:w.heap[b]?=A (jc c 71 (0,0)))(g:c[33]?=A (jd je d)):
 jz jo 55 #[jh x.cells.toArray,ju (A ⟨b,0,jf⟩)] w λe w'=>e=jw (.bool (x.dev==d))/\jl w w w':=by
 have a:=ao w (jc x.cells.toArray 107);have j:=ai (i:=33) (av f a) g;have h:=O a;clear a f g;obtain⟨x1,x2,g⟩:=x;unfold aK.cells at*;obtain⟨r,a⟩:=J ((x1==d));show jz _ _ _ _ λe w'=>e=jw (.bool (x1==d))/\_
 rw[<-a];have f:=O a;clear a
 go_enter func55,ntmps55
 go_wp2_with fail
 go_ret;exact⟨iB f.symm,h⟩
theorem Oi(d:N)(a:jp jk)(b c:ja)(e:b<c)(f:a[33]?=A (jd je d)):fV EM 55 #[ju (A ⟨b,0,jf⟩)] c (λW=>W.heap[b]?=A (jc a 71 (0,0))) (λm=>m.dev==d) where
 enter _ _:=I
 keep w w' hn h hB:=(hB.block b e).trans h
 call x w hn h:=TW d a b x w h f
def chZ:ap:=⟨0,0,0,0,0⟩
noncomputable def VH:VarT jo:=⟨62,5,chZ.cells.toArray,_,sq,I,by kernel_rfl,rfl,λ_=>by kernel_rfl⟩
def acV(M:ja)(a:jp jk)(id:LBy)(ys:jg CK)(b:ja):jG Obj:=if b=M+1 then A (jc a 71 (0,0))else if b=M+2 then A (jc #[.bool (okS id ys)] 4 (0,0))else jf
theorem zn(M:ja)(a:jp jk)(id:LBy)(ys:jg CK):acV M a id ys (M+1)=A (jc a 71 (0,0)):=jr I
theorem tV(M:ja)(a:jp jk)(id:LBy)(ys:jg CK):acV M a id ys (M+2)=A (jc #[.bool (okS id ys)] 4 (0,0)):=(jF Y).trans (jr I)
theorem EP{M b:ja}{a:jp jk}{id:LBy}{ys:jg CK}{o:Obj}(h:acV M a id ys b=A o):(b=M+1/\o=jc a 71 (0,0))\/(b=M+2/\o=jc #[.bool (okS id ys)] 4 (0,0)):=by
 unfold acV at h
 split at h
 ·rename_i e;injection h with h;exact .inl ⟨e,h.symm⟩
 split at h
 ·rename_i e;injection h with h;exact .inr ⟨e,h.symm⟩
 cases h
def AcX(w:jj)(M:ja)(id:LBy)(dev ctr:N)(c:Code)(ys:jg CK)(Ψ:ja->Prop)(W:jj):Prop:=(∃r,c=.ret/\(Boxed W (M+2) 4 (.bool r)/\¬Ψ (M+2))/\∀a,eD id dev ctr jn (ys.map CK.cand++a)=r)/\(jl w w W/\∀k,Ψ k->w.heap.size<=k)
theorem AcX.stable(w:jj)(M:ja)(id:LBy)(dev ctr:N)(c:Code)(B0:ja)(h:w.heap.size<=B0):bY B0 (AcX w M id dev ctr c):=by
 refine bY.and ?_ (kI _ _ w (jD _) h);rintro ys Ψ a b B ⟨r,d,e,f⟩ g i j;exact⟨r,d,iS B0 (M+2) 4 (λ_:Unit=>.bool r) () Ψ a b B e g i j,f⟩
attribute [local go_sem] Oper.semAt_some
theorem Dv(d:jg CP)(v:jk)(fol:N)(fid:LBy)(m:fid.length=32)(u:jp jk)(f:LBy)(dev ctr:N)(q:f.length=32)(r:∀t R,(f.map v8)[t]?=A R->u[1+t]?=A R)(s:u[33]?=A (jd je dev))(x:u[34]?=A (jd je ctr))
 (w:jj) (n:cA w v d) (y:∀p∈d,cZ (aR p.1)) (z:bH w) (B:d.length<=1000) (D:∀p∈d,p.1.chg.length<=1000000) (F:∀k,k∈dA fol fid (d.map (·.1))->k.leads.mem.length<=1000000):
 jz jo 19 #[jh (c8 fol fid).toArray,v,jh u] w λe w'=>e=jw (.bool (eD f dev ctr jn (dA fol fid (d.map (·.1)))))/\jl w w w':=by
 obtain⟨p1,k1,rfl⟩:=n.form;obtain⟨C,i⟩:=J ((c8 fol fid).toArray);have ZH:T (C.size=VF.n):=O (by rw[i,jv];unfold c8;rw[jZ,jy,m];rfl);rw[<-i];obtain⟨M,b⟩:=J w.heap.size;obtain⟨x0,a⟩:=J (((w.alloc (jc C 25)).alloc (jc u 71)).alloc (jc #[.bool jn] 4));have S:=ao w (jc C 25);have U:=S.trans ((ao (w.alloc (jc C 25)) (jc u 71)).mono S.size);have j:=ao ((w.alloc (jc C 25)).alloc (jc u 71)) (jc #[.bool jn] 4);have c:T (x0.heap[M]?=A (jc C VF.t (0,0))):=O (by rw[a,b];exact av (av (jA w _) (ao _ _)) j);have U7:T (x0.heap[M+1]?=A (jc u 71 (0,0))):=O (by
  have h:=jA (w.alloc (jc C 25)) (jc u 71);rw[jq]at h;rw[a,b];exact av h j)
 have Vn:T (x0.heap[M+2]?=A (jc #[.bool jn] 4 (0,0))):=O (by
  have h:=jA ((w.alloc (jc C 25)).alloc (jc u 71)) (jc #[.bool jn] 4);rw[jq,jq]at h;rw[a,b];exact h)
 have P:T (jl w w x0):=O (by rw[a];exact U.trans (j.mono U.size));have bC:T (x0.heap.size=M+3):=O (by rw[a,b,jq,jq,jq]);obtain⟨xF,g⟩:=J (w.alloc (jc C 25));have au:T (xF.heap.size=M+1):=O (by rw[g,b,jq]);have bk:T (jl w w xF):=O (by rw[g];exact S);have UM:T (jl (M+1) xF x0):=O (by
  have h:=(ao xF (jc u 71)).trans ((ao (xF.alloc (jc u 71)) (jc #[.bool jn] 4)).mono (ao xF _).size);rw[au,g,<-a]at h;rw[g];exact h)
 have HL:=O n;have HE:=O y;have HT:=O z;have HN:=O B;have Vy:=O D;have HM:=O b;have H:=O a;have bI:=O i;have bK:=O m;have WI:=O r;have WV:=O s;have bl:=O x;have bm:=O q;have Y6:=O F;obtain⟨bn,o⟩:=J (eD f dev ctr jn (dA fol fid (d.map (·.1))));rw[<-o];have Zy:=O o;clear g S U j i b a n y z B D m r s x q F o;refine(qS (n:=0)).1 ?_;refine sn func19 I trivial ?_ I;refine wpIn_wide.2 ?_;simp only[ntmps19,jv,jZ,qB,qC,qD,qE,qF,qG,qH,qg,qI]
 go_upto_region 1 with fail
 rw[<-H]
 try simp only[jq]
 try rw[show w.heap.size+1+1=w.heap.size+2 from I]
 rw[<-HM];clear H;refine jO ?_;refine fP (λb=>b.heap[M]?=A (jc C VF.t (0,0))) 4 (.t 0 (.t 2 (.o 1 (.o 3 .done)))) af af af af L (λ_ _ _ _ h=>h) c ?_;have a:=bV x0;obtain⟨x1,hx⟩:=J x0.drew;rw[<-hx]at a⊢;have bo:T (M+3<=x1.heap.size):=O (by rw[<-bC];exact a.size);replace P:=ah P a;replace c:=ae c a;replace U7:=ae U7 a;replace UM:=O (UM.trans (a.mono (by have:=UM.size;have:=au.out;omega)));replace Vn:=ae Vn a;clear hx a;refine co ?_
 (refine cJ (v:=jh C) I aj (λb hS=>dc VF.hu VF.hd (by rw[ZH];exact VF.hi) I I hS) ?_;refine G ?_)
 refine cV I (λj hK=>?_);go_simp;refine(pV d _ x1 (HL.below P) HE (HT.below P) HN).mono ?_;rintro e x2 ⟨v2,v3,rfl,g,a⟩;have i:=O (g.mono (E:=λb=>M+3<=b/\b<x2.heap.size) λb m=>⟨jE bo m.1,m.2⟩);have Zj:T (M+3<=x2.heap.size):=O (jE bo a.size);replace P:=ah P a;replace c:=ae c a;replace U7:=ae U7 a;replace UM:=O (UM.trans (a.mono (by have:=UM.size;have:=au.out;omega)));replace Vn:=ae Vn a;refine hK _ _ c.out λ_=>?_
 clear hK g a;refine G ?_;refine cV I (λj hK=>?_);go_simp;refine(zN _ C x2).mono ?_;rintro e q ⟨rfl,g⟩;have a:jl x2 x2 q:=by rw[g];exact(ao _ _).trans ((ao _ _).mono (ao _ _).size)
 have Za:T (q.heap[x2.heap.size]?=A (jc #[jb p1 d.length k1,v2,v3] VP.t (0,0))):=O (by rw[g];exact av (jA x2 _) (ao _ _));have bq:T (q.heap[x2.heap.size+1]?=A (jc C VF.t (0,0))):=O (by
  have h:=jA (x2.alloc (jc #[jb p1 d.length k1,v2,v3] 78)) (jc C 25);rw[jq]at h;rw[g];exact h)
 have ZI:T (q.heap.size=x2.heap.size+2):=O (by rw[g,jq,jq]);replace P:=ah P a;replace U7:=ae U7 a;replace UM:=O (UM.trans (a.mono (by have:=UM.size;have:=au.out;omega)));replace Vn:=ae Vn a;have j:T (aG (λb=>M+3<=b/\b<q.heap.size) q v2 32 (bW (d.map (·.1)) d.length).length (eM (d.map (·.1)) (bW (d.map (·.1)) d.length))):=O ((i.ids.keep λb m=>a.block b m.2).mono λb m=>⟨m.1,by have:=ZI.out;omega⟩);have o:T (aG (λb=>M+3<=b/\b<q.heap.size) q v3 1 (bW (d.map (·.1)) d.length).length (fx (bW (d.map (·.1)) d.length))):=O ((i.at_.keep λb m=>a.block b m.2).mono λb m=>⟨m.1,by have:=ZI.out;omega⟩);refine hK _ _ (av c a) λ_=>?_
 clear hK g a c i;refine G ?_;refine fc ?_
 go_wp2_with fail
 obtain⟨bp,a⟩:=J x2.heap.size;rw[<-a]at Za bq Zj ZI⊢;have c:=ym d (jb p1 d.length k1) v2 v3 fol fid bK xF q (M+1) (M+3) bp (bp+1) (j6 au) UM Y (ee ZI Zj) (HL.below bk) j o Za.out (by rw[<-bI];exact bq) Zj (aJ Zj) HE (HT.below bk) HN Vy;have bM:=O c;clear c a j o;refine(wpIn_wide (n:=0)).1 ?_;refine rF (n:=0) (gf:=57) (lb:=#[ju (A ⟨bp,0,jf⟩),ju (A ⟨bp+1,0,jf⟩)]) I (enters_of func57 af I) bM (ee ZI Zj) (λ_=>rfl) (λk s=>s.2)
  (λys Ψ W=>BxI d w (acV M u f) ys Ψ W/\AccP f dev ctr ys) (AcX w M f dev ctr) ?hI (λys Ψ B h=>h.1.1) (λc=>AcX.stable _ _ _ _ _ _ _ P.size) ?h0
  (EAx d (cuE M) λb x=>#[jh C,jb p1 d.length k1,jh u,ju (A ⟨M,0,jf⟩),jm,ju (A ⟨M+1,0,jf⟩),ju (A ⟨M+2,0,jf⟩),ju (A ⟨b,0,jf⟩),jm,jm,jb p1 d.length k1,jh #[jb p1 d.length k1,v2,v3],jh C,.func (.func 57) #[] #[ju (A ⟨bp,0,jf⟩),ju (A ⟨bp+1,0,jf⟩)],jh (aL x).toArray,jm,jm,jm,jm,jm,jm,jm,jm,jm,jm,jm,jm,jm,jm,jm,jm,jm,jm,jm,jm,jm,jm,jm,jm,jm,jm,jm,jm,jm,jm,jm,jm,jm,jm,jm,jm,jm]) ?hAx ?assign ?body ?done ?stop
 case hI=>exact(BxI.stable _ _ _ _ P.size).and (fp _ _)
 case h0=>
  refine⟨⟨(λx hx=>by cases hx),λb o m=>?_,P,λk s=>by have:=HM.out;have:=s.1;omega⟩,λay=>rfl⟩
  rcases EP m with⟨rfl,rfl⟩|⟨rfl,rfl⟩
  ·exact⟨I,U7,λh=>h.elim (λh=>by have h:=h.1;omega) fun⟨_,s,_⟩=>(by cases s)⟩
  exact⟨I,Vn,λh=>h.elim (λh=>by have h:=h.1;omega) fun⟨_,s,_⟩=>(by cases s)⟩
 case stop=>
  rintro D c H Ψ W rfl ⟨V,a⟩ ⟨⟨r,rfl,⟨U,Q⟩,g⟩,ba,z⟩ ax;have HR:T (r=bn):=O (by rw[Zy,<-a];exact(g V).symm);have bb:M+2≠q.heap.size:=λe=>by rw[<-e,U]at ax;cases ax
  have z2:=(ob (w:=W) (o:=.deferred jf) bb).trans U;have bc:w.heap.size<=q.heap.size:=P.size;refine wpIn_wide.2 ?_
  go_wp2_with fail
  refine⟨by simp,.inl ⟨_,_,I,qT (b:=q.heap.size) (ds:=[]) ax,?_⟩⟩;have zc:=ai (i:=0) z2 I;exact⟨.bool r,by simp[results,results19,go_sem,zc],by rw[HR],ba.trans (iC bc)⟩
 case hAx=>exact EAx.stable _ _ _ _
 case assign=>
  intro l' H x Ψ a K hI y hV z hK;have F:GK d Ψ a x:=by
   obtain⟨⟨g,j,e,h⟩,-⟩:=hV;have e2:=(q8 e I).2;injection e2 with e2
   rw[e2];exact h
  have g:=KD.kin F (HL.below hI.1.2.2.1);obtain⟨X,j⟩:=J ((aL x).toArray);have aa:T (X.size=VK.n):=O (by rw[j,jv];exact g.len);have U7:T (X.all (·.oneCell')=ji):=O (by rw[j,jS];exact λR hu=>g.ones R (ak hu));have Zn:=O j;have HK:=O hK;have HI:=O hI;have HO:T (∀e,cuE M e->¬gb x e):=O (by
   rintro e (rfl|rfl) h
   ·exact(y.1.2.1 _ _ (zn M u f H)).2.2 (.inl (.inr h))
   exact(y.1.2.1 _ _ (tV M u f H)).2.2 (.inl (.inr h)))
  have a1:=O F;have HΨ:=O z;rw[<-j];clear j hK hI y F hV g z;rw[zH];simp only[q9,rk,rn]
  gi_wp2_with (first|(refine VK.madeI I I (G ?_))|(refine VK.firstI I I I X I aa U7 (G ?_)))
  have y:=ao a (jc X VK.t);have ad:∀B0,bQ B0 Ψ a (a.alloc (jc X VK.t)):=λB0=>bQ.ofBelow y λ_ h _=>h
  refine HK _ _ y ⟨BxI.stable d w _ w.heap.size (jD _) _ _ _ _ _ HI.1 (ad _) (λ_ h=>h) λ_ h=>.inl h,HI.2⟩ ?_;exact⟨a.heap.size,by rw[Zn],by rw[<-Zn];exact jA _ _,λh=>by have:=HΨ _ h;omega,a1.turns (ad 0) (λ_ h=>.inl h),HO⟩
 case body=>
  rintro l' H x Ψ b2 a ⟨hI,hP⟩ ⟨b,rfl,K,br,z,aa⟩ hV Ys a3 hl a6 bd;have g:=KD.kin z (HL.below hI.2.2.1);have S:=(hI.2.1 _ _ (zn M u f H)).2.1;have U:=(hI.2.1 _ _ (tV M u f H)).2.1;have a1:x.cand∈dA fol fid (d.map (·.1)):=by
   obtain⟨-,-,-,V,hV⟩:=hV;rw[<-hV,n0];exact xa _ (xd _ (jN.2 I))
  have a4:x.g.mem.length<=1000000:=Y6 _ a1;have a5:x.p.1.chg.length<=1000000:=Vy _ (j4 z.at_);have bf:=ZI.out;have bg:=Zj.out;have a2:∀B,(∀k,k<a.heap.size->k≠M+2->B.heap[k]?=a.heap[k]?)->jl (M+1) a B->B.heap[M+2]?=A (jc #[.bool (okS f (H++[x]))] 4 (0,0))->AccP f dev ctr (H++[x])->
   ((B.heap[q.heap.size]?=a.heap[q.heap.size]?/\B.heap[q.heap.size+1]?=a.heap[q.heap.size+1]?)/\jl (M+1) a B/\∀k,Ψ k->B.heap[k]?=a.heap[k]?)/\(BxI d w (acV M u f) (H++[x]) Ψ B/\AccP f dev ctr (H++[x])):=λB s y F hA=>by
   obtain⟨s1,s2⟩:=BxI.step (E:=cuE M) (B:=B) hI z aa (λc o V=>by
    rcases EP V with⟨rfl,rfl⟩|⟨rfl,rfl⟩
    ·exact⟨.inl I,I,(s _ (jB.1 S).1 Y).trans S⟩
    exact⟨.inr I,I,F⟩) (by rintro c (rfl|rfl);exact⟨_,zn _ _ _ _⟩;exact⟨_,tV _ _ _ _⟩) Ys y (by rw[<-HM];exact j7 _) (λk V c=>s k V λe=>c (.inr e))
   exact⟨⟨⟨s _ Y Y,s _ Y Y⟩,y,s2⟩,s1,hA⟩
  have c:∀B r,(∀k,k<a.heap.size->k≠M+2->B.heap[k]?=a.heap[k]?)->jl (M+1) a B->B.heap[M+2]?=A (jc #[.bool r] 4 (0,0))->(∀ay,eD f dev ctr jn ((H++[x]).map CK.cand++ay)=r)->
   ((B.heap[q.heap.size]?=a.heap[q.heap.size]?/\B.heap[q.heap.size+1]?=a.heap[q.heap.size+1]?)/\jl (M+1) a B/\∀k,Ψ k->B.heap[k]?=a.heap[k]?)/\AcX w M f dev ctr .ret (H++[x]) Ψ B:=λB r s y F hA=>by
   have Q:=(hI.2.1 _ _ (tV M u f H)).2.2;exact⟨⟨⟨s _ Y Y,s _ Y Y⟩,y,λk V=>s k (Ys k V) λe=>Q (.inl (e▸V))⟩,⟨r,I,⟨F,λh=>Q (.inl h)⟩,hA⟩,hI.2.2.1.trans (y.mono (by rw[<-HM];exact j7 _)),hI.2.2.2⟩
  have Wd:=O a2;have bs:=O c;have HP:=O hP;have Up:=O S;have YS:T (jl w w a):=O hI.2.2.1;have U8:T (M+3<=a.heap.size):=O Y;clear a2 c hI hV Ys a3 hl a6 bd aa br a1 bg bf z;obtain⟨X,j⟩:=J ((aL x).toArray);have c:=O (mM g);have Q:T (∀i:ja,X[i]?=(aL x)[i]?):=O λi=>by rw[j,nv]
  have UQ:T (a.rangeAt b 74 (x.id.map v8)):=O λt R ht=>ai K (by rw[nv];exact(BH g (by have h:=(jW.1 ht).1;rwa [jy,g.idl]at h)).trans ht)
  have UP:T (a.rangeAt (M+1) 1 (f.map v8)):=O λt R ht=>ai S (WI t R ht)
  have bu:T ((x.id.map v8).length=VD.n):=O (by rw[jy,g.idl];rfl);have bv:T ((f.map v8).length=VD.n):=O (by rw[jy,bm];rfl);have bw:∀z,(Op.equalIn 10000 23 (jh (x.id.map v8).toArray) (jh (f.map v8).toArray)).run jo z=.ok (decide (x.id=f)) z:=λz=>pC x.id f g.idl bm z
  obtain⟨T1,y⟩:=J ((x.id.map v8).toArray);obtain⟨T2,ad⟩:=J ((f.map v8).toArray);rw[<-y,<-ad]at bw;have Vu:=O y;have YT:=O ad;have a1:a.cell? ⟨b,36,jf⟩=A x.p.2.vc:=ai K (by rw[nv];exact c.2.2.1);have bd:a.cell? ⟨b,141,jf⟩=A x.vm:=ai K (by rw[nv];exact c.2.2.2.2.1);have bf:a.cell? ⟨M+1,33,jf⟩=A (jd je dev):=ai S WV;have bg:a.cell? ⟨M+1,34,jf⟩=A (jd je ctr):=ai S bl;have a2:=ai (i:=0) U I;have bh:=gt (o:=0) U;have a3:T (EC.At a x.p.2.vc x.p.1.chg):=O (EK.At.of_sl g.com.chg);have bi:T (EM.At a x.vm x.g.mem):=O g.leads.mem;obtain⟨pc,cc,e1,-⟩:=a3.form;obtain⟨pm,cm,e2,-⟩:=bi.form;rw[e1]at a1 a3;rw[e2]at bd bi;have Ur:=O U;have bN:=O a5;have Wi:=O a4;dsimp only;rw[<-j];clear j g K S e1 e2 y ad c Q U hP a5 a4;obtain⟨bO,Wb⟩:=J (okS f H);rw[<-Wb]at a2 Ur;have aa:=O Wb;clear Wb
  cases bO with
  |true=>
   as_aux_lemma=>
    obtain⟨n,c⟩:=J x.p.1.chg.length;have ZF:=O c;rw[<-c]at a1 a3;have br:n<=1000000:=by rw[c];exact bN
    clear c bd
    gi_wp2_with fail
    gi_loopw [20] (λi wr=>∃j:ja,i=jd je j/\j<=n/\T (∀y∈x.p.1.chg.take j,(y.d==dev&&y.k !=1)=jn)/\T (jl a a wr)) (λi _=>n-(jQ i).toNat)
    case atStart=>exact⟨0,I,jM _,O ar,O (ms _ _)⟩
    obtain⟨j,rfl,hj,HG,Q⟩:=hrel;clear a1 a2 bh bf bg
    by_cases bT:j<n
    case neg=>
     have hd:=az ((j:N)<(n:N));have UL:=az (j<n);obtain rfl:j=n:=Y
     gi_wp2_with fail
     exact Wd wr (λk s _=>Q.block k s) (Q.mono (aJ U8)) (by rw[rD,<-aa];exact av Ur Q) (HP.on aa.symm (NZ (by rw[<-ZF];exact HG)))
    have hd:=aw ((j:N)<(n:N));have UL:=aw (j<n);obtain⟨⟨K,c,xp,xv,xc⟩,he,Vd⟩:=dN (l:=x.p.1.chg) (j:=j) (by rw[<-ZF];exact bT);obtain⟨g,o,rfl,a6⟩:=(a3.below Q).cells.2.2 Y;have Vb:T (wr.rangeAt g (o+j*5) (ap.cells ⟨K,c,xp,xv,xc⟩)):=O λt R ht=>a6 j _ he t R ht
    have HE:=O he;have bA:=O Vd;obtain⟨X5,a4⟩:=J ((ap.cells ⟨K,c,xp,xv,xc⟩).toArray);have a5:=O a4;have b0:T (X5.size=VH.n):=O (by rw[a4];rfl);have b1:T (X5.all (·.oneCell')=ji):=O (by rw[a4,jS];exact λR hu=>EC.one ⟨K,c,xp,xv,xc⟩ R (show R∈ap.cells _ by simpa using hu));clear a6 he Vd a4
    gi_upto_region 7 with(first|(refine VH.loadI aj I I (ap.cells ⟨K,c,xp,xv,xc⟩) I Vb ?_;rw[<-a5];refine G ?_)|(refine VH.madeI I I (G ?_))|(refine VH.firstI I I I X5 I b0 b1 (G ?_)))
    obtain⟨x4,b3,hx,m,WC,bB⟩:=dh wr X5 VH.t;rw[<-hx,<-m];have UA:T (jl a a x4):=ah Q bB;have cd:=ai (i:=1) (v:=jd je c) WC.out (by rw[a5];rfl);have ck:=ai (i:=0) (v:=jd je K) WC.out (by rw[a5];rfl);have b4:=ai (i:=4) (v:=jd je xc) WC.out (by rw[a5];rfl);have bf:=ai (av Up UA) WV;have bg:=ai (av Up UA) bl;have a4:=av Ur UA;have a2:=ai (i:=0) a4 I;have bh:=gt (o:=0) a4;have a6:=O a4;clear hx m bB WC Q Vb a4
    by_cases V:c=dev
    case neg=>
     have e1:(c==dev)=jn:=ak V;have a4:decide (c=dev)=jn:=ak V;have VR:T (∀y∈x.p.1.chg.take (j+1),(y.d==dev&&y.k !=1)=jn):=O (by
      rw[bA];intro y Q
      rcases j3.1 Q with Q|Q
      ·exact HG y Q
      rw[jN]at Q;rw[Q];show(c==dev&&_)=jn;rw[e1];rfl)
     clear V
     gi_wp2_with fail
     exact⟨⟨j+1,by go_num,by omega,VR,UA⟩,by simp only[jQ];omega⟩
    have e1:(c==dev)=ji:=ak V;have a4:decide (c=dev)=ji:=ak V;clear V
    by_cases F:K=1
    case pos=>
     have e2:(K !=1)=jn:=by simp[F]
     have bB:decide (K≠1)=jn:=by simp[F]
     have VR:T (∀y∈x.p.1.chg.take (j+1),(y.d==dev&&y.k !=1)=jn):=O (by
      rw[bA];intro y Q
      rcases j3.1 Q with Q|Q
      ·exact HG y Q
      rw[jN]at Q;rw[Q];show(c==dev&&(K !=1))=jn;rw[e2,Bool.and_false])
     clear F
     gi_wp2_with fail
     exact⟨⟨j+1,by go_num,by omega,VR,UA⟩,by simp only[jQ];omega⟩
    have e2:(K !=1)=ji:=by simp[F]
    have bB:decide (K≠1)=ji:=by simp[F]
    have Q:T (x.p.1.chg.find? (λy=>y.d==dev&&y.k !=1)=A ⟨K,c,xp,xv,xc⟩):=O (N3 HG HE (by show(c==dev&&(K !=1))=ji;rw[e1,e2];rfl));clear F;obtain⟨r,y⟩:=J (decide (ctr<=xc));have HR:=O y;have b5:decide (ctr<=xc)=r:=y.symm;clear y
    gi_wp2_with fail
    refine bs _ r (λk s F=>(dC _ F).trans (UA.block k s)) ((UA.mono (aJ U8)).setCell (p:=⟨M+2,0,jf⟩) (j7 _) _) (fs _ a6.out) (λay=>?_);rw[HR];exact HP.off aa.symm Q.out ay
  |false=>
   as_aux_lemma=>
    obtain⟨Q,g⟩:=J (decide (x.id=f));rw[<-g]at bw;have c:=O g;clear g
    rcases Q with _|_
    ·gi_wp2_with (first|(refine VD.loadI aj I I (x.id.map v8) bu UQ ?_;rw[<-Vu];refine G ?_)|(refine VD.loadI aj I I (f.map v8) bv UP ?_;rw[<-YT];refine G ?_))
     exact Wd a (λ_ _ _=>rfl) (ms _ _) (by rw[rD,<-aa,<-c];exact Ur) (HP.ne aa.symm (of_decide_eq_false c.symm))
    have y:=O (Aq (Oi dev u (M+1) a.heap.size (aJ U8) WV) x.g.mem _ a bi Up (jD _) Wi);obtain⟨V,g⟩:=J (x.g.mem.any λm=>m.dev==dev);rw[<-g]at y;have K:=O g;clear g
    gi_wp2_with (first|(refine VD.loadI aj I I (x.id.map v8) bu UQ ?_;rw[<-Vu];refine G ?_)|(refine VD.loadI aj I I (f.map v8) bv UP ?_;rw[<-YT];refine G ?_))
    refine⟨trivial,I,(callsIn_wide.2 y).mono ?_⟩;rintro e x5 ⟨rfl,m⟩;have g:=av Ur m;have ay:=ai (i:=0) g I;have a4:=gt (o:=0) g;have j:=O m;have a6:=O g;clear m g a1 bd bf bg a2 bh y
    cases V with
    |true=>
     gi_wp2_with fail
     exact Wd _ (λk s F=>(dC _ F).trans (j.block k s)) ((j.mono (aJ U8)).setCell (p:=⟨M+2,0,jf⟩) (j7 _) _) (by rw[rD,<-aa,<-c];exact fs _ a6.out) (HP.met aa.symm (qQ c.symm) K.symm)
    |false=>
     gi_wp2_with fail
     exact bs _ jn (λk s F=>(dC _ F).trans (j.block k s)) ((j.mono (aJ U8)).setCell (p:=⟨M+2,0,jf⟩) (j7 _) _) (fs _ a6.out) (HP.gone aa.symm (qQ c.symm) K.symm)
 rintro D xs Ψ W rfl hS ⟨hI,hP⟩ ax;have a:=(hI.2.1 _ _ (tV M u f xs)).2.1;have ba:=hI.2.2.1;obtain⟨ok,Wb⟩:=J (okS f xs);have HR:T (ok=bn):=O (by
  have h:=hP [];rw[qh,hS,eD,<-Wb]at h;rw[Zy];exact h.symm)
 rw[<-Wb]at a;have m:=ai (i:=0) a I;have r:=gt (o:=0) a;clear hI hP hS Wb
 go_wp2_with fail
 have c:(W.setCell ⟨M+2,0,jf⟩ (.bool ok)).heap[M+2]?=A (jc #[.bool ok] 4 (0,0)):=fs (i:=0) (.bool ok) a;have h:∀k,(W.setCell ⟨M+2,0,jf⟩ (.bool ok)).heap[k]?=W.heap[k]?:=λk=>by
  by_cases e:k=M+2
  ·rw[e,c,a]
  exact dC _ e
 have j:jl w w (W.setCell ⟨M+2,0,jf⟩ (.bool ok)):=ba.setCell (p:=⟨M+2,0,jf⟩) (by rw[<-HM];exact rv _ _) _;have g:(W.setCell ⟨M+2,0,jf⟩ (.bool ok)).heap[q.heap.size]?=A (.deferred (A [])):=(h _).trans ax;have bb:M+2≠q.heap.size:=λe=>by rw[<-e,c]at g;cases g
 have z2:=(ob (w:=W.setCell ⟨M+2,0,jf⟩ (.bool ok)) (o:=.deferred jf) bb).trans c;have bc:w.heap.size<=q.heap.size:=P.size;refine⟨by simp,.inl ⟨_,_,I,qT (b:=q.heap.size) (ds:=[]) g,?_⟩⟩;have zc:=ai (i:=0) z2 I;exact⟨.bool ok,by simp[results,results19,go_sem,zc],by rw[HR],j.trans (iC bc)⟩
end
def vy(g:Grp)(a:N)(b:jg ap)(c init:LBy)(d:jg Bx)(e:jg Wl):Cmt:=⟨g.folder,g.epoch+1,g.last,a,b,dB c,d,e,cF,0,0⟩
def pI(g:Grp)(a:N)(c:jg ap)(b init:LBy)(d:jg Bx)(e:jg Wl):Cmt:=
 {vy g a c b init d e with confirm:=iZ (dO g b init) (cW kM ((aR (vy g a c b init d e)).take 8))}
def mkX(g:Grp)(a:N)(x:ja)(b:jg ap)(c init:LBy)(d:jg Bx)(e:jg Wl):Cmt:=
 {pI g a b c init d e with r:=(ko x (dt (pI g a b c init d e)):ja),s:=(kE x (dt (pI g a b c init d e)):ja)}
def kz(b:j8 8):LBy:=b::xe 31 0#8
def cQ(d:ja):ap:=⟨1,(d:N),((aY 4 (d+2):ja):N),((aY 4 (d+2):ja):N),0⟩
def dM(d a:ja):ap:=⟨2,(d:N),0,0,(a:N)⟩
def uD(g:Grp)(a:N)(c:jg ap)(b seed:LBy)(x:N×N)(p:ja):Bx:=
 ⟨x.2,x.1,(aY 4 (gm (dZ seed gQ [x.1,x.2])):ja),gs p (dZ seed gQ [x.1,x.2]) (iW (bX g a c b) gQ [x.1,x.2]) (aA b x.1.toNat)⟩
theorem Mn{g:Grp}{a:N}{b:jg ap}{c seed:LBy}{x:N×N}{p:ja}(h:tD (aX g.tree b) x.2=p):eA g a b c seed x=uD g a b c seed x p:=by
 unfold eA uD;rw[h]
def pwN:ja->ja->ja->ja
 |0,_,_=>1%PN
 |f+1,a,n=>if n%2=1 then a*pwN f (a*a%PN) (n/2)%PN else pwN f (a*a%PN) (n/2)
theorem Cn:∀(f a n:ja),n<2^f->pwN f a n=a^n%PN
 |0,a,n,h=>by
  obtain rfl:n=0:=ak h;rw[pwN,Nat.pow_zero]
 |f+1,a,n,h=>by
  have c:n/2<2^f:=by rw[Nat.pow_succ]at h;omega
  have e:a^n=(a*a)^(n/2)*a^(n%2):=by
   rw[<-Nat.pow_two,<-Nat.pow_mul,<-Nat.pow_add,Nat.div_add_mod]
  rw[pwN,Cn f _ _ c]
  split
  ·rename_i b
   rw[e,b,Nat.pow_one,Nat.mul_comm _ a,Nat.mul_mod a,<-Nat.pow_mod,Nat.mod_mod,<-Nat.mul_mod,Nat.mul_comm]
  have b:n%2=0:=Y;rw[e,b,Nat.pow_zero,Nat.mul_one,<-Nat.pow_mod]
def pw(a n:ja):ja:=if n<2^64 then pwN 64 a n else aY a n
theorem m8(a n:ja):aY a n=pw a n:=by
 unfold pw
 split
 ·rename_i h
  rw[Cn 64 a n h]
  rfl
 rfl
def ma(a:LBy):jg N:=(r6 10).map λi=>((pw 4 (aT (aA a i)):ja):N)
def nf(x:ja)(msg:LBy):ja:=(iT x msg+rH (pw 4 (iT x msg)) (pw 4 x) msg*x%QN)%QN
def ru(a:ja)(seed b body:LBy):LBy:=oN (nY a (pw 4 (gm seed)) (pw a (gm seed))) sl b body
def iY(g:Grp)(a:N)(b:jg ap)(c:LBy):Cmt:=⟨g.folder,g.epoch+1,g.last,a,b,ma c,[],[],cF,0,0⟩
def pi(g:Grp)(a:N)(c:jg ap)(b seed:LBy)(x:N×N)(p:ja):Bx:=
 ⟨x.2,x.1,(pw 4 (gm (dZ seed gQ [x.1,x.2])):ja),ru p (dZ seed gQ [x.1,x.2]) (iW (iY g a c b) gQ [x.1,x.2]) (aA b x.1.toNat)⟩
def oR(g:Grp)(a:N)(c:jg ap)(b init seed:LBy)(y:ap):Wl:=
 ⟨y.d,(pw 4 (gm (dZ seed kt [y.d])):ja),ru y.p.toNat (dZ seed kt [y.d]) (iW (iY g a c b) kt [y.d]) (dO g b init)⟩
def nr(g:Grp)(a:N)(b:jg ap)(c init:LBy)(d:jg Bx)(e:jg Wl):Cmt:=⟨g.folder,g.epoch+1,g.last,a,b,ma c,d,e,cF,0,0⟩
def lG(g:Grp)(a:N)(c:jg ap)(b init:LBy)(d:jg Bx)(e:jg Wl):Cmt:=
 {nr g a c b init d e with confirm:=iZ (dO g b init) (cW kM ((aR (nr g a c b init d e)).take 8))}
def mkF(g:Grp)(a:N)(x:ja)(b:jg ap)(c init:LBy)(d:jg Bx)(e:jg Wl):Cmt:=
 {lG g a b c init d e with r:=(pw 4 (iT x (dt (lG g a b c init d e))):ja),s:=(nf x (dt (lG g a b c init d e)):ja)}
theorem Ha(a:LBy):dB a=ma a:=by unfold dB ma;simp only[m8]
theorem IZ(x:ja)(msg:LBy):kE x msg=nf x msg:=by unfold kE nf ko;simp only[m8]
theorem FU(a:ja)(seed b body:LBy):gs a seed b body=ru a seed b body:=by unfold gs ru;simp only[m8]
theorem Dp(g:Grp)(a:N)(b:jg ap)(c:LBy):bX g a b c=iY g a b c:=by unfold bX iY;rw[Ha]
theorem Kx(g:Grp)(a:N)(b:jg ap)(c seed:LBy)(x:N×N)(p:ja):uD g a b c seed x p=pi g a b c seed x p:=by unfold uD pi;simp only[m8,FU,Dp]
theorem Tx(g:Grp)(a:N)(b:jg ap)(c init seed:LBy)(y:ap):fC g a b c init seed y=oR g a b c init seed y:=by unfold fC oR;simp only[m8,FU,Dp]
theorem L2(g:Grp)(a:N)(b:jg ap)(c init:LBy)(d:jg Bx)(e:jg Wl):pI g a b c init d e=lG g a b c init d e:=by unfold pI lG vy nr;simp only[Ha]
theorem Nu(g:Grp)(a:N)(x:ja)(b:jg ap)(c init:LBy)(d:jg Bx)(e:jg Wl):mkX g a x b c init d e=mkF g a x b c init d e:=by
 unfold mkX mkF;simp only[L2,IZ,ko,m8]
theorem FK{P:o8}{S:jj->Prop}{t:bE}(r:bE){F:ja->ja->Act}{d:ja->ja->jj->Prop}(e:∀x y w,d x y w->eE P V h S r (F x y) w)(c:(∀x y w,d x y w->eE P V h S r (F x y) w)->eE P V h S t m w):eE P V h S t m w:=c e
theorem CM{a:Act}{o:jK}{x:j1}{c:jJ}{d:TypeDesc}{f:ja}{e:jg jk}{g:jj}(h:jo.underlying c=A d)(i:d.isRow=ji)(j:(jo.info? c).map (·.size)=A e.length)(k:o.op=.load c x)(l:a.eval x=ju (A ⟨b,f,jf⟩))(m:g.rangeAt b f e):
 (jP a.eval o).run jo g=.ok (.value (jh e.toArray)) g:=eF o a c x k b f l e d m h i j
theorem L3{a:Act}{o:jK}{parts:jp (ja×j1)}{e au:N}{b:jp jk}{p:jG Addr}{n c:ja}(d:b.size=32)(g:o.op=.build 48 parts)(h:(parts.map fun(i,x)=>(i,a.eval x))= #[(0,jd je f),(1,jd je e),(2,jh b),(3,jd je au),(4,jb p n c)])(W:jj):
 (jP a.eval o).run jo W=.ok (.value (jh (#[jd je f,jd je e]++b++ #[jd je au,jb p n c,jb jf 0 0,jb jf 0 0,jb jf 0 0]++(cF.map v8).toArray++ #[jd je 0,jd je 0]))) W:=by
 simp only[jP,g,h,Sem.run_bind,LP f e au b d p n c,Result.andThen_ok,Sem.run_pure]
theorem Ou{m:Act}(b:B.op=.build 66 #[])(W:jj):
 (jP m.eval B).run jo W=.ok (.value (jh (cF.map v8).toArray)) W:=by
 simp only[jP,b,qa,jV,Sem.run_bind,OP,Result.andThen_ok,Sem.run_pure]
theorem RJ{R d:ja}{X:jk->jp jk}{c k:jk}(n:a.last.length=32)(l:w.ownsRow b 62 5 j e.length (e.flatMap ap.cells))(m:w.ownsRow M 3 1 c 10 ((dB i).map (jI .i64)))(q:eB y R 48 92 4 Bx.cells Bx.body X W w d k p z)(r:d=p.length):aW (·<w.heap.size) w {bX a f e i with box:=p} ⟨j,c,k,jb jf 0 0⟩:=by
 refine⟨aG.of_own l (λa n=>(l.lt a n).2),?_,q.slice r (λa _ n=>n),⟨[],⟨I,jf,0,I,jD _,λ_=>rfl,λh=>jt h (qK 0)⟩,I⟩,n,eJ⟩;have h:=aG.of_own (D:=(·<w.heap.size)) m (λa n=>(m.lt a n).2);show aG _ w c 1 (dB i).length _;rw[lM];exact h
def li(D:ja->Prop)(W:jj)(v:jk)(l:jg Bx):Prop:=∃a,aG D W v 4 l.length (dU Bx.cells l a)/\ez D W (l.map Bx.body) a
theorem li.keep{D':ja->Prop}{v:jk}{l:jg Bx}(h:li D w v l)(a:∀g,D g->w'.heap[g]?=w.heap[g]?)(b:∀g,D g->D' g):li D' w' v l:=by
 obtain⟨c,d,e⟩:=h;exact⟨c,(d.keep a).mono b,(e.keep a).mono b⟩
theorem li.below{v:jk}{l:jg Bx}(h:li (·<w.heap.size) w v l)(b:jl w w w'):li (·<w'.heap.size) w' v l:=h.keep (λg a=>b.block g a) (λg a=>jL a b.size)
theorem R5{R d:ja}{X:jk->jp jk}{c k l:jk}{F:jg Wl}(m:a.last.length=32)(n:w.ownsRow b 62 5 j e.length (e.flatMap ap.cells))(o:w.ownsRow M 3 1 c 10 ((dB i).map (jI .i64)))(s:li (·<w.heap.size) w k p)(t:eB y R 48 95 3 Wl.cells Wl.body X W w d l F z)(u:d=F.length):aW (·<w.heap.size) w {bX a f e i with box:=p,wel:=F} ⟨j,c,k,l⟩:=by
 refine⟨aG.of_own n (λa m=>(n.lt a m).2),?_,s,t.slice u (λa _ m=>m),m,eJ⟩;have h:=aG.of_own (D:=(·<w.heap.size)) o (λa m=>(o.lt a m).2);show aG _ w c 1 (dB i).length _;rw[lM];exact h
theorem Ry(h:EC.At w j e)(i:∀(g o:ja) (x:N),w.cell? ⟨g,o,jf⟩=A (jd je x)->W.cell? ⟨g,o,jf⟩=A (jd je x)):EC.At W j e:=by
 obtain⟨k,p,c,l,m,n,q⟩:=h;refine⟨k,p,c,l,m,n,λr=>?_⟩;obtain⟨g,o,ep,s⟩:=q r;refine⟨g,o,ep,λv a b=>?_⟩;have t:=s v a b;have u:∃x,a=jd je x:=by
  have d:=j4 b;unfold EK.flat at d;obtain⟨y,-,z⟩:=List.mem_flatMap.1 d;have f:a∈ap.cells y:=z;simp only[ap.cells,qk,List.mem_nil_iff,or_false]at f
  rcases f with rfl|rfl|rfl|rfl|rfl<;>exact⟨_,I⟩
 obtain⟨x,rfl⟩:=u;exact i _ _ _ t
theorem P4{v:jk}{l:jg ap}{j:ja}{X d:jp jk}{e:jJ}(h:EC.At w v l)(f:w.heap[b]?=A (jc X e (0,0)))(g:w'.heap[b]?=A (jc d e (0,0)))(m:∀k,k<w.heap.size->k≠b->w'.heap[k]?=w.heap[k]?)
 (k:∀i,i≠j->d[i]?=X[i]?) (a:∃p n c,X[j]?=A (jb p n c)):EC.At w' v l:=by
 obtain⟨p,n,c,a⟩:=a;exact Ry h (uI f g k a m)
theorem KH{f:N}{o u:LBy}{D:ja->Prop}{l m n:jk}(d:a.last.length=32)(g:w.ownsRow b 62 5 j e.length (e.flatMap ap.cells))(c:w.ownsRow M 3 1 l 10 ((dB i).map (jI .i64)))
 (init:li D w m ((et (aX a.tree e) f).map (eA a f e i u))) (p:∃h,aG D w n 3 ((dw f e).map (fC a f e i o u)).length (dU Wl.cells ((dw f e).map (fC a f e i o u)) h)/\ez D w (((dw f e).map (fC a f e i o u)).map Wl.body) h)
 (q:∀k,b<=k->k<w.heap.size->D k) (r:∀k,M<=k->k<w.heap.size->D k):aW D w (mk1 a f e i o u) ⟨j,l,m,n⟩:=by
 refine⟨aG.of_own g (λa d=>q a (g.lt a d).1 (g.lt a d).2),?_,init,p,d,eJ⟩;have h:=aG.of_own (D:=D) c (λa d=>r a (c.lt a d).1 (c.lt a d).2);show aG _ w l 1 (dB i).length _;rw[lM];exact h
theorem aW.conf(h:aW D w H R){k:LBy}(a:k.length=32):aW D w {H with confirm:=k} R:=⟨h.chg,h.path,h.box,h.wel,h.plen,a⟩
theorem aW.rs(h:aW D w H R)(r s:N):aW D w {H with r:=r,s:=s} R:=⟨h.chg,h.path,h.box,h.wel,h.plen,h.clen⟩
theorem D3(h:aW D w (mk1 a f e i o u) R):aW D w (mk2 a f e i o u) R:=by
 unfold mk2;exact h.conf (sT _ _)
theorem Rk{g:Grp}{a:N}{x:ja}{b:jg ap}{c init seed:LBy}{q:CQ}(h:aW D W (mk1 g a b c init seed) q):aW D W (mkC g a x b c init seed) q:=by
 unfold mkC;exact(D3 h).rs _ _
theorem aW.later(h:aW (λk=>b<=k/\k<w.heap.size) w H R)(n:jl w w W):aW (λk=>b<=k/\k<W.heap.size) W H R:=
 (h.keep λg a=>n.block g a.2).mono λg a=>⟨a.1,jL a.2 n.size⟩
def mP(a:jp jk):ja->jg jk->jp jk
 |_,[]=>a
 |o,v::b=>mP (a.setIfInBounds o v) (o+1) b
theorem BF:∀(d a c b:jg jk),c.length=d.length->mP (a++c++b).toArray a.length d=(a++d++b).toArray
 |[],a,c,b,h=>by
  obtain rfl:c=[]:=List.eq_nil_of_length_eq_zero h
  rfl
 |v::d,a,[],b,h=>by simp at h
 |v::d,a,x::c,b,h=>by
  have e:(a++x::c++b).toArray.setIfInBounds a.length v=((a++[v])++c++b).toArray:=by
   apply Array.ext'
   rw[Array.toList_setIfInBounds];show List.set (a++x::c++b) a.length v=_;rw[qY,List.set_append_right _ _ (jD _),Nat.sub_self];simp
  rw[mP,e];have f:=BF d (a++[v]) c b (ak h);rw[qj]at f;have g:mP ((a++[v])++c++b).toArray (a.length+1) d=(a++[v]++d++b).toArray:=f;rw[g];simp
theorem yR:∀(a:jg jk) (o:ja) (W:jj) (c:jp jk),W.heap[b]?=A (jc c r (0,0))->(W.setCells b o a).heap[b]?=A (jc (mP c o a) r (0,0))
 |[],o,W,c,h=>h
 |v::a,o,W,c,h=>yR a (o+1) _ _ (fs v h)
theorem tU{k:ja}(c:k≠b):∀(a:jg jk) (o:ja) (W:jj),(W.setCells b o a).heap[k]?=W.heap[k]?
 |[],o,W=>rfl
 |v::a,o,W=>(tU c a (o+1) (W.setCell ⟨b,o,jf⟩ v)).trans (dC v c)
theorem yq(b:ja):∀(a:jg jk) (o:ja) (W:jj),(W.setCells b o a).heap.size=W.heap.size
 |[],o,W=>rfl
 |v::a,o,W=>(yq b a (o+1) (W.setCell ⟨b,o,jf⟩ v)).trans (pE _ _ _)
theorem Ol(c:Cmt)(q:CQ)(k:LBy)(a:c.parent.length=32)(b:c.confirm.length=32)(d:k.length=32):mP (aE c q).toArray 39 (k.map v8)=(aE {c with confirm:=k} q).toArray:=by
 have e:∀x:LBy,aE {c with confirm:=x} q=(jd je c.folder::jd je c.epoch::(c.parent.map v8++[jd je c.author,q.vc,q.vp,q.vb,q.vw]))++x.map v8++[jd je c.r,jd je c.s]:=λx=>by simp[aE]
 have h:=BF (k.map v8) (jd je c.folder::jd je c.epoch::(c.parent.map v8++[jd je c.author,q.vc,q.vp,q.vb,q.vw])) (c.confirm.map v8) [jd je c.r,jd je c.s] (by simp[b,d]);have f:(jI .i64 c.folder::jd je c.epoch::(c.parent.map v8++[jd je c.author,q.vc,q.vp,q.vb,q.vw])).length=39:=by simp[a]
 rw[f,<-e,<-e]at h;exact h
theorem TS(c:Cmt)(q:CQ)(r s:N)(a:c.parent.length=32)(b:c.confirm.length=32):mP (aE c q).toArray 71 [jd je r,jd je s]=(aE {c with r:=r,s:=s} q).toArray:=by
 have e:∀x y:N,aE {c with r:=x,s:=y} q=(jd je c.folder::jd je c.epoch::(c.parent.map v8++([jd je c.author,q.vc,q.vp,q.vb,q.vw]++c.confirm.map v8)))++[jd je x,jd je y]++[]:=λx y=>by simp[aE]
 have h:=BF [jd je r,jd je s] (jd je c.folder::jd je c.epoch::(c.parent.map v8++([jd je c.author,q.vc,q.vp,q.vb,q.vw]++c.confirm.map v8))) [jd je c.r,jd je c.s] [] I;have d:(jI .i64 c.folder::jd je c.epoch::(c.parent.map v8++([jd je c.author,q.vc,q.vp,q.vb,q.vw]++c.confirm.map v8))).length=71:=by simp[a,b]
 rw[d,<-e,<-e]at h;exact h
theorem fJ.conf(h:fJ H){k:LBy}(a:k.length=32):fJ {H with confirm:=k}:=⟨h.ints,h.plen,a,h.chg,h.path,h.box,h.wel⟩
theorem fJ.rs(h:fJ H){r s:N}(a:IR r)(b:IR s):fJ {H with r:=r,s:=s}:=⟨⟨h.ints.1,h.ints.2.1,h.ints.2.2.1,a,b⟩,h.plen,h.clen,h.chg,h.path,h.box,h.wel⟩
theorem Pq(c:Cmt)(x y:N)(l:c.r=0)(m:c.s=0):({({c with r:=x,s:=y}:Cmt)with r:=0,s:=0}:Cmt)=c:=by
 obtain⟨a,b,c,d,e,f,g,h,i,j,k⟩:=c;obtain rfl:j=0:=l;obtain rfl:k=0:=m
 rfl
theorem Kw(c:Cmt)(x:LBy)(l:c.confirm=cF):({({c with confirm:=x}:Cmt)with confirm:=cF}:Cmt)=c:=by
 obtain⟨a,b,c,d,e,f,g,h,i,j,k⟩:=c;obtain rfl:i=cF:=l
 rfl
theorem Tz(g:Grp)(a:N)(b:jg ap)(c init seed:LBy)(q:CQ):aE (mk1 g a b c init seed) q=aE (bX g a b c) q:=by simp only[aE,mk1,bX]
theorem oe(g:Grp)(a:N)(b:jg ap)(c init seed:LBy):(mk1 g a b c init seed).parent=g.last/\(mk1 g a b c init seed).confirm.length=32:=by
 unfold mk1;exact⟨I,eJ⟩
theorem Do(g:Grp)(a:N)(c:jg ap)(b init seed:LBy):mk2 g a c b init seed={mk1 g a c b init seed with confirm:=iZ (dO g b init) (cW kM ((aR (mk1 g a c b init seed)).take 8))}:=by unfold mk2;rfl
theorem Gz(g:Grp)(a:N)(x:ja)(b:jg ap)(c init seed:LBy):mkC g a x b c init seed={mk2 g a b c init seed with r:=((ko x (dt (mk2 g a b c init seed)):ja):N),s:=((kE x (dt (mk2 g a b c init seed)):ja):N)}:=by unfold mkC;rfl
theorem BX(c:Cmt)(k:LBy):({c with confirm:=k}:Cmt).confirm=k/\({c with confirm:=k}:Cmt).parent=c.parent:=⟨I,I⟩
theorem po(g:Grp)(a:N)(b:jg ap)(c init seed:LBy):(mk2 g a b c init seed).parent=g.last/\(mk2 g a b c init seed).confirm.length=32:=by
 rw[Do,(BX _ _).1,(BX _ _).2];exact⟨(oe ..).1,sT _ _⟩
theorem F3(c:Cmt)(r s:N):({c with r:=r,s:=s}:Cmt).confirm=c.confirm/\({c with r:=r,s:=s}:Cmt).parent=c.parent:=⟨I,I⟩
theorem BK(g:Grp)(a:N)(x:ja)(b:jg ap)(c init seed:LBy):(mkC g a x b c init seed).parent=g.last/\(mkC g a x b c init seed).confirm.length=32:=by
 rw[Gz,(F3 _ _ _).1,(F3 _ _ _).2];exact po ..
theorem MP(h:fJ (mkC a f b e i o u)):fJ (mk1 a f e i o u)/\fJ (mk2 a f e i o u):=by
 have z:IR 0:=⟨by decide,by decide⟩;have x:fJ (mk2 a f e i o u):=by
  have d:=h.rs z z;unfold mkC at d;rw[Pq _ _ _ I I]at d;exact d
 have d:=x.conf eJ;unfold mk2 at d;rw[Kw _ _ I]at d;exact⟨d,x⟩
theorem vG(k:P)(h:P->K:=by intro k;refine aS (v:=?_) rfl aj (λW' hS=>?_) ?_;rotate_left;(have b0:=ai (i:=1) hS.1 rfl;have b1:=ai (i:=2) hS.1 rfl;clear hS;go_simp;with_reducible rfl);refine G ?_;exact k):K:=h k
theorem RR(g:Grp)(vm vt vl:jk)(a x:N)(m:jg ap)(u init seed:LBy)(w:jj)(h:bL w g vm vt)(X:aG (·<w.heap.size) w vl 5 m.length (m.flatMap ap.cells))
 (a1:u.length=32) (a2:init.length=32) (hh:seed.length=32) (hT:lx w) (hS:iE w) (bc:g.mem.length<=900000) (bd:g.tree.length<=600000) (D:m.length<=1000000) (Wb:ia g a x m=0):
 jz jo 47 #[jh (aB g vm vt).toArray,jd je a,jd je x,vl,jh (u.map v8).toArray,jh (init.map v8).toArray,jh (seed.map v8).toArray] w (Pn g a x m u init seed (ia g a x m) w):=by
 obtain⟨er,M⟩:=J (ia g a x m);rw[<-M];have hP:=O M;have e2:T (er=0):=O (M.trans Wb);have a3:=rA (vm:=vm) (vt:=vt) h.llen;have VS:=lP (vm:=vm) (vt:=vt) h.llen;have a4:∀(w:jj) (b:ja),w.heap[b]?=A (jc (aB g vm vt).toArray 41 (0,0))->w.rangeAt b 2 (g.last.map v8):=λw b hb=>dG.last ⟨hb,h.llen⟩
 have HN:T (∀W,bL W g vm vt->EC.At W vl m->jz jo 26 #[jh (aB g vm vt).toArray,jd je a,vl] W λe w'=>∃aa,e=jw (jH #[aa,jd je (du g a m)])/\w'.ownsRow W 92 4 aa (dV g a m).length (EB0.flat (dV g a m))/\jl W W w'):=O (λW hW hL=>Gn g vm vt _ _ _ W hW hL Y Y D);have hr:T (∀W,dD g->eX m->gN g a m->bL W g vm vt->EC.At W vl m->jz jo 33 #[jh (aB g vm vt).toArray,jd je a,vl] W λe w'=>e=jw (jd je (dT g a m))/\jl W W w'):=O (λW hv hf hp hW hL=>Gb g vm vt _ _ _ W hW (uz hv) Y hL (λhn=>by
  have c:=hp.own;rw[hn]at c;obtain⟨x,r,h1,-⟩:=hp.first (by have:=hv.ep.1;have h2:=of_decide_eq_false c.symm;omega);rw[h1];simp))
 have hQ:T (∀W,eX m->bL W g vm vt->EC.At W vl m->jz jo 36 #[jh (aB g vm vt).toArray,vl] W λe w'=>∃aa,e=jw (jh #[aa])/\bJ w' aa (aX g.tree m)/\jl W W w'):=O (λW hf hW hL=>yC g vm vt _ _ W hW hf Y hL);obtain⟨ay,P⟩:=J ((aB g vm vt).toArray);obtain⟨Um,hL⟩:=J ((u.map v8).toArray);obtain⟨bM,U⟩:=J ((init.map v8).toArray);obtain⟨S,V⟩:=J ((seed.map v8).toArray);have c:∀(l:LBy),l.length=32->(jo.info? 66).map (·.size)=A (l.map v8).toArray.size:=λl D=>by rw[jv,jy,D];kernel_rfl
 have ZX:T ((jo.info? 66).map (·.size)=A Um.size):=O (by rw[hL];exact c _ a1);have lo:T ((jo.info? 66).map (·.size)=A bM.size):=O (by rw[U];exact c _ a2);have hR:T ((jo.info? 66).map (·.size)=A S.size):=O (by rw[V];exact c _ hh);rw[<-P]at a3 HN hr hQ a4⊢;rw[<-hL,<-U,<-V];clear c;obtain⟨x0,k⟩:=J (((((((w.alloc (jc ay 41)).alloc (jc Um 66)).alloc (jc bM 66)).alloc (jc S 66)).alloc (jc zeroCells48 48)).alloc (jc a8 66)));obtain⟨t,hG⟩:=J w.heap.size;have i:=jA w (jc ay 41);have c:=ao w (jc ay 41);have bo:=jA (w.alloc (jc ay 41)) (jc Um 66);have d:=ao (w.alloc (jc ay 41)) (jc Um 66);have Vj:=jA ((w.alloc (jc ay 41)).alloc (jc Um 66)) (jc bM 66);have j:=ao ((w.alloc (jc ay 41)).alloc (jc Um 66)) (jc bM 66);have o:=jA (((w.alloc (jc ay 41)).alloc (jc Um 66)).alloc (jc bM 66)) (jc S 66);have q:=ao (((w.alloc (jc ay 41)).alloc (jc Um 66)).alloc (jc bM 66)) (jc S 66);have C:=jA ((((w.alloc (jc ay 41)).alloc (jc Um 66)).alloc (jc bM 66)).alloc (jc S 66)) (jc zeroCells48 48);have s:=ao ((((w.alloc (jc ay 41)).alloc (jc Um 66)).alloc (jc bM 66)).alloc (jc S 66)) (jc zeroCells48 48);have e3:=jA (((((w.alloc (jc ay 41)).alloc (jc Um 66)).alloc (jc bM 66)).alloc (jc S 66)).alloc (jc zeroCells48 48)) (jc a8 66);have v:=ao (((((w.alloc (jc ay 41)).alloc (jc Um 66)).alloc (jc bM 66)).alloc (jc S 66)).alloc (jc zeroCells48 48)) (jc a8 66);replace i:=av i d;replace i:=av i j;replace i:=av i q;replace i:=av i s;replace i:=av i v;rw[jq]at bo;replace bo:=av bo j;replace bo:=av bo q;replace bo:=av bo s;replace bo:=av bo v;rw[jq,jq]at Vj;replace Vj:=av Vj q;replace Vj:=av Vj s;replace Vj:=av Vj v;rw[jq,jq,jq]at o;replace o:=av o s;replace o:=av o v;rw[jq,jq,jq,jq]at C;replace C:=av C v;rw[jq,jq,jq,jq,jq]at e3;have hB:=(((((c).trans (d.mono (c).size)).trans (j.mono ((c).trans (d.mono (c).size)).size)).trans (q.mono (((c).trans (d.mono (c).size)).trans (j.mono ((c).trans (d.mono (c).size)).size)).size)).trans (s.mono ((((c).trans (d.mono (c).size)).trans (j.mono ((c).trans (d.mono (c).size)).size)).trans (q.mono (((c).trans (d.mono (c).size)).trans (j.mono ((c).trans (d.mono (c).size)).size)).size)).size)).trans (v.mono (((((c).trans (d.mono (c).size)).trans (j.mono ((c).trans (d.mono (c).size)).size)).trans (q.mono (((c).trans (d.mono (c).size)).trans (j.mono ((c).trans (d.mono (c).size)).size)).size)).trans (s.mono ((((c).trans (d.mono (c).size)).trans (j.mono ((c).trans (d.mono (c).size)).size)).trans (q.mono (((c).trans (d.mono (c).size)).trans (j.mono ((c).trans (d.mono (c).size)).size)).size)).size)).size);rw[<-k]at hB;rw[<-k,<-hG]at i;rw[<-k,<-hG]at bo;rw[<-k,<-hG]at Vj;rw[<-k,<-hG]at o;rw[<-k,<-hG]at C;rw[<-k,<-hG]at e3;have Q:=O i;have ad:=O bo;have ax:=O Vj;have UY:=O o;have UN:=O C;have U0:=O e3;have Uq:=O hB;have HW:=O k;have HG:=O hG;have hs:=O h;have e4:=O X;obtain⟨Z,F⟩:∃y:jp jk,y=zeroCells48:=⟨_,I⟩;obtain⟨K,z⟩:∃y:jp jk,y=a8:=⟨_,I⟩;have i4:T ((aE mO nE).toArray=Z):=O (by rw[F];rfl);have Ze:T ((cF.map v8).toArray=K):=O (by rw[z];rfl);have U8:T ((jo.info? 48).map (·.size)=A Z.size):=O (by rw[F];kernel_rfl);have lp:T ((jo.info? 66).map (·.size)=A K.size):=O (by rw[z];kernel_rfl);have lr:T (Z.all (·.oneCell')=ji):=O (by rw[F];kernel_rfl);have lv:T (K.all (·.oneCell')=ji):=O (by rw[z];kernel_rfl);replace UN:T (x0.heap[(t+1+1+1+1)]?=A (jc Z 48 (0,0))):=O (by rw[F];exact UN);replace U0:T (x0.heap[(t+1+1+1+1+1)]?=A (jc K 66 (0,0))):=O (by rw[z];exact U0);have YU:=O a3;have i5:=O a4;have hU:=O hT;have Wd:=O hS;have Wi:=O bc;have Wx:=O bd;have hl:=O D;have Vx:=O a1;have hV:=O a2;have hX:=O hh;have Yc:=O h.llen;have c7:T (ay[0]?=A (jd je g.folder)/\ay[1]?=A (jd je g.epoch)):=O (by rw[P];have:=VS;exact⟨by simpa using this.1,by simpa using this.2.1⟩);have Yx:=O P;have i6:=O hL;have hY:=O U;have hZ:=O V;obtain⟨R,nc,H,i7⟩:∃p n c',vl=jb p n c':=by obtain⟨p,c',h⟩:=X.form;exact⟨p,_,c',h⟩
 subst i7;obtain⟨ep,a5⟩:=J g.epoch;obtain⟨fd,a6⟩:=J g.folder;rw[<-a5,<-a6]at c7;have WK:=O a5;have ka:=O a6;have ba:=O (yD g a m);obtain⟨ne,bb⟩:=J (du g a m);rw[<-bb]at HN ba;have e5:=O bb;clear h X a1 a2 hh hT hS bc bd D M a3 VS a4 P hL U V F z a5 a6 bb;clear hB k hG i c bo d Vj j o q C s e3 v
 go_enter func47,ntmps47
 go_upto_region 1 with fail
 rw[<-HW,<-HG];have e6:T ((t+1+1+1+1+1)<x0.heap.size):=O (jB.1 U0).1;have k:=ai Q c7.2
 by_cases h1:1099511627776<=ep
 case pos=>
  have hT:decide (1099511627776<=ep)=ji:=ak h1;have c:T (er=1):=O (by rw[hP];unfold ia;rw[jr (by rw[<-WK];exact h1)]);clear h1;exact jt (c.symm.trans e2) L
 have hT:decide (1099511627776<=ep)=jn:=ak h1;have kb:ep<1099511627776:=Y;have i:T (er=if du g a m≠0 then du g a m else if x<1\/2305843009213688669<=x then 50 else if((aY 4 x.toNat:ja):N)≠dT g a m then 221 else 0):=O (by rw[hP];unfold ia;rw[jF (by rw[<-WK];exact h1)]);clear h1
 go_upto_region 3 with fail
 clear hT k;refine j0 ?_;refine j9 I 41 _ I t I 41 ay (0,0) _ Q.out qU I YU ?_
 go_wp2_with fail
 refine(HN x0 (hs.below Uq) ((EK.At.of_sl (E:=EC) e4).below Uq)).mono ?_;rintro e x1 ⟨aa,rfl,hu,d⟩;have q:=O hu;clear hu;have s:=ae Q d;have a1:=ae ad d;have V:=ae ax d;have Vi:=ae UY d;have UK:=ae UN d;have UQ:=ae U0 d;have U:=ah Uq d;clear Q ad ax UY UN U0 Uq;clear d;obtain⟨pu,kg,rfl⟩:=cK q;obtain⟨nu,j⟩:=J ((dV g a m).length);rw[<-j]at q⊢;have h0:=O j;clear j
 rcases ba.out with⟨-,C⟩|⟨-,-,C⟩|⟨hv,hf,hp,C⟩
 case inl=>
  have c:T (er=1):=O (by rw[i,<-e5,C];rfl);subst C;clear q;exact jt (c.symm.trans e2) L
 case inr.inl=>
  have c:T (er=221):=O (by rw[i,<-e5,C];rfl);subst C;clear q;exact jt (c.symm.trans e2) L
 have o:T (er=if x<1\/2305843009213688669<=x then 50 else if((aY 4 x.toNat:ja):N)≠dT g a m then 221 else 0):=O (by rw[i,<-e5,C];rfl);subst C;have j:dD g:=by
  by_cases C:dD g
  ·exact C
  rw[kj C]at hv;cases hv
 have b9:=O j;have Yo:=O (oA.1 hf);have ht:=O (tH.1 hp);have hw:T (dV g a m=et (aX g.tree m) a):=O (ye e5.symm);have lw:0<=ep:=by rw[WK];exact j.ep.1
 have em:=O (vQ j Yo ht);clear hv hf hp j i ba
 by_cases e7:k6 x
 case neg=>
  have c:T (er=50):=O (by rw[o,jr (by unfold k6 at e7;omega)]);have i:=O (Jd x e7);clear e7 q
  go_wp2_with fail
  refine(i x1).mono ?_;rintro e x2 ⟨rfl,rfl⟩;exact jt (c.symm.trans e2) L
 obtain⟨X,h4⟩:=qL (show 0<=x by have:=e7.1;omega);have Zn:=O h4;obtain⟨i,j⟩:=e7;subst h4;have U7:T (1<=X/\X<2305843009213688669):=O ⟨by omega,by omega⟩;have hm:T (er=if((aY 4 X:ja):N)≠dT g a m then 221 else 0):=O (by rw[o,jF Y];rfl);clear i j o
 go_wp2_with fail
 refine(Ac X U7.1 U7.2 x1).mono ?_;rintro e x2 ⟨rfl,d⟩;have i:=ae s d;have v:=ae a1 d;have D:=ae V d;have UO:=ae Vi d;have UH:=ae UK d;have UP:=ae UQ d;have Ur:=ah U d;have e8:=bj q d;clear s a1 V Vi UK UQ U q;clear d;obtain⟨vk,j⟩:=J (dT g a m);obtain⟨pb,e9⟩:∃y:N,y=((aY 4 X:ja):N):=⟨_,I⟩;rw[<-j]at hr hm;rw[<-e9]at hm⊢;have ZN:=O j;have ki:=O e9;clear j e9
 go_upto_region 9 with fail
 refine j0 ?_;refine eh ?_;refine j9 I 41 _ I t I 41 ay (0,0) _ i.out qU I YU (G ?_)
 go_wp2_with fail
 refine(hr x2 b9 Yo ht (hs.below Ur) ((EK.At.of_sl (E:=EC) e4).below Ur)).mono ?_;rintro e x3 ⟨rfl,d⟩;have WZ:=ae i d;have ZC:=ae v d;have o:=ae D d;have VZ:=ae UO d;have U2:=ae UH d;have Vh:=ae UP d;have Ut:=ah Ur d;have a2:=bj e8 d;clear i v D UO UH UP Ur e8;clear d
 by_cases h2:pb=vk
 case neg=>
  have hd2:(pb !=vk)=ji:=ak h2;have ho:(pb==vk)=jn:=ak h2;have c:T (er=221):=O (by rw[hm,jr h2]);clear h2 a2;exact jt (c.symm.trans e2) L
 have hd2:(pb !=vk)=jn:=ak h2;have ho:(pb==vk)=ji:=ak h2;have kl:T (er=0):=O (by rw[hm,jF (λhn=>hn h2)]);have km:T (dT g a m=(aY 4 X:ja)):=O (by rw[<-ZN,<-h2,ki]);clear h2;have k:=ai WZ c7.2;obtain⟨ix,c⟩:=J (if g.epoch=0 then cF else init);obtain⟨IX,i⟩:=J ((ix.map v8).toArray);have j:ix.length=32:=by rw[c];split;exact eJ;exact hV
 have kn:=O j;have bm:=O c;have bn:=O i;have hx:T ((jo.info? 66).map (·.size)=A IX.size):=O (by rw[i,jv,jy,j];kernel_rfl);clear j
 go_upto_if 69 with fail
 go_cut []from 69 (λj=>j=x3.setRow (t+1+1) IX)
 case first=>
  by_cases j:ep=0
  ·have hd3:(ep==0)=ji:=ak j
   have v:IX=(cF.map v8).toArray:=by rw[i,c,jr (by rw[<-WK];exact j)]
   have D:T ((cF.map v8).toArray.all (·.oneCell')=ji):=O (eU _);have F:T (bM.size=(cF.map v8).toArray.size):=O (by rw[hY,jv,jy,jv,jy,hV,eJ]);rw[v]at hx;have M:=O v;clear j v i c
   try rw[hd3]
   go_upto_region 12 with fail
   refine j0 ?_;refine ei (v:=jh (cF.map v8).toArray) aj (Ou I _) ?_;refine pz I λ_ z=>jR 66 _ _ I (t+1+1) (cF.map v8).toArray I I 66 _ o.out hx F D (z _ _ ?_)
   refine G ?_
   go_wp2_with fail
   go_meet
   rw[M]
  have hd3:(ep==0)=jn:=ak j;have D:IX=bM:=by rw[i,c,jF (by rw[<-WK];exact j),hY]
  have F:=O D;clear j D i c
  try rw[hd3]
  go_wp2_with fail
  go_meet
  rw[F];exact(rp o).symm
 subst hcut;clear i c hd2 ho k;have c:T ((x3.setRow (t+1+1) IX).heap[t]?=A (jc ay 41 (0,0))):=O ((js _ _ _ _ (by first|omega|(have:=Zb.out;omega))).trans WZ);have D:T ((x3.setRow (t+1+1) IX).heap[t+1]?=A (jc Um 66 (0,0))):=O ((js _ _ _ _ (by first|omega|(have:=Zb.out;omega))).trans ZC);have F:T ((x3.setRow (t+1+1) IX).heap[t+1+1]?=A (jc IX 66 (0,0))):=O (jU _ _ _ _ _ _ o.out);have M:T ((x3.setRow (t+1+1) IX).heap[t+1+1+1]?=A (jc S 66 (0,0))):=O ((js _ _ _ _ (by first|omega|(have:=Zb.out;omega))).trans VZ);have bd:T ((x3.setRow (t+1+1) IX).heap[(t+1+1+1+1)]?=A (jc Z 48 (0,0))):=O ((js _ _ _ _ (by first|omega|(have:=Zb.out;omega))).trans U2);have bf:T ((x3.setRow (t+1+1) IX).heap[(t+1+1+1+1+1)]?=A (jc K 66 (0,0))):=O ((js _ _ _ _ (by first|omega|(have:=Zb.out;omega))).trans Vh);have bg:T (jl w w (x3.setRow (t+1+1) IX)):=O (ow Ut.out (by rw[HG];omega) _);have P:=O (nh (w':=(x3.setRow (t+1+1) IX)) a2 (λk hk=>js _ _ _ _ (aJ e6)));generalize(x3.setRow (t+1+1) IX)=x4 at c D F M bd bf bg P⊢;clear WZ ZC o VZ U2 Vh Ut a2;have a3:=c;clear c;have o:=D;clear D;have a4:=F;clear F;have WQ:=M;clear M;have Yl:=bd;clear bd;have YL:=bf;clear bf;have UA:=bg;clear bg;have a5:=P;clear P
 go_upto_region 13 with fail
 refine j0 ?_;refine j9 I 66 _ I (t+1) I 66 Um (0,0) _ o.out jX I ZX ?_;have a2:T (∀W,bH W->jz jo 96 #[jh Um] W λe w'=>∃v,e=jw v/\w'.ownsRow W 66 32 v 10 (im (gI u 10))/\jl W W w'):=O (by rw[i6];exact λW hW=>Lx u Vx W hW)
 go_wp2_with fail
 refine(a2 x4 (Wd.dig.below UA)).mono ?_;rintro e x5 ⟨v,rfl,hv,d⟩;obtain⟨gl,cl,LC,rfl,l6,a6,ba,bb⟩:=S3 hv L;have fe:=O ba;have Zb:T (t+6<=gl):=O (by have bp:=(jB.1 YL).1;have:=a6;omega);have hq:T (∀i j aa,i<10->((aA u i).map v8)[j]?=A aa->LC[i*32+j]?=A aa):=O (λi j aa hi hj=>bb _ _ (RN u Vx 10 i j hi aa hj));clear hv ba bb a6 a2;have bc:=ae a3 d;have bh:=ae o d;have a2:=ae a4 d;have b6:=ae WQ d;have eq:=ae Yl d;have ev:=ae YL d;have UF:=ah UA d;have bi:=bj a5 d;clear a3 o a4 WQ Yl YL UA a5;clear d;obtain⟨RL,a3⟩:=J (((aA u 9).map v8).toArray);obtain⟨SA,o⟩:=J (((dO g u init).map v8).toArray);have bq:T (∀W,iE W->jz jo 97 #[jh IX,jh RL] W λe w'=>e=jw (jh SA)/\jl W W w'):=O (by
  rw[bn,a3,o];unfold dO;rw[<-bm];exact λW hW=>QU ix (aA u 9) kn (fL u Vx 9) W hW)
 have fm:T ((jo.info? 66).map (·.size)=A SA.size):=O (by rw[o,jv,jy,lF];kernel_rfl);have kq:T (K.size=SA.size):=O (by rw[o,<-Ze,jv,jy,jv,jy,lF,eJ]);have h5:T (SA.all (·.oneCell')=ji):=O (by rw[o];exact eU _);have bu:=O a3;have hz:=O o;have bv:T ((jo.info? 66).map (·.size)=A ((aA u 9).map v8).length):=O (by rw[jy,fL u Vx];kernel_rfl);clear a3 o
 go_upto_region 14 with fail
 refine jO ?_;refine dj (λW'=>W'.heap[t+1+1]?=A (jc IX 66 (0,0))/\W'.heap[gl]?=A (jc LC 66 (0,0))) (.t 0 (.t 1 (.t 2 (.t 3 (.o 4 (.o 5 .done)))))) af af af L (λ_ _ _ _ h=>h) ⟨a2,fe⟩ ?_;obtain⟨y0,UJ⟩:=J x5.drew;have d:=bV x5;rw[<-UJ]at d⊢;have a4:=ae bc d;have a6:=ae bh d;have ba:=ae a2 d;have b1:=ae b6 d;have cs:=ae eq d;have ct:=ae ev d;have ZE:=ah UF d;have bb:=bj bi d;have cu:=ae fe d;clear d UJ bc bh a2 b6 eq ev UF bi fe;have Q:=a4;clear a4;have ad:=a6;clear a6;have ax:=ba;clear ba;have UY:=b1;clear b1;have UN:=cs;clear cs;have U0:=ct;clear ct;have Uq:=ZE;clear ZE;have bc:=bb;clear bb;have bN:=cu;clear cu
 (refine aS (v:=jh IX) I aj (λW' hS=>mx jX I hx I I hS.1) (G ?_))
 iterate 2 refine aO ?_
 (refine aS (v:=jh RL) I aj (λW' hS=>by rw[bu];exact CM jX I bv I I (G8 (o:=288) hS.2 (λj aa hj=>hq 9 j aa L hj))) ?_;refine G ?_)
 refine aF I (λK' z=>?_);go_simp;refine(bq y0 (Wd.below Uq)).mono ?_;rintro e y1 ⟨rfl,d⟩;have s:=ae Q d;have a1:=ae ad d;have V:=ae ax d;have Vi:=ae UY d;have UK:=ae UN d;have UQ:=ae U0 d;have U:=ah Uq d;have q:=bj bc d;have a3:=ae bN d;clear Q ad ax UY UN U0 Uq bc bN;clear d;refine z _ _ ⟨V,a3⟩ λ_=>?_
 clear z;refine G ?_;refine aF I (λK' z=>?_);rw[jr aj];refine jR 66 _ _ I (t+1+1+1+1+1) SA I I 66 _ UQ.out fm kq h5 ?_;refine z _ _ ⟨(js _ _ _ _ Y).trans V,(js _ _ _ _ (aJ Zb)).trans a3⟩ λ_=>?_
 clear z;have c:T ((y1.setRow (t+1+1+1+1+1) SA).heap[t]?=A (jc ay 41 (0,0))):=O ((js _ _ _ _ (by first|omega|(have:=Zb.out;omega))).trans s);have D:T ((y1.setRow (t+1+1+1+1+1) SA).heap[t+1]?=A (jc Um 66 (0,0))):=O ((js _ _ _ _ (by first|omega|(have:=Zb.out;omega))).trans a1);have F:T ((y1.setRow (t+1+1+1+1+1) SA).heap[t+1+1]?=A (jc IX 66 (0,0))):=O ((js _ _ _ _ (by first|omega|(have:=Zb.out;omega))).trans V);have M:T ((y1.setRow (t+1+1+1+1+1) SA).heap[t+1+1+1]?=A (jc S 66 (0,0))):=O ((js _ _ _ _ (by first|omega|(have:=Zb.out;omega))).trans Vi);have bd:T ((y1.setRow (t+1+1+1+1+1) SA).heap[(t+1+1+1+1)]?=A (jc Z 48 (0,0))):=O ((js _ _ _ _ (by first|omega|(have:=Zb.out;omega))).trans UK);have bf:T ((y1.setRow (t+1+1+1+1+1) SA).heap[(t+1+1+1+1+1)]?=A (jc SA 66 (0,0))):=O (jU _ _ _ _ _ _ UQ.out);have bg:T (jl w w (y1.setRow (t+1+1+1+1+1) SA)):=O (ow U.out (by rw[HG];omega) _);have P:=O (nh (w':=(y1.setRow (t+1+1+1+1+1) SA)) q (λk hk=>js _ _ _ _ (aJ e6)));have a2:T ((y1.setRow (t+1+1+1+1+1) SA).heap[gl]?=A (jc LC 66 (0,0))):=O ((js _ _ _ _ (by first|omega|(have:=Zb.out;omega))).trans a3);generalize(y1.setRow (t+1+1+1+1+1) SA)=y9 at c D F M bd bf bg P a2⊢;clear s a1 V Vi UK UQ U q a3;have ZW:=c;clear c;have bi:=D;clear D;have bk:=F;clear F;have ZD:=M;clear M;have Zm:=bd;clear bd;have Z6:=bf;clear bf;have VJ:=bg;clear bg;have bh:=P;clear P;have a5:=a2;clear a2;refine G ?_;refine o1 ?_;have bw:T ((jo.info? 23).map (·.size)=A (g.last.map v8).length):=O (by rw[jy,Yc];kernel_rfl);obtain⟨DL,bl⟩:=J ((g.last.map v8).toArray);have WR:=O bl;have h6:T (IntKind.i64.wrap (ep+1)=ep+1):=O (by rw[IntKind.wrap_i64];omega);have bA:T (DL.size=32):=O (by rw[bl,jv,jy,Yc]);clear bl
 go_upto_region 15 with fail
 refine jO ?_;refine dj (λW'=>W'.heap[t]?=A (jc ay 41 (0,0))) (.t 0 (.t 1 (.t 2 (.t 3 (.t 4 (.t 5 (.t 6 (.t 7 (.t 8 (.o 9 (.t 10 (.o 11 .done)))))))))))) af af af L (λ_ _ _ _ h=>h) ZW ?_;obtain⟨z0,UJ⟩:=J y9.drew;have d:=bV y9;rw[<-UJ]at d⊢;have a4:=ae ZW d;have a6:=ae bi d;have ba:=ae bk d;have b1:=ae ZD d;have cs:=ae Zm d;have ct:=ae Z6 d;have ZE:=ah VJ d;have bb:=bj bh d;have cu:=ae a5 d;clear d UJ ZW bi bk ZD Zm Z6 VJ bh a5;have Q:=a4;clear a4;have ad:=a6;clear a6;have ax:=ba;clear ba;have UY:=b1;clear b1;have UN:=cs;clear cs;have U0:=ct;clear ct;have Uq:=ZE;clear ZE;have bc:=bb;clear bb;have bN:=cu;clear cu;iterate 6 (refine aS (v:=?_) I aj (λW' hS=>?_) ?_;rotate_left;(have b0:=ai hS c7.1;have a4:=ai hS c7.2;go_simp;with_reducible rfl);refine G ?_)
 (refine aS (v:=jh DL) I aj (λW' hS=>by rw[WR];exact CM underlying23 I bw I I (i5 W' t hS)) ?_;refine G ?_)
 iterate 2 (refine aS (v:=?_) I aj (λW' hS=>?_) ?_;rotate_left;(have b0:=ai hS c7.1;have a4:=ai hS c7.2;go_simp;with_reducible rfl);refine G ?_)
 refine aF I (λK' z=>?_);go_simp;refine(Iq m _ z0 ((EK.At.of_sl (E:=EC) e4).below Uq) hl).mono ?_;rintro e z1 ⟨aa,rfl,hu,d⟩;obtain⟨EE,a4⟩:=J z0.heap.size;rw[<-a4]at hu;have c9:T (t+6<=EE):=O (by have bp:=(jB.1 U0).1;omega);clear a4;have Zc:=O hu;clear hu;obtain⟨V9,c1,rfl⟩:=cK Zc;obtain⟨X0,a6⟩:∃y:jp jk,y= #[jd je fd,jd je (ep+1)]++DL++ #[jd je a,jb V9 m.length c1,jb jf 0 0,jb jf 0 0,jb jf 0 0]++(cF.map v8).toArray++ #[jd je 0,jd je 0]:=⟨_,I⟩;have ba:=O a6;have a4:X0=(aE (bX g a m u) ⟨jb V9 m.length c1,jb jf 0 0,jb jf 0 0,jb jf 0 0⟩).toArray:=by rw[a6,WR,ka,WK];unfold aE bX;simp
 have bb:=O a4;have bl:T ((jo.info? 48).map (·.size)=A X0.size):=O (by rw[a4,jv,dl _ _ Yc.out eJ];exact mQ);have bB:T (X0.all (·.oneCell')=ji):=O (by rw[a4];exact zL _ _ _ _ _ _ _ _ _ _ _ _ _);have bC:T (Z.size=X0.size):=O (by rw[a4,<-i4,jv,jv,dl (bX g a m u) _ Yc.out eJ,dl mO nE eJ eJ]);clear a6 a4;have s:=ae Q d;have a1:=ae ad d;have V:=ae ax d;have Vi:=ae UY d;have UK:=ae UN d;have UQ:=ae U0 d;have U:=ah Uq d;have q:=bj bc d;have a3:=ae bN d;clear Q ad ax UY UN U0 Uq bc bN;clear d;refine z _ _ s.out λ_=>?_
 clear z;refine G ?_
 (refine aS (v:=jh X0) I aj (λW' hS=>by rw[ba];exact L3 (f:=fd) (e:=ep+1) (au:=a) bA I (by simp only[qa,jY,jV,Act.eval,Array.getD_eq_getD_getElem?];simp;exact h6) W') ?_;refine G ?_)
 refine aF I (λK' z=>?_);rw[jr aj];refine jR 48 _ _ I (t+1+1+1+1) X0 I I 48 _ UK.out bl bC bB ?_;refine z _ _ ((js _ _ _ _ Y).trans s) λ_=>?_
 clear z;have Q:T ((z1.setRow (t+1+1+1+1) X0).ownsRow EE 62 5 (jb V9 m.length c1) m.length (m.flatMap ap.cells)):=O (nh Zc (λk hk=>js _ _ _ _ (aJ c9)));have c:T ((z1.setRow (t+1+1+1+1) X0).heap[t]?=A (jc ay 41 (0,0))):=O ((js _ _ _ _ (by first|omega|(have:=Zb.out;omega))).trans s);have D:T ((z1.setRow (t+1+1+1+1) X0).heap[t+1]?=A (jc Um 66 (0,0))):=O ((js _ _ _ _ (by first|omega|(have:=Zb.out;omega))).trans a1);have F:T ((z1.setRow (t+1+1+1+1) X0).heap[t+1+1]?=A (jc IX 66 (0,0))):=O ((js _ _ _ _ (by first|omega|(have:=Zb.out;omega))).trans V);have M:T ((z1.setRow (t+1+1+1+1) X0).heap[t+1+1+1]?=A (jc S 66 (0,0))):=O ((js _ _ _ _ (by first|omega|(have:=Zb.out;omega))).trans Vi);have bd:T ((z1.setRow (t+1+1+1+1) X0).heap[(t+1+1+1+1)]?=A (jc X0 48 (0,0))):=O (jU _ _ _ _ _ _ UK.out);have bf:T ((z1.setRow (t+1+1+1+1) X0).heap[(t+1+1+1+1+1)]?=A (jc SA 66 (0,0))):=O ((js _ _ _ _ (by first|omega|(have:=Zb.out;omega))).trans UQ);have bg:T (jl w w (z1.setRow (t+1+1+1+1) X0)):=O (ow U.out (by rw[HG];omega) _);have P:=O (nh (w':=(z1.setRow (t+1+1+1+1) X0)) q (λk hk=>js _ _ _ _ (aJ e6)));have a2:T ((z1.setRow (t+1+1+1+1) X0).heap[gl]?=A (jc LC 66 (0,0))):=O ((js _ _ _ _ (by first|omega|(have:=Zb.out;omega))).trans a3);generalize(z1.setRow (t+1+1+1+1) X0)=z9 at c D F M bd bf bg P a2 Q⊢;clear s a1 V Vi UK UQ U q a3;have ZW:=c;clear c;have bi:=D;clear D;have bk:=F;clear F;have ZD:=M;clear M;have Zm:=bd;clear bd;have Z6:=bf;clear bf;have VJ:=bg;clear bg;have bh:=P;clear P;have a5:=a2;clear a2;clear Zc;have ad:=Q;clear Q;refine G ?_;refine o1 ?_;obtain⟨M,c⟩:=J z9.heap.size;have Yp:T ((t+1+1+1+1)<M):=O (by rw[c];exact(jB.1 Zm).1);have fo:T (gl<M):=O (by rw[c];exact(jB.1 a5).1);have h7:=O c;have fv:T ((t+1+1+1+1+1)<M):=O (by rw[c];exact(jB.1 Z6).1);have YN:T (∀aa v,((λv=>(aE (bX g a m u) ⟨jb V9 m.length c1,v,jb jf 0 0,jb jf 0 0⟩).toArray) aa).setIfInBounds 36 v=(λv=>(aE (bX g a m u) ⟨jb V9 m.length c1,v,jb jf 0 0,jb jf 0 0⟩).toArray) v):=O (λaa v=>RV (bX g a m u) _ _ _ _ _ Yc.out);have D:T (gB M (t+1+1+1+1) 48 3 1 (λv=>(aE (bX g a m u) ⟨jb V9 m.length c1,v,jb jf 0 0,jb jf 0 0⟩).toArray) z9 z9 0 (jb jf 0 0) (((dB u).take 0).map (jI .i64))):=O ⟨by have h:=Zm.out;rw[bb]at h;exact h,q7 _ _ _ _,dy.refl _ _ _,j6 c⟩;have kv:T (∀w,(Instr.alloc 66 ji (jH #[])).run jo w=.ok (ju (A ⟨w,0,jf⟩)) (w.alloc (jc K 66))):=O (λw=>by rw[<-Ze];kernel_rfl);clear c;rw[h6]
 go_upto_region 16 with fail
 go_wp2_with fail
 go_loopw [91] (λv wr=>∃(i:ja) (pv:jG Addr) (cv:ja),v=jd je i/\i<=10/\T (gB M (t+1+1+1+1) 48 3 1 (λv=>(aE (bX g a m u) ⟨jb V9 m.length c1,v,jb jf 0 0,jb jf 0 0⟩).toArray) z9 wr i (jb pv i cv) (((dB u).take i).map (jI .i64)))) (λv _=>10-(jQ v).toNat)
 case atStart=>exact⟨0,jf,0,I,jM _,D⟩
 clear D;obtain⟨i,pv,cv,rfl,hi,P⟩:=hrel
 by_cases ca:i<10
 ·have hd:=aw ((i:N)<10)
  have UL:=aw (i<10);have h8:(i:N)<10:=Y;obtain⟨RK,c⟩:=J (((aA u i).map v8).toArray);have a4:=O c;have ax:T ((jo.info? 66).map (·.size)=A RK.size):=O (by rw[c,jv,jy,fL u Vx];kernel_rfl);have a6:T (K.size=RK.size):=O (by rw[c,<-Ze,jv,jy,jv,jy,fL u Vx,eJ]);have bc:T (RK.all (·.oneCell')=ji):=O (by rw[c];exact eU _);have bs:T ((jo.info? 66).map (·.size)=A ((aA u i).map v8).length):=O (by rw[jy,fL u Vx];kernel_rfl);have bI:T (∀W,iE W->jz jo 98 #[jh RK] W λe w'=>e=jw (jd je (aT (aA u i):ja))/\jl W W w'):=O (by rw[c];exact λW hW=>S2 _ (fL u Vx i) W hW);have D:T (wr.heap[gl]?=A (jc LC 66 (0,0))):=O ((P.but.block gl fo (aJ Zb)).trans a5);have F:T (wr.rangeAt gl (i*32) ((aA u i).map v8)):=O (G8 D (λj aa hj=>hq i j aa ca hj));have WP:T (jl w w wr):=O (VJ.trans (P.but.below (n:=w.heap.size) (by rw[HG];omega) (ee Yp HG)));clear c
  go_upto_region 18 with fail
  refine j0 ?_;refine eh ?_;refine uQ aj λ_ z=>wp_load_mid 66 _ I _ _ I ((aA u i).map v8) _ (by first|exact F|simpa using F.out) jX I bs (z _ _ ?_)
  rw[<-a4];refine pz I λ_ z=>gM 66 I K kv (z _ _ ?_)
  refine pz I λ_ z=>jR 66 _ _ I wr.heap.size RK I I 66 K (jA wr _) ax a6 bc (z _ _ ?_)
  have bp:((wr.alloc (jc K 66)).setRow wr.heap.size RK).heap[wr.heap.size]?=A (jc RK 66 (0,0)):=jU _ _ _ _ _ _ (jA wr _);have d:jl wr wr ((wr.alloc (jc K 66)).setRow wr.heap.size RK):=iR (ao wr _) (jD _) _;obtain⟨k0,Zl⟩:=J ((wr.alloc (jc K 66)).setRow wr.heap.size RK);obtain⟨bK,c⟩:=J wr.heap.size;rw[<-Zl,<-c]at bp;rw[<-Zl]at d⊢;rw[<-c]at⊢;have V:=O (P.later (aJ Yp) d);have Q:=O bp;have Uq:T (jl w w k0):=ah WP d;clear bp d Zl c P WP D F
  go_upto_region 19 with fail
  refine j0 ?_;refine j9 I 66 _ I bK I 66 RK (0,0) _ Q.out jX I ax ?_
  go_wp2_with fail
  refine(bI k0 (Wd.below Uq)).mono ?_;rintro e k1 ⟨rfl,d⟩;have a1:=O (V.later Yp d);have a2:=ae Q d;have U:=ah Uq d;clear V Q Uq;clear d
  go_wp2_with fail
  refine(Ac (aT (aA u i)) (D5 _).1 (D5 _).2 k1).mono ?_;rintro e c ⟨rfl,d⟩;have F:=O (a1.later Yp d);have bT:=ae a2 d;have Ur:=ah U d;clear a1 a2 U;clear d;obtain⟨Q,V⟩:∃y:N,y=((aY 4 (aT (aA u i)):ja):N):=⟨_,I⟩;rw[<-V];have a1:=O V;clear V;have a2:=ai F.box (show((λv=>(aE (bX g a m u) ⟨jb V9 m.length c1,v,jb jf 0 0,jb jf 0 0⟩).toArray) (jb pv i cv))[36]?=A (jb pv i cv) by have h:=(iO (bX g a m u) ⟨jb V9 m.length c1,jb pv i cv,jb jf 0 0,jb jf 0 0⟩ Yc eJ).2.2.2.2.1;simpa using h);have V:((λv=>(aE (bX g a m u) ⟨jb V9 m.length c1,v,jb jf 0 0,jb jf 0 0⟩).toArray) (jb pv i cv)).size=73:=by rw[jv,dl _ _ Yc.out eJ]
  have bO:=O V;clear V
  go_wp2_with (at_builtin;refine Hid.out ?_)
  refine O ?_;refine pz I λ_ z=>SH _ _ I M (jb pv i cv) i _ I (cL F.own (ao c _)) _ 1 [jd je Q] I (lz c [jd je Q] 3 (0,0) 1 1 1 I (jD _)) (by simp[j5]) Y (jE F.sz' (ao c _).size) λv' k9 U1=>z _ _ ?_
  clear z;have br:gB M (t+1+1+1+1) 48 3 1 (λv=>(aE (bX g a m u) ⟨jb V9 m.length c1,v,jb jf 0 0,jb jf 0 0⟩).toArray) z9 (c.alloc (jc #[jd je Q] 3)) i (jb pv i cv) (((dB u).take i).map (jI .i64)):=F.later (aJ Yp) (ao c _);have cw:=lf br.box U1.grown (eY br.own (.inr Yp));obtain⟨pn,cn,rfl⟩:=cK U1.own;have ga:T (gB M (t+1+1+1+1) 48 3 1 (λv=>(aE (bX g a m u) ⟨jb V9 m.length c1,v,jb jf 0 0,jb jf 0 0⟩).toArray) z9 (k9.setCell ⟨(t+1+1+1+1),36,jf⟩ (jb pn (i+1) cn)) (i+1) (jb pn (i+1) cn) (((dB u).take (i+1)).map (jI .i64))):=O (by
   have h:=br.push (i:=36) Yp U1 (YN _ _);rw[PR u i ca,n0,jY,jV,<-a1];exact h)
  obtain⟨⟨vo,c3⟩,f3,-,-⟩:=kp (i:=36) (jb pn (i+1) cn) cw (by rw[bO];decide);clear br U1 cw a2
  go_wp2_with fail
  go_roundw
  case rel=>exact⟨i+1,pn,cn,by go_num,by omega,ga⟩
  case measure=>simp only[jQ];omega
 obtain rfl:i=10:=Y;have hd:decide ((10:N)<10)=jn:=by decide
 have UL:decide (10<10)=jn:=by decide
 rename jj=>p1;have cx:(dB u).take 10=dB u:=qv (by rw[lM];exact jD _);rw[cx]at P;have c:(dB u).length=10:=lM u;have s:T (p1.heap[t]?=A (jc ay 41 (0,0))):=O ((P.but.block (t) (by first|(have:=Yp.out;omega)|(have:=fv.out;omega)|(have:=fo.out;omega)) (by first|omega|(have:=Zb.out;omega))).trans ZW);have Vi:T (p1.heap[t+1+1+1]?=A (jc S 66 (0,0))):=O ((P.but.block (t+1+1+1) (by first|(have:=Yp.out;omega)|(have:=fv.out;omega)|(have:=fo.out;omega)) (by first|omega|(have:=Zb.out;omega))).trans ZD);have UQ:T (p1.heap[(t+1+1+1+1+1)]?=A (jc SA 66 (0,0))):=O ((P.but.block (t+1+1+1+1+1) (by first|(have:=Yp.out;omega)|(have:=fv.out;omega)|(have:=fo.out;omega)) (by first|omega|(have:=Zb.out;omega))).trans Z6);have a3:T (p1.heap[gl]?=A (jc LC 66 (0,0))):=O ((P.but.block (gl) (by first|(have:=Yp.out;omega)|(have:=fv.out;omega)|(have:=fo.out;omega)) (by first|omega|(have:=Zb.out;omega))).trans a5);have UK:T (p1.heap[(t+1+1+1+1)]?=A (jc ((λv=>(aE (bX g a m u) ⟨jb V9 m.length c1,v,jb jf 0 0,jb jf 0 0⟩).toArray) (jb pv 10 cv)) 48 (0,0))):=O P.box;have U:T (jl w w p1):=O (VJ.trans (P.but.below (n:=w.heap.size) (by rw[HG];omega) (ee Yp HG)));have Zc:T (p1.ownsRow EE 62 5 (jb V9 m.length c1) m.length (m.flatMap ap.cells)):=O (kL ad (λk bs ax=>P.but.block k (by rw[h7];exact ax) (aJ c9)));have q:=O (kL bh (λk bs ax=>P.but.block k (by rw[h7];exact ax) (aJ e6)));have F:T (M<=p1.heap.size):=O P.sz';have a4:T (p1.ownsRow M 3 1 (jb pv 10 cv) 10 ((dB u).map (jI .i64))):=O P.own;clear cx c P ca hi bh ZW bi bk ZD Zm Z6 VJ a5 ad YN bn bm bu bq bv WR bw ba bl bB bC bb bA;obtain⟨pq,cq,kx,Y5⟩:∃(p:jG Addr) (c:ja),p=pv/\c=cv:=⟨_,_,I,I⟩;subst kx;subst Y5
 go_upto_region 22 with fail
 refine j0 ?_;refine j9 I 41 _ I t I 41 ay (0,0) _ s.out qU I YU ?_;have Q:T (M<=p1.heap.size):=F;clear s F
 go_wp2_with fail
 refine(hQ p1 Yo (hs.below U) ((EK.At.of_sl (E:=EC) e4).below U)).mono ?_;rintro e pm ⟨u1,rfl,hu,d⟩;have s:=O hu;clear hu;obtain⟨pt,nt,cy,rfl⟩:=gP s;have V:T (M<=pm.heap.size):=O (jE Q d.size);have ad:=ae Vi d;have a1:=ae UQ d;have a2:=ae a3 d;have ba:=ae UK d;have bb:=ah U d;have bc:=bj Zc d;have bh:=bj a4 d;have bi:=bj q d;clear Vi UQ a3 UK U Zc a4 q;clear d;clear Q
 go_upto_region 23 with fail
 have d:=ao pm (jc #[jb pt nt cy] 39);have F:=jA pm (jc #[jb pt nt cy] 39);obtain⟨p2,C⟩:=J (pm.alloc (jc #[jb pt nt cy] 39));rw[<-C]at d F⊢;obtain⟨bt,Q⟩:=J pm.heap.size;rw[<-Q]at F⊢;have q:=O Q;have UO:=ae ad d;have UP:=ae a1 d;have bO:=ae a2 d;have UH:=ae ba d;have Ur:=ah bb d;have a5:=bj bc d;have a6:=bj bh d;have e8:=bj bi d;have b2:=O (s.below d);clear ad a1 a2 ba bb bc bh bi s;have s:=O F;clear F C d Q;have ky:T (M<=bt):=O (by rw[q];exact V);have hB:=s;clear s V q;obtain⟨M2,q⟩:=J p2.heap.size;have bu:T ((t+1+1+1+1)<M2):=O (by rw[q];exact(jB.1 UH).1);have h9:T ((t+1+1+1+1+1)<M2):=O (by rw[q];exact(jB.1 UP).1);have ic:T (gl<M2):=O (by rw[q];exact(jB.1 bO).1);have ih:T (bt<M2):=O (by rw[q];exact(jB.1 hB).1);have ii:T (bt≠(t+1+1+1+1)):=O (ee ky Yp);have VL:=O q;have WC:T (∀aa v,((λv=>(aE (bX g a m u) ⟨jb V9 m.length c1,jb pq 10 cq,v,jb jf 0 0⟩).toArray) aa).setIfInBounds 37 v=(λv=>(aE (bX g a m u) ⟨jb V9 m.length c1,jb pq 10 cq,v,jb jf 0 0⟩).toArray) v):=O (λaa v=>Dq (bX g a m u) _ _ _ _ _ Yc.out);obtain⟨nl,s⟩:=J (dV g a m);have hD:=O s;have ZF:T (nu=nl.length):=O (by rw[s];exact h0);have i0:T (nu<=511):=O (by rw[h0,hw];exact CG _ em.1 em.2);have k2:=O (oT m _ (lO b9.tree) (rf b9 Yo ht)).1;have V:T (eB M2 (t+1+1+1+1) 48 92 4 Bx.cells Bx.body (λv=>(aE (bX g a m u) ⟨jb V9 m.length c1,jb pq 10 cq,v,jb jf 0 0⟩).toArray) p2 p2 0 (jb jf 0 0) ((nl.take 0).map (eA g a m u seed)) []):=O (eB.start UH (j6 q));clear q s
 go_upto_region 23 with fail
 go_wp2_with fail
 go_loopw [113] (λv wr=>∃(i:ja) (pv:jG Addr) (cv:ja) (us:jg jk),v=jd je i/\i<=nu/\T (eB M2 (t+1+1+1+1) 48 92 4 Bx.cells Bx.body (λv=>(aE (bX g a m u) ⟨jb V9 m.length c1,jb pq 10 cq,v,jb jf 0 0⟩).toArray) p2 wr i (jb pv i cv) ((nl.take i).map (eA g a m u seed)) us)) (λv _=>nu-(jQ v).toNat)
 case atStart=>exact⟨0,jf,0,[],I,jM _,V⟩
 clear V;obtain⟨i,pv,cv,us,rfl,hi,P⟩:=hrel;have e3:=i0.out
 by_cases ca:i<nu
 ·have hd:=aw ((i:N)<(nu:N))
  have UL:=aw (i<nu);have h8:(i:N)<(nu:N):=Y;have WP:T (jl w w wr):=O (Ur.trans (P.row.but.below (n:=w.heap.size) (by rw[HG];omega) (ee bu HG)));have ad:=P.row.but;have V:=O (kL e8 (λk bs ax=>ad.block k (by rw[VL];exact ax) (aJ e6)));have gf:=O (kL a5 (λk bs ax=>ad.block k (by rw[VL];exact ax) (aJ c9)));have gi:=O (kL a6 (λk bs ax=>ad.block k (by rw[VL];exact ax) (aJ Yp)));have a1:T (bJ wr (jb pt nt cy) (aX g.tree m)):=O (MC b2 (j:=37) UH P.row.box (λk hk hn=>ad.block k (by rw[VL];exact hk) hn) (λj hj=>Mm (bX g a m u) _ _ _ _ _ Yc.out j hj) ⟨_,_,_,(rR (bX g a m u) _ _ _ _ Yc.out eJ).2.1⟩);have gk:T (wr.heap[t+1+1+1]?=A (jc S 66 (0,0))):=O ((ad.block (t+1+1+1) (aJ bu) Y).trans UO);have D:T (wr.heap[gl]?=A (jc LC 66 (0,0))):=O ((ad.block gl ic (aJ Zb)).trans bO);have a2:T (wr.heap[bt]?=A (jc #[jb pt nt cy] 39 (0,0))):=O ((ad.block bt ih ii).trans hB);have VS:EB0.At wr (jb pu nu kg) nl:=EK.At.of_own (E:=EB0) (B:=x0.heap.size) (by rw[<-ZF,hD];exact V);obtain⟨-,-,VB⟩:=VS.cells;obtain⟨g0,o,k3,bT⟩:=VB Y;subst k3;obtain⟨⟨kk,s⟩,C,gn⟩:=dN (l:=nl) (j:=i) (by rw[<-ZF];exact ca);have d0:wr.cell? ⟨g0,o+i*4,jf⟩=A (jd je s):=bT i _ C 0 _ I;have d1:wr.cell? ⟨g0,o+i*4+1,jf⟩=A (jd je kk):=bT i _ C 1 _ I;have d2:wr.cell? ⟨g0,o+i*4+2,jf⟩=A (jd je 0):=bT i _ C 2 _ I;have d3:wr.cell? ⟨g0,o+i*4+3,jf⟩=A (jb jf 0 0):=bT i _ C 3 _ I;have Vg:=j4 C;rw[hD,hw]at Vg;obtain⟨⟨bs,ax⟩,⟨bo,Vj⟩,ba,cz⟩:=F2 k2 em.1 em.2 Vg;obtain⟨q,rfl⟩:=qL (show 0<=kk by omega);obtain⟨Vs,ew⟩:=qL (show 0<=(bG (aX g.tree m) s).getD 0 by have:=cz.1;omega);have k4:T (tD (aX g.tree m) s=Vs):=O (by unfold tD;rw[ew];rfl);rw[ew]at cz;have hE:=O cz;have k5:T (∀W,bJ W (jb pt nt cy) (aX g.tree m)->jz jo 99 #[jh #[jb pt nt cy],jd je s] W λe w'=>e=jw (jH #[jd je (Vs:N),.bool ji])/\jl W W w'):=O (λW hW=>by
   have h:=JL (aX g.tree m) _ s W hW (by have:=wM g.tree m;have:=Wx.out;have:=Yo.len;omega) (aP.of Y);rw[ew,ba]at h;exact h)
  have hF:T ((nl.take (i+1)).map (eA g a m u seed)=(nl.take i).map (eA g a m u seed)++[eA g a m u seed ((q:N),s)]):=O (by rw[gn,n0];rfl);have gp:T (q<10/\1<=q):=O ⟨by omega,by omega⟩;have i1:T (1<=s/\s<1024):=O ⟨bo,Vj⟩;clear VS VB bT C gn Vg bs ax bo Vj ba cz ew V ad
  go_upto_region 26 with fail
  obtain⟨bb,b7⟩:=J wr.heap.size;have bp:=jA wr (jc #[jd je s,jd je (q:N),jd je 0,jb jf 0 0] 92);have d:=ao wr (jc #[jd je s,jd je (q:N),jd je 0,jb jf 0 0] 92);have db:T (M2<=bb):=O (by rw[b7];exact P.row.sz');have YC:T ((ql pv i cv).ownBlock≠A bb):=O (eY P.row.own (.inl (j6 b7.symm)));rw[<-b7]at bp⊢;obtain⟨k0,Zl⟩:=J (wr.alloc (jc #[jd je s,jd je (q:N),jd je 0,jb jf 0 0] 92));rw[<-Zl]at bp d⊢;have bB:=O d;have bv:=O (av P.row.box d);have bw:=O bp;have Uq:=ah WP d;have bC:=bj gf d;have bI:=bj gi d;have ci:=O (a1.below d);have UY:=ae gk d;have bN:=ae D d;have V:=ae a2 d;have gu:T (wr.heap.size=bb):=O b7.symm;clear bp d Zl b7 WP gf gi a1 gk D a2 d0 d1 d2 d3;have D:=ai (i:=0) bw I
  go_upto_region 26 with fail
  refine j0 ?_;refine j9 I 39 _ I bt I 39 #[jb pt nt cy] (0,0) _ V.out underlying39 I ri ?_
  go_wp2_with fail
  refine(k5 k0 ci).mono ?_;rintro e k1 ⟨rfl,d⟩;have bi:=ah bB d;have ZJ:=ae bv d;have bc:=ae bw d;have U:=ah Uq d;have Zc:=bj bC d;have a4:=bj bI d;have b8:=O (ci.below d);have Vi:=ae UY d;have a3:=ae bN d;clear bB bv bw Uq bC bI ci UY bN;clear d D V;have bk:T (k1.cell? ⟨bb,0,jf⟩=A (jd je s)/\k1.cell? ⟨bb,1,jf⟩=A (jd je (q:N))):=O ⟨ai bc I,ai bc I⟩;obtain⟨ex,cc⟩:=J (dZ seed gQ [(q:N),s]);have gv:ex.length=32:=by rw[cc];exact pD _ _ _
  obtain⟨EX,dd⟩:=J ((ex.map v8).toArray);obtain⟨cd,ce⟩:=J (iW (bX g a m u) gQ [(q:N),s]);obtain⟨V,dk⟩:∃y:N,y=((aY 4 (gm ex):ja):N):=⟨_,I⟩;obtain⟨bq,cf⟩:=J (gs Vs ex cd (aA u q));have hH:T (bq.length=48):=O (by rw[cf,nJ,fL u Vx]);have cg:T (∀W v,df W v [(q:N),s]->bH W->jz jo 101 #[jh S,qt ⟨#[98,111,120]⟩,v] W λe w'=>e=jw (jh EX)/\jl W W w'):=O (λW v hv hW=>by
   rw[hZ,dd,cc];exact sD seed hX gQ [(q:N),s] v W hv (GC L (by have:=i1.out;have:=gp.out;intro x C;simp at C;rcases C with rfl|rfl<;>exact⟨by omega,by omega⟩) ar) hW)
  have gw:T (∀W v Yg,aW (·<W.heap.size) W {bX g a m u with box:=Yg} ⟨jb V9 m.length c1,jb pq 10 cq,jb pv i cv,jb jf 0 0⟩->Yg.length<=1000000->df W v [(q:N),s]->bH W->jz jo 102 #[jh ((λv=>(aE (bX g a m u) ⟨jb V9 m.length c1,jb pq 10 cq,v,jb jf 0 0⟩).toArray) (jb pv i cv)),qt ⟨#[98,111,120]⟩,v] W λe w'=>∃D,e=jw (jb (A ⟨D,0,jf⟩) 32 32)/\bD w' (jb (A ⟨D,0,jf⟩) 32 32) cd/\jl W W w'):=O (λW v Yg hC hu hv hW=>by
   rw[ce];exact Er {bX g a m u with box:=Yg} _ gQ [(q:N),s] v W L hC hv ar ⟨hl,by show(dB u).length<=_;rw[lM];decide,hu,jM _⟩
    (DC (c:={bX g a m u with box:=Yg}) (nums:=[(q:N),s]) (by have h1:=b9.fol.1;have h2:=b9.fol.2;exact⟨by show _ <=g.folder;omega,by show g.folder<_;omega⟩) (by have h1:=b9.ep;exact⟨by show _ <=g.epoch+1;omega,by show g.epoch+1<_;omega⟩) (by have:=em.out;exact⟨by show _ <=a;omega,by show a<_;omega⟩) Yc (by have:=i1.out;have:=gp.out;intro x C;simp at C;rcases C with rfl|rfl<;>exact⟨by omega,by omega⟩) ar) hW)
  have gx:T (∀W vh vb,bD W vh cd->bD W vb (aA u q)->lx W->jz jo 100 #[jd je (Vs:N),jh EX,vh,vb] W λe w'=>∃c,e=jw (jH #[jh #[jd je V,c],jd je 0])/\w'.ownsRow W 5 1 c 48 (bq.map v8)/\jl W W w'):=O (λW vh vb h1 h2 h3=>by
   have h:=Hl Vs hE ex cd (aA u q) gv (by rw[ce];unfold iW;rw[eT];decide) (by rw[fL u Vx];decide) vh vb W h1 h2 h3;rw[fL u Vx]at h;rw[dd,dk,cf];exact h)
  have UM:T (eA g a m u seed ((q:N),s)=⟨s,(q:N),V,bq⟩):=O (by rw[cf,dk,ce,cc,<-k4];rfl);have lb:T ((jo.info? 48).map (·.size)=A ((λv=>(aE (bX g a m u) ⟨jb V9 m.length c1,jb pq 10 cq,v,jb jf 0 0⟩).toArray) (jb pv i cv)).size):=O (by rw[jv,dl _ _ Yc.out eJ];exact mQ);have l7:decide ((q:N)<10)=ji:=by have:=gp.out;simp;omega
  have mb:(q:N)<10:=aJ gp;have lc:q<10:=aJ gp;clear gv dd ce dk cf cc
  go_upto_region 27 with fail
  refine jO ?_;refine dj (λW'=>(W'.cell? ⟨bb,0,jf⟩=A (jd je s)/\W'.cell? ⟨bb,1,jf⟩=A (jd je (q:N)))/\W'.heap[t+1+1+1]?=A (jc S 66 (0,0))/\W'.heap[(t+1+1+1+1)]?=A (jc ((λv=>(aE (bX g a m u) ⟨jb V9 m.length c1,jb pq 10 cq,v,jb jf 0 0⟩).toArray) (jb pv i cv)) 48 (0,0))) (.t 0 (.t 1 (.t 2 (.t 3 (.t 4 (.t 5 (.t 8 (.t 9 (.t 10 (.t 11 (.t 12 (.t 15 (.t 16 (.t 17 (.t 18 (.t 19 (.w 6 13 (.w 7 13 (.o 13 (.o 14 (.o 20 (.t 21 (.t 22 (.t 23 (.t 24 (.o 25 .done)))))))) (.o 7 (.o 14 (.o 20 (.t 21 (.t 22 (.t 23 (.t 24 (.o 25 .done))))))))) (.o 6 (.o 7 (.o 14 (.o 20 (.t 21 (.t 22 (.t 23 (.t 24 (.o 25 .done)))))))))))))))))))))))))) af af af L (λ_ _ _ _ h=>h) ⟨bk,Vi,ZJ⟩ ?_;obtain⟨l0,UJ⟩:=J k1.drew;have d:=bV k1;rw[<-UJ]at d⊢;have gy:=ah bi d;have g1:=ae ZJ d;have g2:=ae bc d;have ZE:=ah U d;have g3:=bj Zc d;have g4:=bj a4 d;have a1:=O (b8.below d);have b1:=ae Vi d;have cu:=ae a3 d;have a2:=O (And.intro (aD bk.1 d) (aD bk.2 d));clear d UJ bi ZJ bc U Zc a4 b8 Vi a3 bk;have bB:=gy;clear gy;have bv:=g1;clear g1;have bw:=g2;clear g2;have Uq:=ZE;clear ZE;have bC:=g3;clear g3;have bI:=g4;clear g4;have ci:=a1;clear a1;have UY:=b1;clear b1;have bN:=cu;clear cu;have cj:=a2;clear a2;refine wO ?_
  (refine aS (v:=jh S) I aj (λW' hS=>mx jX I hR I I hS.2.1) (G ?_))
  iterate 4 refine wO ?_
  (refine aS (v:=jh ((λv=>(aE (bX g a m u) ⟨jb V9 m.length c1,jb pq 10 cq,v,jb jf 0 0⟩).toArray) (jb pv i cv))) I aj (λW' hS=>mx p6 I lb I I hS.2.2) (G ?_))
  iterate 9 refine wO ?_
  apply FK (.o 14 (.o 20 (.t 21 (.t 22 (.t 23 (.t 24 (.o 25 .done)))))))
  rotate_left
  ·intro YP
   refine iX ?_ ?_
   ·refine aF I (λK' z=>?_)
    go_simp;have d:=ao l0 (jc #[jd je (q:N),jd je s] 3);have F:=mw l0 (q:N) s;obtain⟨l1,C⟩:=J (l0.alloc (jc #[jd je (q:N),jd je s] 3));rw[<-C]at d F⊢;obtain⟨b3,Q⟩:=J l0.heap.size;rw[<-Q]at F⊢;clear Q;have bi:=ah bB d;have ZJ:=ae bv d;have bc:=ae bw d;have U:=ah Uq d;have Zc:=bj bC d;have a4:=bj bI d;have b8:=O (ci.below d);have Vi:=ae UY d;have a3:=ae bN d;have bk:=O (And.intro (aD cj.1 d) (aD cj.2 d));have b4:=O F;clear F C d;refine z _ _ ⟨bk,Vi,ZJ⟩ λ_=>?_
    clear z;refine G ?_;refine iX ?_ ?_
    ·refine aF I (λK' z=>?_)
     go_simp;refine(cg l1 _ b4.out (Wd.dig.below U)).mono ?_;rintro e l2 ⟨rfl,d⟩;have Yb:=ah bi d;have YZ:=ae ZJ d;have bl:=ae bc d;have Ur:=ah U d;have a5:=bj Zc d;have a6:=bj a4 d;have b2:=O (b8.below d);have UO:=ae Vi d;have bO:=ae a3 d;have bA:=O (And.intro (aD bk.1 d) (aD bk.2 d));have ba:=O (eu b4 d);clear bi ZJ bc U Zc a4 b8 Vi a3 bk b4;clear d;refine z _ _ ⟨bA,UO,YZ⟩ λ_=>?_
     clear z;refine G ?_;refine aF I (λK' z=>?_);go_simp;have d:=ao l2 (jc #[jd je (q:N),jd je s] 3);have F:=mw l2 (q:N) s;obtain⟨l3,C⟩:=J (l2.alloc (jc #[jd je (q:N),jd je s] 3));rw[<-C]at d F⊢;obtain⟨bK,Q⟩:=J l2.heap.size;rw[<-Q]at F⊢;clear Q;have Y9:=ah Yb d;have WB:=ae YZ d;have bm:=ae bl d;have Ut:=ah Ur d;have a1:=bj a5 d;have a2:=bj a6 d;have cb:=O (b2.below d);have VZ:=ae UO d;have c5:=ae bO d;have b0:=O (And.intro (aD bA.1 d) (aD bA.2 d));have bn:=O (eu ba d);clear Yb YZ bl Ur a5 a6 b2 UO bO bA ba;have bh:=O F;clear F C d;refine z _ _ ⟨b0,VZ,WB⟩ λ_=>?_
     clear z;refine G ?_;have hG:=(And.intro Y9 (And.intro WB (And.intro bm (And.intro Ut (And.intro a1 (And.intro a2 (And.intro cb (And.intro VZ (And.intro c5 (And.intro b0 (And.intro bn bh)))))))))));exact YP b3 bK l3 hG
    refine aF I (λK' z=>?_);go_simp;have d:=ao l1 (jc #[jd je (q:N),jd je s] 3);have F:=mw l1 (q:N) s;obtain⟨l2,C⟩:=J (l1.alloc (jc #[jd je (q:N),jd je s] 3));rw[<-C]at d F⊢;obtain⟨bK,Q⟩:=J l1.heap.size;rw[<-Q]at F⊢;clear Q;have Yb:=ah bi d;have YZ:=ae ZJ d;have bl:=ae bc d;have Ur:=ah U d;have a5:=bj Zc d;have a6:=bj a4 d;have b2:=O (b8.below d);have UO:=ae Vi d;have bO:=ae a3 d;have bA:=O (And.intro (aD bk.1 d) (aD bk.2 d));have ba:=O (eu b4 d);clear bi ZJ bc U Zc a4 b8 Vi a3 bk b4;have b5:=O F;clear F C d;refine z _ _ ⟨bA,UO,YZ⟩ λ_=>?_
    clear z;refine G ?_;refine aF I (λK' z=>?_);go_simp;refine(cg l2 _ ba.out (Wd.dig.below Ur)).mono ?_;rintro e l3 ⟨rfl,d⟩;have Y9:=ah Yb d;have WB:=ae YZ d;have bm:=ae bl d;have Ut:=ah Ur d;have a1:=bj a5 d;have a2:=bj a6 d;have cb:=O (b2.below d);have VZ:=ae UO d;have c5:=ae bO d;have b0:=O (And.intro (aD bA.1 d) (aD bA.2 d));have bn:=O (eu ba d);have bh:=O (eu b5 d);clear Yb YZ bl Ur a5 a6 b2 UO bO bA ba b5;clear d;refine z _ _ ⟨b0,VZ,WB⟩ λ_=>?_
    clear z;refine G ?_;have hG:=(And.intro Y9 (And.intro WB (And.intro bm (And.intro Ut (And.intro a1 (And.intro a2 (And.intro cb (And.intro VZ (And.intro c5 (And.intro b0 (And.intro bn bh)))))))))));exact YP b3 bK l3 hG
   refine aF I (λK' z=>?_);go_simp;have d:=ao l0 (jc #[jd je (q:N),jd je s] 3);have F:=mw l0 (q:N) s;obtain⟨l1,C⟩:=J (l0.alloc (jc #[jd je (q:N),jd je s] 3));rw[<-C]at d F⊢;obtain⟨bK,Q⟩:=J l0.heap.size;rw[<-Q]at F⊢;clear Q;have bi:=ah bB d;have ZJ:=ae bv d;have bc:=ae bw d;have U:=ah Uq d;have Zc:=bj bC d;have a4:=bj bI d;have b8:=O (ci.below d);have Vi:=ae UY d;have a3:=ae bN d;have bk:=O (And.intro (aD cj.1 d) (aD cj.2 d));have g5:=O F;clear F C d;refine z _ _ ⟨bk,Vi,ZJ⟩ λ_=>?_
   clear z;refine G ?_;refine aF I (λK' z=>?_);go_simp;have d:=ao l1 (jc #[jd je (q:N),jd je s] 3);have F:=mw l1 (q:N) s;obtain⟨l2,C⟩:=J (l1.alloc (jc #[jd je (q:N),jd je s] 3));rw[<-C]at d F⊢;obtain⟨b3,Q⟩:=J l1.heap.size;rw[<-Q]at F⊢;clear Q;have Yb:=ah bi d;have YZ:=ae ZJ d;have bl:=ae bc d;have Ur:=ah U d;have a5:=bj Zc d;have a6:=bj a4 d;have b2:=O (b8.below d);have UO:=ae Vi d;have bO:=ae a3 d;have bA:=O (And.intro (aD bk.1 d) (aD bk.2 d));have b5:=O (eu g5 d);clear bi ZJ bc U Zc a4 b8 Vi a3 bk g5;have ba:=O F;clear F C d;refine z _ _ ⟨bA,UO,YZ⟩ λ_=>?_
   clear z;refine G ?_;refine aF I (λK' z=>?_);go_simp;refine(cg l2 _ ba.out (Wd.dig.below Ur)).mono ?_;rintro e l3 ⟨rfl,d⟩;have Y9:=ah Yb d;have WB:=ae YZ d;have bm:=ae bl d;have Ut:=ah Ur d;have a1:=bj a5 d;have a2:=bj a6 d;have cb:=O (b2.below d);have VZ:=ae UO d;have c5:=ae bO d;have b0:=O (And.intro (aD bA.1 d) (aD bA.2 d));have bh:=O (eu b5 d);have bn:=O (eu ba d);clear Yb YZ bl Ur a5 a6 b2 UO bO bA b5 ba;clear d;refine z _ _ ⟨b0,VZ,WB⟩ λ_=>?_
   clear z;refine G ?_;have hG:=(And.intro Y9 (And.intro WB (And.intro bm (And.intro Ut (And.intro a1 (And.intro a2 (And.intro cb (And.intro VZ (And.intro c5 (And.intro b0 (And.intro bn bh)))))))))));exact YP b3 bK l3 hG
  clear bB bv bw Uq bC bI ci UY bN cj;rintro b3 bK l3 ⟨Y9,WB,bm,Ut,a1,a2,cb,VZ,c5,b0,bn,bh⟩;refine aF I (λK' z=>?_);go_simp;refine(gw l3 _ _ (RJ Yc a1 a2 (P.later bu Y9) (by rw[jy,qM];have:=ZF.out;omega)) (by rw[jy,qM];omega) bh (Wd.dig.below Ut)).mono ?_;rintro e l4 ⟨i3,rfl,c6,d⟩;have dr:=O c6;clear c6;have g6:=ah Y9 d;have dv:=ae WB d;have ea:=ae bm d;have UA:=ah Ut d;have ci:=bj a1 d;have cj:=bj a2 d;have cp:=O (cb.below d);have WQ:=ae VZ d;have cm:=ae c5 d;have bA:=O (And.intro (aD b0.1 d) (aD b0.2 d));have g7:=O (eu bn d);have g8:=O (eu bh d);clear Y9 WB bm Ut a1 a2 cb VZ c5 b0 bn bh;clear d;refine z _ _ ⟨bA,WQ,dv⟩ λ_=>?_
  clear z;refine G ?_;refine aF I (λK' z=>?_);go_simp;refine(gx l4 _ _ dr.out (Ex cm (λj aa hj=>hq q j aa lc hj) (fL u Vx q)) (hU.below UA)).mono ?_;rintro e l5 ⟨c,rfl,ck,d⟩;have Va:T (bb<l4.heap.size):=O (jB.1 ea).1;obtain⟨lj,hI⟩:=J l4.heap.size;rw[<-hI]at ck Va;have g9:=O ck;obtain⟨R,H,rfl⟩:=cK ck;clear ck;have ha:=ah g6 d;have eb:=ae dv d;have ec:=ae ea d;have UF:=ah UA d;have e0:=bj ci d;have e1:=bj cj d;have lk:=O (cp.below d);have b6:=ae WQ d;have fe:=ae cm d;have hg:=O (And.intro (aD bA.1 d) (aD bA.2 d));have hJ:=O (eu g7 d);have hK:=O (eu g8 d);have hM:=O (dr.below d);clear g6 dv ea UA ci cj cp WQ cm bA g7 g8 dr;clear d;refine z _ _ ⟨hg,b6,eb⟩ λ_=>?_
  clear z;refine G ?_;iterate 4 refine wO ?_
  refine aF I (λK' z=>?_);rw[jr aj];refine qV 90 _ _ I bb 2 #[jd je V,jb R 48 H] I I (su (o:=2) (n:=2) ec ar) af (by simp[j5]) ?_;rw[show(#[jd je V,jb R 48 H]:jp jk).toList=[jd je V,jb R 48 H]from I];obtain⟨s1,s2⟩:=FQ (i:=2) (x:=jd je V) (y:=jb R 48 H) ec;have s3:jl wr wr (l5.setCells bb 2 [jd je V,jb R 48 H]):=Below.cellsFrom ha bb (j6 gu) _ _;have ed:=nh (w':=l5.setCells bb 2 [jd je V,jb R 48 H]) g9 (λk hk=>s2 k (aJ Va));refine z _ _ ⟨⟨ai s1 I,ai s1 I⟩,(s2 (t+1+1+1) (ee db bu)).trans b6,(s2 (t+1+1+1+1) (ee db bu)).trans eb⟩ λ_=>?_
  clear z;have eg:T ((l5.setCells bb 2 [jd je V,jb R 48 H]).heap[bb]?=A (jc #[jd je s,jd je (q:N),jd je V,jb R 48 H] 92 (0,0))):=O s1;have ej:T (eB M2 (t+1+1+1+1) 48 92 4 Bx.cells Bx.body (λv=>(aE (bX g a m u) ⟨jb V9 m.length c1,jb pq 10 cq,v,jb jf 0 0⟩).toArray) p2 (l5.setCells bb 2 [jd je V,jb R 48 H]) i (jb pv i cv) ((nl.take i).map (eA g a m u seed)) us):=O (P.later bu s3);have ek:T (aG (λg=>M2<=g/\g<(l5.setCells bb 2 [jd je V,jb R 48 H]).heap.size/\(ql pv i cv).ownBlock≠A g) (l5.setCells bb 2 [jd je V,jb R 48 H]) (jb R 48 H) 1 48 (bq.map v8)):=O (aG.of_own ed (λg Q=>by
   have h1:=ed.lt g Q;have h2:=Va.out;have h3:=db.out;have ll:=gu.out;exact⟨by omega,h1.2,eY P.row.own (.inl Y)⟩))
  clear s1 s2 s3 ed;generalize l5.setCells bb 2 [jd je V,jb R 48 H]=kc at eg ej ek⊢;have hN:=eg;have cm:=ej;have hO:=ek;clear eg ej ek;refine G ?_;refine o1 ?_;clear ha eb ec UF e0 e1 lk b6 fe hg g9 hM hJ hK P cg gw gx;have bA:=ai cm.row.box (rR (bX g a m u) (jb V9 m.length c1) (jb pq 10 cq) (jb pv i cv) (jb jf 0 0) Yc eJ).2.1
  go_upto_region 28 with fail
  refine j0 ?_;iterate 2 refine eh ?_
  refine j9 I 92 _ I bb I 92 #[jd je s,jd je (q:N),jd je V,jb R 48 H] (0,0) _ hN.out underlying92 I af ?_
  go_wp2_with (at_builtin;refine Hid.out ?_)
  refine O ?_;refine pz I λ_ z=>MR _ _ I M2 (jb pv i cv) i _ I (cL cm.row.own (ao kc _)) _ 1 [jd je s,jd je (q:N),jd je V,jb R 48 H] I (lz kc [jd je s,jd je (q:N),jd je V,jb R 48 H] 92 (0,0) 4 1 1 I (jD _)) (by simp[j5]) Y (jE cm.row.sz' (ao kc _).size) λv' k9 U1=>z _ _ ?_
  clear z;have cp:=ao kc (jc #[jd je s,jd je (q:N),jd je V,jb R 48 H] 92);have br:=cm.later bu cp;have hg:=(aG.keep hO (w':=kc.alloc (jc #[jd je s,jd je (q:N),jd je V,jb R 48 H] 92)) (λg Q=>cp.block g Q.2.1)).mono (D':=λg=>M2<=g/\g<(kc.alloc (jc #[jd je s,jd je (q:N),jd je V,jb R 48 H] 92)).heap.size/\(ql pv i cv).ownBlock≠A g) (λg Q=>⟨Q.1,jL Q.2.1 cp.size,Q.2.2⟩);have cw:=lf br.row.box U1.grown (eY br.row.own (.inr bu));obtain⟨pn,cn,rfl⟩:=cK U1.own;have ga:T (eB M2 (t+1+1+1+1) 48 92 4 Bx.cells Bx.body (λv=>(aE (bX g a m u) ⟨jb V9 m.length c1,jb pq 10 cq,v,jb jf 0 0⟩).toArray) p2 (k9.setCell ⟨(t+1+1+1+1),37,jf⟩ (jb pn (i+1) cn)) (i+1) (jb pn (i+1) cn) ((nl.take (i+1)).map (eA g a m u seed)) (us++[jb R 48 H])):=O (by
   rw[hF,UM];exact eB.push (x:=(⟨s,(q:N),V,bq⟩:Bx)) br bu (by show aG _ _ _ 1 bq.length (bq.map v8);rw[hH];exact hg) U1 (WC _ _))
  obtain⟨⟨vo,c3⟩,f3,-,-⟩:=kp (i:=37) (jb pn (i+1) cn) cw (by rw[(rR (bX g a m u) (jb V9 m.length c1) (jb pq 10 cq) (jb pv i cv) (jb jf 0 0) Yc eJ).2.2.2];decide);clear br hg U1 cw bA cp
  go_wp2_with fail
  go_roundw
  case rel=>exact⟨i+1,pn,cn,us++[jb R 48 H],by go_num,by omega,ga⟩
  case measure=>simp only[jQ];omega
 obtain rfl:nu=i:=Y;have hd:decide ((nu:N)<(nu:N))=jn:=by simp
 have UL:decide (nu<nu)=jn:=by simp
 rename jj=>p3;obtain⟨pb,cb,e9,i1⟩:∃(p:jG Addr) (c:ja),p=pv/\c=cv:=⟨_,_,I,I⟩;subst e9;subst i1;have cx:nl.take nu=nl:=qv (by rw[ZF];exact jD _);rw[cx]at P;have ad:=P.row.but;have U2:=O P.row.box;have Ut:T (jl w w p3):=O (Ur.trans (P.row.but.below (n:=w.heap.size) (by rw[HG];omega) (ee bu HG)));have a1:=O (kL a5 (λk bs ax=>ad.block k (by rw[VL];exact ax) (aJ c9)));have a2:=O (kL a6 (λk bs ax=>ad.block k (by rw[VL];exact ax) (aJ Yp)));have VZ:T (p3.heap[t+1+1+1]?=A (jc S 66 (0,0))):=O ((ad.block (t+1+1+1) (aJ bu) Y).trans UO);have Vh:T (p3.heap[(t+1+1+1+1+1)]?=A (jc SA 66 (0,0))):=O ((ad.block (t+1+1+1+1+1) (aJ h9) Y).trans UP);have Wk:=P;clear ad cx P Ur a5 a6 UO UP UH bO hB b2 e8 ca hi WC Zb hq ic ih ii;have s:T (∀W,EC.At W (jb R nc H) m->jz jo 31 #[jd je a,jb R nc H] W λe w'=>∃aa,e=jw aa/\EC.At w' aa (dw a m)/\jl W W w'):=O (λW hW=>zu a m _ W hW Yo.once hl);obtain⟨wl,q⟩:=J (dw a m);rw[<-q]at s;have gp:=O q;have hB:T (wl.length<=64):=O (by rw[q];have:=CE a m;have:=Yo.len;omega);clear q
 go_upto_region 30 with fail
 go_wp2_with fail
 refine(s p3 ((EK.At.of_sl (E:=EC) e4).below Ut)).mono ?_;rintro e p4 ⟨aa,rfl,hu,d⟩;have c5:=O hu;obtain⟨pw,ic,rfl,-,-⟩:=hu.form;clear hu;have Yl:=ae U2 d;have YL:=ae Vh d;have WQ:=ae VZ d;have UA:=ah Ut d;have ci:=bj a1 d;have cj:=bj a2 d;have VN:=O (Wk.later bu d);clear U2 Vh VZ Ut a1 a2 Wk;clear d;obtain⟨nw,q⟩:=J wl.length;rw[<-q]at c5 hB⊢;have YB:=O q;clear q s;obtain⟨M3,q⟩:=J p4.heap.size;have Wy:=O q;have bA:T ((t+1+1+1+1)<M3):=O (by rw[q];exact(jB.1 Yl).1);have e8:T ((t+1+1+1+1+1)<M3):=O (by rw[q];exact(jB.1 YL).1);have Za:T (li (λk=>M2<=k/\k<M3) p4 (jb pb nu cb) (nl.map (eA g a m u seed))):=O (by
  obtain⟨s,h1,h2⟩:=VN.slice (by rw[jy];exact ZF) (D:=λk=>M2<=k/\k<M3) (λk bs ax=>⟨bs,by rw[q];exact ax⟩);exact⟨s,h1,h2⟩)
 have ih:T (∀aa v,((λv=>(aE (bX g a m u) ⟨jb V9 m.length c1,jb pq 10 cq,jb pb nu cb,v⟩).toArray) aa).setIfInBounds 38 v=(λv=>(aE (bX g a m u) ⟨jb V9 m.length c1,jb pq 10 cq,jb pb nu cb,v⟩).toArray) v):=O (λaa v=>Ek (bX g a m u) _ _ _ _ _ Yc.out);have s:T (eB M3 (t+1+1+1+1) 48 95 3 Wl.cells Wl.body (λv=>(aE (bX g a m u) ⟨jb V9 m.length c1,jb pq 10 cq,jb pb nu cb,v⟩).toArray) p4 p4 0 (jb jf 0 0) ((wl.take 0).map (fC g a m u init seed)) []):=O (eB.start Yl (j6 q));clear q VN
 go_wp2_with fail
 go_loopw [160] (λv wr=>∃(i:ja) (pv:jG Addr) (cv:ja) (us:jg jk),v=jd je i/\i<=nw/\T (eB M3 (t+1+1+1+1) 48 95 3 Wl.cells Wl.body (λv=>(aE (bX g a m u) ⟨jb V9 m.length c1,jb pq 10 cq,jb pb nu cb,v⟩).toArray) p4 wr i (jb pv i cv) ((wl.take i).map (fC g a m u init seed)) us)) (λv _=>nw-(jQ v).toNat)
 case atStart=>exact⟨0,jf,0,[],I,jM _,s⟩
 clear s;obtain⟨i,pv,cv,us,rfl,hi,P⟩:=hrel;have kk:=hB.out
 by_cases ca:i<nw
 ·have hd2:=aw ((i:N)<(nw:N))
  have ho:=aw (i<nw);have h8:(i:N)<(nw:N):=Y;have WP:T (jl w w wr):=O (UA.trans (P.row.but.below (n:=w.heap.size) (by rw[HG];omega) (ee bA HG)));have ad:=P.row.but;have gf:=O (kL ci (λk bs ax=>ad.block k (by rw[Wy];exact ax) (aJ c9)));have gi:=O (kL cj (λk bs ax=>ad.block k (by rw[Wy];exact ax) (aJ Yp)));have bO:T (EC.At wr (jb pw nw ic) wl):=O (P4 c5 (j:=38) Yl P.row.box (λk hk hn=>ad.block k (by rw[Wy];exact hk) hn) (λj hj=>JM (bX g a m u) _ _ _ _ _ Yc.out j hj) ⟨_,_,_,(rR (bX g a m u) _ _ _ _ Yc.out eJ).2.2.1⟩);have gk:T (wr.heap[t+1+1+1]?=A (jc S 66 (0,0))):=O ((ad.block (t+1+1+1) (aJ bA) Y).trans WQ);have b2:T (wr.heap[(t+1+1+1+1+1)]?=A (jc SA 66 (0,0))):=O ((ad.block (t+1+1+1+1+1) e8 Y).trans YL);have hn:T (li (·<wr.heap.size) wr (jb pb nu cb) (nl.map (eA g a m u seed))):=O (Za.keep (λk hk=>ad.block k hk.2 (aJ bu)) (λk hk=>by have:=P.row.sz';omega));obtain⟨-,-,VB⟩:=bO.cells;obtain⟨g0,o,ii,bT⟩:=VB Y;subst ii;obtain⟨⟨yk,q,yp,yv,yc⟩,C,gn⟩:=dN (l:=wl) (j:=i) (by rw[<-YB];exact ca);have d0:wr.cell? ⟨g0,o+i*5,jf⟩=A (jd je yk):=bT i _ C 0 _ I;have d1:wr.cell? ⟨g0,o+i*5+1,jf⟩=A (jd je q):=bT i _ C 1 _ I;have d2:wr.cell? ⟨g0,o+i*5+2,jf⟩=A (jd je yp):=bT i _ C 2 _ I;have d3:wr.cell? ⟨g0,o+i*5+3,jf⟩=A (jd je yv):=bT i _ C 3 _ I;have d4:wr.cell? ⟨g0,o+i*5+4,jf⟩=A (jd je yc):=bT i _ C 4 _ I;have Vg:=j4 C;rw[gp]at Vg;obtain⟨bk,YQ,b8⟩:=Ip.1 Vg;have s:=Yo.each _ bk;have cz:bP yp:=by
   rcases s.2 with⟨_,b,_,_⟩|⟨a,_⟩|⟨_,b,_⟩
   ·exact b
   ·exact jt a YQ
   exact b
  have b0:0<=q/\q<512:=s.1;obtain⟨Vs,ew⟩:=qL (show 0<=yp by have:=cz.1;omega);subst ew;have hE:=O cz;have hq:=O b0;have hF:T ((wl.take (i+1)).map (fC g a m u init seed)=(wl.take i).map (fC g a m u init seed)++[fC g a m u init seed ⟨yk,q,(Vs:N),yv,yc⟩]):=O (by rw[gn,n0];rfl);clear VB bT C gn Vg bk YQ b8 s cz b0 ad
  go_upto_region 34 with fail
  obtain⟨bb,b7⟩:=J wr.heap.size;have bp:=jA wr (jc #[jd je yk,jd je q,jd je (Vs:N),jd je yv,jd je yc] 62);have d:=ao wr (jc #[jd je yk,jd je q,jd je (Vs:N),jd je yv,jd je yc] 62);have s:=jA (wr.alloc (jc #[jd je yk,jd je q,jd je (Vs:N),jd je yv,jd je yc] 62)) (jc #[jd je q,jd je 0,jb jf 0 0] 95);have bk:=ao (wr.alloc (jc #[jd je yk,jd je q,jd je (Vs:N),jd je yv,jd je yc] 62)) (jc #[jd je q,jd je 0,jb jf 0 0] 95);rw[jq]at s;replace bp:=av bp bk;replace d:=d.trans (bk.mono d.size);have db:T (M3<=bb):=O (by rw[b7];exact P.row.sz');rw[<-b7]at bp s⊢;obtain⟨k0,Zl⟩:=J ((wr.alloc (jc #[jd je yk,jd je q,jd je (Vs:N),jd je yv,jd je yc] 62)).alloc (jc #[jd je q,jd je 0,jb jf 0 0] 95));rw[<-Zl]at bp s d⊢;have bB:=O d;have bv:=O (av P.row.box d);have b0:=O bp;have bw:=O s;have Uq:=ah WP d;have bC:=bj gf d;have bI:=bj gi d;have b8:=O (hn.below d);have UY:=ae gk d;have cz:=ae b2 d;have gu:T (wr.heap.size=bb):=O b7.symm;clear bp s d bk Zl b7 WP gf gi bO gk b2 hn d0 d1 d2 d3 d4;obtain⟨ex,cc⟩:=J (dZ seed kt [q]);have gv:ex.length=32:=by rw[cc];exact pD _ _ _
  obtain⟨EX,dd⟩:=J ((ex.map v8).toArray);obtain⟨cd,ce⟩:=J (iW (bX g a m u) kt [q]);obtain⟨V,dk⟩:∃y:N,y=((aY 4 (gm ex):ja):N):=⟨_,I⟩;obtain⟨bq,cf⟩:=J (gs Vs ex cd (dO g u init));have hH:T (bq.length=48):=O (by rw[cf,nJ,lF]);have cg:T (∀W v,df W v [q]->bH W->jz jo 101 #[jh S,qt ⟨#[119,101,108,99,111,109,101]⟩,v] W λe w'=>e=jw (jh EX)/\jl W W w'):=O (λW v hv hW=>by
   rw[hZ,dd,cc];exact sD seed hX kt [q] v W hv (GC L (by have:=hq.out;intro x C;simp at C;rcases C with rfl;exact⟨by omega,by omega⟩) ar) hW)
  have gw:T (∀W v s,aW (·<W.heap.size) W {bX g a m u with box:=nl.map (eA g a m u seed),wel:=s} ⟨jb V9 m.length c1,jb pq 10 cq,jb pb nu cb,jb pv i cv⟩->s.length<=1000000->df W v [q]->bH W->jz jo 102 #[jh ((λv=>(aE (bX g a m u) ⟨jb V9 m.length c1,jb pq 10 cq,jb pb nu cb,v⟩).toArray) (jb pv i cv)),qt ⟨#[119,101,108,99,111,109,101]⟩,v] W λe w'=>∃D,e=jw (jb (A ⟨D,0,jf⟩) 32 32)/\bD w' (jb (A ⟨D,0,jf⟩) 32 32) cd/\jl W W w'):=O (λW v s hC hu hv hW=>by
   rw[ce];exact Er {bX g a m u with box:=nl.map (eA g a m u seed),wel:=s} _ kt [q] v W L hC hv ar ⟨hl,by show(dB u).length<=_;rw[lM];decide,by show(nl.map (eA g a m u seed)).length<=_;rw[jy,<-ZF];have:=i0.out;omega,hu⟩
    (DC (c:={bX g a m u with box:=nl.map (eA g a m u seed),wel:=s}) (nums:=[q]) (by have h1:=b9.fol.1;have h2:=b9.fol.2;exact⟨by show _ <=g.folder;omega,by show g.folder<_;omega⟩) (by have h1:=b9.ep;exact⟨by show _ <=g.epoch+1;omega,by show g.epoch+1<_;omega⟩) (by have:=em.out;exact⟨by show _ <=a;omega,by show a<_;omega⟩) Yc (by have:=hq.out;intro x C;simp at C;rcases C with rfl;exact⟨by omega,by omega⟩) ar) hW)
  have gx:T (∀W vh vb,bD W vh cd->bD W vb (dO g u init)->lx W->jz jo 100 #[jd je (Vs:N),jh EX,vh,vb] W λe w'=>∃c,e=jw (jH #[jh #[jd je V,c],jd je 0])/\w'.ownsRow W 5 1 c 48 (bq.map v8)/\jl W W w'):=O (λW vh vb h1 h2 h3=>by
   have h:=Hl Vs hE ex cd (dO g u init) gv (by rw[ce];unfold iW;rw[eT];decide) (by rw[lF];decide) vh vb W h1 h2 h3;rw[lF]at h;rw[dd,dk,cf];exact h)
  have gf:T (fC g a m u init seed ⟨yk,q,(Vs:N),yv,yc⟩=⟨q,V,bq⟩):=O (by rw[cf,dk,ce,cc];rfl);have gi:T ((jo.info? 48).map (·.size)=A ((λv=>(aE (bX g a m u) ⟨jb V9 m.length c1,jb pq 10 cq,jb pb nu cb,v⟩).toArray) (jb pv i cv)).size):=O (by rw[jv,dl _ _ Yc.out eJ];exact mQ);clear gv dd ce dk cf cc
  go_upto_region 34 with fail
  refine jO ?_;refine dj (λW'=>W'.heap[bb]?=A (jc #[jd je yk,jd je q,jd je (Vs:N),jd je yv,jd je yc] 62 (0,0))/\W'.heap[t+1+1+1]?=A (jc S 66 (0,0))/\W'.heap[(t+1+1+1+1)]?=A (jc ((λv=>(aE (bX g a m u) ⟨jb V9 m.length c1,jb pq 10 cq,jb pb nu cb,v⟩).toArray) (jb pv i cv)) 48 (0,0))) (.t 0 (.t 1 (.t 2 (.t 3 (.t 4 (.t 7 (.t 8 (.t 9 (.t 12 (.w 5 10 (.w 6 10 (.o 10 (.o 11 (.o 13 (.t 14 (.t 15 (.t 16 (.t 17 (.o 18 .done)))))))) (.o 6 (.o 11 (.o 13 (.t 14 (.t 15 (.t 16 (.t 17 (.o 18 .done))))))))) (.o 5 (.o 6 (.o 11 (.o 13 (.t 14 (.t 15 (.t 16 (.t 17 (.o 18 .done))))))))))))))))))) af af af L (λ_ _ _ _ h=>h) ⟨b0,UY,bv⟩ ?_;obtain⟨l0,UJ⟩:=J k0.drew;have d:=bV k0;rw[<-UJ]at d⊢;have gy:=ah bB d;have g1:=ae bv d;have s:=ae b0 d;have g2:=ae bw d;have ZE:=ah Uq d;have g3:=bj bC d;have g4:=bj bI d;have bk:=O (b8.below d);have b1:=ae UY d;have bp:=ae cz d;clear d UJ bB bv b0 bw Uq bC bI b8 UY cz;have bB:=gy;clear gy;have bv:=g1;clear g1;have b0:=s;clear s;have bw:=g2;clear g2;have Uq:=ZE;clear ZE;have bC:=g3;clear g3;have bI:=g4;clear g4;have b8:=bk;clear bk;have UY:=b1;clear b1;have cz:=bp;clear bp;iterate 2 refine vG ?_
  (refine aS (v:=jh S) I aj (λW' hS=>mx jX I hR I I hS.2.1) (G ?_))
  iterate 2 refine vG ?_
  (refine aS (v:=jh ((λv=>(aE (bX g a m u) ⟨jb V9 m.length c1,jb pq 10 cq,jb pb nu cb,v⟩).toArray) (jb pv i cv))) I aj (λW' hS=>mx p6 I gi I I hS.2.2) (G ?_))
  iterate 3 refine vG ?_
  apply FK (.o 11 (.o 13 (.t 14 (.t 15 (.t 16 (.t 17 (.o 18 .done)))))))
  rotate_left
  ·intro YP
   refine iX ?_ ?_
   ·refine aF I (λK' z=>?_)
    go_simp;have d:=ao l0 (jc #[jd je q] 3);have F:=oh l0 q;obtain⟨l1,C⟩:=J (l0.alloc (jc #[jd je q] 3));rw[<-C]at d F⊢;obtain⟨b3,Q⟩:=J l0.heap.size;rw[<-Q]at F⊢;clear Q;have bi:=ah bB d;have ZJ:=ae bv d;have bp:=ae b0 d;have bc:=ae bw d;have U:=ah Uq d;have Zc:=bj bC d;have a4:=bj bI d;have b2:=O (b8.below d);have Vi:=ae UY d;have b7:=ae cz d;have b4:=O F;clear F C d;refine z _ _ ⟨bp,Vi,ZJ⟩ λ_=>?_
    clear z;refine G ?_;refine iX ?_ ?_
    ·refine aF I (λK' z=>?_)
     go_simp;refine(cg l1 _ b4.out (Wd.dig.below U)).mono ?_;rintro e l2 ⟨rfl,d⟩;have Yb:=ah bi d;have YZ:=ae ZJ d;have s:=ae bp d;have bl:=ae bc d;have Ur:=ah U d;have a5:=bj Zc d;have a6:=bj a4 d;have Wr:=O (b2.below d);have UO:=ae Vi d;have bO:=ae b7 d;have ba:=O (eu b4 d);clear bi ZJ bp bc U Zc a4 b2 Vi b7 b4;clear d;refine z _ _ ⟨s,UO,YZ⟩ λ_=>?_
     clear z;refine G ?_;refine aF I (λK' z=>?_);go_simp;have d:=ao l2 (jc #[jd je q] 3);have F:=oh l2 q;obtain⟨l3,C⟩:=J (l2.alloc (jc #[jd je q] 3));rw[<-C]at d F⊢;obtain⟨bK,Q⟩:=J l2.heap.size;rw[<-Q]at F⊢;clear Q;have Y9:=ah Yb d;have WB:=ae YZ d;have bk:=ae s d;have bm:=ae bl d;have Ut:=ah Ur d;have a1:=bj a5 d;have a2:=bj a6 d;have Wk:=O (Wr.below d);have VZ:=ae UO d;have bT:=ae bO d;have bn:=O (eu ba d);clear Yb YZ s bl Ur a5 a6 Wr UO bO ba;have bh:=O F;clear F C d;refine z _ _ ⟨bk,VZ,WB⟩ λ_=>?_
     clear z;refine G ?_;have hG:=(And.intro Y9 (And.intro WB (And.intro bk (And.intro bm (And.intro Ut (And.intro a1 (And.intro a2 (And.intro Wk (And.intro VZ (And.intro bT (And.intro bn bh)))))))))));exact YP b3 bK l3 hG
    refine aF I (λK' z=>?_);go_simp;have d:=ao l1 (jc #[jd je q] 3);have F:=oh l1 q;obtain⟨l2,C⟩:=J (l1.alloc (jc #[jd je q] 3));rw[<-C]at d F⊢;obtain⟨bK,Q⟩:=J l1.heap.size;rw[<-Q]at F⊢;clear Q;have Yb:=ah bi d;have YZ:=ae ZJ d;have s:=ae bp d;have bl:=ae bc d;have Ur:=ah U d;have a5:=bj Zc d;have a6:=bj a4 d;have Wr:=O (b2.below d);have UO:=ae Vi d;have bO:=ae b7 d;have ba:=O (eu b4 d);clear bi ZJ bp bc U Zc a4 b2 Vi b7 b4;have b5:=O F;clear F C d;refine z _ _ ⟨s,UO,YZ⟩ λ_=>?_
    clear z;refine G ?_;refine aF I (λK' z=>?_);go_simp;refine(cg l2 _ ba.out (Wd.dig.below Ur)).mono ?_;rintro e l3 ⟨rfl,d⟩;have Y9:=ah Yb d;have WB:=ae YZ d;have bk:=ae s d;have bm:=ae bl d;have Ut:=ah Ur d;have a1:=bj a5 d;have a2:=bj a6 d;have Wk:=O (Wr.below d);have VZ:=ae UO d;have bT:=ae bO d;have bn:=O (eu ba d);have bh:=O (eu b5 d);clear Yb YZ s bl Ur a5 a6 Wr UO bO ba b5;clear d;refine z _ _ ⟨bk,VZ,WB⟩ λ_=>?_
    clear z;refine G ?_;have hG:=(And.intro Y9 (And.intro WB (And.intro bk (And.intro bm (And.intro Ut (And.intro a1 (And.intro a2 (And.intro Wk (And.intro VZ (And.intro bT (And.intro bn bh)))))))))));exact YP b3 bK l3 hG
   refine aF I (λK' z=>?_);go_simp;have d:=ao l0 (jc #[jd je q] 3);have F:=oh l0 q;obtain⟨l1,C⟩:=J (l0.alloc (jc #[jd je q] 3));rw[<-C]at d F⊢;obtain⟨bK,Q⟩:=J l0.heap.size;rw[<-Q]at F⊢;clear Q;have bi:=ah bB d;have ZJ:=ae bv d;have bp:=ae b0 d;have bc:=ae bw d;have U:=ah Uq d;have Zc:=bj bC d;have a4:=bj bI d;have b2:=O (b8.below d);have Vi:=ae UY d;have b7:=ae cz d;have g5:=O F;clear F C d;refine z _ _ ⟨bp,Vi,ZJ⟩ λ_=>?_
   clear z;refine G ?_;refine aF I (λK' z=>?_);go_simp;have d:=ao l1 (jc #[jd je q] 3);have F:=oh l1 q;obtain⟨l2,C⟩:=J (l1.alloc (jc #[jd je q] 3));rw[<-C]at d F⊢;obtain⟨b3,Q⟩:=J l1.heap.size;rw[<-Q]at F⊢;clear Q;have Yb:=ah bi d;have YZ:=ae ZJ d;have s:=ae bp d;have bl:=ae bc d;have Ur:=ah U d;have a5:=bj Zc d;have a6:=bj a4 d;have Wr:=O (b2.below d);have UO:=ae Vi d;have bO:=ae b7 d;have b5:=O (eu g5 d);clear bi ZJ bp bc U Zc a4 b2 Vi b7 g5;have ba:=O F;clear F C d;refine z _ _ ⟨s,UO,YZ⟩ λ_=>?_
   clear z;refine G ?_;refine aF I (λK' z=>?_);go_simp;refine(cg l2 _ ba.out (Wd.dig.below Ur)).mono ?_;rintro e l3 ⟨rfl,d⟩;have Y9:=ah Yb d;have WB:=ae YZ d;have bk:=ae s d;have bm:=ae bl d;have Ut:=ah Ur d;have a1:=bj a5 d;have a2:=bj a6 d;have Wk:=O (Wr.below d);have VZ:=ae UO d;have bT:=ae bO d;have bh:=O (eu b5 d);have bn:=O (eu ba d);clear Yb YZ s bl Ur a5 a6 Wr UO bO b5 ba;clear d;refine z _ _ ⟨bk,VZ,WB⟩ λ_=>?_
   clear z;refine G ?_;have hG:=(And.intro Y9 (And.intro WB (And.intro bk (And.intro bm (And.intro Ut (And.intro a1 (And.intro a2 (And.intro Wk (And.intro VZ (And.intro bT (And.intro bn bh)))))))))));exact YP b3 bK l3 hG
  clear bB bv b0 bw Uq bC bI b8 UY cz;rintro b3 bK l3 ⟨Y9,WB,bk,bm,Ut,a1,a2,Wk,VZ,bT,bn,bh⟩;refine aF I (λK' z=>?_);go_simp;refine(gw l3 _ _ (R5 Yc a1 a2 Wk (P.later bA Y9) (by rw[jy,qM];have:=YB.out;omega)) (by rw[jy,qM];omega) bh (Wd.dig.below Ut)).mono ?_;rintro e l4 ⟨i3,rfl,c6,d⟩;have dr:=O c6;clear c6;have g6:=ah Y9 d;have dv:=ae WB d;have s:=ae bk d;have ea:=ae bm d;have UA:=ah Ut d;have ci:=bj a1 d;have cj:=bj a2 d;have VN:=O (Wk.below d);have WQ:=ae VZ d;have ba:=ae bT d;have g7:=O (eu bn d);have g8:=O (eu bh d);clear Y9 WB bk bm Ut a1 a2 Wk VZ bT bn bh;clear d;refine z _ _ ⟨s,WQ,dv⟩ λ_=>?_
  clear z;refine G ?_;refine aF I (λK' z=>?_);go_simp;refine(gx l4 _ _ dr.out (Ex ba (λj aa hj=>by rw[hz,qX];simpa using hj) (lF _ _ _)) (hU.below UA)).mono ?_;rintro e l5 ⟨c,rfl,ck,d⟩;have Va:T (bb+1<l4.heap.size):=O (jB.1 ea).1;obtain⟨lj,hI⟩:=J l4.heap.size;rw[<-hI]at ck Va;have g9:=O ck;obtain⟨R,H,rfl⟩:=cK ck;clear ck;have ha:=ah g6 d;have eb:=ae dv d;have bc:=ae s d;have ec:=ae ea d;have UF:=ah UA d;have e0:=bj ci d;have e1:=bj cj d;have YE:=O (VN.below d);have b6:=ae WQ d;have bi:=ae ba d;have hJ:=O (eu g7 d);have hK:=O (eu g8 d);have hM:=O (dr.below d);clear g6 dv s ea UA ci cj VN WQ ba g7 g8 dr;clear d;refine z _ _ ⟨bc,b6,eb⟩ λ_=>?_
  clear z;refine G ?_;iterate 4 refine vG ?_
  refine aF I (λK' z=>?_);rw[jr aj];refine qV 90 _ _ I (bb+1) 1 #[jd je V,jb R 48 H] I I (su (o:=1) (n:=2) ec ar) af (by simp[j5]) ?_;rw[show(#[jd je V,jb R 48 H]:jp jk).toList=[jd je V,jb R 48 H]from I];obtain⟨s1,s2⟩:=FQ (i:=1) (x:=jd je V) (y:=jb R 48 H) ec;have s3:jl wr wr (l5.setCells (bb+1) 1 [jd je V,jb R 48 H]):=Below.cellsFrom ha (bb+1) (by rw[gu];omega) _ _;have ed:=nh (w':=l5.setCells (bb+1) 1 [jd je V,jb R 48 H]) g9 (λk hk=>s2 k (aJ Va));refine z _ _ ⟨(s2 bb Y).trans bc,(s2 (t+1+1+1) (ee db bA)).trans b6,(s2 (t+1+1+1+1) (ee db bA)).trans eb⟩ λ_=>?_
  clear z;have eg:T ((l5.setCells (bb+1) 1 [jd je V,jb R 48 H]).heap[bb+1]?=A (jc #[jd je q,jd je V,jb R 48 H] 95 (0,0))):=O s1;have ej:T (eB M3 (t+1+1+1+1) 48 95 3 Wl.cells Wl.body (λv=>(aE (bX g a m u) ⟨jb V9 m.length c1,jb pq 10 cq,jb pb nu cb,v⟩).toArray) p4 (l5.setCells (bb+1) 1 [jd je V,jb R 48 H]) i (jb pv i cv) ((wl.take i).map (fC g a m u init seed)) us):=O (P.later bA s3);have ek:T (aG (λg=>M3<=g/\g<(l5.setCells (bb+1) 1 [jd je V,jb R 48 H]).heap.size/\(ql pv i cv).ownBlock≠A g) (l5.setCells (bb+1) 1 [jd je V,jb R 48 H]) (jb R 48 H) 1 48 (bq.map v8)):=O (aG.of_own ed (λg Q=>by
   have h1:=ed.lt g Q;have h2:=Va.out;have h3:=db.out;have ll:=gu.out;exact⟨by omega,h1.2,eY P.row.own (.inl Y)⟩))
  clear s1 s2 s3 ed;generalize l5.setCells (bb+1) 1 [jd je V,jb R 48 H]=kc at eg ej ek⊢;have hN:=eg;have cm:=ej;have hO:=ek;clear eg ej ek;refine G ?_;refine o1 ?_;clear ha eb bc ec UF e0 e1 YE b6 bi g9 hM hJ hK P cg gw gx;have s:=ai cm.row.box (rR (bX g a m u) (jb V9 m.length c1) (jb pq 10 cq) (jb pb nu cb) (jb pv i cv) Yc eJ).2.2.1
  go_upto_region 35 with fail
  refine j0 ?_;iterate 2 refine eh ?_
  refine j9 I 95 _ I (bb+1) I 95 #[jd je q,jd je V,jb R 48 H] (0,0) _ hN.out underlying95 I af ?_
  go_wp2_with (at_builtin;refine Hid.out ?_)
  refine O ?_;refine pz I λ_ z=>Lr _ _ I M3 (jb pv i cv) i _ I (cL cm.row.own (ao kc _)) _ 1 [jd je q,jd je V,jb R 48 H] I (lz kc [jd je q,jd je V,jb R 48 H] 95 (0,0) 3 1 1 I (jD _)) (by simp[j5]) Y (jE cm.row.sz' (ao kc _).size) λv' k9 U1=>z _ _ ?_
  clear z;have cp:=ao kc (jc #[jd je q,jd je V,jb R 48 H] 95);have br:=cm.later bA cp;have hg:=(aG.keep hO (w':=kc.alloc (jc #[jd je q,jd je V,jb R 48 H] 95)) (λg Q=>cp.block g Q.2.1)).mono (D':=λg=>M3<=g/\g<(kc.alloc (jc #[jd je q,jd je V,jb R 48 H] 95)).heap.size/\(ql pv i cv).ownBlock≠A g) (λg Q=>⟨Q.1,jL Q.2.1 cp.size,Q.2.2⟩);have cw:=lf br.row.box U1.grown (eY br.row.own (.inr bA));obtain⟨pn,cn,rfl⟩:=cK U1.own;have ga:T (eB M3 (t+1+1+1+1) 48 95 3 Wl.cells Wl.body (λv=>(aE (bX g a m u) ⟨jb V9 m.length c1,jb pq 10 cq,jb pb nu cb,v⟩).toArray) p4 (k9.setCell ⟨(t+1+1+1+1),38,jf⟩ (jb pn (i+1) cn)) (i+1) (jb pn (i+1) cn) ((wl.take (i+1)).map (fC g a m u init seed)) (us++[jb R 48 H])):=O (by
   rw[hF,gf];exact eB.push (x:=(⟨q,V,bq⟩:Wl)) br bA (by show aG _ _ _ 1 bq.length (bq.map v8);rw[hH];exact hg) U1 (ih _ _))
  obtain⟨⟨vo,c3⟩,f3,-,-⟩:=kp (i:=38) (jb pn (i+1) cn) cw (by rw[(rR (bX g a m u) (jb V9 m.length c1) (jb pq 10 cq) (jb pb nu cb) (jb pv i cv) Yc eJ).2.2.2];decide);clear br hg U1 cw s cp
  go_wp2_with fail
  go_roundw
  case rel=>exact⟨i+1,pn,cn,us++[jb R 48 H],by go_num,by omega,ga⟩
  case measure=>simp only[jQ];omega
 obtain rfl:nw=i:=Y;have hd2:decide ((nw:N)<(nw:N))=jn:=by simp
 have ho:decide (nw<nw)=jn:=by simp
 rename jj=>p5;obtain⟨pe,ce,bK,bO⟩:∃(p:jG Addr) (c:ja),p=pv/\c=cv:=⟨_,_,I,I⟩;subst bK;subst bO;have cx:wl.take nw=wl:=qv (by rw[YB];exact jD _);rw[cx]at P;have ad:=P.row.but;have UF:T (jl w w p5):=O (UA.trans (P.row.but.below (n:=w.heap.size) (by rw[HG];omega) (ee bA HG)));have e0:=kL ci (λk bs ax=>ad.block k (by rw[Wy];exact ax) (aJ c9));have e1:=kL cj (λk bs ax=>ad.block k (by rw[Wy];exact ax) (aJ Yp));have ev:T (p5.heap[(t+1+1+1+1+1)]?=A (jc SA 66 (0,0))):=O ((ad.block (t+1+1+1+1+1) e8 Y).trans YL);have bk:li (λk=>t+6<=k/\k<p5.heap.size) p5 (jb pb nu cb) (nl.map (eA g a m u seed)):=Za.keep (λk hk=>ad.block k hk.2 (aJ bu)) (λk hk=>⟨by have:=h9.out;omega,by have:=P.row.sz';omega⟩);have bl:=P.slice (by rw[jy];exact YB) (D:=λk=>t+6<=k/\k<p5.heap.size) (λk h1 h2=>⟨by have:=e8.out;omega,h2⟩);obtain⟨q,hq⟩:∃y:CQ,y=⟨jb V9 m.length c1,jb pq 10 cq,jb pb nu cb,jb pe nw ce⟩:=⟨_,I⟩;have br:T (aW (λk=>t+6<=k/\k<p5.heap.size) p5 (mk1 g a m u init seed) q):=O (by
  rw[hD,hw]at bk;rw[gp]at bl;rw[hq];exact KH Yc e0 e1 bk bl (λk h1 h2=>⟨by have:=c9.out;omega,h2⟩) (λk h1 h2=>⟨by have:=fv.out;omega,h2⟩))
 obtain⟨Y1,ax⟩:=J ((aE (mk1 g a m u init seed) q).toArray);have eq:T (p5.heap[(t+1+1+1+1)]?=A (jc Y1 48 (0,0))):=O (by rw[ax,hq,Tz];exact P.row.box);have bs:=Rv (x:=X) (init:=init) (seed:=seed) e5.symm (by rw[<-WK];exact kb) km Vx Yc;obtain⟨bv,bw⟩:=MP bs;have bB:=O bv.encOk;have bT:=O bw.encOk;have b0:=O ax;have Yq:∀c:Cmt,c.parent.length=32->c.confirm.length=32->(jo.info? 48).map (·.size)=A (aE c q).toArray.size:=λc h1 h2=>by rw[jv,dl c q h1 h2];exact mQ
 have Vi:T ((jo.info? 48).map (·.size)=A Y1.size):=O (by rw[ax];exact Yq _ (by rw[(oe ..).1];exact Yc) (oe ..).2);have b2:T (∀W,aW (·<W.heap.size) W (mk1 g a m u init seed) q->jz jo 51 #[jh Y1] W λe w'=>∃v,e=jw v/\vB W w' (mk1 g a m u init seed) v/\jl W W w'):=O (λW hW=>by
  obtain⟨l1,l2,l3,l4⟩:=bB.lens;rw[ax];exact tm _ q W hW l1 l2 l3 l4)
 obtain⟨bC,bh⟩:=J (cW kM ((aR (mk1 g a m u init seed)).take 8));obtain⟨YS,bm⟩:=J ((bC.map v8).toArray);obtain⟨cf,bi⟩:=J (iZ (dO g u init) bC);obtain⟨j,bb⟩:=J ((cf.map v8).toArray);have bn:cf.length=32:=by rw[bi];exact sT _ _
 have b3:T (mk2 g a m u init seed={mk1 g a m u init seed with confirm:=cf}):=O (by rw[bi,bh];exact Do ..);have b4:T (∀W p H,aV (·<W.heap.size) W (vL ((aR (mk1 g a m u init seed)).take 8)) (jb p 8 H)->bH W->jz jo 50 #[qt ⟨#[99,111,109,109,105,116,32,98,111,100,121]⟩,jb p 8 H] W λe w'=>e=jw (jh YS)/\jl W W w'):=O (λW p H hv hW=>by
  rw[bm,bh];exact mK kM L _ _ W hv (bB.take (by rw[zz];decide) 8) hW.num hW.start)
 have b5:T (∀W,iE W->jz jo 103 #[jh SA,jh YS] W λe w'=>e=jw (jh j)/\jl W W w'):=O (λW hW=>by
  rw[bb,bi,hz,bm];exact PD _ _ (lF _ _ _) (by rw[bh];exact eT _ _) W hW)
 have bI:T (j.size=32):=O (by rw[bb,jv,jy,bn]);have b7:T (j.all (·.oneCell')=ji):=O (by rw[bb];exact eU _);have b8:T ((jo.info? 23).map (·.size)=A j.size):=O (by rw[bI];kernel_rfl);obtain⟨Y2,ba⟩:=J ((aE (mk2 g a m u init seed) q).toArray);have cc:T (mP Y1 39 j.toList=Y2):=O (by
  rw[ba,b3,bb,ax];exact Ol _ q cf (by rw[(oe ..).1];exact Yc) (oe ..).2 bn)
 have UO:T ((jo.info? 48).map (·.size)=A Y2.size):=O (by rw[ba];exact Yq _ (by rw[(po ..).1];exact Yc) (po ..).2);have cd:T (Y1.size=73):=O (by rw[ax,jv,dl _ _ (by rw[(oe ..).1];exact Yc) (oe ..).2]);have cg:T (Y2.size=73):=O (by rw[ba,jv,dl _ _ (by rw[(po ..).1];exact Yc) (po ..).2]);have ck:T (∀W,aW (·<W.heap.size) W (mk1 g a m u init seed) q->bH W->jz jo 34 #[jh Y2] W λe w'=>∃D,e=jw (jb (A ⟨D,0,jf⟩) 32 32)/\bD w' (jb (A ⟨D,0,jf⟩) 32 32) (dt (mk2 g a m u init seed))/\jl W W w'):=O (λW hC hW=>by
  rw[ba];exact Hn _ q W (D3 hC) bT hW)
 obtain⟨sr,bp⟩:∃y:N,y=((ko X (dt (mk2 g a m u init seed)):ja):N):=⟨_,I⟩;obtain⟨ss,bq⟩:∃y:N,y=((kE X (dt (mk2 g a m u init seed)):ja):N):=⟨_,I⟩;have cm:T (∀W v,bD W v (dt (mk2 g a m u init seed))->bH W->jz jo 104 #[jd je (X:N),v] W λe w'=>e=jw (jH #[jh #[jd je sr,jd je ss],jd je 0])/\jl W W w'):=O (λW v hv hW=>by
  rw[bp,bq];exact R3 X U7.1 U7.2 _ v (by unfold dt;rw[eT];decide) W hv hW)
 obtain⟨Y3,bc⟩:=J ((aE (mkC g a X m u init seed) q).toArray);have cn:T (mkC g a X m u init seed={mk2 g a m u init seed with r:=sr,s:=ss}):=O (by rw[bp,bq];exact Gz ..);have cp:T (mP Y2 71 [jd je sr,jd je ss]=Y3):=O (by
  rw[bc,cn,ba];exact TS _ q sr ss (by rw[(po ..).1];exact Yc) (po ..).2)
 have VZ:T ((jo.info? 48).map (·.size)=A Y3.size):=O (by rw[bc];exact Yq _ (by rw[(BK ..).1];exact Yc) (BK ..).2);have cw:T (Y3.all (·.oneCell')=ji):=O (by rw[bc,hq];exact zL _ _ _ _ _ _ _ _ _ _ _ _ _);have cz:=O bc;clear bl bk e1 e0 ad cx P Yq bs bv bw hq ax ba bc bp bq bn bb bi bm bh Za Yl YL WQ UA ci cj c5 b0 ca hi
 go_upto_region 37 with fail
 refine jO ?_;refine lJ (λW'=>W'.heap[(t+1+1+1+1)]?=A (jc Y1 48 (0,0))/\W'.heap[(t+1+1+1+1+1)]?=A (jc SA 66 (0,0))) 7 [(0,ji),(1,ji),(2,jn),(3,ji),(4,jn),(5,jn),(6,ji),(7,jn)] af af af L (λ_ _ _ _ h=>h) ⟨eq,ev⟩ ?_;obtain⟨q0,UJ⟩:=J p5.drew;have d:=bV p5;rw[<-UJ]at d⊢;have UN:=ae eq d;have U0:=ae ev d;have Uq:=ah UF d;have P:=O (br.later d);clear d UJ eq ev UF br
 (refine fZ (v:=jh SA) I aj (λW' hS=>mx jX I fm I I hS.2) (G ?_))
 (refine fZ (v:=jh Y1) I aj (λW' hS=>mx p6 I Vi I I hS.1) (G ?_))
 refine dq I (λK' z=>?_);go_simp;refine(b2 q0 (P.mono (λk hk=>hk.2))).mono ?_;rintro e q1 ⟨v,rfl,ad,d⟩;obtain⟨gc,bb,rfl,VB⟩:∃g H,v=jb (A ⟨g,0,jf⟩) 11 H/\11<=H:=by
  obtain⟨us,ax,-⟩:=ad;obtain⟨g,c,h1,h2,-⟩:=vu ax L;exact⟨g,c,h1,h2⟩
 have bc:=O (ad.val 8 L).2;have hh:∀W,(Instr.sliceAt 124 (jb (A ⟨gc,0,jf⟩) 11 bb) jf (A (jd je 8)) jf).run jo W=.ok (jb (A ⟨gc,0,jf⟩) 8 bb) W:=λW=>wn 124 184 4 underlying124 wS gc 0 11 bb 8 Y W
 clear ad;have UK:=ae UN d;have UQ:=ae U0 d;have U:=ah Uq d;have ax:=O (P.later d);clear UN U0 Uq P;clear d;refine z _ _ ⟨UK,UQ⟩ λ_=>?_
 clear z;refine G ?_;refine Ez ?_;refine dq I (λK' z=>?_);go_simp;refine(b4 q1 _ _ bc.out (Wd.dig.below U)).mono ?_;rintro e q2 ⟨rfl,d⟩;have UH:=ae UK d;have UP:=ae UQ d;have Ur:=ah U d;have ba:=O (ax.later d);clear UK UQ U ax bc;clear d;refine z _ _ ⟨UH,UP⟩ λ_=>?_
 clear z;refine G ?_;refine dq I (λK' z=>?_);go_simp;refine(b5 q2 (Wd.below Ur)).mono ?_;rintro e q3 ⟨rfl,d⟩;have U2:=ae UH d;have Vh:=ae UP d;have Ut:=ah Ur d;have bc:=O (ba.later d);clear UH UP Ur ba;clear d;refine z _ _ ⟨U2,Vh⟩ λ_=>?_
 clear z;refine G ?_;refine Ez ?_;refine pB I (λK' z=>?_);rw[jr aj];refine qV 23 _ _ I (t+1+1+1+1) 39 j I I (su (o:=39) U2.out (by rw[cd,bI];decide)) b8 b7 ?_;have s1:=yR j.toList 39 q3 Y1 U2;rw[cc]at s1;have bd:=O s1;have bf:=O ((tU (k:=(t+1+1+1+1+1)) (b:=(t+1+1+1+1)) Y j.toList 39 q3).trans Vh);have bg:=O (Below.cellsFrom Ut (t+1+1+1+1) (by rw[HG];omega) j.toList 39);have ad:T (aW (λk=>t+6<=k/\k<(q3.setCells (t+1+1+1+1) 39 j.toList).heap.size) (q3.setCells (t+1+1+1+1) 39 j.toList) (mk1 g a m u init seed) q):=O ((bc.keep (λk hk=>tU Y _ _ _)).mono (λk hk=>by rw[yq];exact hk));clear s1;generalize q3.setCells (t+1+1+1+1) 39 j.toList=r0 at bd bf bg ad⊢;clear U2 Vh Ut bc;refine z _ _ ?_;clear z;have UN:=bd;have U0:=bf;have Uq:=bg;have P:=ad;clear bd bf bg ad;refine o1 ?_
 go_upto_region 38 with fail
 refine j0 ?_;refine eh ?_;refine j9 I 48 _ I (t+1+1+1+1) I 48 Y2 (0,0) _ UN.out p6 I UO ?_
 go_wp2_with fail
 refine(ck r0 (P.mono (λk hk=>hk.2)) (Wd.dig.below Uq)).mono ?_;rintro e r1 ⟨i3,rfl,c6,d⟩;have bc:=O c6;clear c6;have UK:=ae UN d;have UQ:=ae U0 d;have U:=ah Uq d;have ax:=O (P.later d);clear UN U0 Uq P;clear d
 go_wp2_with fail
 refine(cm r1 _ bc.out (Wd.dig.below U)).mono ?_;rintro e r2 ⟨rfl,d⟩;have UH:=ae UK d;have UP:=ae UQ d;have Ur:=ah U d;have ba:=O (ax.later d);clear UK UQ U ax bc;clear d
 go_wp2_with (refine pz I λ_ z=>qV 46 _ _ I (t+1+1+1+1) 71 #[jd je sr,jd je ss] I I (su (o:=71) (n:=2) UH.out (by rw[cg];decide)) af (by simp[j5]) (z _ _ ?_))
 have s1:=yR [jd je sr,jd je ss] 71 r2 Y2 UH;rw[cp]at s1;have bd:=O s1;have bf:=O ((tU (k:=(t+1+1+1+1+1)) (b:=(t+1+1+1+1)) Y [jd je sr,jd je ss] 71 r2).trans UP);have bg:=O (Below.cellsFrom Ur (t+1+1+1+1) (by rw[HG];omega) [jd je sr,jd je ss] 71);have ad:T (aW (λk=>t+6<=k/\k<(r2.setCells (t+1+1+1+1) 71 [jd je sr,jd je ss]).heap.size) (r2.setCells (t+1+1+1+1) 71 [jd je sr,jd je ss]) (mk1 g a m u init seed) q):=O ((ba.keep (λk hk=>tU Y _ _ _)).mono (λk hk=>by rw[yq];exact hk));clear s1;generalize r2.setCells (t+1+1+1+1) 71 [jd je sr,jd je ss]=U at bd bf bg ad⊢;clear UH UP Ur ba;have Zm:=bd;have Z6:=bf;have VJ:=bg;have ax:=ad;clear bd bf bg ad
 go_upto_region 41 with fail
 refine jO ?_;refine dj (λW'=>W'.heap[(t+1+1+1+1)]?=A (jc Y3 48 (0,0))/\W'.heap[(t+1+1+1+1+1)]?=A (jc SA 66 (0,0))) (.t 0 (.t 1 (.o 2 (.o 3 (.t 4 .done))))) af af af L (λ_ _ _ _ h=>h) ⟨Zm,Z6⟩ ?_;obtain⟨V,UJ⟩:=J U.drew;have d:=bV U;rw[<-UJ]at d⊢;have cs:=ae Zm d;have ct:=ae Z6 d;have ZE:=ah VJ d;have ad:=O (ax.later d);clear d UJ Zm Z6 VJ ax;have UN:=cs;clear cs;have U0:=ct;clear ct;have Uq:=ZE;clear ZE;have P:=ad;clear ad
 (refine aS (v:=jh Y3) I aj (λW' hS=>mx p6 I VZ I I hS.1) (G ?_))
 (refine aS (v:=jh SA) I aj (λW' hS=>mx jX I fm I I hS.2) (G ?_))
 refine aF I (λK' z=>?_);rw[jr aj];refine jR 48 _ _ I (t+1+1+1+1) Y3 I I 48 _ UN.out VZ I cw ?_;rw[rp UN];refine z _ _ ⟨UN,U0⟩ λ_=>?_
 clear z;refine G ?_;refine aF I (λK' z=>?_);rw[jr aj];refine jR 66 _ _ I (t+1+1+1+1+1) SA I I 66 _ U0.out fm I h5 ?_;rw[rp U0];refine z _ _ ⟨UN,U0⟩ λ_=>?_
 clear z;refine G ?_;refine aO ?_;refine o1 ?_
 go_wp2_with fail
 refine qo (FW I _ _ (t+1+1+1+1) (t+1+1+1+1+1) 48 66 Y3 SA (0,0) (0,0) _ _ I I UN U0 p6 I VZ jX I fm) I ⟨λ_=>⟨q,?_,?_⟩,λh=>jt kl h,Uq⟩
 ·rw[cz,hz,qN]
  rfl
 rw[qN];exact(Rk (x:=X) P).mono (λk hk=>⟨by have h1:=HG.out;have h2:=hk.1;omega,hk.2⟩)
noncomputable def VY:VarT jo:=⟨66,32,(cF.map v8).toArray,_,jX,I,by kernel_rfl,by rfl,λ_=>by kernel_rfl⟩
def kzA(b:j8 8):jp jk:=((kz b).map v8).toArray
def kzN(n:N):jp jk:=(jI .u8 n::xe 31 (jI .u8 0)).toArray
theorem Mb(b:j8 8):kzA b=kzN b.toNat:=by unfold kzA kzN kz;rw[jY,List.map_replicate];rfl
theorem JN(b:j8 8)(c:B.op=.build 66 #[(0,Q)])(d:m.eval Q=v8 b)(W:jj):(jP m.eval B).run jo W=.ok (.value (jh (kzA b))) W:=by
 have h:∀n:N,(Instr.build 66 #[(0,jd .u8 n)]).run jo W=.ok (jh (kzN n)) W:=λn=>by kernel_rfl
 rw[Mb];have e:m.eval Q=jd .u8 (b.toNat:N):=d;simp only[jP,c,qa,jY,jV,e,Sem.run_bind,h,Result.andThen_ok,Sem.run_pure]
theorem C9(b:j8 8)(w:jj):jz jo 48 #[v8 b] w λe w'=>e=jw (jh (kzA b))/\jl w w w':=by
 obtain⟨K,a⟩:=J (kzA b);have c:T (K.size=VY.n):=O (by rw[a];rfl);have f:T (K.all (·.oneCell')=ji):=O (by rw[a,jS];exact λg d=>iu (kz b) g (by unfold kzA at d;simpa using d));have d:=O a;rw[<-a];clear a
 go_enter func48,ntmps48
 go_upto_region 1 with(first|(refine VY.made I I (G ?_)))
 go_wp2_with (first|(refine ei (v:=jh K) aj (by rw[d];exact JN b I I _) ?_;refine G ?_)|(refine VY.first I I I K I c f (G ?_)))
 obtain⟨x1,g,a,h,i,j⟩:=dh w K VY.t;rw[<-a];exact sv (v:=jh K) (sx I _ _ w.heap.size VY.t _ (0,0) _ I (h▸i.out) jX I (by rw[c];exact VY.hi)) I ⟨I,j⟩
theorem Pi{y:j1}{c:N}(b:B.op=.build 62 #[(0,.const (jd je 2)),(1,Q),(4,y)])(d:m.eval Q=jd je f)(g:m.eval y=jd je c)(W:jj):
 (jP m.eval B).run jo W=.ok (.value (jh (ap.cells ⟨2,f,0,0,c⟩).toArray)) W:=by
 have h:∀f c:N,(Instr.build 62 #[(0,jd je 2),(1,jd je f),(4,jd je c)]).run jo W=.ok (jh (ap.cells ⟨2,f,0,0,c⟩).toArray) W:=λf c=>by kernel_rfl
 have e:m.eval (.const (jd je 2))=jd je 2:=I;simp only[jP,b,qa,jY,jV,d,g,e,Sem.run_bind,h,Result.andThen_ok,Sem.run_pure]
theorem Em(x:ap):x.cells.toArray.size=VH.n/\x.cells.toArray.all (·.oneCell')=ji:=⟨I,by
 rw[jS];exact λa b=>EC.one x a (show a∈ap.cells _ by simpa using b)⟩
theorem Gp(d c:N)(w:jj):jz jo 15 #[jd je d,jd je c] w λe w'=>e=jw (jh (ap.cells ⟨2,d,0,0,c⟩).toArray)/\jl w w w':=by
 obtain⟨K,b⟩:=J ((ap.cells ⟨2,d,0,0,c⟩).toArray);have a:=O (Em ⟨2,d,0,0,c⟩);have f:=O b;rw[<-b]at a⊢;clear b
 go_enter func15,ntmps15
 go_upto_region 1 with(first|(refine VH.made I I (G ?_)))
 go_wp2_with (first|(refine ei (v:=jh K) aj (by rw[f];exact Pi I I I _) ?_;refine G ?_)|(refine VH.first I I I K I a.1 a.2 (G ?_)))
 obtain⟨x1,g,b,h,i,j⟩:=dh w K VH.t;rw[<-b];exact sv (v:=jh K) (sx I _ _ w.heap.size VH.t _ (0,0) _ I (h▸i.out) sq I (by rw[a.1];exact VH.hi)) I ⟨I,j⟩
theorem Mi{y z:j1}{p q:N}(b:B.op=.build 62 #[(0,.const (jd je 1)),(1,Q),(2,y),(3,z)])(c:m.eval Q=jd je f)(d:m.eval y=jd je p)(g:m.eval z=jd je q)(W:jj):
 (jP m.eval B).run jo W=.ok (.value (jh (ap.cells ⟨1,f,p,q,0⟩).toArray)) W:=by
 have h:∀f p q:N,(Instr.build 62 #[(0,jd je 1),(1,jd je f),(2,jd je p),(3,jd je q)]).run jo W=.ok (jh (ap.cells ⟨1,f,p,q,0⟩).toArray) W:=λf p q=>by kernel_rfl
 have e:m.eval (.const (jd je 1))=jd je 1:=I;simp only[jP,b,qa,jY,jV,c,d,g,e,Sem.run_bind,h,Result.andThen_ok,Sem.run_pure]
theorem FF(d:ja)(q:d<512)(w:jj):jz jo 14 #[jd je d] w λe w'=>e=jw (jh (cQ d).cells.toArray)/\jl w w w':=by
 obtain⟨x1,c,j,k,a,l⟩:=dh w chZ.cells.toArray VH.t;have f:T (∀W,jz jo 49 #[jd je ((d:N)+2)] W λe w'=>e=jw (jH #[jd je (aY 4 (d+2):ja),jd je 0])/\jl W W w'):=O (λW=>by
  rw[show(d:N)+2=((d+2:ja):N) by omega];exact Ac (d+2) Y Y W)
 obtain⟨p,g⟩:∃y:N,y=((aY 4 (d+2):ja):N):=⟨_,I⟩;obtain⟨K,h⟩:=J ((cQ d).cells.toArray);have n:T (K=(ap.cells ⟨1,d,p,p,0⟩).toArray):=O (by rw[h,g];rfl);have b:=O (Em (cQ d));rw[<-g]at f;rw[<-h]at b⊢;have o:=O j;have m:=O k;have i:=O l;clear g h j k l
 go_enter func14,ntmps14
 go_upto_region 1 with(first|(refine VH.made I I (G ?_)))
 change Code.wp _ _ _ _ (w.alloc (jc chZ.cells.toArray VH.t));rw[<-o,<-m]
 go_wp2_with fail
 refine(f _).mono ?_;rintro e h ⟨rfl,g⟩;replace a:=ae a g;replace i:=ah i g;clear g f;have f:=O (jU h c _ K _ _ a.out);have g:=O (ow i (j6 m.symm) K)
 go_wp2_with (first|(refine ei (v:=jh K) aj (by rw[n];exact Mi I I I I _) ?_;refine G ?_)|(refine VH.store I I I K I b.1 b.2 a I (G ?_)))
 generalize h.setRow c K=j at f g⊢;exact sv (v:=jh K) (sx I _ _ c VH.t _ (0,0) _ I f sq I (by rw[b.1];exact VH.hi)) I ⟨I,g⟩
section
section
variable {P:o8} {ops:jp jK} {Q:Exit->Act->jj->Prop} {md:Region.Mode} {S:jj->Prop}
def tb(P:o8)(ops:jp jK)(S:jj->Prop):jg ja->(Act->jj->Prop)->Act->jj->Prop
 |[],K,a,w=>K a w
 |i::r,K,a,w=>∃o v,ops[i]?=A o/\fT P ops S o v a/\tb P ops S r K (a.put o.dst v) w
def vD(md:Region.Mode)(ops:jp jK):jg ja->jp jC->jC
 |[],_=>ji
 |i::r,a=>Region.free md ops a i&&(Region.ready md ops a).contains i&&vD md ops r (a.setIfInBounds i ji)
def od:jg ja->jp jC->jp jC
 |[],a=>a
 |i::r,a=>od r (a.setIfInBounds i ji)
theorem H8(k:Region.noSelect ops=ji)(m:∀c a b w,Q (.panic c) a w->Q (.panic c) b w){K:Act->jj->Prop}{n:ja}{g:jp jC}(p:∀a w,K a w->ip P md ops Q S ops.size n g a w):
 ∀(l:jg ja) (b:jp jC) (a:Act) (w:jj),vD md ops l b=ji->od l b=g->S w->tb P ops S l K a w->ip P md ops Q S ops.size (n+l.length) b a w
 |[],b,a,w,_,e,_,h=>by
  have d:b=g:=e;rw[d];exact p a w h
 |i::r,b,a,w,f,e,q,⟨o,v,s,t,h⟩=>by
  simp only[vD,oj]at f;refine vX s (Region.noSelect_spec k) (λc a d v w=>m c _ a w) (n+r.length) b a w (Region.free_spec s f.1.1) (λj c d u _=>(Ea j c d u).elim) (ak f.1.2) t q (H8 k m p r _ _ _ f.2 e q h)
def kV(md:Region.Mode)(ops:jp jK)(e f:ja)(g:jp jC):ja->jg (ja×jC)->jC->jC->jp jC->jC
 |0,b,c,d,a=>b.isEmpty&&c&&d&&(a==g)
 |n+1,b,c,d,a=>match b.head? with
  |some (k,ji)=>Region.free md ops a k&&(Region.ready md ops a).contains k&&kV md ops e f g n b.tail c d (a.setIfInBounds k ji)
  |_=> !(Region.ready md ops a).isEmpty&&(Region.ready md ops a).all λi=>
   (b.head?==A (i,jn)&&kV md ops e f g n b.tail c d (a.setIfInBounds i ji))||(i==e&& !c&&kV md ops e f g n b ji d (a.setIfInBounds i ji))||(i==f&& !d&&kV md ops e f g n b c ji (a.setIfInBounds i ji))
theorem tM{s t:ja}{u:jp jC}{l:jg (ja×jC)}{fe:ja}(x:Region.noSelect ops=ji)(y:∀c a r w,Q (.panic c) a w->Q (.panic c) r w)(g:ja->jC->jC->Act->jj->Prop)(q:∀j b f a w,g j b f a w->S w)
 (z:∀j i,l[j]?=A (i,ji)->∀b f a w,g j b f a w->∃o v,ops[i]?=A o/\fT P ops S o v a/\g (j+1) b f (a.put o.dst v) w) (B:∀j i,l[j]?=A (i,jn)->∀b f a w,g j b f a w->wpOp P ops Q i (g (j+1) b f) a w) (C:∀j f a w,g j jn f a w->wpOp P ops Q s (g j ji f) a w) (D:∀j b a w,g j b jn a w->wpOp P ops Q t (g j b ji) a w)
 (E:∀a w,g l.length ji ji a w->ip P md ops Q S ops.size fe u a w):
 ∀(n j:ja) (b f:jC) (p:jp jC) (a:Act) (w:jj),j<=l.length->kV md ops s t u n (l.drop j) b f p=ji->g j b f a w->ip P md ops Q S ops.size (fe+n) p a w
 |0,j,b,f,p,a,w,F,m,h=>by
  simp only[kV,oj,beq_iff_eq,List.isEmpty_iff,List.drop_eq_nil_iff]at m;obtain⟨⟨⟨d,rfl⟩,rfl⟩,rfl⟩:=m;obtain rfl:j=l.length:=Y;exact E a w h
 |n+1,j,b,f,p,a,w,F,m,h=>by
  rw[kV,List.head?_drop]at m
  by_cases K:∃k,l[j]?=A (k,ji)
  ·obtain⟨k,e⟩:=K
   rw[e]at m;simp only[oj]at m;have H:j<l.length:=(jW.1 e).1;obtain⟨o,v,M,R,U⟩:=z j k e b f a w h;rw[xf]at m;refine vX M (Region.noSelect_spec x) (λc a d v w=>y c _ a w) (fe+n) p a w (Region.free_spec M m.1.1) (λj c F d _=>(Ea j c F d).elim) (ak m.1.2) R (q _ _ _ _ _ h) (tM x y g q z B C D E n (j+1) b f _ _ w H m.2 U)
  have d:(!(Region.ready md ops p).isEmpty&&(Region.ready md ops p).all λi=>
   (l[j]?==A (i,jn)&&kV md ops s t u n (l.drop j).tail b f (p.setIfInBounds i ji))||(i==s&& !b&&kV md ops s t u n (l.drop j) ji f (p.setIfInBounds i ji))||(i==t&& !f&&kV md ops s t u n (l.drop j) b ji (p.setIfInBounds i ji)))=ji:=by
   split at m
   ·rename_i k e
    exact jt ⟨k,e⟩ K
   exact m
  simp only[oj,xg]at d;refine λ_=>⟨λv=>(by rw[v]at d;simp at d),λi M=>?_⟩
  have o:=d.2 i M;simp only[xh,oj,beq_iff_eq,Bool.not_eq_true']at o
  rcases o with(⟨e,k⟩|⟨⟨rfl,rfl⟩,k⟩)|⟨⟨rfl,rfl⟩,k⟩
  ·rw[xf]at k
   have H:j<l.length:=(jW.1 e).1;exact wpOp_mono (λr w' c=>⟨.inr (q _ _ _ _ _ c),tM x y g q z B C D E n (j+1) b f _ r w' H k c⟩) (B j i e b f a w h)
  ·exact wpOp_mono (λr w' c=>⟨.inr (q _ _ _ _ _ c),tM x y g q z B C D E n j ji f _ r w' F k c⟩) (C j f a w h)
  exact wpOp_mono (λr w' c=>⟨.inr (q _ _ _ _ _ c),tM x y g q z B C D E n j b ji _ r w' F k c⟩) (D j b a w h)
theorem uo{r:ja}{a:Act}{w:jj}(S:jj->Prop)(g:jg ja)(b:jg (ja×jC))(h k:ja)(t:bE)(d:ja->jC->jC->Act->jj->Prop)(s:P.follows .mixedOrders=ji)(l:Region.noSelect ops=ji)
 (u:vD .any ops g (qi ops.size jn)=ji) (x:kV .any ops h k (od (b.map Prod.fst++[h,k]) (od g (qi ops.size jn))) (b.length+2) b jn jn (od g (qi ops.size jn))=ji)
 (y:gC .any ops t (od (b.map Prod.fst++[h,k]) (od g (qi ops.size jn)))=ji) (H:g.length+(b.length+2)+t.len<=ops.size) (m:∀c a p w,Q (.panic c) a w->Q (.panic c) p w)
 (z:S w.drew) (q:∀j c e a w,d j c e a w->S w)
 (B:∀j i,b[j]?=A (i,ji)->∀c e a w,d j c e a w->∃o v,ops[i]?=A o/\fT P ops S o v a/\d (j+1) c e (a.put o.dst v) w) (o:∀j i,b[j]?=A (i,jn)->∀c e a w,d j c e a w->wpOp P ops Q i (d (j+1) c e) a w) (i:∀j e a w,d j jn e a w->wpOp P ops Q h (d j ji e) a w) (v:∀j c a w,d j c jn a w->wpOp P ops Q k (d j c ji) a w)
 (j:∀a w,d b.length ji ji a w->eE P ops Q S t a w) (C:tb P ops S g (d 0 jn jn) a w.drew):(Code.region r ops ji).wp P Q a w:=by
 refine wp_region_any s (rM (S:=S) (f:=ops.size) _ _ _ _ (iN.zero _) ?_);have e:ops.size=(ops.size-g.length-(b.length+2))+(b.length+2)+g.length:=Y;have key:=H8 (md:=.any) (S:=S) l m (K:=d 0 jn jn) (n:=ops.size-g.length-(b.length+2)+(b.length+2)) (λp w' D=>tM (md:=.any) (fe:=ops.size-g.length-(b.length+2)) l m d q B o i v (λE F c=>kD l m t _ _ _ _ Y y (bE.waits_size t) (.inr (q _ _ _ _ _ c)) (eN.toF t _ _ (j E F c))) (b.length+2) 0 jn jn _ p w' (jM _) x D) g _ a w.drew u I z C;rw[<-e]at key;exact key
theorem nH{i:ja}{o:jK}{v:jk}{r:jg ja}{K:Act->jj->Prop}{a:Act}{w:jj}(b:ops[i]?=A o)(c:Region.wanted o (yielded ops a.tmps)=ji)
 (d:∀w,S w->(jP a.eval o).run P w=.ok (.value v) w) (h:tb P ops S r K (a.put o.dst v) w):tb P ops S (i::r) K a w:=
 ⟨o,v,b,.inl ⟨c,λw e=>.inl (d w e)⟩,h⟩
end
end
theorem kzl(b:j8 8):(kz b).length=32:=by unfold kz;simp
structure gJ(w:jj):Prop where
 t:lx w
 s:iE w
theorem gJ.below(h:gJ w)(a:jl w w w'):gJ w':=⟨h.t.below a,h.s.below a⟩
abbrev ptr(g:ja):jk:=ju (A ⟨g,0,jf⟩)
def iA(c:jJ)(Z:jp jk)(d:jj)(b:jC)(a:jk)(W:jj):Prop:=
 (b=ji->∃g,a=ptr g/\W.heap[g]?=A (jc Z c (0,0))/\d.heap.size<=g)/\(b=jn->a=jm)
theorem iA.keep{a:jJ}{Z:jp jk}{c d:jj}{b:jC}{f:jk}(h:iA a Z c b f W)(i:jl W W d):iA a Z c b f d:=
 ⟨λe=>let⟨g,j,k,l⟩:=h.1 e;⟨g,j,av k i,l⟩,h.2⟩
theorem iA.ne{X:jp jk}{b:jC}(h:iA r X w b j W){g:ja}(i:W.heap.size<=g):j≠ptr g:=by
 cases b with
 |true=>
  obtain⟨k,rfl,f,-⟩:=h.1 I;intro e;injection e with e
  injection e with e
  injection e with e
  have:=(jB.1 f).1;omega
 |false=>rw[h.2 I];intro e;cases e
def PO(b:jj)(M:ja)(e:jp jk)(d:ja)(V:jk)(f:jG Addr)(h cl:ja)(i l:jp jk)(c:Cmt)(k:jp jk)(j:ja)(m n:jC)(a:Act)(W:jj):Prop:=
 ∃WE T12 T16 T23 T24 T26 T27 T28 T29 T30,a={tmps:=#[jh e,jd je (d:N),V,jb f h cl,ptr M,jm,jm,jm,ptr (M+1),ptr (M+2),.bool jn,WE,T12,jm,jm,jm,T16,jh e,jd je (d:N),jd je (d:N),jd je ((d:N)+2),jb f h cl,V,T23,T24,V,T26,T27,T28,T29,T30,jm,jm,jm,jm,jm,jm,jm,jm,jm,jm,jm,jm,jm,jm],defers:=[]}/\jl b b W/\(1<=j->T23=jh i)/\(2<=j->T24=jh l)/\(3<=j->T26=jh i)/\
  (4<=j->∃(q:CQ) (D:ja->Prop),(T27=jH #[jh (aE c q).toArray,jh k,jd je 0]/\(5<=j->T16=T27)/\(6<=j->T28=jh (aE c q).toArray)/\(7<=j->T29=jh k)/\(8<=j->T30=jd je 0))/\aW D W c q/\∀g,D g->b.heap.size<=g/\g<W.heap.size/\WE≠ptr g/\T12≠ptr g)/\
  iA VC.t VC.Z b m WE W/\iA VY.t VY.Z b n T12 W
theorem RH(g:Grp)(vm vt:jk)(d:ja)(m:d<512)(b:j8 8)(vl:jk)(ch:jg ap)(w:jj)(j:bL w g vm vt)(p:aG (·<w.heap.size) w vl 5 ch.length (ch.flatMap ap.cells))(hT:gJ w)(t:ia g (d:N) ((d+2:ja):N) ch=0)
 (c:Cmt) (V:c=mkC g (d:N) (d+2) ch (kz b) (kz 1) (kz b)) (X:cN g c=0) (hE:cZ (aR c)) (u:g.mem.length<=900000) (z:g.tree.length<=600000) (ba:ch.length<=1000000):
 jz jo 13 #[jh (aB g vm vt).toArray,jd je (d:N),v8 b,vl] w λe w'=>∃q x y,e=jw (jH #[jh (aE c q).toArray,jh (aB (aC g c) x y).toArray,.bool ji])/\
  aW (λk=>w.heap.size<=k/\k<w'.heap.size) w' c q/\bL w' (aC g c) x y/\Fr w.heap.size x/\Fr w.heap.size y/\jl w w w':=by
 obtain⟨pl,cl,rfl⟩:=p.form;obtain⟨nl,B⟩:=J ch.length;obtain⟨S,i⟩:=J ((aB g vm vt).toArray);obtain⟨KA,C⟩:=J (kzA b);obtain⟨K1,D⟩:=J (kzA 1);obtain⟨s,l⟩:=J (((dO g (kz b) (kz 1)).map v8).toArray);obtain⟨NG,E⟩:=J (aC g c);have bn:T (S.size=VG.n):=O (by rw[i,jv];exact eH j.llen);have bo:T (∀W,jl w w W->jz jo 47 #[jh S,jd je (d:N),jd je ((d:N)+2),jb pl nl cl,jh KA,jh K1,jh KA] W λe w'=>(∃q,e=jw (jH #[jh (aE c q).toArray,jh s,jd je 0])/\aW (λk=>W.heap.size<=k/\k<w'.heap.size) w' c q)/\jl W W w'):=O (λW a=>by
  have h:=RR g vm vt (jb pl ch.length cl) (d:N) ((d+2:ja):N) ch (kz b) (kz 1) (kz b) W (j.below a) ((p.keep λk n=>a.block k n).mono λk (n:k<w.heap.size)=>jL n a.size) (kzl _) (kzl _) (kzl _) (hT.t.below a) (hT.s.below a) u z ba t;rw[t]at h;rw[i,C,D,l,B,show(d:N)+2=((d+2:ja):N) by omega];refine h.mono ?_;rintro e w' ⟨h1,-,f⟩;have r:=h1 I;rw[qN,<-V]at r;exact⟨r,f⟩)
 have bA:T (∀W q,jl w w W->aW (·<W.heap.size) W c q->jz jo 9 #[jh S,jh (aE c q).toArray] W λe w'=>(∃vm vt,e=jw (jH #[jh (aB NG vm vt).toArray,jd je 0])/\bL w' NG vm vt/\Fr W.heap.size vm/\Fr W.heap.size vt)/\jl W W w'):=O (λW q a r=>by
  rw[i,E];refine(yS g vm vt c q W (j.below a) r hE (hT.s.dig.below a) u z).mono ?_;rintro e w' ⟨h1,-,f⟩;exact⟨h1 X,f⟩)
 have au:T (∀W,jz jo 48 #[v8 b] W λe w'=>e=jw (jh KA)/\jl W W w'):=O (λW=>by rw[C];exact C9 b W);have bp:T (∀W,jz jo 48 #[jd .u8 1] W λe w'=>e=jw (jh K1)/\jl W W w'):=O (λW=>by rw[D];exact C9 1 W);have bb:T (s.size=VY.n/\s.all (·.oneCell')=ji):=O ⟨by rw[l,jv,jy,lF];rfl,by rw[l,jS];exact λa3 hu=>iu _ a3 (ak hu)⟩;rw[<-i];rw[<-B];obtain⟨P,F⟩:∃P:Ending->jj->Prop,P=λe w'=>∃q x y,e=jw (jH #[jh (aE c q).toArray,jh (aB (aC g c) x y).toArray,.bool ji])/\
  aW (λk=>w.heap.size<=k/\k<w'.heap.size) w' c q/\bL w' (aC g c) x y/\Fr w.heap.size x/\Fr w.heap.size y/\jl w w w':=⟨_,I⟩
 have HP:T (∀e w',(∃q x y,e=jw (jH #[jh (aE c q).toArray,jh (aB NG x y).toArray,.bool ji])/\aW (λk=>w.heap.size<=k/\k<w'.heap.size) w' c q/\bL w' NG x y/\Fr w.heap.size x/\Fr w.heap.size y/\jl w w w')->P e w'):=O (by
  rw[F,E];exact λe w' h=>h)
 rw[<-F];obtain⟨x1,M,H,K,U7,f⟩:=dh w S VG.t;obtain⟨x2,M1,ax,Q,Vn,aa⟩:=dh x1 VC.Z VC.t;obtain⟨x3,M2,Zo,R,bc,a⟩:=dh x2 VG.Z VG.t;have e1:M1=M+1:=by rw[Q,H,jq,K]
 have e2:M2=M+2:=by rw[R,ax,jq,<-Q,e1]
 subst e1;subst e2;have U:=f.trans (aa.mono f.size);replace U7:=O (av (av U7 aa) a);replace Vn:=ae Vn a;have HB:T (jl w w x3):=O (U.trans (a.mono U.size));have HW:T (x3=((w.alloc (jc S VG.t)).alloc (jc VC.Z VC.t)).alloc (jc VG.Z VG.t)):=O (by rw[Zo,ax,H]);have HM:=O K;have ZI:T (x3.heap.size=M+3):=O (by rw[Zo,jq,<-R]);clear H ax Zo K Q R f aa a U i C D l E F j p hT t V X hE u z ba B
 go_enter func13,ntmps13
 go_upto_region 1 with(first|(refine VC.made I I (G ?_))|(refine VG.made I I (G ?_)))
 rw[show((w.alloc (jc S 41)).alloc (jc VC.Z VC.t)).alloc (jc VG.Z VG.t)=x3 from HW.symm]
 try simp only[jq]
 try rw[show w.heap.size+1+1=w.heap.size+2 from I]
 rw[<-HM];clear HW;obtain⟨V,a⟩:=J (v8 b);rw[<-a]at au⊢;clear a;have f:=bV x3;obtain⟨x4,hx⟩:=J x3.drew;rw[<-hx]at f;have bq:=O hx;replace U7:=ae U7 f;replace Vn:=ae Vn f;replace bc:=ae bc f;replace HB:=ah HB f;have br:T (M+3<=x4.heap.size):=O (by rw[<-ZI];exact f.size);clear hx f ZI;refine jO ?_;refine uo (λt=>t.heap[M]?=A (jc S VG.t (0,0))) [0,1,2,3,4,5,8] [(6,jn),(7,jn),(9,jn),(10,jn),(11,ji),(12,ji),(13,ji),(14,ji)] 15 16 (.o 17 (.o 18 (.t 19 .done))) (PO x4 M S d V pl nl cl KA K1 c s) af af af af af L (λ_ _ _ _ h=>h) (by rw[<-bq];exact U7) ?hI ?hT ?hC ?h1 ?h2 ?hE ?h0
 case hI=>
  rintro j U b2 a W ⟨WE,T12,T16,T23,T24,T26,T27,T28,T29,T30,rfl,l,-⟩;exact av U7 l
 case h1=>
  rintro j b2 a W ⟨WE,T12,T16,T23,T24,T26,T27,T28,T29,T30,rfl,l,E,F,H,R,z,B⟩;refine qd (o:=_) I (λX u=>?_);rw[jr aj];refine gM VC.t I VC.Z VC.hal ?_;have f:=ao W (jc VC.Z VC.t);refine u _ _ ⟨ptr W.heap.size,T12,T16,T23,T24,T26,T27,T28,T29,T30,I,l.trans (f.mono l.size),E,F,H,λe=>?_,⟨λ_=>⟨_,I,jA _ _,l.size⟩,λh=>(by cases h)⟩,B.keep f⟩;obtain⟨q,D,K,r,m⟩:=R e;exact⟨q,D,K,r.keep λg p=>f.block g (m g p).2.1,λg p=>⟨(m g p).1,jL (m g p).2.1 f.size,(λe=>by injection e with e;injection e with e;injection e with e;have:=(m g p).2.1;omega),(m g p).2.2.2⟩⟩
 case h2=>
  rintro j U a W ⟨WE,T12,T16,T23,T24,T26,T27,T28,T29,T30,rfl,l,E,F,H,R,z,B⟩;refine qd (o:=_) I (λX u=>?_);rw[jr aj];refine gM VY.t I VY.Z VY.hal ?_;have f:=ao W (jc VY.Z VY.t);refine u _ _ ⟨WE,ptr W.heap.size,T16,T23,T24,T26,T27,T28,T29,T30,I,l.trans (f.mono l.size),E,F,H,λe=>?_,z.keep f,⟨λ_=>⟨_,I,jA _ _,l.size⟩,λh=>(by cases h)⟩⟩;obtain⟨q,D,K,r,m⟩:=R e;exact⟨q,D,K,r.keep λg p=>f.block g (m g p).2.1,λg p=>⟨(m g p).1,jL (m g p).2.1 f.size,(m g p).2.2.1,(λe=>by injection e with e;injection e with e;injection e with e;have:=(m g p).2.1;omega)⟩⟩
 case h0=>
  rw[<-bq]
  (refine nH (v:=jh S) I aj (λt Q=>dc VG.hu VG.hd (by rw[bn];exact VG.hi) I I Q) ?_;refine G ?_)
  iterate 2 (refine nH (v:=jd je (d:N)) I aj (λt Q=>by go_simp;try with_reducible rfl) ?_;refine G ?_)
  (refine nH (v:=jd je ((d:N)+2)) I aj (λt Q=>by have e:=wrap_small ((d:N)+2) Y Y;go_simp;try rw[e];try with_reducible rfl) ?_;refine G ?_)
  (refine nH (v:=jb pl nl cl) I aj (λt Q=>by go_simp;try with_reducible rfl) ?_;refine G ?_)
  iterate 2 (refine nH (v:=V) I aj (λt Q=>by go_simp;try with_reducible rfl) ?_;refine G ?_)
  exact⟨jm,jm,jm,jm,jm,jm,jm,jm,jm,jm,I,ms _ _,λh=>jt h L,λh=>jt h L,λh=>jt h L,λh=>jt h L,⟨λh=>(by cases h),λ_=>rfl⟩,⟨λh=>(by cases h),λ_=>rfl⟩⟩
 case hT=>
  rintro j i C U b2 a W ⟨WE,T12,T16,T23,T24,T26,T27,T28,T29,T30,rfl,l,E,F,H,R,z,B⟩
  rcases j with _ |_ |_ |_ |_ |_ |_ |_ |j
  iterate 4 (·simp at C)
  ·obtain rfl:i=11:=ak C.symm
   obtain⟨q,D,K,r,m⟩:=R Y;refine⟨_,T27,I,.inl ⟨by rfl,λt Q=>.inl (by go_simp;try with_reducible rfl)⟩,?_⟩;exact⟨WE,T12,T27,T23,T24,T26,T27,T28,T29,T30,I,l,λ_=>E Y,λ_=>F Y,λ_=>H Y,λ_=>⟨q,D,⟨K.1,λ_=>rfl,(λh=>jt h Y),(λh=>jt h Y),(λh=>jt h Y)⟩,r,m⟩,z,B⟩
  ·obtain rfl:i=12:=ak C.symm
   obtain⟨q,D,⟨rfl,ad,ay,a2,a4⟩,r,m⟩:=R Y;obtain rfl:=ad Y;refine⟨_,jh (aE c q).toArray,I,.inl ⟨by rfl,λt Q=>.inl (by go_simp;try with_reducible rfl)⟩,?_⟩;exact⟨WE,T12,_,T23,T24,T26,_,_,T29,T30,I,l,λ_=>E Y,λ_=>F Y,λ_=>H Y,λ_=>⟨q,D,⟨I,λ_=>rfl,λ_=>rfl,(λh=>jt h Y),(λh=>jt h Y)⟩,r,m⟩,z,B⟩
  ·obtain rfl:i=13:=ak C.symm
   obtain⟨q,D,⟨rfl,ad,ay,a2,a4⟩,r,m⟩:=R Y;obtain rfl:=ad Y;refine⟨_,jh s,I,.inl ⟨by rfl,λt Q=>.inl (by go_simp;try with_reducible rfl)⟩,?_⟩;exact⟨WE,T12,_,T23,T24,T26,_,T28,_,T30,I,l,λ_=>E Y,λ_=>F Y,λ_=>H Y,λ_=>⟨q,D,⟨I,λ_=>rfl,λ_=>ay Y,λ_=>rfl,(λh=>jt h Y)⟩,r,m⟩,z,B⟩
  ·obtain rfl:i=14:=ak C.symm
   obtain⟨q,D,⟨rfl,ad,ay,a2,a4⟩,r,m⟩:=R Y;obtain rfl:=ad Y;refine⟨_,jd je 0,I,.inl ⟨by rfl,λt Q=>.inl (by go_simp;try with_reducible rfl)⟩,?_⟩;exact⟨WE,T12,_,T23,T24,T26,_,T28,T29,_,I,l,λ_=>E Y,λ_=>F Y,λ_=>H Y,λ_=>⟨q,D,⟨I,λ_=>rfl,λ_=>ay Y,λ_=>a2 Y,λ_=>rfl⟩,r,m⟩,z,B⟩
  simp at C
 case hC=>
  rintro j i C U b2 a W ⟨WE,T12,T16,T23,T24,T26,T27,T28,T29,T30,rfl,l,E,F,H,R,z,B⟩
  rcases j with _ |_ |_ |_ |_ |_ |_ |_ |j
  ·obtain rfl:i=6:=ak C.symm
   refine qd (o:=_) I (λX u=>?_);go_simp;refine(au W).mono ?_;rintro e t ⟨rfl,f⟩;exact u _ _ ⟨WE,T12,T16,_,T24,T26,T27,T28,T29,T30,I,l.trans (f.mono l.size),λ_=>rfl,(λh=>jt h Y),(λh=>jt h Y),λe=>jt e Y,z.keep f,B.keep f⟩
  ·obtain rfl:i=7:=ak C.symm
   refine qd (o:=_) I (λX u=>?_);go_simp;refine(bp W).mono ?_;rintro e t ⟨rfl,f⟩;exact u _ _ ⟨WE,T12,T16,_,_,T26,T27,T28,T29,T30,I,l.trans (f.mono l.size),λ_=>rfl,λ_=>rfl,(λh=>jt h Y),λe=>jt e Y,z.keep f,B.keep f⟩
  ·obtain rfl:i=9:=ak C.symm
   refine qd (o:=_) I (λX u=>?_);go_simp;refine(au W).mono ?_;rintro e t ⟨rfl,f⟩;exact u _ _ ⟨WE,T12,T16,_,_,_,T27,T28,T29,T30,I,l.trans (f.mono l.size),λ_=>rfl,λ_=>rfl,λ_=>rfl,λe=>jt e Y,z.keep f,B.keep f⟩
  ·obtain rfl:i=10:=ak C.symm
   obtain rfl:=E Y;obtain rfl:=F Y;obtain rfl:=H Y;refine qd (o:=_) I (λX u=>?_);go_simp;refine(bo W (HB.trans (l.mono HB.size))).mono ?_;rintro e t ⟨⟨q,rfl,r⟩,f⟩;exact u _ _ ⟨WE,T12,T16,_,_,_,_,T28,T29,T30,I,l.trans (f.mono l.size),λ_=>rfl,λ_=>rfl,λ_=>rfl,λ_=>⟨q,_,⟨I,(λh=>jt h Y),(λh=>jt h Y),(λh=>jt h Y),(λh=>jt h Y)⟩,r,λg p=>⟨jE l.size p.1,p.2,z.ne p.1,B.ne p.1⟩⟩,z.keep f,B.keep f⟩
  iterate 5 (·simp at C)
 rintro a W ⟨WE,T12,T16,T23,T24,T26,T27,T28,T29,T30,rfl,l,E,F,H,R,z,B⟩;obtain⟨q,D,⟨rfl,ad,ay,a2,a4⟩,r,m⟩:=R L;obtain rfl:=ad L;obtain rfl:=ay L;obtain rfl:=a2 L;obtain rfl:=a4 L;obtain rfl:=E L;obtain rfl:=F L;obtain rfl:=H L;obtain⟨C,rfl,hC,bi⟩:=z.1 I;obtain⟨K,rfl,u,bs⟩:=B.1 I;have bk:C≠K:=by
  rintro rfl;rw[hC]at u;simp[VC,VY]at u
 have bd:w.heap.size<=x4.heap.size:=HB.size;have bl:=br.out;obtain⟨i,j⟩:=J ((aE c q).toArray);have a1:T (i.size=VC.n):=O (by rw[j,jv];exact dl _ _ r.plen r.clen);have bu:T (i.all (·.oneCell')=ji):=O (by
  rw[j,jS];exact λa3 hu=>mC r a3 (ak hu))
 have UK:=O (jU W C _ i _ _ hC);have bv:=(js W C K i (Ne.symm bk)).trans u;have UH:=O ((js (W.setRow C i) K C s bk).trans UK);have bf:∀k,k<x4.heap.size->((W.setRow C i).setRow K s).heap[k]?=x4.heap[k]?:=λk n=>(js _ K k s Y).trans ((js W C k i Y).trans (l.block k n))
 have bg:T (((W.setRow C i).setRow K s).heap[M]?=A (jc S VG.t (0,0))):=O ((bf M Y).trans U7);have a5:T (((W.setRow C i).setRow K s).heap[M+1]?=A (jc VC.Z VC.t (0,0))):=O ((bf (M+1) Y).trans Vn);have a6:T (((W.setRow C i).setRow K s).heap[M+2]?=A (jc VG.Z VG.t (0,0))):=O ((bf (M+2) Y).trans bc);have Ur:T (jl w w ((W.setRow C i).setRow K s)):=O (ow (ow (HB.trans (l.mono bd)) (jE bd bi) i) (jE bd bs) s);have bm:((W.setRow C i).setRow K s).heap.size=W.heap.size:=by rw[setRow_size,setRow_size]
 have bh:T (aW (λk=>x4.heap.size<=k/\k<((W.setRow C i).setRow K s).heap.size) ((W.setRow C i).setRow K s) c q):=O ((r.keep λg p=>(js _ K g s (λe=>(m g p).2.2.2 (by rw[e]))).trans (js W C g i (λe=>(m g p).2.2.1 (by rw[e])))).mono λg p=>⟨(m g p).1,by rw[bm];exact(m g p).2.1⟩);have Vq:T (C<((W.setRow C i).setRow K s).heap.size):=O (by rw[bm];exact(jB.1 hC).1);have bw:=O j;rw[<-j];refine aF I (λX U=>?_);rw[jr aj];refine jR VC.t _ _ I C i I I VC.t VC.Z hC (by rw[a1];exact VC.hi) (VC.hZ.trans a1.symm) bu ?_;refine U _ _ ((js W C M i Y).trans ((l.block M Y).trans U7)) λ_=>?_
 clear U;refine G ?_;refine aF I (λX U=>?_);rw[jr aj];refine jR VY.t _ _ I K s I I VY.t VY.Z bv (by rw[bb.1];exact VY.hi) (VY.hZ.trans bb.1.symm) bb.2 ?_;refine U _ _ bg.out λ_=>?_
 clear U;refine G ?_;have UN:=O bi;generalize(W.setRow C i).setRow K s=y1 at UH bg a5 a6 Ur bh Vq⊢;clear hC u bi bs l E F H R ad ay a2 a4 z B r m bk j bv bf bm UK U7 Vn bc bo au bp bb bd bl;refine aO ?_;refine o1 ?_
 go_wp2_with (first|(refine VG.loadA aj I I S bn bg (G ?_))|(refine VC.loadA aj I I i a1 UH (G ?_)))
 have au:=bA y1 q Ur (bh.mono λk n=>n.2);rw[<-bw]at au;refine au.mono ?_;rintro e y2 ⟨⟨x,y,rfl,Z5,bb,bc⟩,f⟩;obtain⟨j,p⟩:=J ((aB NG x y).toArray);have Z2:T (j.size=VG.n):=O (by rw[p,jv];exact eH Z5.llen);have Vv:T (j.all (·.oneCell')=ji):=O (by rw[p,jS];exact λa3 hu=>mc Z5 a3 (ak hu));have bm:=O p;have bi:=O (dz.of Z5 bb bc);have bk:T (aW (λk=>x4.heap.size<=k/\k<y2.heap.size) y2 c q):=O ((bh.keep λk n=>f.block k n.2).mono λk n=>⟨n.1,jL n.2 f.size⟩);have HF:T (Fr y1.heap.size x/\Fr y1.heap.size y):=O ⟨bb,bc⟩;replace UH:=ae UH f;replace a5:=ae a5 f;replace a6:=ae a6 f;have Ut:=ah Ur f;have bd:T (x4.heap.size<=y1.heap.size/\y1.heap.size<=y2.heap.size):=O ⟨by have:=Vq.out;have:=UN.out;omega,f.size⟩;rw[<-p];clear au Z5 bb bc p f bg Ur bh
 go_upto_region 3 with(first|(refine VG.made I I (G ?_))|(refine VG.first I I I j I Z2 Vv (G ?_)))
 obtain⟨y3,bx,hx,hb,WC,f⟩:=dh y2 j VG.t;rw[<-hx,<-hb];have aa:=bV y3;obtain⟨p,bb⟩:=J y3.drew;rw[<-bb]at aa;have au:jl y2 y2 p:=f.trans (aa.mono f.size);have bc:=av WC aa;have bf:=av UH au;have ax:=av a5 au;have Zo:=av a6 au;refine jO ?_;refine fP (λt=>t.heap[C]?=A (jc i VC.t (0,0))/\t.heap[bx]?=A (jc j VG.t (0,0))) 10 (.t 0 (.t 1 (.t 2 (.t 3 (.t 4 (.t 5 (.t 6 (.t 7 (.o 8 (.o 9 (.o 10 .done))))))))))) af af af af L (λ_ _ _ _ h=>h) (by rw[<-bb];exact⟨bf,bc⟩) ?_;rw[<-bb];have bg:bx=y2.heap.size:=hb;have bh:T (aW (λk=>x4.heap.size<=k/\k<y2.heap.size) p c q):=O (bk.keep λk n=>au.block k n.2);have bo:T (dz (λk=>y1.heap.size<=k/\k<y2.heap.size) p NG x y):=O (bi.keep λk n=>au.block k n.2);have UA:=ah Ut au;have WQ:=O au.size;clear hx hb f aa bb au WC bk bi Ut UH a5 a6
 (refine cJ (v:=jh i) I aj (λt Q=>dc VC.hu VC.hd (by rw[a1];exact VC.hi) I I Q.1) ?_;refine G ?_)
 (refine cJ (v:=jh j) I aj (λt Q=>dc VG.hu VG.hd (by rw[Z2];exact VG.hi) I I Q.2) ?_;refine G ?_)
 iterate 6 refine co ?_
 have bl:=br.out;have VB:=UN.out;have ba:=Vq.out;have a6:=bd.1;have Q:C≠M+1:=Y;have n2:C≠M+2:=Y;have n3:bx≠M+1:=by have:=bd.2;omega
 have n4:bx≠M+2:=by have:=bd.2;omega
 have r1:=(js p (M+1) C i Q).trans bf;have r2:=(js p (M+1) bx i n3).trans bc;have r3:=jU p (M+1) _ i _ _ ax;have h:=(js p (M+1) (M+2) i Y).trans Zo;refine cV I (λX U=>?_);rw[jr aj];refine jR VC.t _ _ I (M+1) i I I VC.t VC.Z ax (by rw[a1];exact VC.hi) (VC.hZ.trans a1.symm) bu ?_;refine U _ _ ⟨r1,r2⟩ λ_=>?_
 clear U;refine G ?_;have s1:=(js (p.setRow (M+1) i) (M+2) C j n2).trans r1;have s2:=(js (p.setRow (M+1) i) (M+2) bx j n4).trans r2;have Vi:=O ((js (p.setRow (M+1) i) (M+2) (M+1) j Y).trans r3);have UO:=O (jU (p.setRow (M+1) i) (M+2) _ j _ _ h);refine cV I (λX U=>?_);rw[jr aj];refine jR VG.t _ _ I (M+2) j I I VG.t VG.Z h (by rw[Z2];exact VG.hi) (VG.hZ.trans Z2.symm) Vv ?_;refine U _ _ ⟨s1,s2⟩ λ_=>?_
 clear U;refine G ?_;refine nC I L af (λX u=>?_);go_simp;refine u _ _ ?_;clear u;refine G ?_;refine fc ?_;have t:∀k,M+3<=k->((p.setRow (M+1) i).setRow (M+2) j).heap[k]?=p.heap[k]?:=λk n=>(js _ _ k _ Y).trans (js _ _ k _ Y)
 have bb:w.heap.size=M:=HM.symm;have U:T (jl w w ((p.setRow (M+1) i).setRow (M+2) j)):=O (ow (ow UA Y i) Y j);have X:((p.setRow (M+1) i).setRow (M+2) j).heap.size=p.heap.size:=by rw[setRow_size,setRow_size]
 have aa:T (aW (λk=>w.heap.size<=k/\k<((p.setRow (M+1) i).setRow (M+2) j).heap.size) ((p.setRow (M+1) i).setRow (M+2) j) c q):=O ((bh.keep λk n=>t k (cT n.1)).mono λk n=>⟨by have:=n.1;omega,by rw[X];exact jL n.2 WQ⟩);have au:T (bL ((p.setRow (M+1) i).setRow (M+2) j) NG x y):=O (bo.keep λk n=>t k (cT n.1)).grp;have a5:T (Fr w.heap.size x/\Fr w.heap.size y):=O ⟨HF.1.mono Y,HF.2.mono Y⟩;clear t bb X s1 s2 r1 r2 r3 h Q n2 n3 n4 bf bc ax Zo bl VB ba a6 bg;generalize(p.setRow (M+1) i).setRow (M+2) j=h at Vi UO U aa au⊢;refine‹∀(a:Act) (w:jj),Code.wp jo Code.ret (bodyPost jo _ P) a w->_›_ _ ?_;refine wp_ret ?_;show bodyPost _ _ P .ret _ _;refine qo (FW I _ _ (M+1) (M+2) VC.t VG.t i j (0,0) (0,0) _ _ I I Vi UO p6 I (by rw[a1];exact VC.hi) qU I (by rw[Z2];exact VG.hi)) I (HP _ _ ⟨q,x,y,by rw[bw,bm];rfl,aa,au,a5.1,a5.2,U⟩)
theorem CX(x y:N):cC x y<0↔x<y:=by
 unfold cC
 split
 ·constructor<;>intro<;>first|assumption|decide
 split
 ·constructor
  ·intro h;exact jt h L
  intro h;omega
 constructor
 ·intro h;exact jt h L
 intro h;omega
theorem Bs(x y:N):cC x y=0↔x=y:=by
 unfold cC
 split
 ·constructor
  ·intro h;exact jt h L
  intro h;omega
 split
 ·constructor
  ·intro h;exact jt h L
  intro h;omega
 constructor
 ·intro h;omega
 intro h;rfl
theorem KN{b:aM}(h:x.com.author≠b.com.author):(kQ x b<0↔x.since<b.since\/x.since=b.since/\x.com.author<b.com.author):=by
 unfold kQ
 by_cases d:x.since=b.since
 ·rw[jF (by rw[(Bs _ _).2 d];exact λh=>h I),jr (λe=>h ((Bs _ _).1 e)),CX]
  constructor
  ·exact λc=>.inr ⟨d,c⟩
  rintro(c|c)
  ·omega
  exact c.2
 rw[jr (λe=>d ((Bs _ _).1 e)),CX]
 constructor
 ·exact .inl
 rintro(c|c)
 ·exact c
 exact jt c.1 d
def wN(g:Grp)(a b:Cmt):Prop:=eV g a.author<eV g b.author\/eV g a.author=eV g b.author/\a.author<b.author
noncomputable def cO(g:Grp)(c:Cmt)(i:ja):aM:=⟨i,c,aH c,eV g c.author,aC g c⟩
theorem Ni(x y:aM):[x,y].mergeSort leC=if leC x y=ji then [x,y]else [y,x]:=by
 cases h:leC x y with
 |true=>simp[xi,List.MergeSort.Internal.splitInTwo,List.merge,h]
 |false=>simp[xi,List.MergeSort.Internal.splitInTwo,List.merge,h]
theorem JO{y:aM}(h:x.com.author≠y.com.author)(a:oY x.com y.com.author=ji):([x,y].foldl gz ([],jf)).2=A x:=by
 have b:gz ([],jf) x=([x],A x):=by
  unfold gz;rw[jF (by unfold rN;rw[List.any_nil];decide)];unfold wj;rw[jr I];rfl
 have c:gz ([x],A x) y=([x],A x):=by
  unfold gz;rw[jr];unfold rN;rw[List.any_cons,a,bne_iff_ne.2 h];rfl
 rw[r7,r7,r8,b,c]
noncomputable def tO(l:jg Cmt)(S:jg aM)(k:ja):jg aM:=match S[k]? with|none=>S|some c=>S++fg c.leads l
noncomputable def eC(l:jg Cmt)(c:aM):ja->jg aM
 |0=>[c]
 |k+1=>tO l (eC l c k) k
noncomputable def sJ(l:jg Cmt)(c:aM):jg aM:=eC l c l.length
theorem GG(h:S.length<=b):tO d S b=S:=by
 unfold tO;rw[List.getElem?_eq_none h]
theorem pZ{l:jg Cmt}{k:ja}{c:aM}(h:S[k]?=A c):tO l S k=S++fg c.leads l:=by
 unfold tO;rw[h]
structure fh(l:jg Cmt)(g:Grp)(c:aM):Prop where
 ok:fO g l c
 par:c.com.parent=g.last
 least:∀j,j<c.ix->aH (aQ l j)≠c.id
theorem fh.ofU(h:x∈eR a d):fh d a x:=by
 obtain⟨g,b,-,l⟩:=oy h;exact⟨g,b,l⟩
theorem fh.com{l:aM}(h:fh d a x)(b:fh d g' l)(e:x.id=l.id):x.com=l.com:=by
 have f:x.ix=l.ix:=by
  rcases xj x.ix l.ix with g|g|g
  ·exact jt (by rw[<-h.ok.com,<-h.ok.id];exact e) (b.least _ g)
  ·exact g
  exact jt (by rw[<-b.ok.com,<-b.ok.id];exact e.symm) (h.least _ g)
 rw[h.ok.com,b.ok.com,f]
theorem fh.last{l:jg Cmt}{g:Grp}{c:aM}(h:fh l g c):c.leads.last=c.id:=by rw[h.ok.leads,vV,h.ok.id]
theorem fh.epoch(h:fh d a x):x.leads.epoch=a.epoch+1/\x.com.epoch=a.epoch+1:=by
 have g:=(nS h.ok).ep;exact⟨by rw[h.ok.leads,ig];exact g,g⟩
theorem KZ(g:Grp)(l:jg Cmt):((eR g l).map aM.id).Nodup:=by
 unfold eR;have n:(bW l l.length).Nodup:=by
  unfold bW;exact(List.nodup_range).filter _
 have key:∀(a:jg ja),a.Nodup->(∀i∈a,i∈bW l l.length)->((a.filterMap (eW g l)).map aM.id).Nodup:=by
  intro a
  induction a with
  |nil=>intro _ _;rw[qO,jV];exact List.nodup_nil
  |cons i a o=>
   intro f h;rw[xk]at f;have k:=o f.2 λj e=>h j (qA _ e)
   rw[jT]
   cases hc:eW g l i with
   |none=>exact k
   |some c=>
    dsimp only;rw[jY,xk];refine⟨λp=>?_,k⟩;obtain⟨d,q,he⟩:=qf.1 p;obtain⟨j,e,r⟩:=List.mem_filterMap.1 q;obtain⟨y,s,t,-⟩:=tQ hc;obtain⟨z,u,v,-⟩:=tQ r;have w:=(oS.1 (h i (qz ..))).2;have x:=(oS.1 (h j (qA _ e))).2;have m:aH (aQ l j)=aH (aQ l i):=by rw[<-u,<-v,<-s,<-t];exact he
    rcases xj i j with b|b|b
    ·exact x i b m.symm
    ·exact f.1 (b▸e)
    exact w j b m
 exact key _ n λi b=>b
theorem Qj(g:Grp)(l:jg Cmt):((fg g l).map aM.id).Nodup:=((List.mergeSort_perm (eR g l) leC).map aM.id).nodup_iff.2 (KZ g l)
structure tG(l:jg Cmt)(a:Grp)(b:aM)(S:jg aM)(k:ja):Prop where
 head:S[0]?=A b
 par:∀i c,S[i]?=A c->0<i->∃n x,n<k/\n<i/\S[n]?=A x/\fh l x.leads c
 all:∀n x,n<k->S[n]?=A x->∀c∈eR x.leads l,c∈S
 ids:(S.map aM.id).Nodup
 ep:∀c∈S,a.epoch+1<=c.leads.epoch
theorem tG.at{l:jg Cmt}{b:Grp}{d:aM}{k:ja}(h:tG l b d S k)(e:fh l b d){i:ja}{c:aM}(a:S[i]?=A c):∃g,fh l g c/\(i=0->g=b):=by
 rcases i with _|i
 ·rw[h.head]at a
  injection a with a
  exact⟨b,by rw[<-a];exact e,λ_=>rfl⟩
 obtain⟨n,x,-,-,-,f⟩:=h.par _ c a (qZ i);exact⟨_,f,λh=>jt h (Nat.succ_ne_zero i)⟩
theorem Qy(h:(S.map aM.id).Nodup){i j:ja}{c d:aM}(a:S[i]?=A c)(b:S[j]?=A d)(e:c.id=d.id):i=j:=by
 have f:(S.map aM.id)[i]?=A c.id:=by rw[qe,a];rfl
 have g:(S.map aM.id)[j]?=A c.id:=by rw[qe,b,Option.map_some,e]
 obtain⟨m,k⟩:=jW.1 f;obtain⟨n,l⟩:=jW.1 g;exact(List.getElem_inj h).1 (k.trans l.symm)
theorem BI(p:fh d a x):∀k,tG d a x (eC d x k) k
 |0=>by
  rw[eC];refine⟨by simp,?_,λn s t=>jt t (xl n),by simp,?_⟩
  ·intro i c h f
   cases i with
   |zero=>exact jt f (qK 0)
   |succ i=>simp at h
  intro c h;rw[jN]at h;rw[h,(p.epoch).1];omega
 |k+1=>by
  have h:=BI p k;rw[eC];generalize eC d x k=S at h⊢
  cases hx:S[k]? with
  |none=>
   have v:=List.getElem?_eq_none_iff.1 hx;rw[GG v];refine⟨h.head,?_,?_,h.ids,h.ep⟩
   ·intro i c f q
    obtain⟨n,s,j,r⟩:=h.par i c f q;exact⟨n,s,by omega,r⟩
   intro n s t b c o;have:=(jW.1 b).1;exact h.all n s Y b c o
  |some s=>
   rw[pZ hx];have w:=(jW.1 hx).1;obtain⟨R,D,-⟩:=h.at p hx;refine⟨by rw[qb Y];exact h.head,?_,?_,?_,?_⟩
   ·intro i c f q
    by_cases v:i<S.length
    ·rw[qb v]at f
     obtain⟨n,y,j,r,z,b⟩:=h.par i c f q;exact⟨n,y,by omega,r,by rw[qb Y];exact z,b⟩
    rw[List.getElem?_append_right Y]at f;exact⟨k,s,Nat.lt_succ_self k,by omega,by rw[qb w];exact hx,fh.ofU (sE.1 (j4 f))⟩
   ·intro n y t m c o
    by_cases v:n=k
    ·rw[v,qb w,hx]at m
     injection m with m
     rw[<-m]at o;exact xd _ (sE.2 o)
    have b:n<k:=Y;rw[qb Y]at m;exact xa _ (h.all n y b m c o)
   ·rw[n0,List.nodup_append]
    refine⟨h.ids,Qj _ _,?_⟩;intro v E b F e;obtain⟨c,H,rfl⟩:=qf.1 E;obtain⟨l,K,rfl⟩:=qf.1 F;have u:=fh.ofU (sE.1 K);obtain⟨i,f⟩:=xm.1 H;obtain⟨g,B,M⟩:=h.at p f;have C:=B.com u e
    by_cases q:i=0
    ·have P:=M q
     subst P;have j:=B.epoch.2;rw[C,u.epoch.2]at j;have r:=h.ep s (j4 hx);omega
    obtain⟨n,y,t,-,m,P⟩:=h.par i c f Y;obtain⟨U,Q,-⟩:=h.at p m;have j:y.id=s.id:=by rw[<-Q.last,<-D.last,<-P.par,<-u.par,C]
    have:=Qy h.ids m hx j;omega
   intro c o
   rcases j3.1 o with j|j
   ·exact h.ep c j
   have r:=(fh.ofU (sE.1 j)).epoch.1;have z:=h.ep s (j4 hx);omega
theorem Q4(h:(S.map aM.id).Nodup)(f:∀c∈S,∃g,fh d g c):S.length<=d.length:=by
 have j:(S.map aM.ix).Nodup:=by
  refine xn.2 ?_;refine List.Pairwise.imp_of_mem ?_ (xn.1 h);intro a b k m n e;obtain⟨o,l⟩:=f a k;obtain⟨gb,i⟩:=f b m;exact n (by rw[l.ok.id,i.ok.id,l.ok.com,i.ok.com,e])
 have b:S.map aM.ix⊆r6 d.length:=by
  intro i a;obtain⟨c,e,rfl⟩:=qf.1 a;obtain⟨g,l⟩:=f c e;exact List.mem_range.2 l.ok.lt
 have a:=List.Nodup.length_le_of_subset j b;rw[jy,List.length_range]at a;exact a
theorem tG.len(h:tG d a x S b)(l:fh d a x):S.length<=d.length:=by
 refine Q4 h.ids λc e=>?_
 obtain⟨i,f⟩:=xm.1 e;obtain⟨g,j,-⟩:=h.at l f;exact⟨g,j⟩
theorem Gm(h:(eC d x b).length<=b):∀m,b<=m->eC d x m=eC d x b
 |0,k=>by
  obtain rfl:b=0:=Y
  rfl
 |m+1,k=>by
  by_cases e:b=m+1
  ·rw[e]
  have c:=Gm h m Y;rw[eC,c,GG Y]
theorem Nm(l:fh d a x){k:ja}(h:(eC d x k).length<=k)(c:k<=d.length):sJ d x=eC d x k:=Gm h _ c
section
theorem mf{g:Grp}{l:jg Cmt}{i:ja}(h:cN g (aQ l i)≠0):eW g l i=jf:=by
 unfold eW;rw[jF λe=>h e.2]
theorem zO{g:Grp}{l:jg Cmt}{i:ja}{c:Cmt}(e:aQ l i=c)(h:cN g c=0):eW g l i=A (cO g c i):=by
 unfold eW cO;rw[e,jr ⟨(fQ.1 h).par,h⟩]
theorem mj{g:Grp}{c:Cmt}(h:c.epoch≠g.epoch+1):cN g c≠0:=λe=>h (fQ.1 e).ep
theorem wE{a b c d:Cmt}(k:aH a≠aH b)(l:aH a≠aH c)(m:aH a≠aH d)(n:aH b≠aH c)(o:aH b≠aH d)(p:aH c≠aH d):bW [a,b,c,d] 4=[0,1,2,3]:=by
 have q:bW [a,b,c,d] 0=[]:=I;have f:aQ [a,b,c,d] 0=a:=I;have g:aQ [a,b,c,d] 1=b:=I;have h:aQ [a,b,c,d] 2=c:=I;have i:aQ [a,b,c,d] 3=d:=I;have r:∀j,j<1->aH (aQ [a,b,c,d] j)≠aH (aQ [a,b,c,d] 1):=λj e=>by
  obtain rfl:j=0:=Y;rw[f,g];exact k
 have s:∀j,j<2->aH (aQ [a,b,c,d] j)≠aH (aQ [a,b,c,d] 2):=λj e=>by
  rcases(by omega:j=0\/j=1)with rfl|rfl
  ·rw[f,h];exact l
  rw[g,h];exact n
 have t:∀j,j<3->aH (aQ [a,b,c,d] j)≠aH (aQ [a,b,c,d] 3):=λj e=>by
  rcases(by omega:j=0\/j=1\/j=2)with rfl|rfl|rfl
  ·rw[f,i];exact m
  ·rw[g,i];exact o
  rw[h,i];exact p
 rw[oX,jr t,oX,jr s,oX,jr r,oX,jr (λj e=>jt e (xl j)),q]
 rfl
structure dX(fol:N)(y s o f:Cmt):Prop where
 ys:aH y≠aH s
 yo:aH y≠aH o
 yf:aH y≠aH f
 so:aH s≠aH o
 sf:aH s≠aH f
 of:aH o≠aH f
 hf:cN (aI fol) f=0
 hs:cN (aC (aI fol) f) s=0
 hy:cN (aC (aC (aI fol) f) s) y=0
 ho:cN (aC (aC (aI fol) f) s) o=0
 auth:o.author≠y.author
 ahead:wN (aC (aC (aI fol) f) s) o y
 ro:oY o y.author=ji
section
variable {fol:N} {y s o f:Cmt}
theorem dX.eps(h:dX fol y s o f):f.epoch=1/\s.epoch=2/\y.epoch=3/\o.epoch=3:=by
 have d:f.epoch=(aI fol).epoch+1:=(fQ.1 h.hf).ep;have a:=(fQ.1 h.hs).ep;have b:=(fQ.1 h.hy).ep;have c:=(fQ.1 h.ho).ep;rw[ig]at a b c;have e:(aI fol).epoch=0:=I;exact⟨by omega,by omega,by omega,by omega⟩
theorem dX.first(h:dX fol y s o f):eS fol (aH f) [y,s,o,f]=A ⟨3,f,aH f,0,aC (aI fol) f⟩:=by
 have b:aQ [y,s,o,f] 0=y:=I;have c:aQ [y,s,o,f] 1=s:=I;have d:aQ [y,s,o,f] 2=o:=I;have a:aQ [y,s,o,f] 3=f:=I;unfold eS;rw[show [y,s,o,f].length=4 from I,wE h.ys h.yo h.yf h.so h.sf h.of,
  r9 (by rw[b,decide_eq_true_eq];exact h.yf),r9 (by rw[c,decide_eq_true_eq];exact h.sf),
  r9 (by rw[d,decide_eq_true_eq];exact h.of),List.find?_cons_of_pos (by rw[a,decide_eq_true_eq]),Option.bind_some,a,jr h.hf]
theorem dX.cand1(h:dX fol y s o f):eR (aC (aI fol) f) [y,s,o,f]=[cO (aC (aI fol) f) s 1]:=by
 obtain⟨e,g,i,j⟩:=h.eps;have a:cN (aC (aI fol) f) (aQ [y,s,o,f] 0)≠0:=mj (c:=y) (by rw[ig];omega);have b:cN (aC (aI fol) f) (aQ [y,s,o,f] 2)≠0:=mj (c:=o) (by rw[ig];omega);have d:cN (aC (aI fol) f) (aQ [y,s,o,f] 3)≠0:=mj (c:=f) (by rw[ig];omega);unfold eR;rw[show [y,s,o,f].length=4 from I,wE h.ys h.yo h.yf h.so h.sf h.of,jT,mf a,jT,zO (c:=s) I h.hs,jT,mf b,
  jT,mf d,qO]
theorem dX.cand2(h:dX fol y s o f):eR (aC (aC (aI fol) f) s) [y,s,o,f]=[cO (aC (aC (aI fol) f) s) y 0,cO (aC (aC (aI fol) f) s) o 2]:=by
 obtain⟨d,e,g,i⟩:=h.eps;have a:cN (aC (aC (aI fol) f) s) (aQ [y,s,o,f] 1)≠0:=mj (c:=s) (by rw[ig];omega);have b:cN (aC (aC (aI fol) f) s) (aQ [y,s,o,f] 3)≠0:=mj (c:=f) (by rw[ig];omega);unfold eR;rw[show [y,s,o,f].length=4 from I,wE h.ys h.yo h.yf h.so h.sf h.of,jT,zO (c:=y) I h.hy,jT,mf a,jT,zO (c:=o) I h.ho,
  jT,mf b,qO]
theorem dX.cand3(h:dX fol y s o f){g:Grp}(i:g.epoch=3):eR g [y,s,o,f]=[]:=by
 obtain⟨j,k,l,m⟩:=h.eps;have a:cN g (aQ [y,s,o,f] 0)≠0:=mj (c:=y) Y;have b:cN g (aQ [y,s,o,f] 1)≠0:=mj (c:=s) Y;have d:cN g (aQ [y,s,o,f] 2)≠0:=mj (c:=o) Y;have e:cN g (aQ [y,s,o,f] 3)≠0:=mj (c:=f) Y;unfold eR;rw[show [y,s,o,f].length=4 from I,wE h.ys h.yo h.yf h.so h.sf h.of,jT,mf a,jT,mf b,jT,mf d,
  jT,mf e,qO]
theorem dX.list2(h:dX fol y s o f):fg (aC (aC (aI fol) f) s) [y,s,o,f]=[cO (aC (aC (aI fol) f) s) o 2,cO (aC (aC (aI fol) f) s) y 0]:=by
 have a:(kQ (cO (aC (aC (aI fol) f) s) o 2) (cO (aC (aC (aI fol) f) s) y 0)<0)↔wN (aC (aC (aI fol) f) s) o y:=by
  rw[KN (by unfold cO;exact h.auth)];unfold cO wN;exact Iff.rfl
 unfold fg;rw[h.cand2,Ni,jF];unfold leC;rw[qc (a.2 h.ahead)]
 decide
theorem dX.win1(h:dX fol y s o f):dH (aC (aI fol) f) [y,s,o,f]=A (cO (aC (aI fol) f) s 1):=by
 unfold dH fg;rw[h.cand1,xo,r7,r8];unfold gz;rw[jF (by unfold rN;rw[List.any_nil];decide)];unfold wj;rw[jr I]
theorem dX.win2(h:dX fol y s o f):dH (aC (aC (aI fol) f) s) [y,s,o,f]=A (cO (aC (aC (aI fol) f) s) o 2):=by
 unfold dH;rw[h.list2];exact JO (x:=cO (aC (aC (aI fol) f) s) o 2) (y:=cO (aC (aC (aI fol) f) s) y 0) h.auth h.ro
theorem dX.win3(h:dX fol y s o f){g:Grp}(a:g.epoch=3):dH g [y,s,o,f]=jf:=by
 unfold dH fg;rw[h.cand3 a,xq,r8]
theorem rI(g:Grp)(c:Cmt)(i:ja):(cO g c i).leads=aC g c:=by unfold cO;dsimp only
theorem dX.chain(h:dX fol y s o f):dA fol (aH f) [y,s,o,f]=[⟨3,f,aH f,0,aC (aI fol) f⟩,cO (aC (aI fol) f) s 1,cO (aC (aC (aI fol) f) s) o 2]:=by
 obtain⟨c,d,e,a⟩:=h.eps;have b:(cO (aC (aC (aI fol) f) s) o 2).leads.epoch=3:=by rw[rI,ig];exact a
 rw[pQ,h.first];dsimp only;rw[nG];dsimp only;rw[h.win1];dsimp only;rw[nG,rI,h.win2];dsimp only;rw[nG,h.win3 b]
theorem dX.all(h:dX fol y s o f):sJ [y,s,o,f] ⟨3,f,aH f,0,aC (aI fol) f⟩=[⟨3,f,aH f,0,aC (aI fol) f⟩,cO (aC (aI fol) f) s 1,cO (aC (aC (aI fol) f) s) o 2,cO (aC (aC (aI fol) f) s) y 0]:=by
 obtain⟨j,l,b,d⟩:=h.eps;have e:fg (aC (aI fol) f) [y,s,o,f]=[cO (aC (aI fol) f) s 1]:=by unfold fg;rw[h.cand1,xo]
 have a:∀g:Grp,g.epoch=3->fg g [y,s,o,f]=[]:=λg i=>by unfold fg;rw[h.cand3 i,xq]
 have s1:eC [y,s,o,f] ⟨3,f,aH f,0,aC (aI fol) f⟩ 1=[⟨3,f,aH f,0,aC (aI fol) f⟩,cO (aC (aI fol) f) s 1]:=by
  rw[eC,eC,pZ (c:=⟨3,f,aH f,0,aC (aI fol) f⟩) I];dsimp only;rw[e];rfl
 have s2:eC [y,s,o,f] ⟨3,f,aH f,0,aC (aI fol) f⟩ 2=[⟨3,f,aH f,0,aC (aI fol) f⟩,cO (aC (aI fol) f) s 1,cO (aC (aC (aI fol) f) s) o 2,cO (aC (aC (aI fol) f) s) y 0]:=by
  rw[eC,s1,pZ (c:=cO (aC (aI fol) f) s 1) I,rI,h.list2];rfl
 unfold sJ;show eC _ _ 4=_;rw[eC,eC,s2,pZ (k:=2) (c:=cO (aC (aC (aI fol) f) s) o 2) I,a _ (by rw[rI,ig];exact d),qh,
  pZ (k:=3) (c:=cO (aC (aC (aI fol) f) s) y 0) rfl,a _ (by rw[rI,ig];exact b),qh]
end
end
theorem Oz:bP 4:=by
 refine⟨by decide,by decide,?_⟩;rw[<-wu _ QN 62 L]
 decide+kernel
theorem SU:bP 16:=by
 refine⟨by decide,by decide,?_⟩;rw[<-wu _ QN 62 L]
 decide+kernel
theorem Ny(a:0<=f)(b:f<512)(x:N):lD (512+f) x=decide (x∈(512+f)::bU f):=by
 by_cases h:x∈(512+f)::bU f
 ·rw[qc h,ue ((pf f a b x).1 h)]
 rw[decide_eq_false h,En (λc=>h ((pf f a b x).2 c))]
def kW(t:jg (N×N))(d:N):jg (N×N):=t.filter λe=> !decide (e.1∈(512+d)::bU d)
theorem za(a:0<=f)(b:f<512)(t:jg (N×N)):dL t f=kW t f:=by
 unfold dL kW;refine List.filter_congr λe _=>?_
 rw[Ny a b]
def uZ(b:jg (N×N))(d:N)(l:jg N):ja->jg (N×N)
 |0=>b
 |k+1=>eo ((512+d)/2^k,l.getD k 0) (uZ b d l k)
theorem D8(t:jg (N×N))(d:N)(l:jg N):∀k,eI t d l k=uZ (dL t d) d l k
 |0=>rfl
 |k+1=>by unfold eI uZ;rw[D8 t d l k]
def pT:jg (N×N)->jC
 |[]=>ji
 |[_]=>ji
 |x::y::r=>decide (x.1<y.1)&&pT (y::r)
theorem Hz:∀{t:jg (N×N)} {x:N×N},pT (x::t)=ji->∀e∈t,x.1<e.1
 |[],x,_,e,he=>by cases he
 |y::r,x,h,e,he=>by
  simp only[pT,oj,decide_eq_true_eq]at h
  rcases qk.1 he with rfl|he
  ·exact h.1
  have:=Hz h.2 e he;omega
theorem GJ:∀{t:jg (N×N)},pT t=ji->Str t
 |[],_=>List.Pairwise.nil
 |[x],_=>List.pairwise_singleton _ _
 |x::y::r,h=>by
  refine wt.2 ⟨Hz h,GJ ?_⟩;simp only[pT,oj]at h;exact h.2
def Et(t:jg (N×N)):jC:=
 pT t&&t.all λe=>decide (1<=e.1)&&decide (e.1<=1023)&&(decide (e.2=4)||decide (e.2=16))&&t.any λf=>decide (512<=f.1)&&decide (f.1<=1023)&&decide (e.1∈f.1::bU (f.1-512))
theorem Qq(h:Et t=ji):fX t:=by
 unfold Et at h;simp only[oj,xg,List.any_eq_true,decide_eq_true_eq,xh]at h;refine⟨GJ h.1,λe he=>?_⟩;obtain⟨⟨⟨b,c⟩,a⟩,f,d,⟨g,j⟩,i⟩:=h.2 e he;refine⟨b,c,?_,f,d,g,?_⟩
 ·rcases a with a|a
  ·rw[a];exact Oz
  rw[a];exact SU
 have:=(pf (f.1-512) Y Y e.1).1;rw[show 512+(f.1-512)=f.1 by omega]at this;exact this i
theorem FY:de []=0:=tv (Qq (by decide+kernel))
theorem vY(n:ja):bP ((aY 4 n:ja):N):=o7 (a:=4) mV n
theorem EQ(h:b<512):oO (cQ b):=⟨⟨by show(0:N)<=(b:N);omega,by show(b:N)<512;omega⟩,.inl ⟨I,vY _,vY _,I⟩⟩
theorem DR(h:b<512)(a:M<=1048576):oO (dM b M):=⟨⟨by show(0:N)<=(b:N);omega,by show(b:N)<512;omega⟩,.inr (.inl ⟨I,I,I,by show(0:N)<=(M:N);omega,by show(M:N)<=1048576;omega⟩)⟩
theorem ug(h:oO U):eX [U]:=⟨λy a=>by
 rw[jN]at a;rw[a];exact h,by simp,by simp⟩
theorem SS:cr []=[]:=by decide+kernel
theorem Jp(a:kf f):dD (aI f) where
 fol:=a
 ep:=⟨Int.le_refl _,by show(0:N)<=1099511627776;omega⟩
 tree:=FY
 zero:=λ_=>⟨I,I⟩
 dev:=SS.symm
 ok:=λm b=>by cases b
theorem oI{l:jg aK}{o:jG aK}(h:dn l f=o):cG l f=o.isSome:=by rw[<-yP,h]
theorem rC{m:aK}(h:dn a.mem f=A m):dT a f e=m.ver:=by
 unfold dT;have l:(a.mem.find? λm=>m.dev==f)=A m:=h;rw[l]
theorem Ck{m:aK}(h:dn a.mem f=A m):eV a f=m.since:=by
 unfold eV;rw[h];rfl
theorem zD:m0 [U] U.d=A U:=by unfold m0;simp
theorem zr(h:U.d≠f):m0 [U] f=jf:=by unfold m0;simp[h]
theorem A6(c:cG a.mem f=ji)(d:0<a.epoch)(e:cG a.mem U.d=decide (U.k≠1))(g:U.d≠f):gN a f [U]:=
 ⟨by rw[c,qc d],λh=>by omega,λy b=>by
  rw[jN]at b;rw[b];exact⟨e,λ_=>g⟩⟩
theorem wL(x:a.epoch<1099511627776)(c:du a f e=0)(g:1<=b)(i:b<2305843009213688669)(d:dT a f e=((aY 4 b:ja):N)):ia a f (b:N) e=0:=by
 unfold ia;rw[jF Y,jF (λh=>h c),jF Y,jF (λh=>h (by rw[d,qN]))]
theorem uF{g:Grp}{a:N}{x:ja}{c:jg ap}{b init:LBy}{d:jg Bx}{e:jg Wl}(h:g.folder=g'.folder)(f:g.epoch=g'.epoch)(i:g.last=g'.last):mkF g a x c b init d e=mkF g' a x c b init d e:=by
 have j:nr g a c b init d e=nr g' a c b init d e:=by unfold nr;rw[h,f,i]
 have k:dO g b init=dO g' b init:=by unfold dO;rw[f]
 have l:lG g a c b init d e=lG g' a c b init d e:=by unfold lG;rw[j,k]
 unfold mkF;rw[l]
noncomputable def bF:Cmt:=mkC (aI 3) 1 3 [cQ 1] (kz 1) (kz 1) (kz 1)
noncomputable def gS1:Grp:=aC (aI 3) bF
noncomputable def bS:Cmt:=mkC gS1 1 3 [cQ 0] (kz 2) (kz 1) (kz 2)
noncomputable def cU:Grp:=aC gS1 bS
noncomputable def cS3:Cmt:=mkC cU 0 2 [dM 1 5] (kz 3) (kz 1) (kz 3)
noncomputable def cM:Cmt:=mkC cU 1 3 [dM 0 5] (kz 4) (kz 1) (kz 4)
theorem uv(b:j8 8):(kz b).length=32:=by unfold kz;simp
theorem AZ:du (aI 3) 1 [cQ 1]=0:=lB.2 ⟨Jp L,ug (EQ L),⟨I,λ_=>⟨_,_,I,I⟩,λy a=>by
 rw[jN]at a;rw[a];exact⟨I,λh=>by cases h⟩⟩⟩
theorem lS:gS (aI 3) bF:=sa AZ (by show(0:N)<1099511627776;omega) I (uv _)
theorem mr:bF.chg=[cQ 1]/\bF.author=1/\bF.epoch=1:=by
 refine⟨?_,?_,lS.ep.trans I⟩<;>rfl
theorem lZ:dn gS1.mem 1=A ⟨1,1,((aY 4 3:ja):N)⟩/\dn gS1.mem 0=jf/\gS1.epoch=1:=by
 have a:=Fe lS (d:=1) (y:=cQ 1) (by rw[mr.1];exact zD) L;have b:=zJ lS (d:=0) (by rw[mr.1];exact zr L);rw[mr.2.2]at a;exact⟨a.1,b.trans I,(ig _ _).trans mr.2.2⟩
theorem A5:du gS1 1 [cQ 0]=0:=lB.2 ⟨gY lS,ug (EQ L),
 A6 (oI lZ.1) (by rw[lZ.2.2];decide) (by rw[show(cQ 0).d=0 from I,oI lZ.2.1];rfl) L⟩
theorem lh:gS gS1 bS:=sa A5 (by rw[lZ.2.2];decide) (rC lZ.1) (uv _)
theorem nN:bS.chg=[cQ 0]/\bS.author=1/\bS.epoch=2:=by
 refine⟨I,I,?_⟩;rw[lh.ep,lZ.2.2];rfl
theorem fy:dn cU.mem 1=A ⟨1,1,((aY 4 3:ja):N)⟩/\dn cU.mem 0=A ⟨0,2,((aY 4 2:ja):N)⟩/\cU.epoch=2:=by
 have a:=Fe lh (d:=0) (y:=cQ 0) (by rw[nN.1];exact zD) L;have b:=zJ lh (d:=1) (by rw[nN.1];exact zr L);rw[nN.2.2]at a;exact⟨b.trans lZ.1,a.1,(ig _ _).trans nN.2.2⟩
theorem yG:du cU 0 [dM 1 5]=0:=lB.2 ⟨gY lh,ug (DR L L),
 A6 (oI fy.2.1) (by rw[fy.2.2];decide) (by rw[show(dM 1 5).d=1 from I,oI fy.1];rfl) L⟩
theorem DY:gS cU cS3:=sa yG (by rw[fy.2.2];decide) (rC fy.2.1) (uv _)
theorem zx:du cU 1 [dM 0 5]=0:=lB.2 ⟨gY lh,ug (DR L L),
 A6 (oI fy.1) (by rw[fy.2.2];decide) (by rw[show(dM 0 5).d=0 from I,oI fy.2.1];rfl) L⟩
theorem mR:gS cU cM:=sa zx (by rw[fy.2.2];decide) (rC fy.1) (uv _)
theorem iM:cS3.chg=[dM 1 5]/\cS3.author=0/\cM.chg=[dM 0 5]/\cM.author=1:=⟨I,I,I,I⟩
theorem SI:wN cU cM cS3:=by
 left
 rw[iM.2.2.2,iM.2.1,Ck fy.1,Ck fy.2.1]
 decide
theorem wh:ia (aI 3) 1 (3:ja) [cQ 1]=0/\ia gS1 1 (3:ja) [cQ 0]=0/\ia cU 0 (2:ja) [dM 1 5]=0/\ia cU 1 (3:ja) [dM 0 5]=0:=
 ⟨wL (by show(0:N)<1099511627776;omega) AZ L L rfl,wL (by rw[lZ.2.2];decide) A5 L L (rC lZ.1),
  wL (by rw[fy.2.2];decide) yG L L (rC fy.2.1),wL (by rw[fy.2.2];decide) zx L L (rC fy.1)⟩
theorem Jg(a:aH cS3≠aH bS)(b:aH cS3≠aH cM)(c:aH cS3≠aH bF)(d:aH bS≠aH cM)(e:aH bS≠aH bF)(f:aH cM≠aH bF):dX 3 cS3 bS cM bF where
 ys:=a
 yo:=b
 yf:=c
 so:=d
 sf:=e
 of:=f
 hf:=fQ.2 lS
 hs:=fQ.2 lh
 hy:=fQ.2 DY
 ho:=fQ.2 mR
 auth:=by rw[iM.2.2.2,iM.2.1];decide
 ahead:=SI
 ro:=by unfold oY;rw[iM.2.2.1,iM.2.1];decide
theorem Jl(g:Grp)(c:Cmt)(i:ja):(cO g c i).id=aH c:=by unfold cO;dsimp only
theorem Jb(g:Grp)(c:Cmt)(i:ja):(cO g c i).com=c:=by unfold cO;dsimp only
theorem MM(h:dX 3 cS3 bS cM bF)(a:N):eD (aH bS) 0 a jn (dA 3 (aH bF) [cS3,bS,cM,bF])=decide (a<=5):=by
 have b:cG (aC (aC (aI 3) bF) bS).mem 0=ji:=oI fy.2.1;have c:¬aH bF=aH bS:=λe=>h.sf e.symm
 have d:(cM.chg.find? λx=>x.d==0&&x.k !=1)=A (dM 0 5):=by rw[iM.2.2.1];rfl
 rw[h.chain,eD];dsimp only;rw[jF c,eD,jr (Jl _ _ _),rI,jr b,eD,Jb,d]
 rfl
theorem Ts(h:dX 3 cS3 bS cM bF):(aC cU cM).mem.length=1:=by
 have n:=gY mR;have o:=Sv mR (d:=0) (y:=dM 0 5) (by rw[iM.2.2.1];exact zD) I;have g:=zJ mR (d:=1) (by rw[iM.2.2.1];exact zr L);rw[fy.1]at g;have c:∀m∈(aC cU cM).mem,m=⟨1,1,((aY 4 3:ja):N)⟩:=λm j=>by
  rcases(pH mR m).1 j with⟨f,i⟩|⟨x,a,b,rfl⟩
  ·rcases(pH lh m).1 f with⟨k,p⟩|⟨x,a,b,rfl⟩
   ·rcases(pH lS m).1 k with⟨l,-⟩|⟨x,a,b,rfl⟩
    ·cases l
    rw[mr.1,jN]at a;subst a;rw[mr.2.2];rfl
   rw[nN.1,jN]at a;subst a;exact jt I (i (dM 0 5) (by rw[iM.2.2.1];exact jN.2 I))
  rw[iM.2.2.1,jN]at a;subst a;exact jt I b
 have i:=((sS (rZ mR) _ _).1 g).1;have f:=rZ mR
 cases e:(aC cU cM).mem with
 |nil=>rw[e]at i;cases i
 |cons m l=>
  rcases l with _|⟨k,p⟩
  ·rfl
  rw[e]at c f;have a:=c m (qz ..);have b:=c k (qA _ (qz ..));rw[a,b]at f;simp at f
theorem Mf(a:de t=0)(b:0<=f)(c:f<512):dI t f jn=0:=by
 unfold dI;rw[jr a,jF];rintro(h|h|⟨h,-⟩)
 ·omega
 ·omega
 cases h
theorem ME{x:N}(a:de t=0)(b:0<=f)(c:f<512)(e:bP x):gK t f x=0:=by
 unfold gK;rw[jr (Mf a b c),jr (gF e)]
theorem CV{x:N}(c:de t=0)(a:0<=f)(b:f<512)(e:bP x):kS t f x=eo (512+f,x) (kW t f):=by
 unfold kS;rw[jr (ME c a b e),za a b]
theorem Ro(a:de t=0)(c:0<=f)(e:f<512)(b:bG t (512+f)≠jf):dI t f ji=0:=by
 unfold dI;rw[jr a,jF];rintro(h|h|⟨-,h⟩)
 ·omega
 ·omega
 exact b h
theorem Gi(c:de t=0)(a:0<=f)(b:f<512)(e:bG t (512+f)≠jf):kH t f=kW t f:=by
 unfold kH;rw[jr (Ro c a b e),za a b]
theorem Fp{l:jg N}(h:fb t f l=0)(a:0<=f)(b:f<512):gr t f l=uZ (kW t f) f l 10:=by
 unfold gr;rw[jr h,D8,za a b]
theorem CC(a:LBy):∃b c d e f g h i j k:N,dB a=[b,c,d,e,f,g,h,i,j,k]:=by
 unfold dB;exact⟨_,_,_,_,_,_,_,_,_,_,I⟩
theorem Fj(g:Grp)(c:Cmt):(aC g c).tree=gr (aX g.tree c.chg) c.author c.path:=by unfold aC;dsimp only
theorem Gv:aX (aI 3).tree [cQ 1]=[(513,((aY 4 3:ja):N))]:=by
 show kS [] 1 ((aY 4 3:ja):N)=_;rw[CV FY L L (vY _)]
 rfl
theorem M5:∃a b c d f g i j k l:N,gS1.tree=[(1,l),(2,k),(4,j),(8,i),(16,g),(32,f),(64,d),(128,c),(256,b),(513,a)]:=by
 obtain⟨a,b,c,d,f,g,i,j,k,l,m⟩:=CC (kz 1);refine⟨a,b,c,d,f,g,i,j,k,l,?_⟩;have h:=lS.ren;have e:gS1.tree=gr (aX (aI 3).tree bF.chg) bF.author bF.path:=Fj _ _;have n:bF.path=dB (kz 1):=(yE (aI 3) 1 3 [cQ 1] (kz 1) (kz 1) (kz 1)).2.2.2.2.2;rw[mr.1,mr.2.1,n]at h e;rw[e,Fp h L L,Gv,m];generalize((aY 4 3:ja):N)=q;have:kW [(513,q)] 1=[]:=by
  unfold kW;rw[qP (by show ¬(!decide ((513:N)∈(512+1)::bU 1))=ji;decide+kernel),qn]
 rw[this]
 rfl
theorem pz0:bU 0=[256,128,64,32,16,8,4,2,1]:=by decide+kernel
theorem pz1:bU 1=[256,128,64,32,16,8,4,2,1]:=by decide+kernel
theorem Bf:∃a:N,aX gS1.tree [cQ 0]=[(512,((aY 4 2:ja):N)),(513,a)]:=by
 obtain⟨a,c,d,f,g,h,i,j,k,l,e⟩:=M5;have b:de gS1.tree=0:=(gY lS).tree;refine⟨a,?_⟩;show kS gS1.tree 0 ((aY 4 2:ja):N)=_;rw[CV b L L (vY _),e];generalize((aY 4 2:ja):N)=q;unfold kW;rw[pz0]
 rfl
theorem Sz:∃a r1 r2 r3 b c d f g i:N,cU.tree=[(1,i),(2,g),(4,f),(8,d),(16,c),(32,b),(64,r3),(128,r2),(256,r1),(512,((aY 4 2:ja):N)),(513,a)]:=by
 obtain⟨m,j⟩:=Bf;obtain⟨a,r1,r2,r3,b,c,d,f,g,i,k⟩:=CC (kz 2);refine⟨a,r1,r2,r3,b,c,d,f,g,i,?_⟩;have h:=lh.ren;have e:cU.tree=gr (aX gS1.tree bS.chg) bS.author bS.path:=Fj _ _;have l:bS.path=dB (kz 2):=(yE gS1 1 3 [cQ 0] (kz 2) (kz 1) (kz 2)).2.2.2.2.2;rw[nN.1,nN.2.1,l]at h e;rw[e,Fp h L L,j,k];generalize((aY 4 2:ja):N)=q;unfold kW;rw[pz1]
 rfl
theorem Nn:aX cU.tree [dM 1 5]=[(512,((aY 4 2:ja):N))]/\∃a:N,aX cU.tree [dM 0 5]=[(513,a)]:=by
 obtain⟨a,r1,r2,r3,c,d,f,g,i,j,e⟩:=Sz;have b:de cU.tree=0:=(gY lh).tree;refine⟨?_,a,?_⟩
 ·show kH cU.tree 1=_
  rw[Gi b L L (by rw[e];exact λh=>by cases h),e];generalize((aY 4 2:ja):N)=q;unfold kW;rw[pz1]
  rfl
 show kH cU.tree 0=_;rw[Gi b L L (by rw[e];exact λh=>by cases h),e];generalize((aY 4 2:ja):N)=q;unfold kW;rw[pz0]
 rfl
theorem mI(h:fX t){x:N}(a:1<=x)(b:x<=1023):ff t x=di (bG t) (hgt x.toNat) x.toNat:=by
 have e:lR t x=0:=by unfold lR;rw[jr (tv h),jF Y]
 unfold ff;rw[jr e]
theorem R7:ib 0=[513,257,129,65,33,17,9,5,3]:=by decide+kernel
theorem zV:ib 1=[512,257,129,65,33,17,9,5,3]:=by decide+kernel
theorem wJ{b:N}(h:fX t)(c:ib f=[b,257,129,65,33,17,9,5,3])(d:1<=b)(e:b<=1023){r:jg (jg N)}(a:(([b,257,129,65,33,17,9,5,3]:jg N).map λx=>di (bG t) (hgt x.toNat) x.toNat)=r):
 et t f=(r.zipIdx 1).flatMap λx=>x.1.map λn=>((x.2:N),n):=by
 unfold et fz;rw[c,<-a];simp only[jY,jV,List.zipIdx_cons,List.zipIdx_nil,xr,xt];rw[mI h d e,mI h (x:=257) L L,mI h (x:=129) L L,mI h (x:=65) L L,mI h (x:=33) L L,
  mI h (x:=17) L L,mI h (x:=9) L L,mI h (x:=5) L L,mI h (x:=3) L L]
theorem uR(h:du a f e=0):fX (aX a.tree e):=by
 obtain⟨b,c,d⟩:=lB.1 h;exact(oT e _ (lO b.tree) (rf b c d)).1
theorem Fu:∀p:N,(([512,257,129,65,33,17,9,5,3]:jg N).map λx=>di (bG [(513,p)]) (hgt x.toNat) x.toNat)=[[],[],[],[],[],[],[],[],[]]:=by intro p;kernel_rfl
theorem Tu:∀p:N,(([513,257,129,65,33,17,9,5,3]:jg N).map λx=>di (bG [(512,p)]) (hgt x.toNat) x.toNat)=[[],[],[],[],[],[],[],[],[]]:=by intro p;kernel_rfl
theorem Uc:∀p q:N,(([512,257,129,65,33,17,9,5,3]:jg N).map λx=>di (bG [(512,p),(513,q)]) (hgt x.toNat) x.toNat)=[[512],[],[],[],[],[],[],[],[]]:=by intro p q;kernel_rfl
theorem wP:et (aX (aI 3).tree [cQ 1]) 1=[]/\et (aX gS1.tree [cQ 0]) 1=[(1,512)]/\et (aX cU.tree [dM 1 5]) 0=[]/\et (aX cU.tree [dM 0 5]) 1=[]:=by
 obtain⟨e,b⟩:=Bf;obtain⟨c,f,d⟩:=Nn;refine⟨?_,?_,?_,?_⟩
 ·have a:(([512,257,129,65,33,17,9,5,3]:jg N).map λx=>di (bG (aX (aI 3).tree [cQ 1])) (hgt x.toNat) x.toNat)=[[],[],[],[],[],[],[],[],[]]:=by rw[Gv];exact Fu _
  rw[wJ (uR AZ) zV L L a]
  rfl
 ·have a:(([512,257,129,65,33,17,9,5,3]:jg N).map λx=>di (bG (aX gS1.tree [cQ 0])) (hgt x.toNat) x.toNat)=[[512],[],[],[],[],[],[],[],[]]:=by rw[b];exact Uc _ _
  rw[wJ (uR A5) zV L L a]
  rfl
 ·have a:(([513,257,129,65,33,17,9,5,3]:jg N).map λx=>di (bG (aX cU.tree [dM 1 5])) (hgt x.toNat) x.toNat)=[[],[],[],[],[],[],[],[],[]]:=by rw[c];exact Tu _
  rw[wJ (uR yG) R7 L L a]
  rfl
 have a:(([512,257,129,65,33,17,9,5,3]:jg N).map λx=>di (bG (aX cU.tree [dM 0 5])) (hgt x.toNat) x.toNat)=[[],[],[],[],[],[],[],[],[]]:=by rw[d];exact Fu _
 rw[wJ (uR zx) zV L L a]
 rfl
theorem wF:dw 1 [cQ 1]=[]/\dw 1 [cQ 0]=[cQ 0]/\dw 0 [dM 1 5]=[]/\dw 1 [dM 0 5]=[]:=by
 refine⟨?_,?_,?_,?_⟩
 ·unfold dw kX
  rw[qP L,qn];simp[fj]
 ·unfold dw kX
  rw[List.filter_cons_of_pos L,qn];simp[fj]
 ·unfold dw kX
  rw[qP L,qn];simp[fj]
 unfold dw kX;rw[qP L,qn];simp[fj]
section
set_option maxRecDepth 1000000
def bzn(k n:ja):LBy:=(r6 k).map λi=>BitVec.ofNat 8 (n/256^(k-1-i))
def bz(n:ja):LBy:=bzn 32 n
theorem vd{a:Grp}{f:N}{b:ja}{e:jg ap}{i o:LBy}{p:jg Bx}{F:jg Wl}{x:jg N}{u body h msg:LBy}{M y:ja}
 (k:ma i=x) (l:dO a i o=u) (j:cW kM ((aR ⟨a.folder,a.epoch+1,a.last,f,e,x,p,F,cF,0,0⟩).take 8)=body) (m:iZ u body=h)
 (n:dt ⟨a.folder,a.epoch+1,a.last,f,e,x,p,F,h,0,0⟩=msg) (init:pw 4 (iT b msg)=M) (c:nf b msg=y):
 mkF a f b e i o p F=⟨a.folder,a.epoch+1,a.last,f,e,x,p,F,h,(M:ja),(y:ja)⟩:=by
 have q:nr a f e i o p F=⟨a.folder,a.epoch+1,a.last,f,e,x,p,F,cF,0,0⟩:=by unfold nr;rw[k]
 have t:lG a f e i o p F=⟨a.folder,a.epoch+1,a.last,f,e,x,p,F,h,0,0⟩:=by
  unfold lG;rw[q,l];dsimp only at j⊢;rw[j,m]
 unfold mkF;rw[t,n,init,c]
theorem GD:aA (kz 1) 1=bz 92947053214586472348261825333834548428676820749397000367760927962054231880206:=by rw[aA,aA];decide+kernel
theorem EL:aA (kz 1) 2=bz 110269909067070830460258195486788993570795853927037390172319513479910842111086:=by rw[aA,GD];decide+kernel
theorem Cp:aA (kz 1) 3=bz 25892258339256454676443945956354232645023697359747327914787591083075305642554:=by rw[aA,EL];decide+kernel
theorem BQ:aA (kz 1) 4=bz 38690980210331588110400036669245523398886357721832508197118173294600712690993:=by rw[aA,Cp];decide+kernel
theorem Es:aA (kz 1) 5=bz 44385089301805622807802772369333755547620878409928888610337709062735322103782:=by rw[aA,BQ];decide+kernel
theorem If:aA (kz 1) 6=bz 89203680705282144270341728638031108040740304520070780012083671599142392496052:=by rw[aA,Es];decide+kernel
theorem DJ:aA (kz 1) 7=bz 100551540601728949310560055356990068823531297451471705944642868317943424802089:=by rw[aA,If];decide+kernel
theorem FX:aA (kz 1) 8=bz 80773885239101932582560612707767667507454745959666497068145301597327502169229:=by rw[aA,DJ];decide+kernel
theorem CS:aA (kz 1) 9=bz 32932589713238151175116942116042105857792114562720779989060310603950895136414:=by rw[aA,FX];decide+kernel
theorem TU:pw 4 (aT (aA (kz 1) 0))=3982525525669097395:=by rw[aA];decide+kernel
theorem Mh:pw 4 (aT (aA (kz 1) 1))=3368371570921412518:=by rw[GD];decide+kernel
theorem Tm:pw 4 (aT (aA (kz 1) 2))=2420363809147598689:=by rw[EL];decide+kernel
theorem MV:pw 4 (aT (aA (kz 1) 3))=53518799388614053:=by rw[Cp];decide+kernel
theorem Qo:pw 4 (aT (aA (kz 1) 4))=2894597427308308891:=by rw[BQ];decide+kernel
theorem Pv:pw 4 (aT (aA (kz 1) 5))=2396399926350998175:=by rw[Es];decide+kernel
theorem Q9:pw 4 (aT (aA (kz 1) 6))=3259069423189128266:=by rw[If];decide+kernel
theorem Qe:pw 4 (aT (aA (kz 1) 7))=1205985981775409817:=by rw[DJ];decide+kernel
theorem Lu:pw 4 (aT (aA (kz 1) 8))=2101393345108455879:=by rw[FX];decide+kernel
theorem K6:pw 4 (aT (aA (kz 1) 9))=2875087179471260367:=by rw[CS];decide+kernel
def pl1:jg N:=[3982525525669097395,3368371570921412518,2420363809147598689,53518799388614053,2894597427308308891,2396399926350998175,3259069423189128266,1205985981775409817,2101393345108455879,2875087179471260367]
theorem pa1:ma (kz 1)=pl1:=by
 show [((pw 4 (aT (aA (kz 1) 0)):ja):N),((pw 4 (aT (aA (kz 1) 1)):ja):N),((pw 4 (aT (aA (kz 1) 2)):ja):N),((pw 4 (aT (aA (kz 1) 3)):ja):N),((pw 4 (aT (aA (kz 1) 4)):ja):N),((pw 4 (aT (aA (kz 1) 5)):ja):N),((pw 4 (aT (aA (kz 1) 6)):ja):N),((pw 4 (aT (aA (kz 1) 7)):ja):N),((pw 4 (aT (aA (kz 1) 8)):ja):N),((pw 4 (aT (aA (kz 1) 9)):ja):N)]=_;rw[TU,Mh,Tm,MV,Qo,Pv,Q9,Qe,Lu,K6];rfl
theorem zC:aA (kz 2) 1=bz 7795026126522001566530479997073560168090451678956069711981303104202711385306:=by rw[aA,aA];decide+kernel
theorem Ie:aA (kz 2) 2=bz 78643572629378111538628181399693355582309667718313446362834464818673189624336:=by rw[aA,zC];decide+kernel
theorem Hu:aA (kz 2) 3=bz 114108813753808823508573204213242017525290924912032827683083883622471437070517:=by rw[aA,Ie];decide+kernel
theorem Gx:aA (kz 2) 4=bz 113855224720463661563885976400783124269809154446430648728169800553026566981714:=by rw[aA,Hu];decide+kernel
theorem Gc:aA (kz 2) 5=bz 32524229718462889697687133027243686621107296854090295308046354960141566043497:=by rw[aA,Gx];decide+kernel
theorem CR:aA (kz 2) 6=bz 56788005722780344953335773866346267966372028095981818404508348894266993562800:=by rw[aA,Gc];decide+kernel
theorem Hy:aA (kz 2) 7=bz 2014910312052460976280735825190903697928716350251033593519941492829749524222:=by rw[aA,CR];decide+kernel
theorem Gr:aA (kz 2) 8=bz 76869863361308483062111728667213287504179821872492424401802065332902998049894:=by rw[aA,Hy];decide+kernel
theorem BJ:aA (kz 2) 9=bz 72678393599735024128468285507161992898562739420159586140064223818366269839631:=by rw[aA,Gr];decide+kernel
theorem Qh:pw 4 (aT (aA (kz 2) 0))=4572362397544290297:=by rw[aA];decide+kernel
theorem Lf:pw 4 (aT (aA (kz 2) 1))=83602551327005630:=by rw[zC];decide+kernel
theorem LD:pw 4 (aT (aA (kz 2) 2))=3980522495517885342:=by rw[Ie];decide+kernel
theorem Q5:pw 4 (aT (aA (kz 2) 3))=861726599088549604:=by rw[Hu];decide+kernel
theorem P3:pw 4 (aT (aA (kz 2) 4))=382661267723870360:=by rw[Gx];decide+kernel
theorem Lg:pw 4 (aT (aA (kz 2) 5))=4361949050238618437:=by rw[Gc];decide+kernel
theorem OC:pw 4 (aT (aA (kz 2) 6))=2067886714649420014:=by rw[CR];decide+kernel
theorem TK:pw 4 (aT (aA (kz 2) 7))=2197768742755191226:=by rw[Hy];decide+kernel
theorem Rr:pw 4 (aT (aA (kz 2) 8))=545361312990491382:=by rw[Gr];decide+kernel
theorem O5:pw 4 (aT (aA (kz 2) 9))=3014658826702240148:=by rw[BJ];decide+kernel
def pl2:jg N:=[4572362397544290297,83602551327005630,3980522495517885342,861726599088549604,382661267723870360,4361949050238618437,2067886714649420014,2197768742755191226,545361312990491382,3014658826702240148]
theorem pa2:ma (kz 2)=pl2:=by
 show [((pw 4 (aT (aA (kz 2) 0)):ja):N),((pw 4 (aT (aA (kz 2) 1)):ja):N),((pw 4 (aT (aA (kz 2) 2)):ja):N),((pw 4 (aT (aA (kz 2) 3)):ja):N),((pw 4 (aT (aA (kz 2) 4)):ja):N),((pw 4 (aT (aA (kz 2) 5)):ja):N),((pw 4 (aT (aA (kz 2) 6)):ja):N),((pw 4 (aT (aA (kz 2) 7)):ja):N),((pw 4 (aT (aA (kz 2) 8)):ja):N),((pw 4 (aT (aA (kz 2) 9)):ja):N)]=_;rw[Qh,Lf,LD,Q5,P3,Lg,OC,TK,Rr,O5];rfl
theorem D2:aA (kz 3) 1=bz 46904460737930777852346229449928834429062247665295844018793763330700240469376:=by rw[aA,aA];decide+kernel
theorem Ir:aA (kz 3) 2=bz 101730935365692994563964248270881352789641712153222409846868437557839033110599:=by rw[aA,D2];decide+kernel
theorem Hf:aA (kz 3) 3=bz 40728488087116557286746955838157925602660613431526327412489450425897523334074:=by rw[aA,Ir];decide+kernel
theorem Gf:aA (kz 3) 4=bz 99179449191126613624578143328970327338626792620640268053248606503718128807850:=by rw[aA,Hf];decide+kernel
theorem Ib:aA (kz 3) 5=bz 56032842510510386555462372023201643267544770558763912154503970267867634372657:=by rw[aA,Gf];decide+kernel
theorem DI:aA (kz 3) 6=bz 53095064823814443809285330713787463797115131544970777857145070560007978820967:=by rw[aA,Ib];decide+kernel
theorem FR:aA (kz 3) 7=bz 43507548118366430520583849677623852436014510882370163507572407360615036361017:=by rw[aA,DI];decide+kernel
theorem GW:aA (kz 3) 8=bz 93436734642940098613090714888553887485458246808041010523669472885772065099764:=by rw[aA,FR];decide+kernel
theorem Ii:aA (kz 3) 9=bz 33975105336812410515559925757825706852335543773340134127742992176516891445595:=by rw[aA,GW];decide+kernel
theorem Te:pw 4 (aT (aA (kz 3) 0))=4471659185962668909:=by rw[aA];decide+kernel
theorem MW:pw 4 (aT (aA (kz 3) 1))=3617808682835033999:=by rw[D2];decide+kernel
theorem J1:pw 4 (aT (aA (kz 3) 2))=3001429045986596234:=by rw[Ir];decide+kernel
theorem P1:pw 4 (aT (aA (kz 3) 3))=2225913278891432786:=by rw[Hf];decide+kernel
theorem LJ:pw 4 (aT (aA (kz 3) 4))=974775673560239181:=by rw[Gf];decide+kernel
theorem Qp:pw 4 (aT (aA (kz 3) 5))=2657093889804896221:=by rw[Ib];decide+kernel
theorem NH:pw 4 (aT (aA (kz 3) 6))=3803846485021874901:=by rw[DI];decide+kernel
theorem TY:pw 4 (aT (aA (kz 3) 7))=4258262581727677338:=by rw[FR];decide+kernel
theorem JP:pw 4 (aT (aA (kz 3) 8))=204465990907776052:=by rw[GW];decide+kernel
theorem Md:pw 4 (aT (aA (kz 3) 9))=166027103051556743:=by rw[Ii];decide+kernel
def pl3:jg N:=[4471659185962668909,3617808682835033999,3001429045986596234,2225913278891432786,974775673560239181,2657093889804896221,3803846485021874901,4258262581727677338,204465990907776052,166027103051556743]
theorem pa3:ma (kz 3)=pl3:=by
 show [((pw 4 (aT (aA (kz 3) 0)):ja):N),((pw 4 (aT (aA (kz 3) 1)):ja):N),((pw 4 (aT (aA (kz 3) 2)):ja):N),((pw 4 (aT (aA (kz 3) 3)):ja):N),((pw 4 (aT (aA (kz 3) 4)):ja):N),((pw 4 (aT (aA (kz 3) 5)):ja):N),((pw 4 (aT (aA (kz 3) 6)):ja):N),((pw 4 (aT (aA (kz 3) 7)):ja):N),((pw 4 (aT (aA (kz 3) 8)):ja):N),((pw 4 (aT (aA (kz 3) 9)):ja):N)]=_;rw[Te,MW,J1,P1,LJ,Qp,NH,TY,JP,Md];rfl
theorem Cm:aA (kz 4) 1=bz 50722205186391903595132185935550243514785757736150323968424273179957915260378:=by rw[aA,aA];decide+kernel
theorem Ik:aA (kz 4) 2=bz 101310645668282014026348788696419716451190150362053753708536171234038456856707:=by rw[aA,Cm];decide+kernel
theorem Hi:aA (kz 4) 3=bz 42376911518104537199852456965600289776964293368915876846180987369823919944846:=by rw[aA,Ik];decide+kernel
theorem Cx:aA (kz 4) 4=bz 92777326006413517535642294566398491312292136436067891343560110706895332312186:=by rw[aA,Hi];decide+kernel
theorem CJ:aA (kz 4) 5=bz 13532582193433087599370014281589388409497560774222296801713207669392413658087:=by rw[aA,Cx];decide+kernel
theorem BO:aA (kz 4) 6=bz 95055745239012566121540913178029454666690195084440460800017035152292777760850:=by rw[aA,CJ];decide+kernel
theorem Gw:aA (kz 4) 7=bz 15529787399067858416926276930027456261191774492478224736741866638593695587050:=by rw[aA,BO];decide+kernel
theorem FP:aA (kz 4) 8=bz 22492036315392790401503571428077834369844364048405240334831675570703168145467:=by rw[aA,Gw];decide+kernel
theorem BP:aA (kz 4) 9=bz 50776473759655940268073372889152495648905650426791004802066150283028038399796:=by rw[aA,FP];decide+kernel
theorem Re:pw 4 (aT (aA (kz 4) 0))=387509236366328249:=by rw[aA];decide+kernel
theorem Nl:pw 4 (aT (aA (kz 4) 1))=3509365028658716024:=by rw[Cm];decide+kernel
theorem Lp:pw 4 (aT (aA (kz 4) 2))=2098131147301025627:=by rw[Ik];decide+kernel
theorem Qd:pw 4 (aT (aA (kz 4) 3))=3393190081034882839:=by rw[Hi];decide+kernel
theorem LI:pw 4 (aT (aA (kz 4) 4))=2977238981076608589:=by rw[Cx];decide+kernel
theorem TG:pw 4 (aT (aA (kz 4) 5))=3900264601396445229:=by rw[CJ];decide+kernel
theorem Qb:pw 4 (aT (aA (kz 4) 6))=1096630281638188484:=by rw[BO];decide+kernel
theorem OM:pw 4 (aT (aA (kz 4) 7))=1923971880346926212:=by rw[Gw];decide+kernel
theorem Nc:pw 4 (aT (aA (kz 4) 8))=3249172878372356751:=by rw[FP];decide+kernel
theorem Mu:pw 4 (aT (aA (kz 4) 9))=4368071318166190663:=by rw[BP];decide+kernel
def pl4:jg N:=[387509236366328249,3509365028658716024,2098131147301025627,3393190081034882839,2977238981076608589,3900264601396445229,1096630281638188484,1923971880346926212,3249172878372356751,4368071318166190663]
theorem pa4:ma (kz 4)=pl4:=by
 show [((pw 4 (aT (aA (kz 4) 0)):ja):N),((pw 4 (aT (aA (kz 4) 1)):ja):N),((pw 4 (aT (aA (kz 4) 2)):ja):N),((pw 4 (aT (aA (kz 4) 3)):ja):N),((pw 4 (aT (aA (kz 4) 4)):ja):N),((pw 4 (aT (aA (kz 4) 5)):ja):N),((pw 4 (aT (aA (kz 4) 6)):ja):N),((pw 4 (aT (aA (kz 4) 7)):ja):N),((pw 4 (aT (aA (kz 4) 8)):ja):N),((pw 4 (aT (aA (kz 4) 9)):ja):N)]=_;rw[Re,Nl,Lp,Qd,LI,TG,Qb,OM,Nc,Mu];rfl
def gq1:Grp:=⟨3,0,cF,[],[]⟩
theorem se1:dO gq1 (kz 1) (kz 1)=bz 11587432877149456826038772010012695763244694783340461140323635969870305861011:=by unfold dO;rw[CS];decide+kernel
theorem bo1:cW kM ((aR ⟨3,1,cF,1,[⟨1,1,64,64,0⟩],pl1,[],[],cF,0,0⟩).take 8)=bz 59178843141278552747077220196396757512064675479112619899357449785079483226147:=by decide+kernel
theorem co1:iZ (bz 11587432877149456826038772010012695763244694783340461140323635969870305861011) (bz 59178843141278552747077220196396757512064675479112619899357449785079483226147)=bz 103875796824923414196824021614561014878573348506570782549374484912780481974313:=by decide+kernel
theorem ms1:dt ⟨3,1,cF,1,[⟨1,1,64,64,0⟩],pl1,[],[],bz 103875796824923414196824021614561014878573348506570782549374484912780481974313,0,0⟩=bz 98181464338107786806568372226347940484695391662024152663985610118788978991738:=by decide+kernel
theorem sr1:pw 4 (iT 3 (bz 98181464338107786806568372226347940484695391662024152663985610118788978991738))=3775612072464831930:=by decide+kernel
theorem ss1:nf 3 (bz 98181464338107786806568372226347940484695391662024152663985610118788978991738)=830699883390057841:=by decide+kernel
def cq1:Cmt:=⟨3,1,cF,1,[⟨1,1,64,64,0⟩],pl1,[],[],bz 103875796824923414196824021614561014878573348506570782549374484912780481974313,3775612072464831930,830699883390057841⟩
theorem cm1:mkF gq1 1 3 [⟨1,1,64,64,0⟩] (kz 1) (kz 1) [] []=cq1:=vd pa1 se1 bo1 co1 ms1 sr1 ss1
theorem id1:aH cq1=bz 60992011752960795406008006297352343504793997280000501183144456388909801558589:=by decide+kernel
end
section
set_option maxRecDepth 1000000
def gq2:Grp:=⟨3,1,bz 60992011752960795406008006297352343504793997280000501183144456388909801558589,[],[]⟩
def bx2:jg Bx:=[⟨512,1,2801750266817263894,bzn 48 8550460389822551234691172542154060837740394151504701374635927435609034206085716453024328047452611061461299859318243⟩]
def wl2:jg Wl:=[⟨0,3156406232766253868,bzn 48 30328976050764050497863295521349111085652616993088484896582654896404348041333169072959794622030448471618480304798837⟩]
theorem se2:dO gq2 (kz 2) (kz 1)=bz 86300630709454735566991282598813013915515185164968841693825136527240578538799:=by unfold dO;rw[BJ];decide+kernel
theorem bo2:cW kM ((aR ⟨3,2,bz 60992011752960795406008006297352343504793997280000501183144456388909801558589,1,[⟨1,0,16,16,0⟩],pl2,bx2,wl2,cF,0,0⟩).take 8)=bz 111836705245294279712540714532115813126359755190493950792635559288785812804591:=by decide+kernel
theorem co2:iZ (bz 86300630709454735566991282598813013915515185164968841693825136527240578538799) (bz 111836705245294279712540714532115813126359755190493950792635559288785812804591)=bz 66874548954937515799626712096825392219475791935152822755709587926395103290192:=by decide+kernel
theorem ms2:dt ⟨3,2,bz 60992011752960795406008006297352343504793997280000501183144456388909801558589,1,[⟨1,0,16,16,0⟩],pl2,bx2,wl2,bz 66874548954937515799626712096825392219475791935152822755709587926395103290192,0,0⟩=bz 60029244016365655121296611949084526167943574304834986623221294609187733568761:=by decide+kernel
theorem sr2:pw 4 (iT 3 (bz 60029244016365655121296611949084526167943574304834986623221294609187733568761))=2686710751992989885:=by decide+kernel
theorem ss2:nf 3 (bz 60029244016365655121296611949084526167943574304834986623221294609187733568761)=1618199608460444900:=by decide+kernel
def cq2:Cmt:=⟨3,2,bz 60992011752960795406008006297352343504793997280000501183144456388909801558589,1,[⟨1,0,16,16,0⟩],pl2,bx2,wl2,bz 66874548954937515799626712096825392219475791935152822755709587926395103290192,2686710751992989885,1618199608460444900⟩
theorem cm2:mkF gq2 1 3 [⟨1,0,16,16,0⟩] (kz 2) (kz 1) bx2 wl2=cq2:=vd pa2 se2 bo2 co2 ms2 sr2 ss2
theorem id2:aH cq2=bz 88992349110045890293031702689725335422885112073919865013635317827805150740113:=by decide+kernel
def gq3:Grp:=⟨3,2,bz 88992349110045890293031702689725335422885112073919865013635317827805150740113,[],[]⟩
theorem se3:dO gq3 (kz 3) (kz 1)=bz 14140827853253934465713609576110972707195609043612048008240041617846791945706:=by unfold dO;rw[Ii];decide+kernel
theorem bo3:cW kM ((aR ⟨3,3,bz 88992349110045890293031702689725335422885112073919865013635317827805150740113,0,[⟨2,1,0,0,5⟩],pl3,[],[],cF,0,0⟩).take 8)=bz 11965895166114973089929953304706452019811316119355055290507520295581964366986:=by decide+kernel
theorem co3:iZ (bz 14140827853253934465713609576110972707195609043612048008240041617846791945706) (bz 11965895166114973089929953304706452019811316119355055290507520295581964366986)=bz 27561883997766735046413595882050119573792003876001794290709968006452573935485:=by decide+kernel
theorem ms3:dt ⟨3,3,bz 88992349110045890293031702689725335422885112073919865013635317827805150740113,0,[⟨2,1,0,0,5⟩],pl3,[],[],bz 27561883997766735046413595882050119573792003876001794290709968006452573935485,0,0⟩=bz 38162426039600690362604798942281649593738812862695932429585278224974558400764:=by decide+kernel
theorem sr3:pw 4 (iT 2 (bz 38162426039600690362604798942281649593738812862695932429585278224974558400764))=1577396955371366354:=by decide+kernel
theorem ss3:nf 2 (bz 38162426039600690362604798942281649593738812862695932429585278224974558400764)=75771689533523714:=by decide+kernel
def cq3:Cmt:=⟨3,3,bz 88992349110045890293031702689725335422885112073919865013635317827805150740113,0,[⟨2,1,0,0,5⟩],pl3,[],[],bz 27561883997766735046413595882050119573792003876001794290709968006452573935485,1577396955371366354,75771689533523714⟩
theorem cm3:mkF gq3 0 2 [⟨2,1,0,0,5⟩] (kz 3) (kz 1) [] []=cq3:=vd pa3 se3 bo3 co3 ms3 sr3 ss3
theorem id3:aH cq3=bz 32371387926736634216535347702442327293048012036282422387908802099916694618635:=by decide+kernel
def gq4:Grp:=⟨3,2,bz 88992349110045890293031702689725335422885112073919865013635317827805150740113,[],[]⟩
theorem se4:dO gq4 (kz 4) (kz 1)=bz 31717900871116426940974248920179605542417805662885447996228938546984442708731:=by unfold dO;rw[BP];decide+kernel
theorem bo4:cW kM ((aR ⟨3,3,bz 88992349110045890293031702689725335422885112073919865013635317827805150740113,1,[⟨2,0,0,0,5⟩],pl4,[],[],cF,0,0⟩).take 8)=bz 96895921174342806548929680580763891585996086404844077971508438049742290544176:=by decide+kernel
theorem co4:iZ (bz 31717900871116426940974248920179605542417805662885447996228938546984442708731) (bz 96895921174342806548929680580763891585996086404844077971508438049742290544176)=bz 34091518182390227652338508222211088701835031511056991201772480224585938545050:=by decide+kernel
theorem ms4:dt ⟨3,3,bz 88992349110045890293031702689725335422885112073919865013635317827805150740113,1,[⟨2,0,0,0,5⟩],pl4,[],[],bz 34091518182390227652338508222211088701835031511056991201772480224585938545050,0,0⟩=bz 60840287528674358614910522863630861983419329702507194380485367051938083405796:=by decide+kernel
theorem sr4:pw 4 (iT 3 (bz 60840287528674358614910522863630861983419329702507194380485367051938083405796))=1969310725839796123:=by decide+kernel
theorem ss4:nf 3 (bz 60840287528674358614910522863630861983419329702507194380485367051938083405796)=1860957067704991380:=by decide+kernel
def cq4:Cmt:=⟨3,3,bz 88992349110045890293031702689725335422885112073919865013635317827805150740113,1,[⟨2,0,0,0,5⟩],pl4,[],[],bz 34091518182390227652338508222211088701835031511056991201772480224585938545050,1969310725839796123,1860957067704991380⟩
theorem cm4:mkF gq4 1 3 [⟨2,0,0,0,5⟩] (kz 4) (kz 1) [] []=cq4:=vd pa4 se4 bo4 co4 ms4 sr4 ss4
theorem id4:aH cq4=bz 40399255312295421589678605028887707432260949857411389580315019617144268743788:=by decide+kernel
end
section
set_option maxRecDepth 1000000
theorem ex2:dZ (kz 2) gQ [1,512]=bz 28834796812059796831153880214034695305042619698714721074953174729757338840647:=by decide+kernel
theorem wr2:gm (bz 28834796812059796831153880214034695305042619698714721074953174729757338840647)=1411647746223762745:=by decide+kernel
theorem hd2:iW (iY gq2 1 [⟨1,0,16,16,0⟩] (kz 2)) gQ [1,512]=bz 2501810280086358338482877340928844570746966646813275981558870108572385983696:=by decide+kernel
theorem wk2:nY 16 2801750266817263894 1220890677202315452=bz 35782427620651771022322598411519022916935147931825569834900726163485863973335:=by decide+kernel
theorem QJ:oN (bz 35782427620651771022322598411519022916935147931825569834900726163485863973335) sl (bz 2501810280086358338482877340928844570746966646813275981558870108572385983696) (bz 7795026126522001566530479997073560168090451678956069711981303104202711385306)=bzn 48 8550460389822551234691172542154060837740394151504701374635927435609034206085716453024328047452611061461299859318243:=by decide+kernel
theorem pb2:pw 4 1411647746223762745=2801750266817263894:=by decide+kernel
theorem pc2:pw 16 1411647746223762745=1220890677202315452:=by decide+kernel
theorem NK:pi gq2 1 [⟨1,0,16,16,0⟩] (kz 2) (kz 2) (1,512) 16=⟨512,1,2801750266817263894,bzn 48 8550460389822551234691172542154060837740394151504701374635927435609034206085716453024328047452611061461299859318243⟩:=by
 unfold pi ru;dsimp only;rw[ex2,wr2,hd2,show aA (kz 2) (1:N).toNat=aA (kz 2) 1 from I,zC,pb2,pc2,wk2,QJ];rfl
theorem ex3:dZ (kz 2) kt [0]=bz 85658980463103618253254359257392765658075469388387170265357785600735784020057:=by decide+kernel
theorem wr3:gm (bz 85658980463103618253254359257392765658075469388387170265357785600735784020057)=735819052497938333:=by decide+kernel
theorem hd3:iW (iY gq2 1 [⟨1,0,16,16,0⟩] (kz 2)) kt [0]=bz 2477595739808375406656291175005832148916796608310543197002793270942918024589:=by decide+kernel
theorem wk3:nY 16 3156406232766253868 2332544211292724166=bz 37564205058184885572817594063299281707782672538304462235945086542858599395842:=by decide+kernel
theorem Nz:oN (bz 37564205058184885572817594063299281707782672538304462235945086542858599395842) sl (bz 2477595739808375406656291175005832148916796608310543197002793270942918024589) (bz 86300630709454735566991282598813013915515185164968841693825136527240578538799)=bzn 48 30328976050764050497863295521349111085652616993088484896582654896404348041333169072959794622030448471618480304798837:=by decide+kernel
theorem pb3:pw 4 735819052497938333=3156406232766253868:=by decide+kernel
theorem pc3:pw 16 735819052497938333=2332544211292724166:=by decide+kernel
theorem Jw:oR gq2 1 [⟨1,0,16,16,0⟩] (kz 2) (kz 1) (kz 2) ⟨1,0,16,16,0⟩=⟨0,3156406232766253868,bzn 48 30328976050764050497863295521349111085652616993088484896582654896404348041333169072959794622030448471618480304798837⟩:=by
 unfold oR ru;dsimp only;rw[ex3,wr3,hd3,se2,show(16:N).toNat=16 from I,pb3,pc3,wk3,Nz];rfl
end
section
set_option maxRecDepth 1000000
theorem wQ{b:ja}{F:jg Wl}(g:(et (aX a.tree e) f).map (eA a f e i u)=p)(h:(dw f e).map (fC a f e i o u)=F):
 mkC a f b e i o u=mkF a f b e i o p F:=by
 rw[<-Nu];unfold mkC mk2 mk1 mkX pI vy;rw[g,h]
theorem Lh:aY 4 3=64:=by rw[m8];decide+kernel
theorem IP:aY 4 2=16:=by rw[m8];decide+kernel
theorem TC:cQ 1=⟨1,1,64,64,0⟩:=by
 have h:((aY 4 (1+2):ja):N)=64:=by rw[show 1+2=3 from I,Lh];rfl
 unfold cQ;rw[h];rfl
theorem Bt:cQ 0=⟨1,0,16,16,0⟩:=by
 have h:((aY 4 (0+2):ja):N)=16:=by rw[show 0+2=2 from I,IP];rfl
 unfold cQ;rw[h];rfl
theorem Pl{x:N×N}(d:a.folder=g'.folder)(g:a.epoch=g'.epoch)(h:a.last=g'.last):pi a f e i o x b=pi g' f e i o x b:=by
 have p:iY a f e i=iY g' f e i:=by unfold iY;rw[d,g,h]
 unfold pi;rw[p]
theorem Jf(g:a.folder=g'.folder)(d:a.epoch=g'.epoch)(h:a.last=g'.last):oR a f e i o u U=oR g' f e i o u U:=by
 have c:iY a f e i=iY g' f e i:=by unfold iY;rw[g,d,h]
 have b:dO a i o=dO g' i o:=by unfold dO;rw[d]
 unfold oR;rw[c,b]
theorem G7(g:Grp)(c:Cmt):(aC g c).folder=g.folder:=by unfold aC;dsimp only
theorem tx:bF=cq1:=by
 have h:bF=mkF (aI 3) 1 3 [cQ 1] (kz 1) (kz 1) [] []:=wQ (by rw[wP.1];rfl) (by rw[wF.1];rfl);rw[h,uF (g:=aI 3) (g':=gq1) I I I,TC,cm1]
theorem lE:gS1.folder=gq2.folder/\gS1.epoch=gq2.epoch/\gS1.last=gq2.last:=by
 have a:gS1.last=aH bF:=vV _ _;refine⟨G7 _ _,lZ.2.2,?_⟩;rw[a,tx,id1];rfl
theorem tj:bS=cq2:=by
 obtain⟨e,a⟩:=Bf;have b:tD (aX gS1.tree [cQ 0]) (512:N)=16:=by
  rw[a,IP];rfl
 have c:(et (aX gS1.tree [cQ 0]) 1).map (eA gS1 1 [cQ 0] (kz 2) (kz 2))=bx2:=by
  rw[wP.2.1,jY,jV,Mn (x:=(1,512)) b,Kx,Pl lE.1 lE.2.1 lE.2.2,Bt,NK];rfl
 have d:(dw 1 [cQ 0]).map (fC gS1 1 [cQ 0] (kz 2) (kz 1) (kz 2))=wl2:=by
  rw[wF.2.1,jY,jV,Tx,Jf lE.1 lE.2.1 lE.2.2,Bt,Jw];rfl
 have h:bS=mkF gS1 1 3 [cQ 0] (kz 2) (kz 1) bx2 wl2:=wQ c d;rw[h,uF lE.1 lE.2.1 lE.2.2,Bt,cm2]
theorem pN:cU.folder=gq3.folder/\cU.epoch=gq3.epoch/\cU.last=gq3.last:=by
 have a:cU.last=aH bS:=vV _ _;refine⟨(G7 _ _).trans lE.1,fy.2.2,?_⟩;rw[a,tj,id2];rfl
theorem uc:cS3=cq3:=by
 have h:cS3=mkF cU 0 2 [dM 1 5] (kz 3) (kz 1) [] []:=wQ (by rw[wP.2.2.1];rfl) (by rw[wF.2.2.1];rfl);rw[h,uF pN.1 pN.2.1 pN.2.2,show dM 1 5=⟨2,1,0,0,5⟩from I,cm3]
theorem ud:cM=cq4:=by
 have h:cM=mkF cU 1 3 [dM 0 5] (kz 4) (kz 1) [] []:=wQ (by rw[wP.2.2.2];rfl) (by rw[wF.2.2.2];rfl);rw[h,uF (g':=gq4) pN.1 pN.2.1 pN.2.2,show dM 0 5=⟨2,0,0,0,5⟩from I,cm4]
theorem oJ:dX 3 cS3 bS cM bF:=
 Jg (by rw[uc,tj,id3,id2];decide+kernel) (by rw[uc,ud,id3,id4];decide+kernel) (by rw[uc,tx,id3,id1];decide+kernel)
  (by rw[tj,ud,id2,id4];decide+kernel) (by rw[tj,tx,id2,id1];decide+kernel) (by rw[ud,tx,id4,id1];decide+kernel)
end
section
set_option maxRecDepth 1000000
theorem KP:fJ cq1:=by refine⟨?_,?_,?_,?_,?_,?_,?_⟩<;>decide+kernel
theorem Rw:fJ cq2:=by refine⟨?_,?_,?_,?_,?_,?_,?_⟩<;>decide+kernel
theorem J4:fJ cq3:=by refine⟨?_,?_,?_,?_,?_,?_,?_⟩<;>decide+kernel
theorem Ms:fJ cq4:=by refine⟨?_,?_,?_,?_,?_,?_,?_⟩<;>decide+kernel
theorem lC:cZ (aR bF)/\cZ (aR bS)/\cZ (aR cS3)/\cZ (aR cM):=
 ⟨by rw[tx];exact KP.encOk,by rw[tj];exact Rw.encOk,by rw[uc];exact J4.encOk,by rw[ud];exact Ms.encOk⟩
theorem Pb{g:Grp}{vm vt:jk}{d:ja}(j:d<512)(b:j8 8){a:jk}{x:ap}{W:jj}(l:bL W g vm vt)(n:aG (·<W.heap.size) W a 5 1 x.cells)(o:gJ W)(p:ia g (d:N) ((d+2:ja):N) [x]=0)
 (c:Cmt) (r:c=mkC g (d:N) (d+2) [x] (kz b) (kz 1) (kz b)) (f:gS g c) (s:cZ (aR c)):
 jz jo 13 #[jh (aB g vm vt).toArray,jd je (d:N),v8 b,a] W λe w'=>∃q h i,e=jw (jH #[jh (aE c q).toArray,jh (aB (aC g c) h i).toArray,.bool ji])/\
  aW (λk=>W.heap.size<=k/\k<w'.heap.size) w' c q/\dz (λk=>W.heap.size<=k/\k<w'.heap.size) w' (aC g c) h i/\jl W W w':=by
 have B:=lU f.val;refine(RH g vm vt d j b a [x] W l (by rw[xr,xt,qh];exact n) o p c r (fQ.2 f) s Y Y ar).mono ?_;rintro e w' ⟨q,m,t,k,u,v,w,y,z⟩;exact⟨q,m,t,k,u,dz.of v w y,z⟩
structure SSt(w:jj)(BL:jg (ja×jp jk×jJ))(CL:jg CP)(GL:jg (Grp×jk×jk))(x:jj):Prop where
 blk:∀e∈BL,x.heap[e.1]?=A (jc e.2.1 e.2.2 (0,0))
 com:∀p∈CL,aW (·<x.heap.size) x p.1 p.2
 grp:∀p∈GL,bL x p.1 p.2.1 p.2.2
 tab:gJ x
 bel:jl w w x
section
variable {w x x':jj} {BL:jg (ja×jp jk×jJ)} {CL:jg CP} {GL:jg (Grp×jk×jk)}
theorem SSt.below(h:SSt w BL CL GL x)(a:jl x x x'):SSt w BL CL GL x':=
 ⟨λe he=>av (h.blk e he) a,λp b=>(h.com p b).below a,λp b=>(h.grp p b).below a,h.tab.below a,h.bel.trans (a.mono h.bel.size)⟩
theorem SSt.block(h:SSt w BL CL GL x){b:ja}{a:jp jk}{t:jJ}(c:x.heap[b]?=A (jc a t (0,0))):SSt w ((b,a,t)::BL) CL GL x:=
 ⟨λe he=>(qk.1 he).elim (λd=>d▸c) (h.blk e),h.com,h.grp,h.tab,h.bel⟩
theorem SSt.made(h:SSt w BL CL GL x){c:Cmt}{q:CQ}{g:Grp}{vm vt:jk}{D:ja->Prop}(d:aW D x c q)(e:∀k,D k->k<x.heap.size)(f:bL x g vm vt):SSt w BL ((c,q)::CL) ((g,vm,vt)::GL) x:=
 ⟨h.blk,λp a=>(qk.1 a).elim (λb=>b▸d.mono e) (h.com p),λp a=>(qk.1 a).elim (λb=>b▸f) (h.grp p),h.tab,h.bel⟩
theorem SSt.start(a:gJ w):SSt w [] [] [] w:=⟨λe h=>(by cases h),λe h=>(by cases h),λe h=>(by cases h),a,ms _ _⟩
end
theorem uO{W:jj}{g k:ja}{a:jp jk}{e:jJ}(h:W.heap[g]?=A (jc a e (0,0)))(b:a.size=k):aG (·<W.heap.size) W (jb (A ⟨g,0,jf⟩) 1 1) k 1 a.toList:=by
 refine⟨by rw[wv,b,Nat.one_mul],_,1,I,jD _,(λe=>by cases e),λ_=>⟨g,0,I,(jB.1 h).1,λj d c=>?_⟩⟩;rw[qX];exact ai h (ak c)
noncomputable def RCg:eL jo:=.of 42 62 5 40 (jh #[jd je 0,jd je 0,jd je 0,jd je 0,jd je 0]) underlying42 af I L L L
def vN:jk:=jb jf 0 0
def AG3:jp jk:=(aB (aI 3) vN vN).toArray
theorem I8{a:Act}{o:jK}(b:o.op=.build 41 #[(0,.const (jd je 3))])(W:jj):
 (jP a.eval o).run jo W=.ok (.value (jh AG3)) W:=by
 simp only[jP,b]
 kernel_rfl
theorem Bv(w:jj)(f:N):bL w (aI f) vN vN:=
 ⟨⟨rfl,jf,0,rfl,jD _,λ_=>rfl,λh=>jt h (qK _)⟩,oG w,rfl⟩
end
theorem sP(p:jG Addr)(n c:ja)(w:jj):jz jo 56 #[jb p n c] w λe w'=>e=jw (.bool (decide (n<=10)))/\jl w w w':=by
 by_cases h:n<=10
 ·have b:=aw ((n:N)<=10)
  have a:=O (qc h)
  go_enter func56,ntmps56
  go_wp2_with fail
  go_ret;exact⟨by rw[a];rfl,ms _ _⟩
 have b:=az ((n:N)<=10);have a:=O (decide_eq_false h)
 go_enter func56,ntmps56
 go_wp2_with fail
 go_ret;exact⟨by rw[a];rfl,ms _ _⟩
theorem Nk(c:Cmt)(q:CQ)(w:jj)(a:aW (·<w.heap.size) w c q)(X:c.box.length<=maxLen)(l4:c.wel.length<=maxLen):
 jz jo 20 #[jh (aE c q).toArray] w λe w'=>(∃b,e=jw (.bool b)/\(b=ji->tl c))/\jl w w w':=by
 have B:=dW.new w (q:=q) a.plen a.clen;have g:=ao w (jc (aE c q).toArray 48);obtain⟨C,D,H⟩:=a.chg.form;obtain⟨pp,cp,K⟩:=a.path.form;obtain⟨pb,cb,i⟩:∃p E,q.vb=jb p c.box.length E:=by obtain⟨us,h,-⟩:=a.box;exact h.form
 obtain⟨pw,cw,k⟩:∃p E,q.vw=jb p c.wel.length E:=by obtain⟨us,h,-⟩:=a.wel;exact h.form
 obtain⟨-,-,-,F,d,f,n,-,-⟩:=B.at;rw[H]at F;rw[K]at d;rw[i]at f;rw[k]at n;have YS:=O a.box;have Ya:=O a.wel;have a2:=O i;have a3:=O k;obtain⟨u,m⟩:=J c.chg.length;obtain⟨np,o⟩:=J c.path.length;obtain⟨r,v⟩:=J c.box.length;obtain⟨s,x⟩:=J c.wel.length;rw[<-m]at F;rw[<-o]at d;rw[<-v]at f X a2;rw[<-x]at n l4 a3;replace X:r<=9223372036854775807:=X;replace l4:s<=9223372036854775807:=l4;have a4:=O m;have a5:=O o;have Z3:=O v;have YB:=O x;obtain⟨b,y⟩:=J w.heap.size;obtain⟨a6,M⟩:=J ((aE c q).toArray);rw[<-M]at g F d f n⊢;rw[<-y]at F d f n;obtain⟨W,z⟩:=J (w.alloc (jc a6 48));rw[<-z]at g F d f n;have P:=O z;have Q:=O y;have t:=O g;clear B g a H K i k m o v x y M z
 go_enter func20,ntmps20
 go_upto_region 1 with fail
 rw[<-P,<-Q];clear P Q
 go_wp2_with fail
 go_loopw [3] (λi wr=>∃k:ja,i=jd je k/\k<=r/\T (∀x∈c.box.take k,x.body.length<=200)/\wr=W) (λi _=>r-(jQ i).toNat)
 case atStart=>exact⟨0,I,jM _,O ar,I⟩
 obtain⟨k,rfl,hk,a,H⟩:=hrel;rw[H];clear H
 by_cases aa:k<r
 case pos=>
  have ad:=aw ((k:N)<(r:N));have au:=aw (k<r);obtain⟨x,v,K⟩:=dN (l:=c.box) (j:=k) (by rw[<-Z3];exact aa);obtain⟨us,M,P⟩:=YS.out;obtain⟨ba,Q,R⟩:=P.at (i:=k) (b:=x.body) (by rw[qe,v];rfl);obtain⟨g,o,E,S,z⟩:=oE M (λ_ _=>rfl) v Q;rw[a2]at S;injection S with e1 e2 e3
  subst e1;subst e3;obtain⟨px,cx,rfl⟩:=R.form;have YK:=O K;obtain⟨m,B⟩:=J x.body.length;rw[<-B]at z;have d3:W.cell? ⟨g,o+k*4+3,jf⟩=A (jb px m cx):=aD (z 3 _ I) t;have HM:=O B;clear z M P Q R v K e2 B
  by_cases U:200<m
  case pos=>
   have ax:=aw ((200:N)<(m:N));have ay:=aw (200<m);clear U
   go_wp2_with fail
   go_ret;exact⟨⟨jn,I,λh=>by cases h⟩,t⟩
  have ax:=az ((200:N)<(m:N));have ay:=az (200<m);have a1:T (∀y∈c.box.take (k+1),y.body.length<=200):=O (λy V=>by
   rw[YK]at V
   rcases j3.1 V with h|h
   ·exact a y h
   obtain rfl:=jN.1 h;have:=HM.out
   omega)
  clear U a
  go_wp2_with fail
  exact⟨⟨k+1,by go_num,by omega,a1,by trivial⟩,by simp only[jQ];omega⟩
 have ad:=az ((k:N)<(r:N));have au:=az (k<r);obtain rfl:r=k:=Y;have Yf:T (∀x∈c.box,x.body.length<=200):=O (by have h:=a.out;rwa [Z3,r5]at h);clear a
 go_wp2_with fail
 go_loopw [4] (λi wr=>∃k:ja,i=jd je k/\k<=s/\T (∀x∈c.wel.take k,x.body.length<=200)/\wr=W) (λi _=>s-(jQ i).toNat)
 case atStart=>exact⟨0,I,jM _,O ar,I⟩
 obtain⟨k,rfl,hk,a,H⟩:=hrel;rw[H];clear H
 by_cases aa:k<s
 case pos=>
  have ad:=aw ((k:N)<(s:N));have au:=aw (k<s);obtain⟨x,v,K⟩:=dN (l:=c.wel) (j:=k) (by rw[<-YB];exact aa);obtain⟨us,M,P⟩:=Ya.out;obtain⟨ba,Q,R⟩:=P.at (i:=k) (b:=x.body) (by rw[qe,v];rfl);obtain⟨g,o,E,S,z⟩:=oE M (λ_ _=>rfl) v Q;rw[a3]at S;injection S with e1 e2 e3
  subst e1;subst e3;obtain⟨px,cx,rfl⟩:=R.form;have YK:=O K;obtain⟨m,B⟩:=J x.body.length;rw[<-B]at z;have d3:W.cell? ⟨g,o+k*3+2,jf⟩=A (jb px m cx):=aD (z 2 _ I) t;have HM:=O B;clear z M P Q R v K e2 B
  by_cases U:200<m
  case pos=>
   have ax:=aw ((200:N)<(m:N));have ay:=aw (200<m);clear U
   go_wp2_with fail
   go_ret;exact⟨⟨jn,I,λh=>by cases h⟩,t⟩
  have ax:=az ((200:N)<(m:N));have ay:=az (200<m);have a1:T (∀y∈c.wel.take (k+1),y.body.length<=200):=O (λy V=>by
   rw[YK]at V
   rcases j3.1 V with h|h
   ·exact a y h
   obtain rfl:=jN.1 h;have:=HM.out
   omega)
  clear U a
  go_wp2_with fail
  exact⟨⟨k+1,by go_num,by omega,a1,by trivial⟩,by simp only[jQ];omega⟩
 have ad:=az ((k:N)<(s:N));have au:=az (k<s);obtain rfl:s=k:=Y;have v:T (∀x∈c.wel,x.body.length<=200):=O (by have h:=a.out;rwa [YB,r5]at h);clear a
 by_cases m:u<=10
 case neg=>
  have i:T (decide (u<=10)=jn):=O (decide_eq_false m);clear m
  go_wp2_with fail
  refine(sP C u D _).mono ?_;rintro e o ⟨rfl,a⟩;have g:=ah t a;clear a;rw[i]
  go_wp2_with fail
  go_ret;exact⟨⟨jn,I,λh=>by cases h⟩,g⟩
 have i:T (decide (u<=10)=ji):=O (qc m);have x:=O m;clear m
 by_cases m:np<=12
 case neg=>
  have y:=az ((np:N)<=12);clear m
  go_wp2_with fail
  refine(sP C u D _).mono ?_;rintro e o ⟨rfl,a⟩;have g:=ah t a;rw[i];replace d:=aD d a;replace f:=aD f a;replace n:=aD n a;clear a
  go_wp2_with fail
  go_ret;exact⟨⟨jn,I,λh=>by cases h⟩,g⟩
 have y:=aw ((np:N)<=12);have z:=O m;clear m
 by_cases m:r<=40
 case neg=>
  have B:=az ((r:N)<=40);clear m
  go_wp2_with fail
  refine(sP C u D _).mono ?_;rintro e o ⟨rfl,a⟩;have g:=ah t a;rw[i];replace d:=aD d a;replace f:=aD f a;replace n:=aD n a;clear a
  go_wp2_with fail
  go_ret;exact⟨⟨jn,I,λh=>by cases h⟩,g⟩
 have B:=aw ((r:N)<=40);have H:=O m;clear m
 by_cases m:s<=10
 case neg=>
  have K:=az ((s:N)<=10);clear m
  go_wp2_with fail
  refine(sP C u D _).mono ?_;rintro e o ⟨rfl,a⟩;have g:=ah t a;rw[i];replace d:=aD d a;replace f:=aD f a;replace n:=aD n a;clear a
  go_wp2_with fail
  go_ret;exact⟨⟨jn,I,λh=>by cases h⟩,g⟩
 have K:=aw ((s:N)<=10);have M:=O m;clear m
 go_wp2_with fail
 refine(sP C u D _).mono ?_;rintro e o ⟨rfl,a⟩;have g:=ah t a;rw[i];replace d:=aD d a;replace f:=aD f a;replace n:=aD n a;clear a
 go_wp2_with fail
 go_ret;exact⟨⟨ji,I,λ_=>⟨Yf,v,by rw[<-a4];exact x,by rw[<-a5];exact z,by rw[<-Z3];exact H,by rw[<-YB];exact M⟩⟩,g⟩
end Go.Proofs.YtngkfaggaccpoaaGreatDoor
