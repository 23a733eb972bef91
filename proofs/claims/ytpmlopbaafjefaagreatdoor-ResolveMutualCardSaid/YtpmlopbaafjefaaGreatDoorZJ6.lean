/- Contracts of functions that the law reaches, part 6 of 7; no condition. -/
import Derived.Test.YtpmlopbaafjefaaGreatDoorZJ5
namespace Go.Proofs.YtpmlopbaafjefaaGreatDoor
set_option maxHeartbeats 64000000
set_option maxRecDepth 100000
set_option linter.unusedVariables false
set_option linter.unusedSimpArgs false
set_option linter.unusedSectionVars false
open Go.RowKit
open Go.Proofs.Tryz
open _root_ renaming rfl->I,Int->T,Nat->ja,List->jg,Array->jp,if_pos->jr,absurd->ju,Bool->jC,if_neg->jE,Option->jG,BitVec->j8,congrArg->qn,decide_eq_true->qo,of_decide_eq_true->qM
open Go.RowKit renaming Hid->N,Below->jl
open _root_.Option renaming some->A,none->jf
open Go.Value renaming slice->jb,agg->jh,pointer->jt,tuple->jI,string->qs
open Go.Obj renaming cells->jc
open Go.Value renaming int->jd
open Go.IntKind renaming i64->je
open _root_.Bool renaming true->ji,false->jo,and_eq_true->j7,or_eq_true->wx
open Go renaming World->jj,Value->jk,undef->jm,setRow_other->js,Calls->jB,TypeId->jH,Oper->jK,wp_region_noPanic->jM,execOp->jN,wp_store_row->jR,setRow_heap->jT,wp_region_lit->jZ,Operand->j1,wpList_load_row->j9,below_setRow->n0,Program->o1,wpList_plain->o8,wpOp_step->qb,bodyPost_ret_by->ql,callsIn_wide->qN,run_takeDeferred->qO,wp_store_mid->qQ,callsIn_of_wp_marks->r9,bodyPost_ret->sh,results_cell_row->sn
open Go.Proofs.Tryz renaming prog->jn
open Go.World renaming size_alloc->jq,alloc_heap_new->jz,putObj_heap_other->nv,cell?_of_block->qx,ownsRow_nil->qX
open _root_.List renaming size_toArray->jv,length_map->jw,mem_singleton->jP,filterMap_cons->jQ,map_nil->jU,getElem?_eq_some_iff->jV,map_cons->jY,length_cons->j0,mem_of_getElem?->j3,getElem?_toArray->mz,map_append->nn,mem_append->oj,map_toArray->p6,getElem?_append_left->qa,mem_map->qc,nil_append->qd,append_nil->qe,length_append->qg,mem_cons->qh,filterMap_nil->qj,filter_nil->qk,take_of_length_le->qu,find?_eq_none->qv,mem_cons_self->qy,mem_cons_of_mem->qz,length_nil->qA,push_toArray->qF,append_toArray->qG,cons_append->qH,length_take->qJ,filter_cons_of_neg->qL,getElem?_map->qS,append_assoc->qV,getElem?_cons_succ->qW,append_inj'->qY,setIfInBounds_toArray->qZ,set_cons_zero->q7,set_cons_succ->q8,mem_of_getLast?->rk,range->rn,foldl_cons->r5,foldl_nil->r6,find?_cons_of_neg->r7,take_append_drop->sq,find?_append->sv,getElem?_eq_getElem->sx,pairwise_cons->sy,mem_append_left->vi,mem_append_right->wi,replicate->wq,tail_drop->wt,all_eq_true->wv,mergeSort->xa,any_eq_true->xd,nodup_cons->xf,mem_iff_getElem?->xg,pairwise_map->xh,mergeSort_singleton->xi,mergeSort_nil->xj,flatMap_cons->xk,flatMap_nil->xl
open Go.Ending renaming returned->jy
open _root_.Array renaming getElem?_eq_some_iff->jA,all_eq_true_iff_forall_mem->jS,size_append->mb,all_append->ms,replicate->qf,replicate_succ->qD,replicate_zero->qE,toArray_toList->qT,length_toList->sA
open _root_.Nat renaming le_trans->jD,le_refl->jF,lt_of_lt_of_le->jL,zero_le->jO,le_of_eq->j5,le_succ->j6,add_assoc->qt,add_comm->qw,reduceAdd->qB,reduceSub->qC,zero_add->qU,le_add_right->q9,lt_irrefl->rv,not_lt_zero->r4,lt_trichotomy->xe
open Go.Value renaming int->jJ,oneCell'->j4,slice->qi,ownBlock->sB
open Go.Proofs renaming intOf->jW
open Go.Proofs.Tryz renaming underlying65->jX,underlying37->ob,underlying29->qP,underlying110->r8,underlying55->sa
open Go.NoPanic renaming normal->ow
open Go.RowKit.Below renaming refl->pz
open _root_.Int renaming eq_ofNat_of_zero_le->qI,toNat_natCast->qK
variable{m:Act}{R:CQ}{p:Cmt}{h:Exit->Act->jj->Prop}{a g':Grp}{i o y:LBy}{K P:Prop}{d:T}{x:aR}{U:ar}{Q:j1}{u:jH}{C:jK}{M b z:ja}{D E Ψ:ja->Prop}{t:jg (T×T)}{r:jg Bx}{f:jg Cmt}{S:jg aR}{e:jg ar}{B:jg jk}{W w w':jj}{j:jk}{V:jp jK}
theorem M0(l:jg Cmt)(P:jg ja)(d:LBy)(k:d.length=32)(v:jk)(w:jj)(h:cH w v 32 P.length (kf l P))(F:P.length<=1000000):
 jB jn 116 #[v,jh (d.map v8).toArray] w λe w'=>∃r,e=jy (jd je r)/\m0 (λi=>decide (aG (aQ l i)=d)) P r/\jl w w w':=by
 obtain⟨-,q,c,rfl,H,-,p⟩:=h;have u:=O p;obtain⟨n,o⟩:=J P.length;have x:=O o;rw[<-o]at F H u⊢;obtain⟨a,f⟩:=J ((d.map v8).toArray);have K:=O f;have M:N (a.size=VD.n):=O (by rw[f,jv,jw,k];rfl);obtain⟨m,g⟩:=J (w.alloc (jc a 23));have b:N (jl w w m):=O (by rw[g];exact ap _ _);have Q:N (m.heap[w.heap.size]?=A (jc a VD.t (0,0))):=O (by rw[g];exact jz _ _);have s:=O g;have R:=O k;rw[<-f];clear o p f g k
 go_enter func116,ntmps116
 go_upto_region 1 with fail
 rw[<-s];clear s
 go_wp2_with fail
 go_loopw [8] (λi wr=>∃k:ja,i=jd je k/\k<=n/\N (∀y∈P.take k,decide (aG (aQ l y)=d)=jo)/\N (jl m m wr)) (λi _=>n-(jW i).toNat)
 case atStart=>exact⟨0,I,jO _,O ao,O (pz _ _)⟩
 obtain⟨k,rfl,hk,p,i⟩:=hrel
 by_cases S:k<n
 ·have V:=az ((k:T)<(n:T))
  have W:=az (k<n);obtain⟨e,he,B⟩:=dK (l:=P) (j:=k) (by rw[<-x];exact S);obtain⟨g,o,rfl,C⟩:=u Y;have D:N (wr.rangeAt g (o+k*32) ((aG (aQ l e)).map v8)):=O λt X ht=>by
   rw[qt];exact aC (C _ X (BC he ht)) (b.trans (i.mono b.size))
  have Wd:=O (av Q i);obtain⟨r,f⟩:=J (decide (aG (aQ l e)=d));obtain⟨U,s⟩:=J (((aG (aQ l e)).map v8).toArray);have ad:∀z,(Op.equalIn 10000 23 (jh a) (jh U)).run jn z=.ok r z:=by
   rw[K,s,f,show decide (aG (aQ l e)=d)=decide (d=aG (aQ l e))from decide_eq_decide.2 ⟨Eq.symm,Eq.symm⟩];exact λz=>nZ _ _ R.out (dS _) z
  have E:=O f;have HU:=O s;have Vp:=O B;have HE:=O he;have aa:N (((aG (aQ l e)).map v8).length=VD.n):=O (by rw[jw,dS];rfl);clear C he B f s
  go_upto_region 4 with fail
  refine jM ?_;refine fN (λf=>f.heap[w.heap.size]?=A (jc a VD.t (0,0))/\f.rangeAt g (o+k*32) ((aG (aQ l e)).map v8)) 6 (.t 0 (.t 1 (.t 2 (.t 3 (.t 4 (.t 5 .done)))))) af af af af L (λ_ _ _ _ h=>h) ⟨Wd,D⟩ ?_
  (refine cL (v:=jh a) I ai (λf s=>cM VD.hu VD.hd (by rw[M];exact VD.hi) I I s.1) ?_;refine G ?_)
  iterate 3 refine cr ?_
  (refine cL (v:=jh U) I ai (λf s=>by rw[HU];exact gm _ _ VD.t _ I _ _ I _ VD.d s.2 VD.hu VD.hd (by rw[aa];exact VD.hi)) ?_;refine G ?_)
  refine cr ?_;refine fa ?_;have f:=bX wr;obtain⟨C,s⟩:=J wr.drew;rw[<-s]at f⊢;have B:=aj i f;clear f s D
  rcases r with _|_
  ·go_wp2_with fail
   exact⟨⟨k+1,by go_num,by omega,O (by
    rw[Vp];intro y f
    rcases oj.1 f with f|f
    ·exact p y f
    rw[jP]at f;rw[f];exact E.symm),B⟩,by simp only[jW];omega⟩
  go_wp2_with fail
  go_ret;exact⟨_,I,.inr ⟨k,_,I,HE,E.symm,p⟩,b.trans (B.mono b.size)⟩
 have V:=aw ((k:T)<(n:T));have W:=aw (k<n);obtain rfl:k=n:=Y
 go_wp2_with fail
 go_ret;exact⟨_,I,.inl ⟨I,by have h:=p.out;rw[qu (by rw[<-x];exact jF _)]at h;exact h⟩,b.trans (i.mono b.size)⟩
def dz(a:T)(b:LBy):jg jk:=jd je a::b.map v8
noncomputable def VF:VarT jn:=⟨59,33,(dz 0 cI).toArray,_,underlying59,I,by kernel_rfl,rfl,λ_=>by kernel_rfl⟩
theorem Bi{P:o1}{S:jj->Prop}{x y:bE}(d:da P V h S b (.one M x) m w)(e:da P V h S b (.one z y) m w):da P V h S b (.two M z x y) m w:=⟨d,e⟩
theorem M5(b:C.op=.build 29 #[(0,Q)])(c:m.eval Q=jd je d)(W:jj):
 (jN m.eval C).run jn W=.ok (.value (jh (aD (aM d) (jb jf 0 0) (jb jf 0 0)).toArray)) W:=by
 have f:=uE (P:=jn) (t:=29) (zero:=jh VG.Z) (places:=#[(0,1),(1,1),(2,32),(34,1),(35,1)]) (λw=>by kernel_rfl) VG.hu (λw=>by kernel_rfl) (parts:=#[(0,jd je d)]) (X:=(aD (aM d) (jb jf 0 0) (jb jf 0 0)).toArray) af W;simp only[jN,b,p6,jY,jU,c,Sem.run_bind,f,Result.andThen_ok,Sem.run_pure]
theorem m0.find{α:Type}{p:α->jC}{l:jg α}(h:m0 p l d):(d= -1/\l.find? p=jf)\/∃(k:ja) (x:α),d=k/\l[k]?=A x/\l.find? p=A x:=by
 rcases h with⟨b,a⟩|⟨k,x,b,a,c,r⟩
 ·exact .inl ⟨b,qv.2 λx e=>by rw[a x e];decide⟩
 refine .inr ⟨k,x,b,a,?_⟩;have g:=(jV.1 a).1;have e:l=l.take k++x::l.drop (k+1):=by
  rw[<-(jV.1 a).2,List.getElem_cons_drop,sq]
 rw[e,sv,qv.2 λy f=>by rw[r y f];decide];simp[c]
theorem Hd(a:T)(w:jj):bH w (aM a) (jb jf 0 0) (jb jf 0 0):=⟨EK.At.nil,nJ w,I⟩
theorem yu(k:P)(h:P->K:=by intro k;refine cL (v:=?_) rfl ai (λW' hS=>?_) ?_;rotate_left;(have b1:=ah (i:=0) hS.1 rfl;clear hS;go_simp;with_reducible rfl);refine G ?_;exact k):K:=h k
theorem tV(k:P)(h:P->K:=by intro k;refine cL (v:=?_) rfl ai (λW' hS=>?_) ?_;rotate_left;(have b1:=ah (i:=2) hS.1 rfl;clear hS;go_simp;with_reducible rfl);refine G ?_;exact k):K:=h k
theorem uc(k:P)(h:P->K:=by intro k;refine cL (v:=?_) rfl ai (λW' hS=>?_) ?_;rotate_left;(have b1:=hS.2.2.2.1;clear hS;go_simp;with_reducible rfl);refine G ?_;exact k):K:=h k
theorem FE(Un:jg CP)(v1 v2 v3:jk)(x:T)(UG:LBy)(i:UG.length=32)(w:jj)(r:iw (·<w.heap.size) w v1 v2 v3 Un)(V:∀p∈Un,cT (aP p.1))(W:bS w)(hn:Un.length<=1000):
 jB jn 53 #[jh #[v1,v2,v3],jh (dz x UG).toArray] w λe w'=>∃m o,e=jy (jI #[jh m,.bool o])/\m.size=VK.n/\m.all (·.oneCell')=ji/\
  (o=ji->∃k,m=(aL k).toArray/\KD (λb=>w.heap.size<=b/\b<w'.heap.size) Un w' k/\fC x UG (Un.map (·.1))=A k.cand)/\(o=jo->fC x UG (Un.map (·.1))=jf)/\jl w w w':=by
 obtain⟨l,u⟩:∃l:jg Cmt,l=Un.map (·.1):=⟨_,I⟩;obtain⟨PL,z⟩:=J (bV l l.length);have K:l.length=Un.length:=by rw[u,jw]
 have bm:PL.length<=1000:=by rw[z];have:=rZ l l.length;omega
 have R:=r.ids;have B:=r.at_;rw[<-u,<-K,<-z]at R B;obtain⟨p1,k1,rfl⟩:=r.list.form;obtain⟨p2,k2,rfl⟩:=R.form;obtain⟨p3,k3,rfl⟩:=B.form;have HL:=O r.list;have HI:=O R;have HA:=O B;have HE:=O V;have HT:=O W;have bn:=O u;have Wp:=O z;have bh:=O i;obtain⟨n,C⟩:=J Un.length;obtain⟨F,D⟩:=J PL.length;have Zx:=O C;have bo:=O D;have VA:N (l.length=n):=O (K.trans C.symm);rw[<-C]at hn⊢;rw[<-D]at bm HI HA⊢;rw[<-u];obtain⟨FA,y⟩:=J ((dz x UG).toArray);have bA:N (FA.size=VF.n):=O (by rw[y,jv];unfold dz;rw[j0,jw,i];rfl);have bp:N (FA[0]?=A (jd je x)):=O (by rw[y];rfl);have a5:N (∀(j:ja) d,(UG.map v8)[j]?=A d->FA[1+j]?=A d):=O λj d hj=>by
  rw[y,qw]
  simpa [dz]using hj
 have Yo:N ((UG.map v8).length=VD.n):=O (by rw[jw,i];rfl);rw[<-y];obtain⟨M,f⟩:=J w.heap.size;have HM:=O f;obtain⟨W0,c⟩:=J (((w.alloc (jc #[jb p1 n k1,jb p2 F k2,jb p3 F k3] 114)).alloc (jc FA 59)).alloc (jc VK.Z VK.t));have P:=ap w (jc #[jb p1 n k1,jb p2 F k2,jb p3 F k3] 114);have Q:=P.trans ((ap (w.alloc (jc #[jb p1 n k1,jb p2 F k2,jb p3 F k3] 114)) (jc FA 59)).mono P.size);have E:=ap ((w.alloc (jc #[jb p1 n k1,jb p2 F k2,jb p3 F k3] 114)).alloc (jc FA 59)) (jc VK.Z VK.t);have S:N (W0.heap[M]?=A (jc #[jb p1 n k1,jb p2 F k2,jb p3 F k3] 114 (0,0))):=O (by rw[c,f];exact av (av (jz w _) (ap _ _)) E);have U:N (W0.heap[M+1]?=A (jc FA VF.t (0,0))):=O (by
  have h:=jz (w.alloc (jc #[jb p1 n k1,jb p2 F k2,jb p3 F k3] 114)) (jc FA 59);rw[jq]at h;rw[c,f];exact av h E)
 have X:N (W0.heap[M+2]?=A (jc VK.Z VK.t (0,0))):=O (by
  have h:=jz ((w.alloc (jc #[jb p1 n k1,jb p2 F k2,jb p3 F k3] 114)).alloc (jc FA 59)) (jc VK.Z VK.t);rw[jq,jq]at h;rw[c,f];exact h)
 have Us:N (jl w w W0):=O (by rw[c];exact Q.trans (E.mono Q.size));have bq:N (W0.heap.size=M+3):=O (by rw[c,f,jq,jq,jq]);have HW:=O c;have aa:N (W0.rangeAt (M+1) 1 (UG.map v8)):=O λt d q=>ah U (a5 t d q)
 have H:=M0 l PL UG i (jb p2 PL.length k2) W0 ((R.keep λg hg=>Us.block g hg).row) Y;rw[<-D]at H;obtain⟨TF,g⟩:=J ((UG.map v8).toArray);rw[<-g]at H;have au:=O g;have ad:=O H;clear g;clear H P Q E c f y C D u K z R B r V W i
 go_enter func53,ntmps53
 go_upto_region 1 with(first|(refine VK.made I I (G ?_)))
 rw[<-HW];simp only[jq];rw[show w.heap.size+1+1=w.heap.size+2 from I,<-HM];clear HW;have g:=ah (i:=1) S I
 go_upto_region 2 with(first|(refine VD.load ai I I (UG.map v8) Yo aa ?_;rw[<-au];refine G ?_))
 refine ad.mono ?_;rintro e x1 ⟨r,rfl,f,c⟩;have HB:=O c;have V:N (jl w w x1):=aj Us c;have H:=ae S c;have K:=ae U c;have y:=ae X c;have br:=f.find;clear f c ad aa S U X g
 rcases br with⟨rfl,c⟩|⟨kk,i,rfl,g,c⟩
 ·have HF:N (fC x UG l=jf):=O (by unfold fC;rw[<-Wp,c];rfl)
  clear c
  go_wp2_with (first|(refine VK.loadA ai I I VK.Z VK.hZ y (G ?_))|(refine VK.store I I I VK.Z I VK.hZ af y VK.hZ ?_;rw[setRow_self _ _ _ _ _ y.out];refine G ?_))
  refine ql (fP I _ _ (M+2) VK.t VK.Z (0,0) _ I y r8 I (by rw[VK.hZ];exact VK.hi)) I ?_;exact⟨_,_,I,VK.hZ,by kernel_rfl,(λh=>by cases h),(λ_=>HF),V⟩
 have HF:N (fC x UG l=if cC (aM x) (aQ l i)=0 then A ⟨i,aQ l i,UG,0,aB (aM x) (aQ l i)⟩else jf):=O (by unfold fC;rw[<-Wp,c];rfl);have bB:kk<F:=by rw[bo];exact(jV.1 g).1
 have bs:i<n:=by
  have h:=j3 g;rw[Wp]at h;have R:=(oW.1 h).1;rw[VA]at R;exact R
 have hd:decide ((kk:T)<0)=jo:=by simp<;>omega
 have bC:=az (kk<F);have hd2:=az (i<n);obtain⟨ga,oa,ka,e3,D,-,E⟩:=HA.at1 Y;injection e3 with e1 z e2
 subst e1;subst e2;clear z;obtain⟨⟨u,qm⟩,f⟩:∃p,Un[i]?=A p:=⟨_,sx (by rw[<-Zx];exact bs)⟩;obtain⟨W,ol,kl,e5,S,-,-,U⟩:=HL.elem f;injection e5 with e1 z e2
 subst e1;subst e2;clear z;have z:=j3 f;have P:N (x1.cell? ⟨ga,oa+kk,jf⟩=A (jd je (i:ja))):=O (aC (E kk _ (by unfold iX;rw[qS,g];rfl)) V);have Q:N (x1.rangeAt W (ol+i*73) (aF u qm)):=O λj d hj=>aC (U j d hj) V
 have HQ:=O (HL.all _ z);have bi:=O (HE _ z);have bk:=O f;have a6:N (aQ l i=u):=O (by unfold aQ;rw[bn];simp[List.getD,f]);have Vx:N ((aF u qm).length=VC.n):=O (dl u qm HQ.plen HQ.clen);obtain⟨C,B⟩:=J ((aF u qm).toArray);have Yy:=O B;have VE:N (C.size=VC.n):=O (by rw[B,jv];exact Vx);obtain⟨G0,X⟩:=J ((aD (aM x) (jb jf 0 0) (jb jf 0 0)).toArray);have ba:=O X;have ay:N (cC (aM x) (aQ l i)=cC (aM x) u/\aB (aM x) (aQ l i)=aB (aM x) u):=O (by rw[a6];exact⟨I,I⟩);have Vb:N (ga<M/\W<M):=O ⟨by rw[HM];exact D,by rw[HM];exact S⟩;clear B X z f U E D S c g
 go_upto_region 4 with fail
 refine jM ?_;refine fN (λg=>g.heap[M]?=A (jc #[jb (A ⟨W,ol,jf⟩) n k1,jb p2 F k2,jb (A ⟨ga,oa,jf⟩) F k3] 114 (0,0))/\g.heap[M+1]?=A (jc FA VF.t (0,0))/\g.heap[M+2]?=A (jc VK.Z VK.t (0,0))/\g.cell? ⟨ga,oa+kk,jf⟩=A (jd je (i:ja))/\g.rangeAt W (ol+i*73) (aF u qm)) 19
  (.t 0 (.t 1 (.t 2 (.t 3 (.t 4 (.t 5 (.t 6 (.t 7 (.t 8 (.t 9 (.t 10 (.t 11 (.w 12 16 (.t 13 (.t 14 (.t 15 (.o 16 (.o 17 (.t 18 .done)))))) (.o 12 (.t 13 (.t 14 (.t 15 (.o 17 (.t 18 .done))))))))))))))))))) af af af af L (λ_ _ _ _ h=>h) ⟨H,K,y,P,Q⟩ ?_
 have c:=bX x1;obtain⟨x2,hx⟩:=J x1.drew;rw[<-hx]at c⊢;replace HB:=aj HB c;replace V:=aj V c;replace H:=ae H c;replace K:=ae K c;replace y:=ae y c;replace P:=O (aC P c);replace Q:N (x2.rangeAt W (ol+i*73) (aF u qm)):=O (λt d q=>aC (Q t d q) c);have a4:N (M+3<=x2.heap.size):=O (by rw[<-bq];exact HB.size);clear hx c;refine cr ?_
 (refine cL (v:=?_) I ai (λg S=>?_) ?_;rotate_left;(have f:=ah (i:=0) S.2.1 bp;clear S;go_simp;with_reducible rfl);refine G ?_)
 (refine cL (v:=jh G0) I ai (λg S=>by rw[ba];exact M5 I I g) ?_;refine G ?_)
 refine cr ?_;refine yu ?_;refine cr ?_;refine tV ?_;iterate 2 refine cr ?_
 refine uc ?_;refine cr ?_
 (refine cL (v:=jh C) I ai (λg S=>by rw[Yy];exact gm _ _ VC.t _ I _ _ I _ VC.d S.2.2.2.2 VC.hu VC.hd (by rw[Vx];exact VC.hi)) ?_;refine G ?_)
 refine Bi ?_ ?_
 ·refine cY I (λK' B=>?_)
  go_simp;have hN:=A5 (aM x) (jb jf 0 0) (jb jf 0 0) u qm x2 (Hd x _) (HQ.below V) bi (HT.below V) (jO _) (jO _);rw[<-ba,<-Yy]at hN;refine hN.mono ?_;clear hN;rintro e x3 ⟨X,er,rfl,hN⟩;have z:=O hN;clear hN;have U:=O z.bel;refine B _ _ ⟨av H (U),av K (U),av y (U),aC P (U),λt d q=>aC (Q t d q) (U)⟩ λ_=>?_
  clear B;refine G ?_;iterate 3 refine cr ?_
  refine cY I (λK' B=>?_);rw[jr ai];refine gM VG.t I VG.Z VG.hal ?_;have f:=U.trans ((ap x3 (jc VG.Z VG.t)).mono U.size);refine B _ _ ⟨av H (f),av K (f),av y (f),aC P (f),λt d q=>aC (Q t d q) (f)⟩ λ_=>?_
  clear B f;refine G ?_;refine cY I (λK' B=>?_);rw[jr ai];refine jR VG.t _ _ I x3.heap.size X I I VG.t VG.Z (jz x3 _) (by rw[z.sz];exact VG.hi) (VG.hZ.trans z.sz.symm) z.one ?_;rw[yj];obtain⟨x5,b7,hx,f,Wk,aa⟩:=cX x3 X VG.t;rw[<-hx,<-f];have ZS:N (M+3<=b7):=O (by rw[f];exact jD a4 U.size);have Vv:N (er=0->∃D E,X=(aD (aB (aM x) u) D E).toArray/\dN (λk=>M+3<=k/\k<x5.heap.size) x5 (aB (aM x) u) D E):=O λh=>by
   obtain⟨D,E,e1,R⟩:=z.new h;exact⟨D,E,e1,(R.below aa).mono λb f=>⟨jD a4 f.1,f.2⟩⟩
  have c:=U.trans (aa.mono U.size);refine B _ _ ⟨av H (c),av K (c),av y (c),aC P (c),λt d q=>aC (Q t d q) (c)⟩ λ_=>?_
  replace HB:=aj HB c;replace V:=aj V c;replace H:=ae H c;replace K:=ae K c;replace y:=ae y c;replace P:=O (aC P c);replace Q:N (x5.rangeAt W (ol+i*73) (aF u qm)):=O (λt d q=>aC (Q t d q) c);clear c;clear B hx f aa;refine G ?_;refine cr ?_;refine fa ?_;obtain⟨o,ho⟩:=J (decide (er=0));have a1:=O ho;have bu:(er==0)=o:=by rw[ho];by_cases h:er=0<;>simp[h]
  have bv:decide (er=0)=o:=ho.symm;clear ho
  go_upto_region 5 with fail
  refine jM ?_;refine fN (λg=>g.heap[M]?=A (jc #[jb (A ⟨W,ol,jf⟩) n k1,jb p2 F k2,jb (A ⟨ga,oa,jf⟩) F k3] 114 (0,0))/\g.heap[M+1]?=A (jc FA VF.t (0,0))/\g.heap[b7]?=A (jc X VG.t (0,0))/\g.cell? ⟨ga,oa+kk,jf⟩=A (jd je (i:ja))/\g.rangeAt W (ol+i*73) (aF u qm)) 22
   (.t 0 (.t 1 (.t 2 (.t 3 (.t 4 (.t 5 (.t 6 (.t 7 (.t 8 (.t 9 (.t 10 (.t 11 (.t 12 (.t 13 (.t 14 (.t 15 (.t 16 (.t 17 (.t 18 (.t 19 (.o 20 (.t 21 .done)))))))))))))))))))))) af af af af L (λ_ _ _ _ h=>h) ⟨H,K,Wk,P,Q⟩ ?_
  have c:=bX x5;obtain⟨x6,hx⟩:=J x5.drew;rw[<-hx]at c⊢;replace V:=aj V c;replace H:=ae H c;replace K:=ae K c;replace y:=ae y c;replace Wk:=ae Wk c;replace P:=O (aC P c);replace Q:N (x6.rangeAt W (ol+i*73) (aF u qm)):=O (λt d q=>aC (Q t d q) c);have bb:=O c;clear hx c;refine cr ?_;refine tV ?_;iterate 2 refine cr ?_
  refine uc ?_;refine cr ?_;refine yu ?_;refine cr ?_;refine tV ?_;iterate 2 refine cr ?_
  refine uc ?_;refine cr ?_
  (refine cL (v:=jh C) I ai (λg S=>by rw[Yy];exact gm _ _ VC.t _ I _ _ I _ VC.d S.2.2.2.2 VC.hu VC.hd (by rw[Vx];exact VC.hi)) ?_;refine G ?_)
  refine cr ?_
  (refine cL (v:=jh TF) I ai (λg S=>by rw[au];exact gm _ _ VD.t _ I (M+1) 1 I _ VD.d (λt d q=>ah S.2.1 (a5 t d q)) VD.hu VD.hd (by rw[Yo];exact VD.hi)) ?_;refine G ?_)
  (refine cL (v:=jh X) I ai (λg S=>cM VG.hu VG.hd (by rw[z.sz];exact VG.hi) I I S.2.2.1) ?_;refine G ?_)
  have Zo:N (TF.size=32):=O (by rw[au,jv];exact Yo);obtain⟨m,hY⟩:=J ((#[jJ .i64 (i:ja)]++C++TF++ #[jJ .i64 (0:T)]++X))
  (refine cL (v:=jh m) I ai (λg S=>by rw[hY];exact zy (i:=(i:ja)) (s:=0) (C:=C) (I0:=TF) (G0:=X) VE Zo z.sz I af g) ?_;refine G ?_)
  have Yq:N (m.size=VK.n):=O (by rw[hY,mb,mb,mb,mb,VE,Zo,z.sz];rfl);have a2:N (m.all (·.oneCell')=ji):=O (by
   have We:C.all (·.oneCell')=ji:=by rw[Yy,jS];exact λd hu=>nD HQ d (ak hu)
   have U8:TF.all (·.oneCell')=ji:=by rw[au];exact ff _
   rw[hY,ms,ms,ms,ms,z.one,We,U8];simp[j4])
  have bc:=O hY;clear hY;iterate 2 refine cr ?_
  refine cY I (λK' B=>?_);rw[jr ai];refine jR VK.t _ _ I (M+2) m I I VK.t VK.Z y.out (by rw[Yq];exact VK.hi) (VK.hZ.trans Yq.symm) a2 ?_;have aa:∀b,b≠M+2->(x6.setRow (M+2) m).heap[b]?=x6.heap[b]?:=λb f=>js _ _ _ _ f
  have ax:jl w w (x6.setRow (M+2) m):=iS V.out (by rw[<-HM];omega) m;have ad:(x6.setRow (M+2) m).heap.size=x6.heap.size:=setRow_size _ _ _;have a3:N ((x6.setRow (M+2) m).heap[M+2]?=A (jc m VK.t (0,0))):=O (jT _ _ _ _ _ _ y.out);generalize x6.setRow (M+2) m=x7 at aa ax ad a3⊢;refine B _ _ ⟨(aa M Y).trans H,(aa (M+1) Y).trans K,(aa b7 (aI ZS)).trans Wk,(qx (a:=⟨ga,oa+kk,jf⟩) (aa ga (cV Vb.1))).trans P,λt d q=>(qx (a:=⟨W,ol+i*73+t,jf⟩) (aa W (cV Vb.2))).trans (Q t d q)⟩ λ_=>?_
  have bd:N (er=0->∃D E,X=(aD (aB (aM x) u) D E).toArray/\dN (λk=>M+3<=k/\k<x7.heap.size) x7 (aB (aM x) u) D E):=O λh=>by
   obtain⟨D,E,e1,R⟩:=Vv h;exact⟨D,E,e1,((R.below bb).keep λb f=>aa b Y).mono λb f=>⟨f.1,by rw[ad];exact f.2⟩⟩
  have bf:=O ax;clear B aa ad ax Vv;refine G ?_;refine cr ?_;refine fa ?_
  go_wp2_with fail
  refine ql (fP I _ _ (M+2) VK.t m (0,0) _ I a3 r8 I (by rw[Yq];exact VK.hi)) I ?_;refine⟨m,o,I,Yq,a2,λh=>?_,λh=>?_,bf⟩
  ·have h0:er=0:=qM (a1.out▸h)
   obtain⟨D,E,e1,R⟩:=bd h0;refine⟨⟨i,(u,qm),UG,0,aB (aM x) u,D,E⟩,?_,KD.of bk (R.mono λb f=>⟨by rw[<-HM];omega,f.2⟩) bh,?_⟩
   ·rw[bc,Yy,au,e1,<-Ao,qT]
   rw[HF,ay.1,ay.2,jr (z.eq.symm.trans h0),a6];exact qn A CK.cand_of.symm
  have h0:¬er=0:=of_decide_eq_false (a1.out▸h);rw[HF,ay.1,jE (λe=>h0 (z.eq.trans e))]
 refine cY I (λK' B=>?_);rw[jr ai];refine gM VG.t I VG.Z VG.hal ?_;obtain⟨x3,b7,hx,f,bw,bg⟩:=cX x2 VG.Z VG.t;rw[<-hx,<-f];have UO:N (b7=x2.heap.size/\x3.heap.size=b7+1):=O ⟨f,by rw[hx,f,jq]⟩;have U:=O bg;have bl:=aj V bg;refine B _ _ ⟨av H (U),av K (U),av y (U),aC P (U),λt d q=>aC (Q t d q) (U)⟩ λ_=>?_
 clear B hx f bg;refine G ?_;refine cY I (λK' B=>?_);go_simp;have hN:=A5 (aM x) (jb jf 0 0) (jb jf 0 0) u qm x3 (Hd x _) (HQ.below bl) bi (HT.below bl) (jO _) (jO _);rw[<-ba,<-Yy]at hN;refine hN.mono ?_;clear hN;rintro e x4 ⟨X,er,rfl,hN⟩;have z:=O hN;clear hN;have UB:=O (U.trans (z.bel.mono U.size));have bg:=O (av bw z.bel);refine B _ _ ⟨av H (UB),av K (UB),av y (UB),aC P (UB),λt d q=>aC (Q t d q) (UB)⟩ λ_=>?_
 clear B;refine G ?_;iterate 3 refine cr ?_
 refine cY I (λK' B=>?_);rw[jr ai];refine jR VG.t _ _ I b7 X I I VG.t VG.Z bg.out (by rw[z.sz];exact VG.hi) (VG.hZ.trans z.sz.symm) z.one ?_;have Wk:N ((x4.setRow b7 X).heap[b7]?=A (jc X VG.t (0,0))):=O (jT _ _ _ _ _ _ bg.out);have c:jl x2 x2 (x4.setRow b7 X):=iS UB.out (by rw[UO.1];exact jF _) X;have YF:∀b,x3.heap.size<=b->(x4.setRow b7 X).heap[b]?=x4.heap[b]?:=λb f=>js _ _ _ _ (cV UO.2)
 have ad:(x4.setRow b7 X).heap.size=x4.heap.size:=setRow_size _ _ _;generalize x4.setRow b7 X=x5 at Wk c YF ad⊢;have ZS:N (M+3<=b7):=O (by rw[UO.1];exact a4);have Vv:N (er=0->∃D E,X=(aD (aB (aM x) u) D E).toArray/\dN (λk=>M+3<=k/\k<x5.heap.size) x5 (aB (aM x) u) D E):=O λh=>by
  obtain⟨D,E,e1,R⟩:=z.new h;exact⟨D,E,e1,(R.keep λb f=>YF b f.1).mono λb f=>⟨jD a4 (jD U.size f.1),by rw[ad];exact f.2⟩⟩
 refine B _ _ ⟨av H (c),av K (c),av y (c),aC P (c),λt d q=>aC (Q t d q) (c)⟩ λ_=>?_
 replace HB:=aj HB c;replace V:=aj V c;replace H:=ae H c;replace K:=ae K c;replace y:=ae y c;replace P:=O (aC P c);replace Q:N (x5.rangeAt W (ol+i*73) (aF u qm)):=O (λt d q=>aC (Q t d q) c);clear c;clear B YF ad;refine G ?_;refine cr ?_;refine fa ?_;obtain⟨o,ho⟩:=J (decide (er=0));have a1:=O ho;have bu:(er==0)=o:=by rw[ho];by_cases h:er=0<;>simp[h]
 have bv:decide (er=0)=o:=ho.symm;clear ho
 go_upto_region 5 with fail
 refine jM ?_;refine fN (λg=>g.heap[M]?=A (jc #[jb (A ⟨W,ol,jf⟩) n k1,jb p2 F k2,jb (A ⟨ga,oa,jf⟩) F k3] 114 (0,0))/\g.heap[M+1]?=A (jc FA VF.t (0,0))/\g.heap[b7]?=A (jc X VG.t (0,0))/\g.cell? ⟨ga,oa+kk,jf⟩=A (jd je (i:ja))/\g.rangeAt W (ol+i*73) (aF u qm)) 22
  (.t 0 (.t 1 (.t 2 (.t 3 (.t 4 (.t 5 (.t 6 (.t 7 (.t 8 (.t 9 (.t 10 (.t 11 (.t 12 (.t 13 (.t 14 (.t 15 (.t 16 (.t 17 (.t 18 (.t 19 (.o 20 (.t 21 .done)))))))))))))))))))))) af af af af L (λ_ _ _ _ h=>h) ⟨H,K,Wk,P,Q⟩ ?_
 have c:=bX x5;obtain⟨x6,hx⟩:=J x5.drew;rw[<-hx]at c⊢;replace V:=aj V c;replace H:=ae H c;replace K:=ae K c;replace y:=ae y c;replace Wk:=ae Wk c;replace P:=O (aC P c);replace Q:N (x6.rangeAt W (ol+i*73) (aF u qm)):=O (λt d q=>aC (Q t d q) c);have bb:=O c;clear hx c;refine cr ?_;refine tV ?_;iterate 2 refine cr ?_
 refine uc ?_;refine cr ?_;refine yu ?_;refine cr ?_;refine tV ?_;iterate 2 refine cr ?_
 refine uc ?_;refine cr ?_
 (refine cL (v:=jh C) I ai (λg S=>by rw[Yy];exact gm _ _ VC.t _ I _ _ I _ VC.d S.2.2.2.2 VC.hu VC.hd (by rw[Vx];exact VC.hi)) ?_;refine G ?_)
 refine cr ?_
 (refine cL (v:=jh TF) I ai (λg S=>by rw[au];exact gm _ _ VD.t _ I (M+1) 1 I _ VD.d (λt d q=>ah S.2.1 (a5 t d q)) VD.hu VD.hd (by rw[Yo];exact VD.hi)) ?_;refine G ?_)
 (refine cL (v:=jh X) I ai (λg S=>cM VG.hu VG.hd (by rw[z.sz];exact VG.hi) I I S.2.2.1) ?_;refine G ?_)
 have Zo:N (TF.size=32):=O (by rw[au,jv];exact Yo);obtain⟨m,hY⟩:=J ((#[jJ .i64 (i:ja)]++C++TF++ #[jJ .i64 (0:T)]++X))
 (refine cL (v:=jh m) I ai (λg S=>by rw[hY];exact zy (i:=(i:ja)) (s:=0) (C:=C) (I0:=TF) (G0:=X) VE Zo z.sz I af g) ?_;refine G ?_)
 have Yq:N (m.size=VK.n):=O (by rw[hY,mb,mb,mb,mb,VE,Zo,z.sz];rfl);have a2:N (m.all (·.oneCell')=ji):=O (by
  have We:C.all (·.oneCell')=ji:=by rw[Yy,jS];exact λd hu=>nD HQ d (ak hu)
  have U8:TF.all (·.oneCell')=ji:=by rw[au];exact ff _
  rw[hY,ms,ms,ms,ms,z.one,We,U8];simp[j4])
 have bc:=O hY;clear hY;iterate 2 refine cr ?_
 refine cY I (λK' B=>?_);rw[jr ai];refine jR VK.t _ _ I (M+2) m I I VK.t VK.Z y.out (by rw[Yq];exact VK.hi) (VK.hZ.trans Yq.symm) a2 ?_;have aa:∀b,b≠M+2->(x6.setRow (M+2) m).heap[b]?=x6.heap[b]?:=λb f=>js _ _ _ _ f
 have ax:jl w w (x6.setRow (M+2) m):=iS V.out (by rw[<-HM];omega) m;have ad:(x6.setRow (M+2) m).heap.size=x6.heap.size:=setRow_size _ _ _;have a3:N ((x6.setRow (M+2) m).heap[M+2]?=A (jc m VK.t (0,0))):=O (jT _ _ _ _ _ _ y.out);generalize x6.setRow (M+2) m=x7 at aa ax ad a3⊢;refine B _ _ ⟨(aa M Y).trans H,(aa (M+1) Y).trans K,(aa b7 (aI ZS)).trans Wk,(qx (a:=⟨ga,oa+kk,jf⟩) (aa ga (cV Vb.1))).trans P,λt d q=>(qx (a:=⟨W,ol+i*73+t,jf⟩) (aa W (cV Vb.2))).trans (Q t d q)⟩ λ_=>?_
 have bd:N (er=0->∃D E,X=(aD (aB (aM x) u) D E).toArray/\dN (λk=>M+3<=k/\k<x7.heap.size) x7 (aB (aM x) u) D E):=O λh=>by
  obtain⟨D,E,e1,R⟩:=Vv h;exact⟨D,E,e1,((R.below bb).keep λb f=>aa b Y).mono λb f=>⟨f.1,by rw[ad];exact f.2⟩⟩
 have bf:=O ax;clear B aa ad ax Vv;refine G ?_;refine cr ?_;refine fa ?_
 go_wp2_with fail
 refine ql (fP I _ _ (M+2) VK.t m (0,0) _ I a3 r8 I (by rw[Yq];exact VK.hi)) I ?_;refine⟨m,o,I,Yq,a2,λh=>?_,λh=>?_,bf⟩
 ·have h0:er=0:=qM (a1.out▸h)
  obtain⟨D,E,e1,R⟩:=bd h0;refine⟨⟨i,(u,qm),UG,0,aB (aM x) u,D,E⟩,?_,KD.of bk (R.mono λb f=>⟨by rw[<-HM];omega,f.2⟩) bh,?_⟩
  ·rw[bc,Yy,au,e1,<-Ao,qT]
  rw[HF,ay.1,ay.2,jr (z.eq.symm.trans h0),a6];exact qn A CK.cand_of.symm
 have h0:¬er=0:=of_decide_eq_false (a1.out▸h);rw[HF,ay.1,jE (λe=>h0 (z.eq.trans e))]
theorem Cd:∀(l:jg T) (a b:T),l.Pairwise (·<·)->(∀x∈l,a<=x/\x<=b)->(l.length:T)<=max 0 (b-a+1)
 |[],a,b,_,_=>by simp;omega
 |x::l,a,b,h,c=>by
  rw[sy]at h;have e:=c x (qy ..);have f:=Cd l (x+1) b h.2 λy d=>⟨by have:=h.1 y d;omega,(c y (qz _ d)).2⟩
  rw[j0];omega
theorem nN(h:dC a):a.mem.length<=512/\a.tree.length<=1023:=by
 constructor
 ·have g:=qn List.length h.dev
  rw[jw]at g;have:=Gt a.tree;omega
 have b:=lP h.tree;have g:=Cd (a.tree.map (·.1)) 1 1023 b.1.keys λx c=>by
  obtain⟨e,he,rfl⟩:=qc.1 c;exact⟨(b.2 e he).1,(b.2 e he).2.1⟩
 rw[jw]at g;omega
section
variable{b:CK}{e:jk}
section
variable {P:o1} {F:Fence} {nF:ja} {ops:jp jK} {rest:jg jK} {o:jK} {a:Act} {w:jj} {Q:Exit->Act->jj->Prop} (V:VarT P)
theorem VarT.madeI(d:o.guard=jf)(b:o.op=.alloc V.t)(h:wpListIn F nF P ops Q rest (a.put o.dst (jt (A ⟨w,0,jf⟩))) (w.alloc (jc V.Z V.t))):wpListIn F nF P ops Q (o::rest) a w:=by
 refine wpListIn_plain d λg e=>?_
 unfold Oper.wpIn;refine⟨by simp[Oper.about,b],?_⟩;rw[Oper.semAt_plain F _ _ (by rw[b];intro c f;cases f)];simp only[jN,b,Sem.run_bind,V.hal,Result.andThen_ok,Sem.run_pure];exact e _ _ h
theorem VarT.storeI(d:o.guard=jf){x y:j1}(e:o.op=.store V.t x y){g:ja}(f:a.eval x=jt (A ⟨g,0,jf⟩))(C:jp jk)(i:a.eval y=jh C)(c:C.size=V.n)(j:C.all (·.oneCell')=ji)
 {b:jp jk} (k:w.heap[g]?=A (jc b V.t (0,0))) (l:b.size=V.n) (h:wpListIn F nF P ops Q rest (a.put o.dst jm) (w.setRow g C)):wpListIn F nF P ops Q (o::rest) a w:=
 Ap d V.t x y e g C f i V.t b k (by rw[c];exact V.hi) (l.trans c.symm) j h
theorem VarT.firstI(b:o.guard=jf){x y:j1}(c:o.op=.store V.t x y)(d:a.eval x=jt (A ⟨w,0,jf⟩))(C:jp jk)(e:a.eval y=jh C)(f:C.size=V.n)(g:C.all (·.oneCell')=ji)
 (h:wpListIn F nF P ops Q rest (a.put o.dst jm) (w.alloc (jc C V.t))):wpListIn F nF P ops Q (o::rest) a (w.alloc (jc V.Z V.t)):=
 V.storeI b c d C e f g (jz w _) V.hZ (by rw[yj];exact h)
theorem VarT.loadI(e:Region.wanted o (yielded ops a.tmps)=ji){x:j1}(d:o.op=.load V.t x){g f:ja}(i:a.eval x=jt (A ⟨g,f,jf⟩))(b:jg jk)(j:b.length=V.n)(k:w.rangeAt g f b)
 (h:wpListIn F nF P ops Q rest (a.put o.dst (jh b.toArray)) w):wpListIn F nF P ops Q (o::rest) a w:=by
 refine wpListIn_step λn l=>?_
 rw[jr e];unfold Oper.wpIn;refine⟨by simp[Oper.about,d],?_⟩;rw[Oper.semAt_plain F _ _ (by rw[d];intro c m;cases m),gm o a V.t x d g f i b V.d k V.hu V.hd (by rw[j];exact V.hi)];exact l _ _ h
theorem VarT.loadAI(b:Region.wanted o (yielded ops a.tmps)=ji){x:j1}(c:o.op=.load V.t x){g:ja}(d:a.eval x=jt (A ⟨g,0,jf⟩))(C:jp jk)(e:C.size=V.n){t:jH}(f:w.heap[g]?=A (jc C t (0,0)))
 (h:wpListIn F nF P ops Q rest (a.put o.dst (jh C)) w):wpListIn F nF P ops Q (o::rest) a w:=by
 refine V.loadI b c d C.toList (by rw[sA];exact e) (λj v i=>?_) (by rw[qT];exact h);rw[qU];exact ah f (ak i)
end
theorem IC{w:jj}{g o:ja}(h:w.cell? ⟨g,o,jf⟩=A e):∃c t f,w.heap[g]?=A (jc c t f):=by
 unfold World.cell? at h
 cases ho:w.heap[g]? with
 |none=>simp[ho]at h
 |some a=>
  cases a with
  |cells c t f=>exact⟨c,t,f,I⟩
  |_=>simp[ho]at h
theorem cH.cellsB{w:jj}{sz n:ja}{xs:jg jk}(h:cH w e sz n xs)(i:0<sz):kW (λb=>∃c t f,w.heap[b]?=A (jc c t f)) e:=by
 obtain⟨f,p,c,rfl,-,-,j⟩:=h;rintro r k s v d a rfl;injection v with b l t
 subst l;obtain⟨g,o,rfl,m⟩:=j d;injection b with b
 subst b;have q:0<xs.length:=by rw[f];exact Nat.mul_pos d i
 exact IC (m 0 _ (sx q))
theorem bJ.cellsB{w:jj}{t:jg (T×T)}(h:bJ w e t):kW (λb=>∃c t f,w.heap[b]?=A (jc c t f)) e:=by
 obtain⟨p,c,rfl,-,-,f,-⟩:=h;rintro l k m v d a rfl;injection v with b i n
 subst i;obtain⟨g,o,rfl,j⟩:=f d;injection b with b
 subst b;exact IC (j 0 d).1
theorem dN.cellsOnly{D:ja->Prop}{w:jj}{g:Grp}{vt:jk}(h:dN D w g e vt):dN (λb=>D b/\∃c t f,w.heap[b]?=A (jc c t f)) w g e vt:=by
 refine⟨h.grp,λp k c vm b a d=>⟨h.bm p k c vm b a d,?_⟩,λp k c vm b a d=>⟨h.bt p k c vm b a d,?_⟩⟩
 ·exact cH.cellsB h.grp.mem L p k c vm b a d
 exact bJ.cellsB h.grp.tree p k c vm b a d
def gb(k:CK)(b:ja):Prop:=(∃a n c,k.vm=jb (A a) n c/\0<n/\a.block=b)\/∃a n c,k.vt=jb (A a) n c/\0<n/\a.block=b
theorem KD.own{D:ja->Prop}{f:jg CP}{w:jj}(h:KD D f w b):KD (λk=>gb b k/\D k) f w b:=
 ⟨h.at_,⟨h.grp.grp,λp n c e k a d=>⟨.inl ⟨a,n,c,by rw[e,d],k,I⟩,h.grp.bm p n c e k a d⟩,λp n c e k a d=>⟨.inr ⟨a,n,c,by rw[e,d],k,I⟩,h.grp.bt p n c e k a d⟩⟩,h.idl⟩
theorem rK{D:ja->Prop}{f:jg CP}{w:jj}(h:KD D f w b){k:ja}(g:gb b k):D k:=by
 rcases g with⟨a,n,c,e,d,rfl⟩|⟨a,n,c,e,d,rfl⟩
 ·exact h.grp.bm _ _ _ e d a I
 exact h.grp.bt _ _ _ e d a I
def GK(a:jg CP)(Ψ:ja->Prop)(W:jj)(k:CK):Prop:=KD (λb=>gb k b/\¬Ψ b/\∃c t f,W.heap[b]?=A (jc c t f)) a W k
theorem GK.of{D:ja->Prop}{a:jg CP}{Ψ:ja->Prop}{W:jj}{k:CK}(h:KD D a W k)(d:∀b,D b->¬Ψ b):GK a Ψ W k:=
 KD.own ⟨h.at_,h.grp.cellsOnly.mono λb c=>⟨d b c.1,c.2⟩,h.idl⟩
theorem GK.keep{g:jg CP}{Ψ i:ja->Prop}{d B:jj}{k:CK}(h:GK g Ψ d k)(e:∀b,gb k b->¬Ψ b->(∃c t f,d.heap[b]?=A (jc c t f))->B.heap[b]?=d.heap[b]?/\¬i b):GK g i B k:=
 (KD.keep h λb a=>(e b a.1 a.2.1 a.2.2).1).mono λb a=>⟨a.1,(e b a.1 a.2.1 a.2.2).2,by obtain⟨c,t,f,j⟩:=a.2.2;exact⟨c,t,f,(e b a.1 a.2.1 a.2.2).1.trans j⟩⟩
theorem GK.turns{B0:ja}{i:jg CP}{Ψ a:ja->Prop}{e B:jj}(h:GK i Ψ e b)(l:bP B0 a e B)(m:∀b,a b->Ψ b\/e.heap.size<=b):GK i a B b:=
 h.keep λk p n o=>by
  obtain⟨c,t,f,g⟩:=o;have d:¬a k:=λd=>by
   rcases m k d with j|j
   ·exact n j
   have:=(jA.1 g).1;omega
  exact⟨(l.cells g d).trans g.symm,d⟩
theorem Dt(B0:ja)(a:jg CP):bZ B0 (fun(ys:jg CK) Ψ W=>∀x∈ys,GK a Ψ W x):=
 λs Ψ f g B b c _ d x e=>(b x e).turns c d
structure fg(w0 w:jj)(a m:ja)(Ψ:ja->Prop)(W:jj):Prop where
 lt:∀k,Ψ k->k<W.heap.size
 old:∀k,m<=k->k<w.heap.size->Ψ k
 kept:∀k,m<=k->k<w.heap.size->W.heap[k]?=w.heap[k]?
 bel:jl a w0 W
 low:∀k,Ψ k->m<=k
 sz:w.heap.size<=W.heap.size
theorem fg.below{w0 w W c:jj}{b m:ja}{Ψ:ja->Prop}(h:fg w0 w b m Ψ W)(e:b<=w.heap.size)(a:jl W W c):fg w0 w b m Ψ c:=
 ⟨λk f=>jL (h.lt k f) a.size,h.old,λk g d=>(a.block k (jL d h.sz)).trans (h.kept k g d),h.bel.trans (a.mono (jD e h.sz)),h.low,jD h.sz a.size⟩
theorem fg.yield{w0 w W b:jj}{c m:ja}{Ψ:ja->Prop}(h:fg w0 w c m Ψ W)(d:jl c W b)(f:∀k,Ψ k->b.heap[k]?=W.heap[k]?):fg w0 w c m Ψ b:=
 ⟨λk a=>jL (h.lt k a) d.size,h.old,λk a e=>(f k (h.old k a e)).trans (h.kept k a e),h.bel.trans d,h.low,jD h.sz d.size⟩
theorem fg.more{w0 w W:jj}{c m b:ja}{Ψ:ja->Prop}(h:fg w0 w c m Ψ W)(d:b<W.heap.size)(e:m<=b):fg w0 w c m (λk=>Ψ k\/k=b) W:=
 ⟨λk a=>by rcases a with a|rfl;exact h.lt k a;exact d,λk f g=>.inl (h.old k f g),h.kept,h.bel,λk a=>by rcases a with a|rfl;exact h.low k a;exact e,h.sz⟩
theorem fg.pool{w0 w W:jj}{d m:ja}{Ψ:ja->Prop}{f g:jk}{a:jg CP}(h:fg w0 w d m Ψ W)(i:w0.heap.size<=d)(j:cF w0 e a)(k:aH (λb=>m<=b/\b<w.heap.size) w f 32 (bV (a.map (·.1)) a.length).length (kf (a.map (·.1)) (bV (a.map (·.1)) a.length)))
 (l:aH (λb=>m<=b/\b<w.heap.size) w g 1 (bV (a.map (·.1)) a.length).length (iX (bV (a.map (·.1)) a.length))):iw (·<W.heap.size) W e f g a:=
 ⟨j.below (h.bel.mono i),(k.keep λb c=>h.kept b c.1 c.2).mono λb c=>jL c.2 h.sz,(l.keep λb c=>h.kept b c.1 c.2).mono λb c=>jL c.2 h.sz⟩
noncomputable def uC(l:jg Cmt):jG CK->jg aR
 |none=>[]
 |some k=>om l k.cand
noncomputable def yE(l:jg Cmt)(k:CK):jg aR:=match et k.g l with|none=>[]|some w=>om l w
theorem Lb(l:jg Cmt)(k:CK):uC l (A k)=k.cand::yE l k:=vW l k.cand
structure CSt(a:jg CP)(e:T)(f:LBy)(w W:jj)(Ψ:ja->Prop)(b:ja)(c:jp jk)(ys:jg CK)(d:jG CK):Prop where
 box:W.heap[b]?=A (jc c VK.t (0,0))
 sz:c.size=VK.n
 one:c.all (·.oneCell')=ji
 mine:Ψ b
 low:w.heap.size<=b
 now:∀k,d=A k->c=(aL k).toArray/\GK a Ψ W k/\∃g,nX g (a.map (·.1)) k.cand
 rest:ys.map CK.cand++uC (a.map (·.1)) d=ft e f (a.map (·.1))
noncomputable def chM(l:jg Cmt)(a ok:jk)(W:jj):ja:=
 match ok,a with
 | .bool ji,jt (A ⟨b,_,_⟩)=>(l.countP λc=>decide (((W.cell? ⟨b,108,jf⟩).map jW).getD 0<c.epoch))+1
 |_,_=>0
theorem G7{a:jg CP}{d:T}{v:LBy}{w W:jj}{Ψ:ja->Prop}{k:ja}{f:jp jk}{ys:jg CK}(h:CSt a d v w W Ψ k f ys (A b))(g:cF W e a):
 chM (a.map (·.1)) (jt (A ⟨k,0,jf⟩)) (.bool ji) W=kj (a.map (·.1)) b.g+1:=by
 obtain⟨i,j,-⟩:=h.now b I;have c:=KD.kin j g;have l:W.cell? ⟨k,108,jf⟩=A (jd je b.g.epoch):=ah h.box (by
  rw[i,mz];exact(nI c 2).trans (lQ (vm:=b.vm) (vt:=b.vt) c.leads.llen).2.1)
 unfold chM;simp only[l]
 rfl
theorem yr(d:jg CP)(H U V:jk)(r:T)(q:LBy)(j:q.length=32)(w0 w:jj)(s m bp bf:ja)(v:w0.heap.size<=s)(F:jl s w0 w)(y:s<=m)(l:m<=w.heap.size)(P:cF w0 H d)
 (Q:aH (λb=>m<=b/\b<w.heap.size) w U 32 (bV (d.map (·.1)) d.length).length (kf (d.map (·.1)) (bV (d.map (·.1)) d.length))) (R:aH (λb=>m<=b/\b<w.heap.size) w V 1 (bV (d.map (·.1)) d.length).length (iX (bV (d.map (·.1)) d.length)))
 (o:w.heap[bp]?=A (jc #[H,U,V] VP.t (0,0))) (u:w.heap[bf]?=A (jc (dz r q).toArray VF.t (0,0))) (S:m<=bp) (X:m<=bf) (C:∀p∈d,cT (aP p.1)) (hT:bS w0) (D:d.length<=1000) (aa:∀p∈d,p.1.chg.length<=1000000):
 z7 jn 115 #[jt (A ⟨bp,0,jf⟩),jt (A ⟨bf,0,jf⟩)] (λk:CK=>#[jh (aL k).toArray]) (λk=>m<=k/\k<w.heap.size) s (λxs=>xs.map CK.cand=ft r q (d.map (·.1))) (λa=>∃c,a.map CK.cand++c=ft r q (d.map (·.1)))
  (λys Ψ e=>(∃a x,ys=a++[x]/\GK d Ψ e x)/\∃c,ys.map CK.cand++c=ft r q (d.map (·.1))) (λys Ψ B=>∀x∈ys,GK d Ψ B x) gb w:=by
 intro lp K Jx W c p x B hY ad;have e:fg w0 w s m (λk=>m<=k/\k<w.heap.size) W:=⟨λk g=>jL g.2 c.size,λk a b=>⟨a,b⟩,λk _ g=>c.block k g,F.trans (c.mono (jD y l)),λk g=>g.1,c.size⟩;obtain⟨PA,f⟩:=J (#[H,U,V]);obtain⟨FA,i⟩:=J ((dz r q).toArray);have bl:N (PA.size=VP.n):=O (by rw[f];rfl);have bB:N (FA.size=VF.n):=O (by rw[i,jv];unfold dz;rw[j0,jw,j];rfl);rw[<-f]at o;rw[<-i]at u;have Y7:N (∀Ψ z,fg w0 w s m Ψ z->z.heap[bp]?=A (jc PA VP.t (0,0))):=O λΨ z h=>(h.kept bp S (jA.1 o).1).trans o
 have bC:N (∀Ψ z,fg w0 w s m Ψ z->z.heap[bf]?=A (jc FA VF.t (0,0))):=O λΨ z h=>(h.kept bf X (jA.1 u).1).trans u
 have YD:N (∀Ψ z,fg w0 w s m Ψ z->iw (·<z.heap.size) z H U V d):=O λΨ z h=>h.pool v P Q R
 have bm:N (∀Ψ z,fg w0 w s m Ψ z->bS z):=O λΨ z h=>hT.below (h.bel.mono v)
 have bI:=O f;have b9:=O i;have HE:=O C;have HN:=O D;have VT:=O aa;have Zq:=O e;have M:=O p;have ca:=O x;have HG:=O B;have HY:=O hY;have E:=O ad;have YA:=O (jD y l);have bn:=O l;have bb:=O c.size;have cb:=O j;have WL:=O (Y7 _ _ e);have Ve:=O (bC _ _ e);have t:=FE d H U V r q j W (YD _ _ e) C (bm _ _ e) D;rw[<-f,<-i]at t;replace t:=O t;clear c p x B hY ad e f i o u v F y l P Q R S X C hT D aa j;refine(qN (n:=0)).1 ?_;refine callsIn_of_wp func115 I trivial ?_ I;simp only[ntmps115,jv,j0,qA,qB,qC,qD,qE,qF,qG,qd,qH]
 gi_wp2_with (first|(refine VP.loadAI ai I I PA bl WL (G ?_))|(refine VF.loadAI ai I I FA bB Ve (G ?_)))
 refine⟨trivial,I,(callsIn_wide.2 t).mono ?_⟩;rintro e x1 ⟨p,o,rfl,c,au,f,i,u⟩;obtain⟨l,rfl,x,y⟩:∃l:jG CK,o=l.isSome/\(∀k,l=A k->p=(aL k).toArray/\KD (λb=>W.heap.size<=b/\b<x1.heap.size) d x1 k/\fC r q (d.map (·.1))=A k.cand)/\(l=jf->fC r q (d.map (·.1))=jf):=by
  rcases o with _|_
  ·exact⟨jf,I,(λk g=>by cases g),(λ_=>i I)⟩
  obtain⟨k,C,P,h3⟩:=f I;exact⟨A k,I,λj g=>by injection g with g;subst g;exact⟨C,P,h3⟩,λh=>by cases h⟩
 have D:=O c;have F:=O au;have v:=O x;have R:=O y;have X:=O u;clear c au f i x y u WL Ve t;obtain⟨ok,c⟩:=J l.isSome;rw[<-c];have bK:=O c;clear c
 gi_wp2_with (first|(refine VK.madeI I I (G ?_))|(refine VK.firstI I I I p I D F (G ?_)))
 obtain⟨x2,b4,hx,u,Q,t⟩:=cX x1 p VK.t;rw[<-hx,<-u];have x:=X.trans (t.mono X.size);obtain⟨y,f⟩:∃y:ja->Prop,y=λk=>(m<=k/\k<w.heap.size)\/k=b4:=⟨_,I⟩
 have aa:W.heap.size<=b4:=by rw[u];exact X.size
 have S:∀b,(W.heap.size<=b/\b<x1.heap.size)->¬y b:=λb bo h=>by
  rw[f]at h;have:=bb.out
  rcases h with h|h
  ·omega
  omega
 have ad:N (fg w0 w s m y x2):=O (by rw[f];exact(Zq.below YA x).more (by rw[u];have h:=(jA.1 Q).1;rw[u]at h;exact h) (dY bb bn));have U3:N (K [] y x2):=O (M _ _ y _ _ E.out (bP.ofBelow x λk g _=>g) (λk g=>by rw[f];exact .inl g) (λk g=>by
  rw[f]at g
  rcases g with g|g
  ·exact .inl g
  exact .inr (by rw[g];exact aa)))
 have VV:N (∀k,l=A k->K [] (λi=>y i\/gb k i) x2):=O λk g=>M _ _ (λi=>y i\/gb k i) _ _ E.out (bP.ofBelow x λk g _=>g) (λi c=>by rw[f];exact .inl (.inl c)) (λi c=>by
  rw[f]at c
  rcases c with(c|c)|c
  ·exact .inl c
  ·exact .inr (by rw[c];exact aa)
  exact .inr (rK (v k g).2.1 c).1)
 have B:N (CSt d r q w x2 y b4 p [] l):=O ⟨Q,D,F,by rw[f];exact .inr I,jD bb aa,λk g=>by
  obtain⟨e1,e2,e3⟩:=v k g;refine⟨e1,GK.of (e2.keep λb bo=>t.block b bo.2) S,_,(F5 e3).1⟩,by
  rw[zk,jU,qd]
  rcases l with _|k
  ·rw[R I];rfl
  rw[(v k I).2.2];rfl⟩
 have U9:N (W.heap.size<=x2.heap.size):=O x.size;clear hx u t x aa S f v R X Q D F E Zq
 gi_loopw [4,5] (λf ok wr=>W.heap.size<=wr.heap.size/\∃(b:ja) (p:jp jk) (ys:jg CK) (l:jG CK) (Ψ:ja->Prop),f=jt (A ⟨b,0,jf⟩)/\ok=.bool l.isSome/\N (fg w0 w s m Ψ wr)/\N (K ys Ψ wr)/\N (∀k,l=A k->K ys (λi=>Ψ i\/gb k i) wr)/\N (CSt d r q w wr Ψ b p ys l)) (λf ok wr=>chM (d.map (·.1)) f ok wr)
 case atStart=>exact⟨U9,b4,p,[],l,y,I,by rw[bK],ad,U3,VV,B⟩
 obtain⟨cc,b,p,ys,l,Ψ,rfl,rfl,ad,U3,VV,B⟩:=hrel
 rcases l with _|k
 ·have t:N (ys.map CK.cand=ft r q (d.map (·.1))):=O (by have h:=B.rest;unfold uC at h;rw[qe]at h;exact h)
  gi_wp2_with fail
  refine⟨(λf h=>by cases h),?_⟩
  gi_wp2_with fail
  refine bodyPost_end (results_none I _ _ _) I ?_;exact⟨⟨_,I⟩,.inl ⟨_,_,t,U3⟩⟩
 obtain⟨f,t,g0,v⟩:=B.now k I;have bM:=O t;have ZO:=O v;have bN:=O f;have bq:N (cF wr H d):=O (YD _ _ ad.out).list;have bO:=O (G7 B bq);have UX:N ((ys++[k]).map CK.cand++yE (d.map (·.1)) k=ft r q (d.map (·.1))):=O (by
  rw[<-B.rest,nn,qV,Lb]
  rfl)
 have UO:=O B.box;have ay:=O B.sz;have X:=O B.one;have br:=HY ys k Ψ wr U3 (VV k I) ad.lt ⟨⟨ys,k,I,t⟩,_,UX⟩;rw[<-f]at br;obtain⟨fn,tmps,assign,body,au,D⟩:=br;have HR:=O D;clear D f t v
 gi_wp2_with (first|(refine VK.loadAI ai I I p ay UO (G ?_)))
 refine⟨I,HR.mono ?_⟩;rintro e W3 (⟨rfl,Za,x,Va⟩|⟨rfl,ZL,x,Va⟩)
 ·have E:=O (ad.yield x Va)
  have a3:=O (HG _ _ _ Za k ao);have a1:=O Za;have Wj:=O ((Va b B.mine).trans UO);have Ws:=x.size;clear Za x Va HR au ad bM U3 VV UO bq
  gi_upto_region 2 with(first|(refine VK.loadAI ai I I p ay Wj (G ?_))|(refine VK.madeI I I (G ?_))|(refine VK.firstI I I I p I ay X (G ?_)))
  obtain⟨D,v,hx,u,Q,F⟩:=cX W3 p VK.t;rw[<-hx,<-u];obtain⟨f,t⟩:∃f:ja->Prop,f=λi=>Ψ i\/i=v:=⟨_,I⟩
  have YZ:v<D.heap.size:=(jA.1 Q).1;have ax:N (fg w0 w s m f D):=O (by rw[t];exact(E.below YA F).more YZ (by rw[u];have:=E.sz;have:=bn.out;omega));have R:∀i,f i->Ψ i\/W3.heap.size<=i:=λi c=>by
   rw[t]at c
   rcases c with c|c
   ·exact .inl c
   exact .inr (by rw[c,u];exact jF _)
  have S:bP W.heap.size f W3 D:=bP.ofBelow F λi c _=>c
  have bs:N (K (ys++[k]) f D):=O (M _ _ f _ _ a1.out S (λi c=>by rw[t];exact .inl c) R);have bT:N (GK d f D k):=O (a3.turns S R);have a2:N (f v):=O (by rw[t];exact .inr I);have bc:N (w.heap.size<=v):=O (by rw[u];exact E.sz);have WQ:N (W.heap.size<=D.heap.size/\W.heap.size<=v):=O ⟨by have:=F.size;omega,by rw[u];omega⟩;clear hx u F t YZ R S E a3 a1 Wj Ws;have bd:=O (YD _ _ ax.out);have WL:=O (Y7 _ _ ax.out);have ZW:=O (KD.kin bT bd.list);have bu:=O (nN (gY (ud ZO)));have WB:N ((aD k.g k.vm k.vt).length=VG.n):=O (eX ZW.leads.llen);have b0:N (D.rangeAt v 107 (aD k.g k.vm k.vt)):=O λt cd ht=>ah Q (by
   rw[bN,mz];have h:=nI ZW (1+t);rw[<-qt,qw 1 t,qW]at h;exact h.trans ht)
  have a3:=uj d H U V k.g k.vm k.vt D bd ZW.leads HE (bm _ _ ax.out) HN (by have h:=bu.1;rw[<-ZO.leads]at h;have P:k.g.mem.length<=512:=h;omega) (by have h:=bu.2;rw[<-ZO.leads]at h;have P:k.g.tree.length<=1023:=h;omega) VT;obtain⟨GA,E⟩:=J ((aD k.g k.vm k.vt).toArray);rw[<-E,<-bI]at a3;have Vb:=O E;replace a3:=O a3;clear E
  gi_wp2_with (first|(refine VP.loadAI ai I I PA bl WL (G ?_))|(refine VG.loadI ai I I (aD k.g k.vm k.vt) WB b0 ?_;rw[<-Vb];refine G ?_))
  refine⟨trivial,I,(callsIn_wide.2 a3).mono ?_⟩;rintro e x5 ⟨wk,rfl,a4,a5,R⟩;obtain⟨E,F⟩:=J (x5.setRow v (dm wk));have bg:=ax.lt;have aa:=bg v a2;have bh:=av Q R;have a6:=sM (wk:=wk) λj h=>(a4 j h).kin (bd.list.below R)
  have b1:=R.size;have bi:∀i,i≠v->E.heap[i]?=x5.heap[i]?:=λi c=>by rw[F];exact js _ _ _ _ c
  have ba:E.heap.size=x5.heap.size:=by rw[F];exact setRow_size _ _ _
  have S:=ax.below YA R;have bv:N (fg w0 w s m f E):=O ⟨λi c=>by rw[ba];exact S.lt i c,S.old,λi C P=>(bi i (aI bc)).trans (S.kept i C P),by rw[F];exact iS S.bel (jD YA bc) _,S.low,by rw[ba];exact S.sz⟩;have b2:N (K (ys++[k]) f E):=O (by
   have C:=M.keep bs (bP.ofBelow R λi c _=>c);rw[F];exact M.keep C (bP.setRow _ _ _ a2.out))
  have b3:N (∀j,wk=A j->K (ys++[k]) (λi=>f i\/gb j i) E):=O λj h=>by
   have C:=M _ _ (λi=>f i\/gb j i) _ _ bs.out (bP.ofBelow R λi c _=>c) (λi c=>.inl c) (λi c=>by
    rcases c with c|c
    ·exact .inl c
    exact .inr (rK (a4 j h) c).1)
   rw[F];exact M.keep C (bP.setRow _ _ _ (.inl a2))
  have bk:∀j,wk=A j->nX k.g (d.map (·.1)) j.cand:=λj h=>by
   rw[h]at a5;exact(vz (AT a5.symm)).1
  have bw:N (CSt d r q w E f v (dm wk) (ys++[k]) wk):=O ⟨by rw[F];exact jT _ _ _ _ _ _ bh,a6.1,a6.2,a2,bc,λj h=>by
   refine⟨by rw[h];rfl,GK.of ((a4 j h).keep λi c=>bi i Y) (λi c h3=>by have:=bg i h3;omega),_,bk j h⟩,by
   rw[<-UX];refine qn (_ ++·) ?_;unfold uC yE;rw[<-a5]
   cases wk<;>rfl⟩
  have b5:N (chM (d.map (·.1)) (jt (A ⟨v,0,jf⟩)) (.bool wk.isSome) E<chM (d.map (·.1)) (jt (A ⟨b,0,jf⟩)) (.bool ji) wr):=O (by
   rw[bO]
   cases hwk:wk with
   |none=>exact Nat.succ_pos _
   |some j=>
    have C:=G7 (hwk▸bw.out) (YD _ _ bv.out).list;have P:=yR (bk j hwk);have h3:kj (d.map (·.1)) j.g<kj (d.map (·.1)) k.g:=P;show chM _ _ (.bool ji) _ <_;rw[C];omega)
  have b6:=O bh;have bA:=O a6;have b7:=O F;have b8:N (W.heap.size<=E.heap.size):=O (by rw[ba];have:=WQ.out;omega);clear bg aa bh a6 b1 bi ba S bk a4 a5 R F
  gi_wp2_with (first|(refine VK.storeI I I I (dm wk) I bA.1 bA.2 b6 ay ?_;rw[<-b7];refine G ?_))
  exact⟨⟨b8,v,dm wk,ys++[k],wk,f,I,I,bv,b2,b3,bw⟩,b5⟩
 have a1:=O ZL;clear ZL x Va HR au
 gi_wp2_with fail
 refine bodyPost_end (results_none I _ _ _) I ?_;exact⟨⟨_,I⟩,.inr ⟨_,_,⟨_,UX⟩,a1⟩⟩
end
theorem R7{P:o1}{h:Exit->Act->jj->Prop}{b M z:ja}{m:Act}{w:jj}(S:jj->Prop)(f:ja)(t:bE)(g:P.follows .mixedOrders=ji)(i:Region.noSelect V=ji)(j:rP V=ji)
 (k:gC .any V t (qf V.size jo)=ji) (a:t.waits .any V f=ji) (o:t.len<=V.size) (p:∀c m d w,h (.panic c) m w->h (.panic c) d w) (c:¬LetsOut h)
 (q:S w.drew) (d:da P V h S f t m w.drew):(Code.region z V ji).wpIn (Fence.wide.inRound b) M P h m w:=
 wpIn_region_any g (yz c j _ _ _ _ (rQ _ _ _ _ (iP.zero _) (kG i p t _ _ _ _ o k a (.inr q) d)))
theorem zQ(a b:jp jk)(w:jj):jB jn 52 #[jh a,jh b] w λe w'=>
 e=jy (.func (.func 115) #[] #[jt (A ⟨w,0,jf⟩),jt (A ⟨w.heap.size+1,0,jf⟩)])/\w'=(w.alloc (jc a 114)).alloc (jc b 59):=by
 go_enter func52,ntmps52
 go_wp2_with fail
 go_ret;exact⟨I,I⟩
theorem zK(t:jp jk)(p:Tmp)(v:jk):(#[p].zip #[v]).foldl (λt (p,v)=>t.setIfInBounds p v) t=t.setIfInBounds p v:=by simp
theorem Ec(l:jg Cmt):∀(n:ja) (c:jG aR),(kV l n c).length<=n
 |0,_=>jF _
 |_ +1,jf=>jO _
 |n+1,A c=>Nat.succ_le_succ (Ec l n _)
noncomputable def RG:eC jn:=.of 60 29 36 96 (jh VG.Z) underlying60 af VG.hZ L L L
theorem bP.more(h:bP b D w W):bP b (λB0=>D B0\/E B0) w W:=⟨h.os,h.tape,h.output,h.size,λk B0 d=>h.block k B0 λe=>d (.inl e)⟩
theorem bZ.more{β:Type}{c:β->(ja->Prop)->jj->Prop}(h:bZ b c)(d:β->ja->Prop):bZ b (λs Ψ W=>c s (λB0=>Ψ B0\/d s B0) W):=
 λs Ψ j B0 B e f g i=>h s _ _ B0 B e f.more (λk a=>a.imp (g k) id) λk a=>a.elim (λa=>(i k a).imp .inl id) λa=>.inl (.inr a)
def gbs(ys:jg CK)(b:ja):Prop:=∃k∈ys,gb k b
def ChI(a:jg CP)(M:ja)(w:jj)(ys:jg CK)(Ψ:ja->Prop)(W:jj):Prop:=(∀x∈ys,GK a Ψ W x)/\gQ (M+1) 31 (M+1) RI.e RI.k ys.length (ys.map λk=>jJ .i64 (k.ix:ja)) (λ_=>True) (λb=>Ψ b\/gbs ys b) W/\gQ (M+2) 60 (M+1) RG.e RG.k ys.length (ys.flatMap λk=>aD k.g k.vm k.vt) (λ_=>True) (λb=>Ψ b\/gbs ys b) W/\(jl w w W/\∀k,Ψ k->w.heap.size<=k)
theorem FB(a:jg CP)(M:ja)(w:jj)(B0:ja)(h:w.heap.size<=B0):bZ B0 (ChI a M w):=
 (Dt _ _).and (((m8 _ _ _ _ _ _ (λys:jg CK=>ys.length) (λys=>ys.map λk=>jJ .i64 (k.ix:ja)) (λ_ _=>True)).more gbs).and (((m8 _ _ _ _ _ _ (λys:jg CK=>ys.length) (λys=>ys.flatMap λk=>aD k.g k.vm k.vt) (λ_ _=>True)).more gbs).and (kL _ _ w (jF _) h)))
def Off(B M:ja)(t e:jH)(k:ja)(x:CK)(Ψ:ja->Prop)(W:jj):Prop:=∃n xs,gQ B t M e k n xs (λ_=>True) (λb=>Ψ b\/gb x b) W
theorem Off.stable(B M:ja)(t e:jH)(k B0:ja):bZ B0 (Off B M t e k):=by
 rintro x Ψ a b W ⟨n,xs,h⟩ c d f;exact⟨n,xs,((m8 B0 B t M e k (λ_:CK=>n) (λ_=>xs) (λ_ _=>True)).more gb) x Ψ a b W h c d f⟩
theorem Off.sep{e:jH}{x:CK}(h:Off b M u e z x D w)(c:Boxed w b u j):¬gb x b/\∀v,j.ownBlock=A v->¬gb x v:=by
 obtain⟨n,xs,B,d,f,-,g,-⟩:=h;have e:j=B:=by have a:A (Obj.cells #[j] u (0,0))=A (jc #[B] u (0,0)):=c.symm.trans d;injection a with a;injection a with a;simpa using a
 exact⟨λh=>f (.inr h),λv i h=>g v (by rw[<-e];exact i) (.inr h)⟩
theorem gQ.less{e:jH}{n:ja}{a:jk->Prop}(h:gQ b u M e z n B a D w)(d:∀k,E k->D k):gQ b u M e z n B a E w:=by
 obtain⟨v,f,g,i,k,l⟩:=h;exact⟨v,f,λh=>g (d _ h),i,λj m h=>k j m (d _ h),l⟩
theorem ue{F:jg CK}{x:CK}(h:gbs (F++[x]) b):gbs F b\/gb x b:=by
 obtain⟨k,a,h⟩:=h
 rcases oj.1 a with a|a
 ·exact .inl ⟨k,a,h⟩
 rw[jP]at a;exact .inr (a▸h)
def DO(a:jg CP)(M:ja)(c:ja->CK->jp jk)(x:CK)(d:Act)(Ψ:ja->Prop)(W:jj):Prop:=(∃b,d={tmps:=c b x,defers:=[]}/\W.heap[b]?=A (jc (aL x).toArray VK.t (0,0))/\¬Ψ b/\GK a Ψ W x)/\Off (M+1) (M+1) 31 RI.e RI.k x Ψ W/\Off (M+2) (M+1) 60 RG.e RG.k x Ψ W
theorem TX(i:jg CP)(M:ja)(j:ja->CK->jp jk)(B0:ja):bZ B0 (fun(s:CK×Act) Ψ W=>DO i M j s.1 s.2 Ψ W):=by
 rintro⟨x,p⟩ Ψ k q B ⟨⟨b,e,d,l,m⟩,n,o⟩ a f c;have g:¬k b:=λh=>by
  rcases c b h with h|h
  ·exact l h
  have:=(jA.1 d).1;omega
 exact⟨⟨b,e,a.cells d g,g,m.turns a c⟩,Off.stable _ _ _ _ _ B0 _ _ _ _ _ n a f c,Off.stable _ _ _ _ _ B0 _ _ _ _ _ o a f c⟩
theorem vy{k:ja}(h:w.ownsRow b u M j z B){o:Obj}(d:w.heap[k]?=A o)(c:o.isCells=jo):j.ownBlock≠A k:=λa=>by
 rcases h.2 with f|⟨g,v,l,i,-,xs,-⟩
 ·rw[f.1]at a;cases a
 rw[i]at a;obtain rfl:g=k:=by injection a
 rw[d]at xs;injection xs with xs
 rw[xs]at c
 cases c
theorem ChI.step{F:jg CP}{n:ja}{a H l:jj}{i:jg CK}{x:CK}{u1 u2 m o y1 y2:jk}(K:∀k∈i++[x],GK F Ψ a k)(hB:jl w w a)(q:jl a a H)(hw:w.heap.size<=M+1)
 (hΨ:∀k,Ψ k->w.heap.size<=k) (hl:∀k,Ψ k->k<a.heap.size) (v:Boxed a (M+1) 31 u1) (P:Boxed a (M+2) 60 u2) (Q:¬(Ψ (M+1)\/gbs (i++[x]) (M+1))) (R:¬(Ψ (M+2)\/gbs (i++[x]) (M+2)))
 (S:∀j,u1.ownBlock=A j->¬(Ψ j\/gbs (i++[x]) j)) (U:∀j,u2.ownBlock=A j->¬(Ψ j\/gbs (i++[x]) j)) (ad:∀j,u1.ownBlock=A j->M+1<=j) (Uz:∀j,u2.ownBlock=A j->M+1<=j) (V:n=i.length)
 (W:u1.ownBlock≠A (M+1)/\u2.ownBlock≠A (M+1)) (X:u1.ownBlock≠A (M+2)/\u2.ownBlock≠A (M+2)) (Yl:y1.cells.toList=[jd je (x.ix:ja)]) (au:y2.cells.toList=aD x.g x.vm x.vt)
 (d:zS RI RG (M+1) H l u1 u2 m o (n+1) (n+1) (i.map (λk=>jJ .i64 (k.ix:ja))++y1.cells.toList) (i.flatMap (λk=>aD k.g k.vm k.vt)++y2.cells.toList)):
 ChI F M w (i++[x]) Ψ ((l.setCell ⟨M+1,0,jf⟩ m).setCell ⟨M+2,0,jf⟩ o)/\jl (M+1) a ((l.setCell ⟨M+1,0,jf⟩ m).setCell ⟨M+2,0,jf⟩ o)/\
  ∀k,k<a.heap.size->k≠M+1->k≠M+2->u1.ownBlock≠A k->u2.ownBlock≠A k->((l.setCell ⟨M+1,0,jf⟩ m).setCell ⟨M+2,0,jf⟩ o).heap[k]?=a.heap[k]?:=by
 have y:l.heap[M+1]?=A (jc #[u1] 31 (0,0)):=(d.heap _ (jL v.lt q.size) W.1 W.2).trans (av v q);have z:l.heap[M+2]?=A (jc #[u2] 60 (0,0)):=(d.heap _ (jL P.lt q.size) X.1 X.2).trans (av P q);have B:∀k,k≠M+1->k≠M+2->((l.setCell ⟨M+1,0,jf⟩ m).setCell ⟨M+2,0,jf⟩ o).heap[k]?=l.heap[k]?:=λk C r=>(dB _ r).trans (dB _ C)
 have D:∀k,k<a.heap.size->k≠M+1->k≠M+2->u1.ownBlock≠A k->u2.ownBlock≠A k->((l.setCell ⟨M+1,0,jf⟩ m).setCell ⟨M+2,0,jf⟩ o).heap[k]?=a.heap[k]?:=λk h C r s h4=>
  (B k C r).trans ((d.heap k (jL h q.size) s h4).trans (q.block k h))
 have aa:jl (M+1) a ((l.setCell ⟨M+1,0,jf⟩ m).setCell ⟨M+2,0,jf⟩ o):=by
  have h:=(q.mono (jO _)).trans d.bel;have r:=(h.setCell (p:=⟨M+1,0,jf⟩) (jO _) m).setCell (p:=⟨M+2,0,jf⟩) (jO _) o;refine⟨r.os,r.tape,r.output,r.size,λk u=>?_⟩;have s:=v.lt;exact D k Y Y Y (λe=>by have:=ad k e;omega) (λe=>by have:=Uz k e;omega)
 have E:∀j,(Ψ j\/gbs (i++[x]) j)->j<a.heap.size:=by
  rintro j (h|⟨k,u,h⟩)
  ·exact hl j h
  obtain⟨-,-,c,t,f,s⟩:=rK (K k u) h;exact(jA.1 s).1
 have hz:=q.size;refine⟨⟨λk u=>(K k u).keep λb hb s h4=>⟨?_,s⟩,⟨m,?_,Q,?_,?_,trivial⟩,⟨o,?_,R,?_,?_,trivial⟩,hB.trans (aa.mono hw),hΨ⟩,aa,D⟩
 ·have c:Ψ b\/gbs (i++[x]) b:=.inr ⟨k,u,hb⟩
  exact D b (E b c) (λe=>Q (e▸c)) (λe=>R (e▸c)) (λe=>S b e c) (λe=>U b e c)
 ·exact(dB _ (show M+1≠M+2 by omega)).trans (fl m y)
 ·have h:=iF d.own1 λg f=>B g (λe=>cQ d.own1 y L (e▸f)) (λe=>cQ d.own1 z L (e▸f))
  rw[Yl,V]at h;rw[qg,nn];exact h
 ·intro j t c
  rcases d.lie1 with h|h
  ·exact S j (h▸t) c
  have:=h j t;have:=E j c;omega
 ·exact fl o ((dB _ (show M+2≠M+1 by omega)).trans z)
 ·have h:=iF d.own2 λg f=>B g (λe=>cQ d.own2 y L (e▸f)) (λe=>cQ d.own2 z L (e▸f))
  rw[au,V]at h;rw[qg,List.flatMap_append,List.flatMap_singleton];exact h
 intro j t c
 rcases d.lie2 with h|h
 ·exact U j (h▸t) c
 have:=h j t;have:=E j c;omega
theorem Dl(d:jg CP)(v:jk)(ay:T)(UG:LBy)(n:UG.length=32)(w:jj)(q:cF w v d)(t:∀p∈d,cT (aP p.1))(u:bS w)(Q:d.length<=1000)(x:∀p∈d,p.1.chg.length<=1000000):
 jB jn 16 #[jh (dz ay UG).toArray,v] w λe w'=>∃(u1 u2:jk) (Ks:jg CK),e=jy (jI #[u1,u2])/\Ks.map CK.cand=ft ay UG (d.map (·.1))/\aH (λb=>w.heap.size<=b/\b<w'.heap.size) w' u1 1 Ks.length (Ks.map λk=>jJ .i64 k.ix)/\
  aH (λb=>w.heap.size<=b/\b<w'.heap.size) w' u2 36 Ks.length (Ks.flatMap λk=>aD k.g k.vm k.vt)/\(∀k∈Ks,KD (λb=>b<w'.heap.size) d w' k)/\jl w w w':=by
 obtain⟨p1,k1,rfl⟩:=q.form;obtain⟨r,j⟩:=J ((dz ay UG).toArray);have bk:N (r.size=VF.n):=O (by rw[j,jv];unfold dz;rw[j0,jw,n];rfl);rw[<-j];obtain⟨M,f⟩:=J w.heap.size;obtain⟨x0,a⟩:=J (((w.alloc (jc r 59)).alloc (jc #[jb jf 0 0] 31)).alloc (jc #[jb jf 0 0] 60));have l:=ap w (jc r 59);have s:=l.trans ((ap (w.alloc (jc r 59)) (jc #[jb jf 0 0] 31)).mono l.size);have m:=ap ((w.alloc (jc r 59)).alloc (jc #[jb jf 0 0] 31)) (jc #[jb jf 0 0] 60);have c:N (x0.heap[M]?=A (jc r VF.t (0,0))):=O (by rw[a,f];exact av (av (jz w _) (ap _ _)) m);have U5:N (x0.heap[M+1]?=A (jc #[jb jf 0 0] 31 (0,0))):=O (by
  have h:=jz (w.alloc (jc r 59)) (jc #[jb jf 0 0] 31);rw[jq]at h;rw[a,f];exact av h m)
 have Vj:N (x0.heap[M+2]?=A (jc #[jb jf 0 0] 60 (0,0))):=O (by
  have h:=jz ((w.alloc (jc r 59)).alloc (jc #[jb jf 0 0] 31)) (jc #[jb jf 0 0] 60);rw[jq,jq]at h;rw[a,f];exact h)
 have F:N (jl w w x0):=O (by rw[a];exact s.trans (m.mono s.size));have bl:N (x0.heap.size=M+3):=O (by rw[a,f,jq,jq,jq]);obtain⟨xF,g⟩:=J (w.alloc (jc r 59));have a1:N (xF.heap.size=M+1):=O (by rw[g,f,jq]);have ba:N (jl w w xF):=O (by rw[g];exact l);have S:N (jl (M+1) xF x0):=O (by
  have h:=(ap xF (jc #[jb jf 0 0] 31)).trans ((ap (xF.alloc (jc #[jb jf 0 0] 31)) (jc #[jb jf 0 0] 60)).mono (ap xF _).size);rw[a1,g,<-a]at h;rw[g];exact h)
 have HL:=O q;have HE:=O t;have HT:=O u;have HN:=O Q;have VT:=O x;have HM:=O f;have y:=O a;have bm:=O j;have bn:=O n;clear g l s m j f a q t u Q x n;refine(qN (n:=0)).1 ?_;refine r9 func16 I trivial ?_ I;refine wpIn_wide.2 ?_;simp only[ntmps16,jv,j0,qA,qB,qC,qD,qE,qF,qG,qd,qH]
 go_upto_region 1 with fail
 rw[<-y]
 try simp only[jq]
 try rw[show w.heap.size+1+1=w.heap.size+2 from I]
 rw[<-HM];clear y;refine jM ?_;refine fN (λg=>g.heap[M]?=A (jc r VF.t (0,0))) 4 (.t 0 (.t 2 (.o 1 (.o 3 .done)))) af af af af L (λ_ _ _ _ h=>h) c ?_;have a:=bX x0;obtain⟨x1,U⟩:=J x0.drew;rw[<-U]at a⊢;have bb:N (M+3<=x1.heap.size):=O (by rw[<-bl];exact a.size);replace F:=aj F a;replace c:=ae c a;replace U5:=ae U5 a;replace S:=O (S.trans (a.mono (by have:=S.size;have:=a1.out;omega)));replace Vj:=ae Vj a;clear U a;refine cr ?_
 (refine cL (v:=jh r) I ai (λg m=>cM VF.hu VF.hd (by rw[bk];exact VF.hi) I I m) ?_;refine G ?_)
 refine cY I (λK' f=>?_);go_simp;refine(pX d _ x1 (HL.below F) HE (HT.below F) HN).mono ?_;rintro e x2 ⟨v2,v3,rfl,j,a⟩;have l:=O (j.mono (E:=λb=>M+3<=b/\b<x2.heap.size) λb q=>⟨jD bb q.1,q.2⟩);have Zf:N (M+3<=x2.heap.size):=O (jD bb a.size);replace F:=aj F a;replace c:=ae c a;replace U5:=ae U5 a;replace S:=O (S.trans (a.mono (by have:=S.size;have:=a1.out;omega)));replace Vj:=ae Vj a;refine f _ _ c.out λ_=>?_
 clear f j a;refine G ?_;refine cY I (λK' f=>?_);go_simp;refine(zQ _ r x2).mono ?_;rintro e s ⟨rfl,j⟩;have a:jl x2 x2 s:=by rw[j];exact(ap _ _).trans ((ap _ _).mono (ap _ _).size)
 have Y7:N (s.heap[x2.heap.size]?=A (jc #[jb p1 d.length k1,v2,v3] VP.t (0,0))):=O (by rw[j];exact av (jz x2 _) (ap _ _));have bc:N (s.heap[x2.heap.size+1]?=A (jc r VF.t (0,0))):=O (by
  have h:=jz (x2.alloc (jc #[jb p1 d.length k1,v2,v3] 114)) (jc r 59);rw[jq]at h;rw[j];exact h)
 have Zy:N (s.heap.size=x2.heap.size+2):=O (by rw[j,jq,jq]);replace F:=aj F a;replace U5:=ae U5 a;replace S:=O (S.trans (a.mono (by have:=S.size;have:=a1.out;omega)));replace Vj:=ae Vj a;have t:N (aH (λb=>M+3<=b/\b<s.heap.size) s v2 32 (bV (d.map (·.1)) d.length).length (kf (d.map (·.1)) (bV (d.map (·.1)) d.length))):=O ((l.ids.keep λb q=>a.block b q.2).mono λb q=>⟨q.1,by have:=Zy.out;omega⟩);have u:N (aH (λb=>M+3<=b/\b<s.heap.size) s v3 1 (bV (d.map (·.1)) d.length).length (iX (bV (d.map (·.1)) d.length))):=O ((l.at_.keep λb q=>a.block b q.2).mono λb q=>⟨q.1,by have:=Zy.out;omega⟩);refine f _ _ (av c a) λ_=>?_
 clear f j a c l;refine G ?_;refine fa ?_
 go_wp2_with fail
 obtain⟨bp,c⟩:=J x2.heap.size;rw[<-c]at Y7 bc Zf Zy⊢;have j:=yr d (jb p1 d.length k1) v2 v3 ay UG bn xF s (M+1) (M+3) bp (bp+1) (j5 a1) S Y (dY Zy Zf) (HL.below ba) t u Y7.out (by rw[<-bm];exact bc) Zf (aI Zf) HE (HT.below ba) HN VT;have bo:=O j;clear j c t u;refine(wpIn_wide (n:=0)).1 ?_;refine rJ (n:=0) (gf:=115) (lb:=#[jt (A ⟨bp,0,jf⟩),jt (A ⟨bp+1,0,jf⟩)]) I (enters_of func115 af I) bo (dY Zy Zf) (λ_=>rfl) (λk l=>l.2)
  (ChI d M w)
  (λ_ _ _ _=>False) ?hI (λys Ψ B h=>h.1) (λ_=>fj _ _) ?h0
  (DO d M λb x=>#[jh r,jb p1 d.length k1,jt (A ⟨M,0,jf⟩),jm,jt (A ⟨M+1,0,jf⟩),jt (A ⟨M+2,0,jf⟩),jt (A ⟨b,0,jf⟩),jb p1 d.length k1,jh #[jb p1 d.length k1,v2,v3],jh r,.func (.func 115) #[] #[jt (A ⟨bp,0,jf⟩),jt (A ⟨bp+1,0,jf⟩)],jh (aL x).toArray,jm,jm,jm,jm,jm,jm,jm,jm,jm,jm,jm,jm]) ?hAx ?assign ?body ?done ?stop
 case hI=>exact FB _ _ _ _ F.size
 case h0=>exact⟨(λx U=>by cases U),⟨_,U5,λh=>h.elim (λh=>by have h:=h.1;omega) fun⟨_,l,_⟩=>(by cases l),qX _ _ _ _,by simp[sB],trivial⟩,⟨_,Vj,λh=>h.elim (λh=>by have h:=h.1;omega) fun⟨_,l,_⟩=>(by cases l),qX _ _ _ _,by simp[sB],trivial⟩,F,λk l=>by have:=HM.out;omega⟩
 case stop=>
  intro D c Ut Ψ W _ _ h;exact h.elim
 case hAx=>exact TX _ _ _ _
 case assign=>
  intro l' Ut x Ψ t K hI u hV hΨ f;have aa:GK d Ψ t x:=by
   obtain⟨⟨j,y,e,h⟩,-⟩:=hV;have e2:=(qY e I).2;injection e2 with e2
   rw[e2];exact h
  have P:=KD.kin aa (HL.below hI.2.2.2.1);obtain⟨X,j⟩:=J ((aL x).toArray);have y:X.size=VK.n:=by rw[j,jv];exact P.len
  have z:X.all (·.oneCell')=ji:=by rw[j,jS];exact λad hu=>P.ones ad (ak hu)
  have C:=O y;have U5:=O z;have B:=O j;have H:=O f;have R:=O hI;have V:N (Off (M+1) (M+1) 31 RI.e RI.k x Ψ t):=O ⟨_,_,u.2.1.less λk l=>.inl l⟩;have Vl:N (Off (M+2) (M+1) 60 RG.e RG.k x Ψ t):=O ⟨_,_,u.2.2.1.less λk l=>.inl l⟩;have au:=O aa;have HΨ:=O hΨ;rw[<-j];clear j y z f hI u aa hV P hΨ;rw[zK];simp only[qZ,q7,q8]
  gi_wp2_with (first|(refine VK.madeI I I (G ?_))|(refine VK.firstI I I I X I C U5 (G ?_)))
  have u:=ap t (jc X VK.t);refine H _ _ u (FB d M w w.heap.size (jF _) _ _ _ _ _ R.out (bP.ofBelow u λ_ h _=>h) (λ_ h=>h) λ_ h=>.inl h) ?_;have y:bP 0 Ψ t (t.alloc (jc X VK.t)):=bP.ofBelow u λ_ h _=>h
  refine⟨⟨t.heap.size,by rw[B],by rw[<-B];exact jz _ _,λh=>by have:=HΨ _ h;omega,au.turns y λ_ h=>.inl h⟩,Off.stable _ _ _ _ _ 0 _ _ _ _ _ V.out y (λ_ h=>h) λ_ h=>.inl h,Off.stable _ _ _ _ _ 0 _ _ _ _ _ Vl.out y (λ_ h=>h) λ_ h=>.inl h⟩
 case body=>
  rintro l' Ut x Ψ bB a5 ⟨aa,⟨u1,u,a3,B,au,-⟩,⟨u2,y,Vi,C,ax,-⟩,a2,hΨ⟩ ⟨⟨b,rfl,a6,bC,bd⟩,bq,br⟩ hV Yt bs hl bf bu;obtain⟨H,K,rfl⟩:=cO B;obtain⟨V,c2,rfl⟩:=cO C;obtain⟨n,Q⟩:=J Ut.length;rw[<-Q]at u y B C au ax;have P:=KD.kin bd (HL.below a2);obtain⟨X,j⟩:=J ((aL x).toArray);have bv:N (X[0]?=A (jd je (x.ix:ja))):=O (by rw[j];simpa using(mO P).1);have bw:N (∀z:jj,z.heap[b]?=A (jc X VK.t (0,0))->z.rangeAt b 107 (aD x.g x.vm x.vt)):=O λz hz t ad ht=>ah hz (by
   rw[j,mz];have h:=nI P (1+t);rw[<-qt,qw 1 t,qW]at h;exact h.trans ht)
  have WB:N ((aD x.g x.vm x.vt).length=VG.n):=O (eX P.leads.llen);have Vy:N (∀ad∈aD x.g x.vm x.vt,ad.oneCell'=ji):=O (mc P.leads);obtain⟨GA,R⟩:=J ((aD x.g x.vm x.vt).toArray);have Vb:=O R;have ZR:=O Q;have bg:N (n<=1000000):=O (by
   obtain⟨-,-,-,a4,hV⟩:=hV;have h1:=qn List.length hV;have h2:(ft ay UG (d.map (·.1))).length<=(d.map (·.1)).length+1:=Ec _ _ _;have h3:=HN.out;have h4:=ZR.out;rw[qg,jw,qg]at h1;rw[jw]at h2
   omega)
  dsimp only;rw[<-j]at a6⊢;clear j R Q P
  gi_upto_region 3 with fail
  refine R7 (λg=>g.heap[M+1]?=A (jc #[jb H n K] 31 (0,0))/\g.heap[M+2]?=A (jc #[jb V n c2] 60 (0,0))/\g.heap[b]?=A (jc X VK.t (0,0))) 10
   (.t 0 (.t 1 (.t 2 (.t 5 (.t 6 (.t 7 (rY id (.o 10 (.o 11 .done))))))))) af af af af af L (λ_ _ _ _ h=>h) (fun⟨_,_,h⟩=>h) ⟨u,y,a6⟩ ?_
  have a:=bX a5;obtain⟨A1,U⟩:=J a5.drew;rw[<-U]at a⊢;have y1:=av u a;have y2:=av y a;have yb:=av a6 a;have R1:=cP B a;have R2:=cP C a;have bI:a5.heap.size<=A1.heap.size:=a.size;clear U
  (refine cL (v:=?_) I ai (λg m=>?_) ?_;rotate_left;(have b1:=ah (i:=0) m.1 I;clear m;go_simp;with_reducible rfl);refine G ?_)
  refine cr ?_
  (refine cL (v:=?_) I ai (λg m=>?_) ?_;rotate_left;(have b1:=ah (i:=0) m.2.2 bv;clear m;go_simp;with_reducible rfl);refine G ?_)
  (refine cL (v:=?_) I ai (λg m=>?_) ?_;rotate_left;(have b1:=ah (i:=0) m.2.1 I;clear m;go_simp;with_reducible rfl);refine G ?_)
  refine cr ?_
  (refine cL (v:=jh GA) I ai (λg m=>by rw[Vb];exact gm _ _ VG.t _ I _ _ I _ VG.d (bw g m.2.2) VG.hu VG.hd (by rw[WB];exact VG.hi)) ?_;refine G ?_)
  refine Ae RI RG (T0:=id) (E:=id) (r1:=15) (r2:=16) (rb:=20) (r3:=21) (s1:=14) (s2:=19) (t1:=12) (t2:=17) af (λ_ _ _ _ h=>h) af af
   rfl rfl rfl rfl rfl rfl rfl rfl rfl rfl rfl rfl rfl rfl rfl rfl (show 15<24 by decide) (show 20<24 by decide) L L L L L L
   (λj v=>rfl) (λj=>rfl) (λj=>rfl) (λj=>rfl) (λj w' R h P=>P)
   (x1:=jd je (x.ix:ja)) (x2:=jh GA) (u1:=jb H n K) (u2:=jb V n c2) rfl rfl rfl rfl rfl (by rw[Vb];exact WB) (by simp[Value.cells,j4]) (λad hu=>Vy ad (by rw[Vb]at hu;simpa [Value.cells]using hu)) R1 R2 (AQ R1 R2 L) bg bg (by have:=(jA.1 y1).1;omega) ?_ ?_
  ·intro w' l bs
   exact⟨(l _ (jA.1 y1).1 (cQ R1 y1 L) (cQ R2 y1 L)).trans y1,(l _ (jA.1 y2).1 (cQ R1 y2 L) (cQ R2 y2 L)).trans y2,
    (l _ (jA.1 yb).1 (cQ R1 yb L) (cQ R2 yb L)).trans yb⟩
  rintro z1 z2 bK a4 A2 j;obtain⟨bM,d1,rfl⟩:=cO j.own1;obtain⟨bN,d2,rfl⟩:=cO j.own2;have bh:=(j.heap _ (jA.1 y1).1 (cQ R1 y1 L) (cQ R2 y1 L)).trans y1;have bi:=(j.heap _ (jA.1 y2).1 (cQ R1 y2 L) (cQ R2 y2 L)).trans y2;have P:=ah (i:=0) bh I;have R:=ah (i:=0) bi I;have f1:=gt (o:=0) bh;have f2:=gt (o:=0) bi;have bA:=O j;clear j;refine G ?_;refine nH I L af (λK' f=>?_);go_simp;refine f _ _ ?_;clear f;refine G ?_;refine nH I L af (λK' f=>?_);go_simp;refine f _ _ ?_;clear f P R f1 f2;refine G ?_;show((_ /\_)/\_ /\_)/\_;have R:=bq.sep u;have g2:=br.sep y;obtain⟨s1,s2,s3⟩:=ChI.step (y1:=jd je (x.ix:ja)) (y2:=jh GA) (λk l=>by
   rcases oj.1 l with l|l
   ·exact aa k l
   ·rw[jP]at l;rw[l];exact bd) a2 a (by rw[<-HM];exact j6 _) hΨ Yt u y
   (λh=>h.elim (λh=>a3 (.inl h)) λh=>(ue h).elim (λh=>a3 (.inr h)) R.1) (λh=>h.elim (λh=>Vi (.inl h)) λh=>(ue h).elim (λh=>Vi (.inr h)) g2.1)
   (λj P h=>h.elim (λh=>au j P (.inl h)) λh=>(ue h).elim (λh=>au j P (.inr h)) (R.2 j P)) (λj P h=>h.elim (λh=>ax j P (.inl h)) λh=>(ue h).elim (λh=>ax j P (.inr h)) (g2.2 j P))
   (λj P=>(B.lt j P).1) (λj P=>(C.lt j P).1) ZR ⟨cQ B u L,cQ C u L⟩ ⟨cQ B y L,cQ C y L⟩ rfl (by rw[Vb];rfl) bA
  have P:=Zy.out;have bO:=Zf.out;obtain⟨rl,j⟩:=bu;refine⟨⟨⟨s3 _ Y Y Y (vy B bf I) (vy C bf I),s3 _ Y Y Y (vy B j I) (vy C j I)⟩,s2,λk l=>s3 k (Yt k l) (λe=>a3 (.inl (e▸l))) (λe=>Vi (.inl (e▸l))) (λe=>au k e (.inl l)) (λe=>ax k e (.inl l))⟩,s1⟩
 rintro D xs Ψ W rfl m ⟨aa,⟨u1,u,a3,B,au,-⟩,⟨u2,y,Vi,C,ax,-⟩,a2,hΨ⟩ a5;obtain⟨H,K,rfl⟩:=cO B;obtain⟨V,c2,rfl⟩:=cO C;obtain⟨n,Q⟩:=J xs.length;rw[<-Q]at u y B C au ax;have ZR:=O Q;clear Q;have z:=u.cell;have P:=u.frozen;have Q:=y.cell;have X:=y.frozen
 go_upto_region 4 with fail
 refine jM ?_;refine fN (λg=>g.heap[M+1]?=A (jc #[jb H n K] 31 (0,0))/\g.heap[M+2]?=A (jc #[jb V n c2] 60 (0,0))) 4 (.t 0 (.t 1 (.o 2 (.o 3 .done)))) af af af af L (λ_ _ _ _ h=>h) ⟨u,y⟩ ?_;have a:=bX W;obtain⟨x,U⟩:=J W.drew;rw[<-U]at a⊢;have v1:=av u a;have a4:=av y a;have j:=ah (i:=0) v1 I;have e2:=ah (i:=0) a4 I;have R:=gt (o:=0) v1;have g2:=gt (o:=0) a4;clear z P Q X U
 (refine cL (v:=?_) I ai (λg m=>?_) ?_;rotate_left;(have b1:=ah (i:=0) m.1 I;clear m;go_simp;with_reducible rfl);refine G ?_)
 (refine cL (v:=?_) I ai (λg m=>?_) ?_;rotate_left;(have b1:=ah (i:=0) m.2 I;clear m;go_simp;with_reducible rfl);refine G ?_)
 have w1:=fl (i:=0) (jb H n K) v1;have z:=(dB (w:=x) (b:=M+1) (i:=0) (jb H n K) (show M+2≠M+1 by omega)).trans a4;refine cY I (λK' f=>?_);go_simp;refine f _ _ ⟨w1,z⟩ λ_=>?_
 clear f j e2 R g2;refine G ?_;have a6:∀k,(x.setCell ⟨M+1,0,jf⟩ (jb H n K)).heap[k]?=x.heap[k]?:=λk=>by
  by_cases e:k=M+1
  ·rw[e,w1,v1];rfl
  exact dB _ e
 have bd:jl w w (x.setCell ⟨M+1,0,jf⟩ (jb H n K)):=(a2.trans (a.mono a2.size)).setCell (p:=⟨M+1,0,jf⟩) (by rw[<-HM];exact j6 _) _;generalize x.setCell ⟨M+1,0,jf⟩ (jb H n K)=P at w1 z a6 bd⊢;have ad:P.heap[M+1]?=A (jc #[jb H n K] 31 (0,0)):=w1;have j:=ah (i:=0) ad I;have e2:=ah (i:=0) z I;have R:=gt (o:=0) ad;have g2:=gt (o:=0) z;have Q:=fl (i:=0) (jb V n c2) z;have w4:=(dB (w:=P) (b:=M+2) (i:=0) (jb V n c2) (show M+1≠M+2 by omega)).trans ad;refine cY I (λK' f=>?_);go_simp;refine f _ _ ⟨w4,Q⟩ λ_=>?_
 clear f j e2 R g2;refine G ?_;have X:∀k,(P.setCell ⟨M+2,0,jf⟩ (jb V n c2)).heap[k]?=x.heap[k]?:=λk=>by
  refine Eq.trans ?_ (a6 k)
  by_cases e:k=M+2
  ·rw[e,Q,z];rfl
  exact dB _ e
 have bf:jl w w (P.setCell ⟨M+2,0,jf⟩ (jb V n c2)):=bd.setCell (p:=⟨M+2,0,jf⟩) (by rw[<-HM];exact q9 _ _) _;generalize P.setCell ⟨M+2,0,jf⟩ (jb V n c2)=W3 at Q w4 X bf⊢;refine fa ?_
 go_wp2_with fail
 have j:W3.heap[s.heap.size]?=A (.deferred (A [])):=(X _).trans (av a5 a);have bg:M+1≠s.heap.size:=λe=>by rw[<-e,w4]at j;cases j
 have bh:M+2≠s.heap.size:=λe=>by rw[<-e,Q]at j;cases j
 have z1:=ah (i:=0) ((nv (w:=W3) (o:=.deferred jf) bg).trans w4) I;have z2:=ah (i:=0) ((nv (w:=W3) (o:=.deferred jf) bh).trans Q) I;have r1:=ownsRow_putObj (iF (cP B a) λb _=>X b) (.deferred jf) j I;have r2:=ownsRow_putObj (iF (cP C a) λb _=>X b) (.deferred jf) j I;have bi:w.heap.size<=s.heap.size:=F.size;refine⟨by simp,.inl ⟨_,_,I,qO (b:=s.heap.size) (ds:=[]) j,?_⟩⟩;refine⟨jI #[jb H n K,jb V n c2],by simp[results,results16,go_sem,z1,z2],_,_,I,xs,m,?_,?_,?_,?_⟩
 ·rw[<-ZR];exact aH.of_own r1 λg f=>⟨by have:=(r1.lt g f).1;rw[<-HM];omega,(r1.lt g f).2⟩
 ·rw[<-ZR];exact aH.of_own r2 λg f=>⟨by have:=(r2.lt g f).1;rw[<-HM];omega,(r2.lt g f).2⟩
 ·intro k l
  have h:=aa k l;have g:∀b,(gb k b/\¬Ψ b/\∃c t f,W.heap[b]?=A (jc c t f))->(W3.putObj s.heap.size (.deferred jf)).heap[b]?=W.heap[b]?:=λb q=>by
   obtain⟨-,-,c,t,f,q⟩:=q;refine(nv (λe=>by rw[e,a5]at q;cases q)).trans ((X b).trans (a.block b (jA.1 q).1))
  refine(KD.keep h g).mono λb q=>?_
  obtain⟨h0,h1,c,t,f,h2⟩:=q;exact(jA.1 ((g b ⟨h0,h1,c,t,f,h2⟩).trans h2)).1
 exact bf.trans (iD bi)
section
def BxI(a:jg CP)(w:jj)(V:jg CK->ja->jG Obj)(ys:jg CK)(Ψ:ja->Prop)(W:jj):Prop:=(∀x∈ys,GK a Ψ W x)/\(∀b o,V ys b=A o->o.isCells=ji/\W.heap[b]?=A o/\¬(Ψ b\/gbs ys b))/\(jl w w W/\∀k,Ψ k->w.heap.size<=k)
theorem BxI.stable(j:jg CP)(w:jj)(V:jg CK->ja->jG Obj)(B0:ja)(h:w.heap.size<=B0):bZ B0 (BxI j w V):=by
 refine(Dt _ _).and (bZ.and ?_ (kL _ _ w (jF _) h));intro ys Ψ k r B l m s n b o p;obtain⟨d,c,f⟩:=l b o p;have q:=(jA.1 c).1;have g:¬(k b\/gbs ys b):=λh=>h.elim (λh=>(n b h).elim (λh=>f (.inl h)) λh=>by omega) λh=>f (.inr h)
 refine⟨d,?_,g⟩
 rcases m.block b q λh=>g (.inl h)with e|⟨-,t,a,i⟩
 ·exact e.trans c
 rw[c]at a;injection a with a;rw[<-a,d]at i;cases i
def EAx(a:jg CP)(E:ja->Prop)(c:ja->CK->jp jk)(x:CK)(d:Act)(Ψ:ja->Prop)(W:jj):Prop:=∃b,d={tmps:=c b x,defers:=[]}/\W.heap[b]?=A (jc (aL x).toArray VK.t (0,0))/\¬Ψ b/\GK a Ψ W x/\∀e,E e->¬gb x e
theorem EAx.stable(g:jg CP)(E:ja->Prop)(i:ja->CK->jp jk)(B0:ja):bZ B0 (fun(s:CK×Act) Ψ W=>EAx g E i s.1 s.2 Ψ W):=by
 rintro⟨x,n⟩ Ψ j o B ⟨b,e,a,k,l,m⟩ c p d;have f:¬j b:=λh=>by
  rcases d b h with h|h
  ·exact k h
  have:=(jA.1 a).1;omega
 exact⟨b,e,c.cells a f,f,l.turns c d,m⟩
theorem BxI.step{l:jg CP}{g B:jj}{V:jg CK->ja->jG Obj}{i:jg CK}{x:CK}{n:ja}(h:BxI l w V i Ψ g)(r:GK l Ψ g x)(s:∀e,E e->¬gb x e)(m:∀b o,V (i++[x]) b=A o->E b/\o.isCells=ji/\B.heap[b]?=A o)
 (u:∀b,E b->∃o,V i b=A o) (v:∀k,Ψ k->k<g.heap.size) (y:jl n g B) (z:w.heap.size<=n) (p:∀k,k<g.heap.size->¬E k->B.heap[k]?=g.heap[k]?):BxI l w V (i++[x]) Ψ B/\∀k,Ψ k->B.heap[k]?=g.heap[k]?:=by
 have he:∀e,E e->¬(Ψ e\/gbs i e):=λe a=>by obtain⟨o,j⟩:=u e a;exact(h.2.1 e o j).2.2
 have C:∀k∈i++[x],GK l Ψ g k:=λk a=>by
  rcases oj.1 a with a|a
  ·exact h.1 k a
  rw[jP]at a;rw[a];exact r
 have q:∀e,E e->¬(Ψ e\/gbs (i++[x]) e):=λe a d=>d.elim (λd=>he e a (.inl d)) λd=>(ue d).elim (λd=>he e a (.inr d)) (s e a)
 refine⟨⟨λk a=>(C k a).keep λb d D ⟨c,t,f,F⟩=>⟨p b (jA.1 F).1 λH=>q b H (.inr ⟨k,a,d⟩),D⟩,λb o j=>⟨(m b o j).2.1,(m b o j).2.2,q b (m b o j).1⟩,h.2.2.1.trans (y.mono z),h.2.2.2⟩,λk a=>p k (v k a) λd=>he k d (.inl a)⟩
noncomputable def kS:jG CK->jp jk
 |none=>VG.Z
 |some k=>(aD k.g k.vm k.vt).toArray
theorem TV{P:o1}{fn:Func}{p q:Tmp}{c i:jH}(h:fn.results= #[.cell p c,.cell q i])(tmps:jp jk)(w:jj)(g j:ja)(t:jH)(f:jp jk)(x:jk)(k:ja×ja)(d:TypeDesc)
 (l:tmps.getD p jm=jt (A ⟨g,0,jf⟩)) (m:tmps.getD q jm=jt (A ⟨j,0,jf⟩)) (n:w.heap[g]?=A (jc f t k)) (o:(loadVar i ⟨j,0,jf⟩).run P w=.ok x w)
 (r:P.underlying c=A d) (s:(match d with| .struct _ | .array _ _=>ji|_=>jo)=ji) (u:(P.info? c).map (·.size)=A f.size):
 (results fn tmps).run P w=.ok (jI #[jh f,x]) w:=by
 have e:(results fn tmps).run P w=((asAddr (tmps.getD p jm)).run P w).andThen λa y=>((loadVar c a).run P y).andThen λv z=>((asAddr (tmps.getD q jm)).run P z).andThen λb B=>((loadVar i b).run P B).andThen λC D=>.ok (jI #[v,C]) D:=by
  simp only[results,h];simp[Sem.run_bind,Result.andThen]
 rw[e,l];simp only[asAddr,Sem.run_pure,Result.andThen_ok,run_loadVar_row w g t c f k d n r s u,m,o]
theorem P4{n:jC}{f:ja×ja}(h:w.heap[b]?=A (jc #[.bool n] u f)):(loadVar 4 ⟨b,0,jf⟩).run jn w=.ok (.bool n) w:=by
 have c:=ah (i:=0) h I;go_simp
noncomputable def cuV(M:ja)(ys:jg CK)(b:ja):jG Obj:=if b=M+1 then A (jc (kS ys.getLast?) VG.t (0,0))else if b=M+2 then A (jc #[.bool ys.getLast?.isSome] 4 (0,0))else jf
def cuE(M b:ja):Prop:=b=M+1\/b=M+2
theorem uv(M:ja)(ys:jg CK):cuV M ys (M+1)=A (jc (kS ys.getLast?) VG.t (0,0)):=jr I
theorem vg(M:ja)(ys:jg CK):cuV M ys (M+2)=A (jc #[.bool ys.getLast?.isSome] 4 (0,0)):=(jE Y).trans (jr I)
theorem Eh{F:jg CK}{o:Obj}(h:cuV b F M=A o):(M=b+1/\o=jc (kS F.getLast?) VG.t (0,0))\/(M=b+2/\o=jc #[.bool F.getLast?.isSome] 4 (0,0)):=by
 unfold cuV at h
 split at h
 ·rename_i e;injection h with h;exact .inl ⟨e,h.symm⟩
 split at h
 ·rename_i e;injection h with h;exact .inr ⟨e,h.symm⟩
 cases h
theorem Iu{a:jg CP}{v:jk}{k:jG CK}(h:∀x,k=A x->GK a Ψ W x)(c:cF W v a):(kS k).size=VG.n/\(kS k).all (·.oneCell')=ji:=by
 rcases k with _|k
 ·exact⟨VG.hZ,by kernel_rfl⟩
 have b:=KD.kin (h k I) c;refine⟨by unfold kS;rw[jv];exact eX b.leads.llen,?_⟩;unfold kS;rw[jS];exact λd e=>mc b.leads d (ak e)
attribute [local go_sem] Oper.semAt_some
theorem BW(d:jg CP)(v:jk)(aa:T)(UG:LBy)(r:UG.length=32)(w:jj)(t:cF w v d)(u:∀p∈d,cT (aP p.1))(y:bS w)(B:d.length<=1000)(C:∀p∈d,p.1.chg.length<=1000000):
 jB jn 18 #[jh (dz aa UG).toArray,v] w λe w'=>∃k:jG CK,e=jy (jI #[jh (kS k),.bool k.isSome])/\k.map CK.cand=(ft aa UG (d.map (·.1))).getLast?/\(∀x,k=A x->KD (λb=>b<w'.heap.size) d w' x)/\jl w w w':=by
 obtain⟨p1,k1,rfl⟩:=t.form;obtain⟨j,l⟩:=J ((dz aa UG).toArray);have a6:N (j.size=VF.n):=O (by rw[l,jv];unfold dz;rw[j0,jw,r];rfl);rw[<-l];obtain⟨M,f⟩:=J w.heap.size;obtain⟨z,a⟩:=J (((w.alloc (jc j 59)).alloc (jc VG.Z VG.t)).alloc (jc #[.bool jo] 4));have H:=ap w (jc j 59);have Uz:=H.trans ((ap (w.alloc (jc j 59)) (jc VG.Z VG.t)).mono H.size);have o:=ap ((w.alloc (jc j 59)).alloc (jc VG.Z VG.t)) (jc #[.bool jo] 4);have c:N (z.heap[M]?=A (jc j VF.t (0,0))):=O (by rw[a,f];exact av (av (jz w _) (ap _ _)) o);have s:N (z.heap[M+1]?=A (jc VG.Z VG.t (0,0))):=O (by
  have h:=jz (w.alloc (jc j 59)) (jc VG.Z VG.t);rw[jq]at h;rw[a,f];exact av h o)
 have P:N (z.heap[M+2]?=A (jc #[.bool jo] 4 (0,0))):=O (by
  have h:=jz ((w.alloc (jc j 59)).alloc (jc VG.Z VG.t)) (jc #[.bool jo] 4);rw[jq,jq]at h;rw[a,f];exact h)
 have m:N (jl w w z):=O (by rw[a];exact Uz.trans (o.mono Uz.size));have ba:N (z.heap.size=M+3):=O (by rw[a,f,jq,jq,jq]);obtain⟨Q,g⟩:=J (w.alloc (jc j 59));have ad:N (Q.heap.size=M+1):=O (by rw[g,f,jq]);have ay:N (jl w w Q):=O (by rw[g];exact H);have q:N (jl (M+1) Q z):=O (by
  have h:=(ap Q (jc VG.Z VG.t)).trans ((ap (Q.alloc (jc VG.Z VG.t)) (jc #[.bool jo] 4)).mono (ap Q _).size);rw[ad,g,<-a]at h;rw[g];exact h)
 have HL:=O t;have HE:=O u;have HT:=O y;have HN:=O B;have VT:=O C;have HM:=O f;have D:=O a;have bb:=O l;have bc:=O r;clear g H Uz o l f a t u y B C r;refine(qN (n:=0)).1 ?_;refine r9 func18 I trivial ?_ I;refine wpIn_wide.2 ?_;simp only[ntmps18,jv,j0,qA,qB,qC,qD,qE,qF,qG,qd,qH]
 go_upto_region 1 with(first|(refine VG.made I I (G ?_)))
 rw[<-D]
 try simp only[jq]
 try rw[show w.heap.size+1+1=w.heap.size+2 from I]
 rw[<-HM];clear D;refine jM ?_;refine fN (λR=>R.heap[M]?=A (jc j VF.t (0,0))) 4 (.t 0 (.t 2 (.o 1 (.o 3 .done)))) af af af af L (λ_ _ _ _ h=>h) c ?_;have a:=bX z;obtain⟨x1,S⟩:=J z.drew;rw[<-S]at a⊢;have a1:N (M+3<=x1.heap.size):=O (by rw[<-ba];exact a.size);replace m:=aj m a;replace c:=ae c a;replace s:=ae s a;replace q:=O (q.trans (a.mono (by have:=q.size;have:=ad.out;omega)));replace P:=ae P a;clear S a;refine cr ?_
 (refine cL (v:=jh j) I ai (λR C=>cM VF.hu VF.hd (by rw[a6];exact VF.hi) I I C) ?_;refine G ?_)
 refine cY I (λK' f=>?_);go_simp;refine(pX d _ x1 (HL.below m) HE (HT.below m) HN).mono ?_;rintro e x2 ⟨v2,v3,rfl,l,a⟩;have r:=O (l.mono (E:=λb=>M+3<=b/\b<x2.heap.size) λb g=>⟨jD a1 g.1,g.2⟩);have Zf:N (M+3<=x2.heap.size):=O (jD a1 a.size);replace m:=aj m a;replace c:=ae c a;replace s:=ae s a;replace q:=O (q.trans (a.mono (by have:=q.size;have:=ad.out;omega)));replace P:=ae P a;refine f _ _ c.out λ_=>?_
 clear f l a;refine G ?_;refine cY I (λK' f=>?_);go_simp;refine(zQ _ j x2).mono ?_;rintro e l ⟨rfl,o⟩;have a:jl x2 x2 l:=by rw[o];exact(ap _ _).trans ((ap _ _).mono (ap _ _).size)
 have Y7:N (l.heap[x2.heap.size]?=A (jc #[jb p1 d.length k1,v2,v3] VP.t (0,0))):=O (by rw[o];exact av (jz x2 _) (ap _ _));have a2:N (l.heap[x2.heap.size+1]?=A (jc j VF.t (0,0))):=O (by
  have h:=jz (x2.alloc (jc #[jb p1 d.length k1,v2,v3] 114)) (jc j 59);rw[jq]at h;rw[o];exact h)
 have Zy:N (l.heap.size=x2.heap.size+2):=O (by rw[o,jq,jq]);replace m:=aj m a;replace s:=ae s a;replace q:=O (q.trans (a.mono (by have:=q.size;have:=ad.out;omega)));replace P:=ae P a;have t:N (aH (λb=>M+3<=b/\b<l.heap.size) l v2 32 (bV (d.map (·.1)) d.length).length (kf (d.map (·.1)) (bV (d.map (·.1)) d.length))):=O ((r.ids.keep λb g=>a.block b g.2).mono λb g=>⟨g.1,by have:=Zy.out;omega⟩);have u:N (aH (λb=>M+3<=b/\b<l.heap.size) l v3 1 (bV (d.map (·.1)) d.length).length (iX (bV (d.map (·.1)) d.length))):=O ((r.at_.keep λb g=>a.block b g.2).mono λb g=>⟨g.1,by have:=Zy.out;omega⟩);refine f _ _ (av c a) λ_=>?_
 clear f o a c r;refine G ?_;refine fa ?_
 go_wp2_with fail
 obtain⟨bp,c⟩:=J x2.heap.size;rw[<-c]at Y7 a2 Zf Zy⊢;have o:=yr d (jb p1 d.length k1) v2 v3 aa UG bc Q l (M+1) (M+3) bp (bp+1) (j5 ad) q Y (dY Zy Zf) (HL.below ay) t u Y7.out (by rw[<-bb];exact a2) Zf (aI Zf) HE (HT.below ay) HN VT;have bd:=O o;clear o c t u;refine(wpIn_wide (n:=0)).1 ?_;refine rJ (n:=0) (gf:=115) (lb:=#[jt (A ⟨bp,0,jf⟩),jt (A ⟨bp+1,0,jf⟩)]) I (enters_of func115 af I) bd (dY Zy Zf) (λ_=>rfl) (λk r=>r.2)
  (BxI d w (cuV M)) (λ_ _ _ _=>False) ?hI (λys Ψ B h=>h.1) (λ_=>fj _ _) ?h0
  (EAx d (cuE M) λb x=>#[jh j,jb p1 d.length k1,jt (A ⟨M,0,jf⟩),jm,jt (A ⟨M+1,0,jf⟩),jt (A ⟨M+2,0,jf⟩),jt (A ⟨b,0,jf⟩),jb p1 d.length k1,jh #[jb p1 d.length k1,v2,v3],jh j,.func (.func 115) #[] #[jt (A ⟨bp,0,jf⟩),jt (A ⟨bp+1,0,jf⟩)],jh (aL x).toArray,jm,jm,jm,jm]) ?hAx ?assign ?body ?done ?stop
 case hI=>exact BxI.stable _ _ _ _ m.size
 case h0=>
  refine⟨(λx S=>by cases S),λb o g=>?_,m,λk r=>by have:=HM.out;have:=r.1;omega⟩
  rcases Eh g with⟨rfl,rfl⟩|⟨rfl,rfl⟩
  ·exact⟨I,s,λh=>h.elim (λh=>by have h:=h.1;omega) fun⟨_,r,_⟩=>(by cases r)⟩
  exact⟨I,P,λh=>h.elim (λh=>by have h:=h.1;omega) fun⟨_,r,_⟩=>(by cases r)⟩
 case stop=>
  intro D c u Ψ W _ _ h;exact h.elim
 case hAx=>exact EAx.stable _ _ _ _
 case assign=>
  intro l' u x Ψ t K hI y hV V f;have U:GK d Ψ t x:=by
   obtain⟨⟨B,F,e,h⟩,-⟩:=hV;have e2:=(qY e I).2;injection e2 with e2
   rw[e2];exact h
  have B:=KD.kin U (HL.below hI.2.2.1);obtain⟨X,F⟩:=J ((aL x).toArray);have a3:N (X.size=VK.n):=O (by rw[F,jv];exact B.len);have s:N (X.all (·.oneCell')=ji):=O (by rw[F,jS];exact λau hu=>B.ones au (ak hu));have ax:=O F;have HK:=O f;have HI:=O hI;have HO:N (∀e,cuE M e->¬gb x e):=O (by
   rintro e (rfl|rfl) h
   ·exact(y.2.1 _ _ (uv M u)).2.2 (.inl (.inr h))
   exact(y.2.1 _ _ (vg M u)).2.2 (.inl (.inr h)))
  have a4:=O U;have HΨ:=O V;rw[<-F];clear F f hI y U hV B V;rw[zK];simp only[qZ,q7,q8]
  gi_wp2_with (first|(refine VK.madeI I I (G ?_))|(refine VK.firstI I I I X I a3 s (G ?_)))
  have y:=ap t (jc X VK.t);have U:∀B0,bP B0 Ψ t (t.alloc (jc X VK.t)):=λB0=>bP.ofBelow y λ_ h _=>h
  refine HK _ _ y (BxI.stable d w _ w.heap.size (jF _) _ _ _ _ _ HI.out (U _) (λ_ h=>h) λ_ h=>.inl h) ?_;exact⟨t.heap.size,by rw[ax],by rw[<-ax];exact jz _ _,λh=>by have:=HΨ _ h;omega,a4.turns (U 0) (λ_ h=>.inl h),HO⟩
 case body=>
  rintro l' u x Ψ bi K hI ⟨b,rfl,a5,bk,a3,bf⟩ hV Yt bl hl bm bn;have B:=KD.kin a3 (HL.below hI.2.2.1);have H:=(hI.2.1 _ _ (uv M u)).2.1;have Uz:=(hI.2.1 _ _ (vg M u)).2.1;have a4:=(Iu (k:=u.getLast?) (λy U=>hI.1 y (rk U)) (HL.below hI.2.2.1)).1;obtain⟨X,F⟩:=J ((aL x).toArray);have bg:N (K.rangeAt b 107 (aD x.g x.vm x.vt)):=O λt au ht=>ah a5 (by
   rw[mz];have h:=nI B (1+t);rw[<-qt,qw 1 t,qW]at h;exact h.trans ht)
  have WB:N ((aD x.g x.vm x.vt).length=VG.n):=O (eX B.leads.llen);obtain⟨V,ax⟩:=J ((aD x.g x.vm x.vt).toArray);have YP:N (V.size=VG.n):=O (by rw[ax,jv];exact WB);have Vy:N (V.all (·.oneCell')=ji):=O (by rw[ax,jS];exact λau hu=>mc B.leads au (ak hu));have Vb:=O ax;have k2:(K.setRow (M+1) V).heap[M+2]?=A (jc #[.bool u.getLast?.isSome] 4 (0,0)):=(js _ _ _ _ Y).trans Uz;have c2:=ah (i:=0) k2 I;have f2:=gt (o:=0) k2;have Uq:=O H;have bh:=O a4;dsimp only;rw[<-F];clear F ax H a4 B Uz
  gi_wp2_with (first|(refine VG.loadI ai I I (aD x.g x.vm x.vt) WB bg ?_;rw[<-Vb];refine G ?_)|(refine VG.storeI I I I V I YP Vy Uq bh (G ?_)))
  have B:∀k,k≠M+1->k≠M+2->((K.setRow (M+1) V).setCell ⟨M+2,0,jf⟩ (.bool ji)).heap[k]?=K.heap[k]?:=λk h1 h2=>(dB _ h2).trans (js _ _ _ _ h1)
  have F:jl (M+1) K ((K.setRow (M+1) V).setCell ⟨M+2,0,jf⟩ (.bool ji)):=(iS (pz _ K) (jF _) V).setCell (p:=⟨M+2,0,jf⟩) (j6 _) _;have ax:(u++[x]).getLast?=A x:=List.getLast?_concat;obtain⟨s1,s2⟩:=BxI.step (E:=cuE M) hI a3 bf (λb o ho=>by
   rcases Eh ho with⟨rfl,rfl⟩|⟨rfl,rfl⟩
   ·rw[ax]
    exact⟨.inl I,I,(dB _ Y).trans (by rw[jT _ _ _ _ _ _ Uq.out,Vb];rfl)⟩
   rw[ax];exact⟨.inr I,I,fl _ k2⟩) (by rintro b (rfl|rfl);exact⟨_,uv _ _⟩;exact⟨_,vg _ _⟩) Yt F (by rw[<-HM];exact j6 _) (λk _ r=>B k (λe=>r (.inl e)) λe=>r (.inr e))
  have r:=Zy.out;have a4:=Zf.out;refine⟨⟨⟨B _ Y Y,B _ Y Y⟩,F,s2⟩,s1⟩
 rintro D xs Ψ W rfl C hI a3;have X:=(hI.2.1 _ _ (uv M xs)).2.1;have Wi:=(hI.2.1 _ _ (vg M xs)).2.1;have x:=Iu (k:=xs.getLast?) (λy U=>hI.1 y (rk U)) (HL.below hI.2.2.1);obtain⟨u,K⟩:=J (xs.getLast?);have bf:∀y,u=A y->GK d Ψ W y:=λy U=>hI.1 y (rk (K.symm.trans U))
 have bg:u.map CK.cand=(ft aa UG (d.map (·.1))).getLast?:=by rw[K,<-C,List.getLast?_map]
 have a4:=hI.2.2.1;rw[<-K]at X Wi x;obtain⟨r,hG⟩:=J (kS u);obtain⟨ok,Yd⟩:=J u.isSome;rw[<-hG]at X x;rw[<-Yd]at Wi;have au:=O x;clear hI K x
 go_upto_region 4 with fail
 refine jM ?_;refine fN (λR=>R.heap[M+1]?=A (jc r VG.t (0,0))/\R.heap[M+2]?=A (jc #[.bool ok] 4 (0,0))) 4 (.t 0 (.t 1 (.o 2 (.o 3 .done)))) af af af af L (λ_ _ _ _ h=>h) ⟨X,Wi⟩ ?_;have a:=bX W;obtain⟨x,S⟩:=J W.drew;rw[<-S]at a⊢;have v1:=av X a;have K:=av Wi a;have e2:=ah (i:=0) K I;have V:=gt (o:=0) K;clear S
 (refine cL (v:=jh r) I ai (λR C=>cM VG.hu VG.hd (by rw[au.1];exact VG.hi) I I C.1) ?_;refine G ?_)
 (refine cL (v:=?_) I ai (λR C=>?_) ?_;rotate_left;(have R:=ah (i:=0) C.2 I;clear C;go_simp;with_reducible rfl);refine G ?_)
 refine cY I (λK' f=>?_);rw[jr ai];refine jR VG.t _ _ I (M+1) r I I VG.t r v1 (by rw[au.1];exact VG.hi) I au.2 ?_;rw[setRow_self _ _ _ _ _ v1];refine f _ _ ⟨v1,K⟩ λ_=>?_
 clear f;refine G ?_;refine cY I (λK' f=>?_);go_simp;have R:(x.setCell ⟨M+2,0,jf⟩ (.bool ok)).heap[M+2]?=A (jc #[.bool ok] 4 (0,0)):=fl (i:=0) (.bool ok) K;have ax:∀k,(x.setCell ⟨M+2,0,jf⟩ (.bool ok)).heap[k]?=x.heap[k]?:=λk=>by
  by_cases e:k=M+2
  ·rw[e,R,K]
  exact dB _ e
 have F:jl w w (x.setCell ⟨M+2,0,jf⟩ (.bool ok)):=(a4.trans (a.mono a4.size)).setCell (p:=⟨M+2,0,jf⟩) (by rw[<-HM];exact q9 _ _) _;rw[<-Yd];generalize x.setCell ⟨M+2,0,jf⟩ (.bool ok)=W3 at R ax F⊢;have B:=(ax _).trans v1;refine f _ _ ⟨B,R⟩ λ_=>?_
 clear f e2 V;refine G ?_;refine fa ?_
 go_wp2_with fail
 have V:W3.heap[l.heap.size]?=A (.deferred (A [])):=(ax _).trans (av a3 a);have bh:M+1≠l.heap.size:=λe=>by rw[<-e,B]at V;cases V
 have bi:M+2≠l.heap.size:=λe=>by rw[<-e,R]at V;cases V
 have z1:=(nv (w:=W3) (o:=.deferred jf) bh).trans B;have z2:=(nv (w:=W3) (o:=.deferred jf) bi).trans R;have bk:w.heap.size<=l.heap.size:=m.size;refine⟨by simp,.inl ⟨_,_,I,qO (b:=l.heap.size) (ds:=[]) V,?_⟩⟩;refine⟨jI #[jh r,.bool ok],TV I _ _ (M+1) (M+2) VG.t r _ (0,0) _ I I z1 (P4 z2) VG.hu I (by rw[au.1];exact VG.hi),u,by rw[hG,Yd],bg,λy U=>?_,F.trans (iD bk)⟩;have h:=bf y U;have a5:∀b,(gb y b/\¬Ψ b/\∃c t f,W.heap[b]?=A (jc c t f))->(W3.putObj l.heap.size (.deferred jf)).heap[b]?=W.heap[b]?:=λb g=>by
  obtain⟨-,-,c,t,f,g⟩:=g;refine(nv (λe=>by rw[e,a3]at g;cases g)).trans ((ax b).trans (a.block b (jA.1 g).1))
 refine(KD.keep h a5).mono λb g=>?_
 obtain⟨h0,h1,c,t,f,h2⟩:=g;exact(jA.1 ((a5 b ⟨h0,h1,c,t,f,h2⟩).trans h2)).1
end
def eI(b:LBy)(a d:T):jC->jg aR->jC
 |ok,[]=>ok
 |true,c::e=>match c.com.chg.find? λx=>x.d==a&&x.k !=1 with|some x=>decide (d<=x.c)|none=>eI b a d ji e
 |false,c::e=>if c.id=b then(if cD c.leads.mem a=ji then eI b a d ji e else jo)else eI b a d jo e
section
def okS(id:LBy)(ys:jg CK):jC:=ys.any λk=>decide (k.id=id)
def AccP(id:LBy)(dev ctr:T)(ys:jg CK):Prop:=∀a,eI id dev ctr jo (ys.map CK.cand++a)=eI id dev ctr (okS id ys) a
theorem rI(id:LBy)(ys:jg CK)(x:CK):okS id (ys++[x])=(okS id ys||decide (x.id=id)):=by unfold okS;simp
section
variable {id:LBy} {dev ctr:T} {ys:jg CK} {x:CK} (h:AccP id dev ctr ys)
include h
theorem AccP.at(a:jg aR):eI id dev ctr jo ((ys++[x]).map CK.cand++a)=eI id dev ctr (okS id ys) (x.cand::a):=by
 rw[nn,qV];exact h _
theorem AccP.on(a:okS id ys=ji)(b:x.p.1.chg.find? (λy=>y.d==dev&&y.k !=1)=jf):AccP id dev ctr (ys++[x]):=λc=>by
 rw[h.at,rI,a,eI,show x.cand.com=x.p.1 from I,b];rfl
theorem AccP.off{y:ar}(a:okS id ys=ji)(b:x.p.1.chg.find? (λy=>y.d==dev&&y.k !=1)=A y)(c:jg aR):eI id dev ctr jo ((ys++[x]).map CK.cand++c)=decide (ctr<=y.c):=by
 rw[h.at,a,eI,show x.cand.com=x.p.1 from I,b]
theorem AccP.ne(b:okS id ys=jo)(a:x.id≠id):AccP id dev ctr (ys++[x]):=λc=>by
 rw[h.at,rI,b,eI,jE (show ¬x.cand.id=id from a),decide_eq_false a];rfl
theorem AccP.met(b:okS id ys=jo)(a:x.id=id)(c:cD x.g.mem dev=ji):AccP id dev ctr (ys++[x]):=λd=>by
 rw[h.at,rI,b,eI,jr (show x.cand.id=id from a),jr (show cD x.cand.leads.mem dev=ji from c),qo a];rfl
theorem AccP.gone(a:okS id ys=jo)(b:x.id=id)(c:cD x.g.mem dev=jo)(d:jg aR):eI id dev ctr jo ((ys++[x]).map CK.cand++d)=jo:=by
 rw[h.at,a,eI,jr (show x.cand.id=id from b),jE (show ¬cD x.cand.leads.mem dev=ji by show ¬cD x.g.mem dev=ji;rw[c];decide)]
end
theorem N2{α:Type}{q:α->jC}{l:jg α}{j:ja}{y:α}(h:∀z∈l.take j,q z=jo)(a:l[j]?=A y)(b:q y=ji):l.find? q=A y:=by
 rw[<-sq j l,sv,qv.2 (λz c=>by rw[h z c];decide),Option.none_or,List.drop_eq_getElem_cons (jV.1 a).1,(jV.1 a).2,List.find?_cons,b]
theorem NZ{α:Type}{q:α->jC}{l:jg α}(h:∀z∈l.take l.length,q z=jo):l.find? q=jf:=qv.2 λz a=>by
 rw[h z (by rw[List.take_length];exact a)];decide
theorem TY(d:T)(c:jp jk)(b:ja)(x:aJ)(w:jj)(f:w.heap[b]?=A (jc c 70 (0,0)))(g:c[33]?=A (jd je d)):
 jB jn 58 #[jh x.cells.toArray,jt (A ⟨b,0,jf⟩)] w λe w'=>e=jy (.bool (x.dev==d))/\jl w w w':=by
 have a:=ap w (jc x.cells.toArray 100);have j:=ah (i:=33) (av f a) g;have h:=O a;clear a f g;obtain⟨x1,x2,g⟩:=x;unfold aJ.cells at*;obtain⟨r,a⟩:=J ((x1==d));show jB _ _ _ _ λe w'=>e=jy (.bool (x1==d))/\_
 rw[<-a];have f:=O a;clear a
 go_enter func58,ntmps58
 go_wp2_with fail
 go_ret;exact⟨iC f.symm,h⟩
theorem Oh(d:T)(a:jp jk)(b c:ja)(e:b<c)(f:a[33]?=A (jd je d)):fS EM 58 #[jt (A ⟨b,0,jf⟩)] c (λW=>W.heap[b]?=A (jc a 70 (0,0))) (λm=>m.dev==d) where
 enter _ _:=I
 keep w w' hn h hB:=(hB.block b e).trans h
 call x w hn h:=TY d a b x w h f
def chZ:ar:=⟨0,0,0,0,0⟩
noncomputable def VH:VarT jn:=⟨55,5,chZ.cells.toArray,_,sa,I,by kernel_rfl,rfl,λ_=>by kernel_rfl⟩
def acV(M:ja)(a:jp jk)(id:LBy)(ys:jg CK)(b:ja):jG Obj:=if b=M+1 then A (jc a 70 (0,0))else if b=M+2 then A (jc #[.bool (okS id ys)] 4 (0,0))else jf
theorem zq(M:ja)(a:jp jk)(id:LBy)(ys:jg CK):acV M a id ys (M+1)=A (jc a 70 (0,0)):=jr I
theorem tY(M:ja)(a:jp jk)(id:LBy)(ys:jg CK):acV M a id ys (M+2)=A (jc #[.bool (okS id ys)] 4 (0,0)):=(jE Y).trans (jr I)
theorem Fb{M b:ja}{a:jp jk}{id:LBy}{ys:jg CK}{o:Obj}(h:acV M a id ys b=A o):(b=M+1/\o=jc a 70 (0,0))\/(b=M+2/\o=jc #[.bool (okS id ys)] 4 (0,0)):=by
 unfold acV at h
 split at h
 ·rename_i e;injection h with h;exact .inl ⟨e,h.symm⟩
 split at h
 ·rename_i e;injection h with h;exact .inr ⟨e,h.symm⟩
 cases h
def AcX(w:jj)(M:ja)(id:LBy)(dev ctr:T)(c:Code)(ys:jg CK)(Ψ:ja->Prop)(W:jj):Prop:=(∃r,c=.ret/\(Boxed W (M+2) 4 (.bool r)/\¬Ψ (M+2))/\∀a,eI id dev ctr jo (ys.map CK.cand++a)=r)/\(jl w w W/\∀k,Ψ k->w.heap.size<=k)
theorem AcX.stable(w:jj)(M:ja)(id:LBy)(dev ctr:T)(c:Code)(B0:ja)(h:w.heap.size<=B0):bZ B0 (AcX w M id dev ctr c):=by
 refine bZ.and ?_ (kL _ _ w (jF _) h);rintro ys Ψ a b B ⟨r,d,e,f⟩ g i j;exact⟨r,d,iT B0 (M+2) 4 (λ_:Unit=>.bool r) () Ψ a b B e g i j,f⟩
attribute [local go_sem] Oper.semAt_some
theorem DG(d:jg CP)(v:jk)(ad:T)(UG:LBy)(m:UG.length=32)(u:jp jk)(f:LBy)(dev ctr:T)(q:f.length=32)(r:∀t R,(f.map v8)[t]?=A R->u[1+t]?=A R)(s:u[33]?=A (jd je dev))(x:u[34]?=A (jd je ctr))
 (w:jj) (n:cF w v d) (y:∀p∈d,cT (aP p.1)) (z:bS w) (B:d.length<=1000) (D:∀p∈d,p.1.chg.length<=1000000) (F:∀k,k∈ft ad UG (d.map (·.1))->k.leads.mem.length<=1000000):
 jB jn 21 #[jh (dz ad UG).toArray,v,jh u] w λe w'=>e=jy (.bool (eI f dev ctr jo (ft ad UG (d.map (·.1)))))/\jl w w w':=by
 obtain⟨p1,k1,rfl⟩:=n.form;obtain⟨C,i⟩:=J ((dz ad UG).toArray);have bK:N (C.size=VF.n):=O (by rw[i,jv];unfold dz;rw[j0,jw,m];rfl);rw[<-i];obtain⟨M,b⟩:=J w.heap.size;obtain⟨x0,a⟩:=J (((w.alloc (jc C 59)).alloc (jc u 70)).alloc (jc #[.bool jo] 4));have S:=ap w (jc C 59);have U:=S.trans ((ap (w.alloc (jc C 59)) (jc u 70)).mono S.size);have j:=ap ((w.alloc (jc C 59)).alloc (jc u 70)) (jc #[.bool jo] 4);have c:N (x0.heap[M]?=A (jc C VF.t (0,0))):=O (by rw[a,b];exact av (av (jz w _) (ap _ _)) j);have U5:N (x0.heap[M+1]?=A (jc u 70 (0,0))):=O (by
  have h:=jz (w.alloc (jc C 59)) (jc u 70);rw[jq]at h;rw[a,b];exact av h j)
 have Vj:N (x0.heap[M+2]?=A (jc #[.bool jo] 4 (0,0))):=O (by
  have h:=jz ((w.alloc (jc C 59)).alloc (jc u 70)) (jc #[.bool jo] 4);rw[jq,jq]at h;rw[a,b];exact h)
 have P:N (jl w w x0):=O (by rw[a];exact U.trans (j.mono U.size));have bM:N (x0.heap.size=M+3):=O (by rw[a,b,jq,jq,jq]);obtain⟨xF,g⟩:=J (w.alloc (jc C 59));have ax:N (xF.heap.size=M+1):=O (by rw[g,b,jq]);have bm:N (jl w w xF):=O (by rw[g];exact S);have UO:N (jl (M+1) xF x0):=O (by
  have h:=(ap xF (jc u 70)).trans ((ap (xF.alloc (jc u 70)) (jc #[.bool jo] 4)).mono (ap xF _).size);rw[ax,g,<-a]at h;rw[g];exact h)
 have HL:=O n;have HE:=O y;have HT:=O z;have HN:=O B;have VT:=O D;have HM:=O b;have H:=O a;have bN:=O i;have bO:=O m;have WI:=O r;have WU:=O s;have bn:=O x;have bo:=O q;have YY:=O F;obtain⟨bq,o⟩:=J (eI f dev ctr jo (ft ad UG (d.map (·.1))));rw[<-o];have Zr:=O o;clear g S U j i b a n y z B D m r s x q F o;refine(qN (n:=0)).1 ?_;refine r9 func21 I trivial ?_ I;refine wpIn_wide.2 ?_;simp only[ntmps21,jv,j0,qA,qB,qC,qD,qE,qF,qG,qd,qH]
 go_upto_region 1 with fail
 rw[<-H]
 try simp only[jq]
 try rw[show w.heap.size+1+1=w.heap.size+2 from I]
 rw[<-HM];clear H;refine jM ?_;refine fN (λb=>b.heap[M]?=A (jc C VF.t (0,0))) 4 (.t 0 (.t 2 (.o 1 (.o 3 .done)))) af af af af L (λ_ _ _ _ h=>h) c ?_;have a:=bX x0;obtain⟨x1,hx⟩:=J x0.drew;rw[<-hx]at a⊢;have br:N (M+3<=x1.heap.size):=O (by rw[<-bM];exact a.size);replace P:=aj P a;replace c:=ae c a;replace U5:=ae U5 a;replace UO:=O (UO.trans (a.mono (by have:=UO.size;have:=ax.out;omega)));replace Vj:=ae Vj a;clear hx a;refine cr ?_
 (refine cL (v:=jh C) I ai (λb hS=>cM VF.hu VF.hd (by rw[bK];exact VF.hi) I I hS) ?_;refine G ?_)
 refine cY I (λj hK=>?_);go_simp;refine(pX d _ x1 (HL.below P) HE (HT.below P) HN).mono ?_;rintro e x2 ⟨v2,v3,rfl,g,a⟩;have i:=O (g.mono (E:=λb=>M+3<=b/\b<x2.heap.size) λb m=>⟨jD br m.1,m.2⟩);have Zf:N (M+3<=x2.heap.size):=O (jD br a.size);replace P:=aj P a;replace c:=ae c a;replace U5:=ae U5 a;replace UO:=O (UO.trans (a.mono (by have:=UO.size;have:=ax.out;omega)));replace Vj:=ae Vj a;refine hK _ _ c.out λ_=>?_
 clear hK g a;refine G ?_;refine cY I (λj hK=>?_);go_simp;refine(zQ _ C x2).mono ?_;rintro e q ⟨rfl,g⟩;have a:jl x2 x2 q:=by rw[g];exact(ap _ _).trans ((ap _ _).mono (ap _ _).size)
 have Y7:N (q.heap[x2.heap.size]?=A (jc #[jb p1 d.length k1,v2,v3] VP.t (0,0))):=O (by rw[g];exact av (jz x2 _) (ap _ _));have bs:N (q.heap[x2.heap.size+1]?=A (jc C VF.t (0,0))):=O (by
  have h:=jz (x2.alloc (jc #[jb p1 d.length k1,v2,v3] 114)) (jc C 59);rw[jq]at h;rw[g];exact h)
 have Zy:N (q.heap.size=x2.heap.size+2):=O (by rw[g,jq,jq]);replace P:=aj P a;replace U5:=ae U5 a;replace UO:=O (UO.trans (a.mono (by have:=UO.size;have:=ax.out;omega)));replace Vj:=ae Vj a;have j:N (aH (λb=>M+3<=b/\b<q.heap.size) q v2 32 (bV (d.map (·.1)) d.length).length (kf (d.map (·.1)) (bV (d.map (·.1)) d.length))):=O ((i.ids.keep λb m=>a.block b m.2).mono λb m=>⟨m.1,by have:=Zy.out;omega⟩);have o:N (aH (λb=>M+3<=b/\b<q.heap.size) q v3 1 (bV (d.map (·.1)) d.length).length (iX (bV (d.map (·.1)) d.length))):=O ((i.at_.keep λb m=>a.block b m.2).mono λb m=>⟨m.1,by have:=Zy.out;omega⟩);refine hK _ _ (av c a) λ_=>?_
 clear hK g a c i;refine G ?_;refine fa ?_
 go_wp2_with fail
 obtain⟨bp,a⟩:=J x2.heap.size;rw[<-a]at Y7 bs Zf Zy⊢;have c:=yr d (jb p1 d.length k1) v2 v3 ad UG bO xF q (M+1) (M+3) bp (bp+1) (j5 ax) UO Y (dY Zy Zf) (HL.below bm) j o Y7.out (by rw[<-bN];exact bs) Zf (aI Zf) HE (HT.below bm) HN VT;have bT:=O c;clear c a j o;refine(wpIn_wide (n:=0)).1 ?_;refine rJ (n:=0) (gf:=115) (lb:=#[jt (A ⟨bp,0,jf⟩),jt (A ⟨bp+1,0,jf⟩)]) I (enters_of func115 af I) bT (dY Zy Zf) (λ_=>rfl) (λk s=>s.2)
  (λys Ψ W=>BxI d w (acV M u f) ys Ψ W/\AccP f dev ctr ys) (AcX w M f dev ctr) ?hI (λys Ψ B h=>h.1.1) (λc=>AcX.stable _ _ _ _ _ _ _ P.size) ?h0
  (EAx d (cuE M) λb x=>#[jh C,jb p1 d.length k1,jh u,jt (A ⟨M,0,jf⟩),jm,jt (A ⟨M+1,0,jf⟩),jt (A ⟨M+2,0,jf⟩),jt (A ⟨b,0,jf⟩),jm,jm,jb p1 d.length k1,jh #[jb p1 d.length k1,v2,v3],jh C,.func (.func 115) #[] #[jt (A ⟨bp,0,jf⟩),jt (A ⟨bp+1,0,jf⟩)],jh (aL x).toArray,jm,jm,jm,jm,jm,jm,jm,jm,jm,jm,jm,jm,jm,jm,jm,jm,jm,jm,jm,jm,jm,jm,jm,jm,jm,jm,jm,jm,jm,jm,jm,jm,jm,jm,jm,jm,jm]) ?hAx ?assign ?body ?done ?stop
 case hI=>exact(BxI.stable _ _ _ _ P.size).and (fj _ _)
 case h0=>
  refine⟨⟨(λx hx=>by cases hx),λb o m=>?_,P,λk s=>by have:=HM.out;have:=s.1;omega⟩,λa1=>rfl⟩
  rcases Fb m with⟨rfl,rfl⟩|⟨rfl,rfl⟩
  ·exact⟨I,U5,λh=>h.elim (λh=>by have h:=h.1;omega) fun⟨_,s,_⟩=>(by cases s)⟩
  exact⟨I,Vj,λh=>h.elim (λh=>by have h:=h.1;omega) fun⟨_,s,_⟩=>(by cases s)⟩
 case stop=>
  rintro D c H Ψ W rfl ⟨V,a⟩ ⟨⟨r,rfl,⟨U,Q⟩,g⟩,bc,z⟩ ay;have HR:N (r=bq):=O (by rw[Zr,<-a];exact(g V).symm);have bd:M+2≠q.heap.size:=λe=>by rw[<-e,U]at ay;cases ay
  have z2:=(nv (w:=W) (o:=.deferred jf) bd).trans U;have bf:w.heap.size<=q.heap.size:=P.size;refine wpIn_wide.2 ?_
  go_wp2_with fail
  refine⟨by simp,.inl ⟨_,_,I,qO (b:=q.heap.size) (ds:=[]) ay,?_⟩⟩;have zc:=ah (i:=0) z2 I;exact⟨.bool r,by simp[results,results21,go_sem,zc],by rw[HR],bc.trans (iD bf)⟩
 case hAx=>exact EAx.stable _ _ _ _
 case assign=>
  intro l' H x Ψ a K hI y hV z hK;have F:GK d Ψ a x:=by
   obtain⟨⟨g,j,e,h⟩,-⟩:=hV;have e2:=(qY e I).2;injection e2 with e2
   rw[e2];exact h
  have g:=KD.kin F (HL.below hI.1.2.2.1);obtain⟨X,j⟩:=J ((aL x).toArray);have a2:N (X.size=VK.n):=O (by rw[j,jv];exact g.len);have U5:N (X.all (·.oneCell')=ji):=O (by rw[j,jS];exact λR hu=>g.ones R (ak hu));have aa:=O j;have HK:=O hK;have HI:=O hI;have HO:N (∀e,cuE M e->¬gb x e):=O (by
   rintro e (rfl|rfl) h
   ·exact(y.1.2.1 _ _ (zq M u f H)).2.2 (.inl (.inr h))
   exact(y.1.2.1 _ _ (tY M u f H)).2.2 (.inl (.inr h)))
  have a3:=O F;have HΨ:=O z;rw[<-j];clear j hK hI y F hV g z;rw[zK];simp only[qZ,q7,q8]
  gi_wp2_with (first|(refine VK.madeI I I (G ?_))|(refine VK.firstI I I I X I a2 U5 (G ?_)))
  have y:=ap a (jc X VK.t);have au:∀B0,bP B0 Ψ a (a.alloc (jc X VK.t)):=λB0=>bP.ofBelow y λ_ h _=>h
  refine HK _ _ y ⟨BxI.stable d w _ w.heap.size (jF _) _ _ _ _ _ HI.1 (au _) (λ_ h=>h) λ_ h=>.inl h,HI.2⟩ ?_;exact⟨a.heap.size,by rw[aa],by rw[<-aa];exact jz _ _,λh=>by have:=HΨ _ h;omega,a3.turns (au 0) (λ_ h=>.inl h),HO⟩
 case body=>
  rintro l' H x Ψ b4 a ⟨hI,hP⟩ ⟨b,rfl,K,bu,z,aa⟩ hV Yt a4 hl ba bb;have g:=KD.kin z (HL.below hI.2.2.1);have S:=(hI.2.1 _ _ (zq M u f H)).2.1;have U:=(hI.2.1 _ _ (tY M u f H)).2.1;have a2:x.cand∈ft ad UG (d.map (·.1)):=by
   obtain⟨-,-,-,V,hV⟩:=hV;rw[<-hV,nn];exact vi _ (wi _ (jP.2 I))
  have a5:x.g.mem.length<=1000000:=YY _ a2;have a6:x.p.1.chg.length<=1000000:=VT _ (j3 z.at_);have bg:=Zy.out;have bh:=Zf.out;have a3:∀B,(∀k,k<a.heap.size->k≠M+2->B.heap[k]?=a.heap[k]?)->jl (M+1) a B->B.heap[M+2]?=A (jc #[.bool (okS f (H++[x]))] 4 (0,0))->AccP f dev ctr (H++[x])->
   ((B.heap[q.heap.size]?=a.heap[q.heap.size]?/\B.heap[q.heap.size+1]?=a.heap[q.heap.size+1]?)/\jl (M+1) a B/\∀k,Ψ k->B.heap[k]?=a.heap[k]?)/\(BxI d w (acV M u f) (H++[x]) Ψ B/\AccP f dev ctr (H++[x])):=λB s y F hA=>by
   obtain⟨s1,s2⟩:=BxI.step (E:=cuE M) (B:=B) hI z aa (λc o V=>by
    rcases Fb V with⟨rfl,rfl⟩|⟨rfl,rfl⟩
    ·exact⟨.inl I,I,(s _ (jA.1 S).1 Y).trans S⟩
    exact⟨.inr I,I,F⟩) (by rintro c (rfl|rfl);exact⟨_,zq _ _ _ _⟩;exact⟨_,tY _ _ _ _⟩) Yt y (by rw[<-HM];exact j6 _) (λk V c=>s k V λe=>c (.inr e))
   exact⟨⟨⟨s _ Y Y,s _ Y Y⟩,y,s2⟩,s1,hA⟩
  have c:∀B r,(∀k,k<a.heap.size->k≠M+2->B.heap[k]?=a.heap[k]?)->jl (M+1) a B->B.heap[M+2]?=A (jc #[.bool r] 4 (0,0))->(∀a1,eI f dev ctr jo ((H++[x]).map CK.cand++a1)=r)->
   ((B.heap[q.heap.size]?=a.heap[q.heap.size]?/\B.heap[q.heap.size+1]?=a.heap[q.heap.size+1]?)/\jl (M+1) a B/\∀k,Ψ k->B.heap[k]?=a.heap[k]?)/\AcX w M f dev ctr .ret (H++[x]) Ψ B:=λB r s y F hA=>by
   have Q:=(hI.2.1 _ _ (tY M u f H)).2.2;exact⟨⟨⟨s _ Y Y,s _ Y Y⟩,y,λk V=>s k (Yt k V) λe=>Q (.inl (e▸V))⟩,⟨r,I,⟨F,λh=>Q (.inl h)⟩,hA⟩,hI.2.2.1.trans (y.mono (by rw[<-HM];exact j6 _)),hI.2.2.2⟩
  have Wc:=O a3;have bv:=O c;have HP:=O hP;have Uq:=O S;have YM:N (jl w w a):=O hI.2.2.1;have U9:N (M+3<=a.heap.size):=O Y;clear a3 c hI hV Yt a4 hl ba bb aa bu a2 bh bg z;obtain⟨X,j⟩:=J ((aL x).toArray);have c:=O (mO g);have Q:N (∀i:ja,X[i]?=(aL x)[i]?):=O λi=>by rw[j,mz]
  have UR:N (a.rangeAt b 74 (x.id.map v8)):=O λt R ht=>ah K (by rw[mz];exact(BI g (by have h:=(jV.1 ht).1;rwa [jw,g.idl]at h)).trans ht)
  have UQ:N (a.rangeAt (M+1) 1 (f.map v8)):=O λt R ht=>ah S (WI t R ht)
  have bw:N ((x.id.map v8).length=VD.n):=O (by rw[jw,g.idl];rfl);have bA:N ((f.map v8).length=VD.n):=O (by rw[jw,bo];rfl);have bB:∀z,(Op.equalIn 10000 23 (jh (x.id.map v8).toArray) (jh (f.map v8).toArray)).run jn z=.ok (decide (x.id=f)) z:=λz=>nZ x.id f g.idl bo z
  obtain⟨T1,y⟩:=J ((x.id.map v8).toArray);obtain⟨T2,au⟩:=J ((f.map v8).toArray);rw[<-y,<-au]at bB;have Vp:=O y;have YN:=O au;have a2:a.cell? ⟨b,36,jf⟩=A x.p.2.vc:=ah K (by rw[mz];exact c.2.2.1);have bg:a.cell? ⟨b,141,jf⟩=A x.vm:=ah K (by rw[mz];exact c.2.2.2.2.1);have bh:a.cell? ⟨M+1,33,jf⟩=A (jd je dev):=ah S WU;have bi:a.cell? ⟨M+1,34,jf⟩=A (jd je ctr):=ah S bn;have a3:=ah (i:=0) U I;have bk:=gt (o:=0) U;have a4:N (EC.At a x.p.2.vc x.p.1.chg):=O (EK.At.of_sl g.com.chg);have bl:N (EM.At a x.vm x.g.mem):=O g.leads.mem;obtain⟨pc,cc,e1,-⟩:=a4.form;obtain⟨pm,cm,e2,-⟩:=bl.form;rw[e1]at a2 a4;rw[e2]at bg bl;have Ur:=O U;have b0:=O a6;have WB:=O a5;dsimp only;rw[<-j];clear j g K S e1 e2 y au c Q U hP a6 a5;obtain⟨b1,Yd⟩:=J (okS f H);rw[<-Yd]at a3 Ur;have aa:=O Yd;clear Yd
  cases b1 with
  |true=>
   as_aux_lemma=>
    obtain⟨n,c⟩:=J x.p.1.chg.length;have Zx:=O c;rw[<-c]at a2 a4;have bu:n<=1000000:=by rw[c];exact b0
    clear c bg
    gi_wp2_with fail
    gi_loopw [20] (λi wr=>∃j:ja,i=jd je j/\j<=n/\N (∀y∈x.p.1.chg.take j,(y.d==dev&&y.k !=1)=jo)/\N (jl a a wr)) (λi _=>n-(jW i).toNat)
    case atStart=>exact⟨0,I,jO _,O ao,O (pz _ _)⟩
    obtain⟨j,rfl,hj,HG,Q⟩:=hrel;clear a2 a3 bk bh bi
    by_cases b2:j<n
    case neg=>
     have hd:=aw ((j:T)<(n:T));have UN:=aw (j<n);obtain rfl:j=n:=Y
     gi_wp2_with fail
     exact Wc wr (λk s _=>Q.block k s) (Q.mono (aI U9)) (by rw[rI,<-aa];exact av Ur Q) (HP.on aa.symm (NZ (by rw[<-Zx];exact HG)))
    have hd:=az ((j:T)<(n:T));have UN:=az (j<n);obtain⟨⟨K,c,xp,xv,xc⟩,he,U8⟩:=dK (l:=x.p.1.chg) (j:=j) (by rw[<-Zx];exact b2);obtain⟨g,o,rfl,ba⟩:=(a4.below Q).cells.2.2 Y;have Vd:N (wr.rangeAt g (o+j*5) (ar.cells ⟨K,c,xp,xv,xc⟩)):=O λt R ht=>ba j _ he t R ht
    have HE:=O he;have bC:=O U8;obtain⟨X5,a5⟩:=J ((ar.cells ⟨K,c,xp,xv,xc⟩).toArray);have a6:=O a5;have Z9:N (X5.size=VH.n):=O (by rw[a5];rfl);have b3:N (X5.all (·.oneCell')=ji):=O (by rw[a5,jS];exact λR hu=>EC.one ⟨K,c,xp,xv,xc⟩ R (show R∈ar.cells _ by simpa using hu));clear ba he U8 a5
    gi_upto_region 7 with(first|(refine VH.loadI ai I I (ar.cells ⟨K,c,xp,xv,xc⟩) I Vd ?_;rw[<-a6];refine G ?_)|(refine VH.madeI I I (G ?_))|(refine VH.firstI I I I X5 I Z9 b3 (G ?_)))
    obtain⟨x4,b5,hx,m,a5,bI⟩:=cX wr X5 VH.t;rw[<-hx,<-m];have UB:N (jl a a x4):=aj Q bI;have cd:=ah (i:=1) (v:=jd je c) a5.out (by rw[a6];rfl);have ck:=ah (i:=0) (v:=jd je K) a5.out (by rw[a6];rfl);have b6:=ah (i:=4) (v:=jd je xc) a5.out (by rw[a6];rfl);have bh:=ah (av Uq UB) WU;have bi:=ah (av Uq UB) bn;have ba:=av Ur UB;have a3:=ah (i:=0) ba I;have bk:=gt (o:=0) ba;have bb:=O ba;clear hx m bI a5 Q Vd ba
    by_cases V:c=dev
    case neg=>
     have e1:(c==dev)=jo:=ak V;have a5:decide (c=dev)=jo:=ak V;have VR:N (∀y∈x.p.1.chg.take (j+1),(y.d==dev&&y.k !=1)=jo):=O (by
      rw[bC];intro y Q
      rcases oj.1 Q with Q|Q
      ·exact HG y Q
      rw[jP]at Q;rw[Q];show(c==dev&&_)=jo;rw[e1];rfl)
     clear V
     gi_wp2_with fail
     exact⟨⟨j+1,by go_num,by omega,VR,UB⟩,by simp only[jW];omega⟩
    have e1:(c==dev)=ji:=ak V;have a5:decide (c=dev)=ji:=ak V;clear V
    by_cases F:K=1
    case pos=>
     have e2:(K !=1)=jo:=by simp[F]
     have ba:decide (K≠1)=jo:=by simp[F]
     have VR:N (∀y∈x.p.1.chg.take (j+1),(y.d==dev&&y.k !=1)=jo):=O (by
      rw[bC];intro y Q
      rcases oj.1 Q with Q|Q
      ·exact HG y Q
      rw[jP]at Q;rw[Q];show(c==dev&&(K !=1))=jo;rw[e2,Bool.and_false])
     clear F
     gi_wp2_with fail
     exact⟨⟨j+1,by go_num,by omega,VR,UB⟩,by simp only[jW];omega⟩
    have e2:(K !=1)=ji:=by simp[F]
    have ba:decide (K≠1)=ji:=by simp[F]
    have Q:N (x.p.1.chg.find? (λy=>y.d==dev&&y.k !=1)=A ⟨K,c,xp,xv,xc⟩):=O (N2 HG HE (by show(c==dev&&(K !=1))=ji;rw[e1,e2];rfl));clear F;obtain⟨r,y⟩:=J (decide (ctr<=xc));have HR:=O y;have bI:decide (ctr<=xc)=r:=y.symm;clear y
    gi_wp2_with fail
    refine bv _ r (λk s F=>(dB _ F).trans (UB.block k s)) ((UB.mono (aI U9)).setCell (p:=⟨M+2,0,jf⟩) (j6 _) _) (fl _ bb.out) (λa1=>?_);rw[HR];exact HP.off aa.symm Q.out a1
  |false=>
   as_aux_lemma=>
    obtain⟨Q,g⟩:=J (decide (x.id=f));rw[<-g]at bB;have c:=O g;clear g
    rcases Q with _|_
    ·gi_wp2_with (first|(refine VD.loadI ai I I (x.id.map v8) bw UR ?_;rw[<-Vp];refine G ?_)|(refine VD.loadI ai I I (f.map v8) bA UQ ?_;rw[<-YN];refine G ?_))
     exact Wc a (λ_ _ _=>rfl) (pz _ _) (by rw[rI,<-aa,<-c];exact Ur) (HP.ne aa.symm (of_decide_eq_false c.symm))
    have y:=O (Aq (Oh dev u (M+1) a.heap.size (aI U9) WU) x.g.mem _ a bl Uq (jF _) WB);obtain⟨V,g⟩:=J (x.g.mem.any λm=>m.dev==dev);rw[<-g]at y;have K:=O g;clear g
    gi_wp2_with (first|(refine VD.loadI ai I I (x.id.map v8) bw UR ?_;rw[<-Vp];refine G ?_)|(refine VD.loadI ai I I (f.map v8) bA UQ ?_;rw[<-YN];refine G ?_))
    refine⟨trivial,I,(callsIn_wide.2 y).mono ?_⟩;rintro e x5 ⟨rfl,m⟩;have g:=av Ur m;have a1:=ah (i:=0) g I;have a5:=gt (o:=0) g;have j:=O m;have bb:=O g;clear m g a2 bg bh bi a3 bk y
    cases V with
    |true=>
     gi_wp2_with fail
     exact Wc _ (λk s F=>(dB _ F).trans (j.block k s)) ((j.mono (aI U9)).setCell (p:=⟨M+2,0,jf⟩) (j6 _) _) (by rw[rI,<-aa,<-c];exact fl _ bb.out) (HP.met aa.symm (qM c.symm) K.symm)
    |false=>
     gi_wp2_with fail
     exact bv _ jo (λk s F=>(dB _ F).trans (j.block k s)) ((j.mono (aI U9)).setCell (p:=⟨M+2,0,jf⟩) (j6 _) _) (fl _ bb.out) (HP.gone aa.symm (qM c.symm) K.symm)
 rintro D xs Ψ W rfl hS ⟨hI,hP⟩ ay;have a:=(hI.2.1 _ _ (tY M u f xs)).2.1;have bc:=hI.2.2.1;obtain⟨ok,Yd⟩:=J (okS f xs);have HR:N (ok=bq):=O (by
  have h:=hP [];rw[qe,hS,eI,<-Yd]at h;rw[Zr];exact h.symm)
 rw[<-Yd]at a;have m:=ah (i:=0) a I;have r:=gt (o:=0) a;clear hI hP hS Yd
 go_wp2_with fail
 have c:(W.setCell ⟨M+2,0,jf⟩ (.bool ok)).heap[M+2]?=A (jc #[.bool ok] 4 (0,0)):=fl (i:=0) (.bool ok) a;have h:∀k,(W.setCell ⟨M+2,0,jf⟩ (.bool ok)).heap[k]?=W.heap[k]?:=λk=>by
  by_cases e:k=M+2
  ·rw[e,c,a]
  exact dB _ e
 have j:jl w w (W.setCell ⟨M+2,0,jf⟩ (.bool ok)):=bc.setCell (p:=⟨M+2,0,jf⟩) (by rw[<-HM];exact q9 _ _) _;have g:(W.setCell ⟨M+2,0,jf⟩ (.bool ok)).heap[q.heap.size]?=A (.deferred (A [])):=(h _).trans ay;have bd:M+2≠q.heap.size:=λe=>by rw[<-e,c]at g;cases g
 have z2:=(nv (w:=W.setCell ⟨M+2,0,jf⟩ (.bool ok)) (o:=.deferred jf) bd).trans c;have bf:w.heap.size<=q.heap.size:=P.size;refine⟨by simp,.inl ⟨_,_,I,qO (b:=q.heap.size) (ds:=[]) g,?_⟩⟩;have zc:=ah (i:=0) z2 I;exact⟨.bool ok,by simp[results,results21,go_sem,zc],by rw[HR],j.trans (iD bf)⟩
end
def vB(g:Grp)(a:T)(b:jg ar)(c init:LBy)(d:jg Bx)(e:jg Wl):Cmt:=⟨g.folder,g.epoch+1,g.last,a,b,dA c,d,e,cI,0,0⟩
def pJ(g:Grp)(a:T)(c:jg ar)(b init:LBy)(d:jg Bx)(e:jg Wl):Cmt:=
 {vB g a c b init d e with confirm:=ko (dL g b init) (c8 kP ((aP (vB g a c b init d e)).take 8))}
def mkX(g:Grp)(a:T)(x:ja)(b:jg ar)(c init:LBy)(d:jg Bx)(e:jg Wl):Cmt:=
 {pJ g a b c init d e with r:=(kt x (dq (pJ g a b c init d e)):ja),s:=(kH x (dq (pJ g a b c init d e)):ja)}
def kz(b:j8 8):LBy:=b::wq 31 0#8
def cR(d:ja):ar:=⟨1,(d:T),((aY 4 (d+2):ja):T),((aY 4 (d+2):ja):T),0⟩
def dJ(d a:ja):ar:=⟨2,(d:T),0,0,(a:T)⟩
def uH(g:Grp)(a:T)(c:jg ar)(b seed:LBy)(x:T×T)(p:ja):Bx:=
 ⟨x.2,x.1,(aY 4 (gj (dX seed gP [x.1,x.2])):ja),gs p (dX seed gP [x.1,x.2]) (iY (bY g a c b) gP [x.1,x.2]) (aA b x.1.toNat)⟩
theorem Mm{g:Grp}{a:T}{b:jg ar}{c seed:LBy}{x:T×T}{p:ja}(h:tG (aX g.tree b) x.2=p):eE g a b c seed x=uH g a b c seed x p:=by
 unfold eE uH;rw[h]
def pwN:ja->ja->ja->ja
 |0,_,_=>1%PN
 |f+1,a,n=>if n%2=1 then a*pwN f (a*a%PN) (n/2)%PN else pwN f (a*a%PN) (n/2)
theorem Cr:∀(f a n:ja),n<2^f->pwN f a n=a^n%PN
 |0,a,n,h=>by
  obtain rfl:n=0:=ak h;rw[pwN,Nat.pow_zero]
 |f+1,a,n,h=>by
  have c:n/2<2^f:=by rw[Nat.pow_succ]at h;omega
  have e:a^n=(a*a)^(n/2)*a^(n%2):=by
   rw[<-Nat.pow_two,<-Nat.pow_mul,<-Nat.pow_add,Nat.div_add_mod]
  rw[pwN,Cr f _ _ c]
  split
  ·rename_i b
   rw[e,b,Nat.pow_one,Nat.mul_comm _ a,Nat.mul_mod a,<-Nat.pow_mod,Nat.mod_mod,<-Nat.mul_mod,Nat.mul_comm]
  have b:n%2=0:=Y;rw[e,b,Nat.pow_zero,Nat.mul_one,<-Nat.pow_mod]
def pw(a n:ja):ja:=if n<2^64 then pwN 64 a n else aY a n
theorem ng(a n:ja):aY a n=pw a n:=by
 unfold pw
 split
 ·rename_i h
  rw[Cr 64 a n h]
  rfl
 rfl
def ma(a:LBy):jg T:=(rn 10).map λi=>((pw 4 (aU (aA a i)):ja):T)
def ni(x:ja)(msg:LBy):ja:=(iU x msg+rL (pw 4 (iU x msg)) (pw 4 x) msg*x%QN)%QN
def rB(a:ja)(seed b body:LBy):LBy:=oR (oo a (pw 4 (gj seed)) (pw a (gj seed))) sC b body
def kh(g:Grp)(a:T)(b:jg ar)(c:LBy):Cmt:=⟨g.folder,g.epoch+1,g.last,a,b,ma c,[],[],cI,0,0⟩
def pk(g:Grp)(a:T)(c:jg ar)(b seed:LBy)(x:T×T)(p:ja):Bx:=
 ⟨x.2,x.1,(pw 4 (gj (dX seed gP [x.1,x.2])):ja),rB p (dX seed gP [x.1,x.2]) (iY (kh g a c b) gP [x.1,x.2]) (aA b x.1.toNat)⟩
def oV(g:Grp)(a:T)(c:jg ar)(b init seed:LBy)(y:ar):Wl:=
 ⟨y.d,(pw 4 (gj (dX seed kA [y.d])):ja),rB y.p.toNat (dX seed kA [y.d]) (iY (kh g a c b) kA [y.d]) (dL g b init)⟩
def nB(g:Grp)(a:T)(b:jg ar)(c init:LBy)(d:jg Bx)(e:jg Wl):Cmt:=⟨g.folder,g.epoch+1,g.last,a,b,ma c,d,e,cI,0,0⟩
def lH(g:Grp)(a:T)(c:jg ar)(b init:LBy)(d:jg Bx)(e:jg Wl):Cmt:=
 {nB g a c b init d e with confirm:=ko (dL g b init) (c8 kP ((aP (nB g a c b init d e)).take 8))}
def mkF(g:Grp)(a:T)(x:ja)(b:jg ar)(c init:LBy)(d:jg Bx)(e:jg Wl):Cmt:=
 {lH g a b c init d e with r:=(pw 4 (iU x (dq (lH g a b c init d e))):ja),s:=(ni x (dq (lH g a b c init d e)):ja)}
theorem Hj(a:LBy):dA a=ma a:=by unfold dA ma;simp only[ng]
theorem Jd(x:ja)(msg:LBy):kH x msg=ni x msg:=by unfold kH ni kt;simp only[ng]
theorem F7(a:ja)(seed b body:LBy):gs a seed b body=rB a seed b body:=by unfold gs rB;simp only[ng]
theorem Dx(g:Grp)(a:T)(b:jg ar)(c:LBy):bY g a b c=kh g a b c:=by unfold bY kh;rw[Hj]
theorem KJ(g:Grp)(a:T)(b:jg ar)(c seed:LBy)(x:T×T)(p:ja):uH g a b c seed x p=pk g a b c seed x p:=by unfold uH pk;simp only[ng,F7,Dx]
theorem Tx(g:Grp)(a:T)(b:jg ar)(c init seed:LBy)(y:ar):fz g a b c init seed y=oV g a b c init seed y:=by unfold fz oV;simp only[ng,F7,Dx]
theorem L3(g:Grp)(a:T)(b:jg ar)(c init:LBy)(d:jg Bx)(e:jg Wl):pJ g a b c init d e=lH g a b c init d e:=by unfold pJ lH vB nB;simp only[Hj]
theorem Nu(g:Grp)(a:T)(x:ja)(b:jg ar)(c init:LBy)(d:jg Bx)(e:jg Wl):mkX g a x b c init d e=mkF g a x b c init d e:=by
 unfold mkX mkF;simp only[L3,Jd,kt,ng]
theorem FU{P:o1}{S:jj->Prop}{t:bE}(r:bE){F:ja->ja->Act}{d:ja->ja->jj->Prop}(e:∀x y w,d x y w->eJ P V h S r (F x y) w)(c:(∀x y w,d x y w->eJ P V h S r (F x y) w)->eJ P V h S t m w):eJ P V h S t m w:=c e
theorem CR{a:Act}{o:jK}{x:j1}{c:jH}{d:TypeDesc}{f:ja}{e:jg jk}{g:jj}(h:jn.underlying c=A d)(i:d.isRow=ji)(j:(jn.info? c).map (·.size)=A e.length)(k:o.op=.load c x)(l:a.eval x=jt (A ⟨b,f,jf⟩))(m:g.rangeAt b f e):
 (jN a.eval o).run jn g=.ok (.value (jh e.toArray)) g:=gm o a c x k b f l e d m h i j
theorem L4{a:Act}{o:jK}{parts:jp (ja×j1)}{f e au:T}{b:jp jk}{p:jG Addr}{n c:ja}(d:b.size=32)(g:o.op=.build 37 parts)(h:(parts.map fun(i,x)=>(i,a.eval x))= #[(0,jd je f),(1,jd je e),(2,jh b),(3,jd je au),(4,jb p n c)])(W:jj):
 (jN a.eval o).run jn W=.ok (.value (jh (#[jd je f,jd je e]++b++ #[jd je au,jb p n c,jb jf 0 0,jb jf 0 0,jb jf 0 0]++(cI.map v8).toArray++ #[jd je 0,jd je 0]))) W:=by
 simp only[jN,g,h,Sem.run_bind,LR f e au b d p n c,Result.andThen_ok,Sem.run_pure]
theorem Ot{m:Act}(b:C.op=.build 65 #[])(W:jj):
 (jN m.eval C).run jn W=.ok (.value (jh (cI.map v8).toArray)) W:=by
 simp only[jN,b,p6,jU,Sem.run_bind,ON,Result.andThen_ok,Sem.run_pure]
theorem RF{R g:ja}{X:jk->jp jk}{c k:jk}(n:a.last.length=32)(l:w.ownsRow b 55 5 j e.length (e.flatMap ar.cells))(m:w.ownsRow M 3 1 c 10 ((dA i).map (jJ .i64)))(q:eF z R 37 85 4 Bx.cells Bx.body X W w g k r B)(f:g=r.length):aT (·<w.heap.size) w {bY a d e i with box:=r} ⟨j,c,k,jb jf 0 0⟩:=by
 refine⟨aH.of_own l (λa n=>(l.lt a n).2),?_,q.slice f (λa _ n=>n),⟨[],⟨I,jf,0,I,jF _,λ_=>rfl,λh=>ju h (rv 0)⟩,I⟩,n,eM⟩;have h:=aH.of_own (D:=(·<w.heap.size)) m (λa n=>(m.lt a n).2);show aH _ w c 1 (dA i).length _;rw[lN];exact h
def ln(D:ja->Prop)(W:jj)(v:jk)(l:jg Bx):Prop:=∃a,aH D W v 4 l.length (dR Bx.cells l a)/\ez D W (l.map Bx.body) a
theorem ln.keep{D':ja->Prop}{v:jk}{l:jg Bx}(h:ln D w v l)(a:∀g,D g->w'.heap[g]?=w.heap[g]?)(b:∀g,D g->D' g):ln D' w' v l:=by
 obtain⟨c,d,e⟩:=h;exact⟨c,(d.keep a).mono b,(e.keep a).mono b⟩
theorem ln.below{v:jk}{l:jg Bx}(h:ln (·<w.heap.size) w v l)(b:jl w w w'):ln (·<w'.heap.size) w' v l:=h.keep (λg a=>b.block g a) (λg a=>jL a b.size)
theorem R4{R g:ja}{X:jk->jp jk}{c k l:jk}{H:jg Wl}(p:a.last.length=32)(n:w.ownsRow b 55 5 j e.length (e.flatMap ar.cells))(o:w.ownsRow M 3 1 c 10 ((dA i).map (jJ .i64)))(s:ln (·<w.heap.size) w k r)(t:eF z R 37 88 3 Wl.cells Wl.body X W w g l H B)(u:g=H.length):aT (·<w.heap.size) w {bY a d e i with box:=r,wel:=H} ⟨j,c,k,l⟩:=by
 refine⟨aH.of_own n (λa p=>(n.lt a p).2),?_,s,t.slice u (λa _ p=>p),p,eM⟩;have h:=aH.of_own (D:=(·<w.heap.size)) o (λa p=>(o.lt a p).2);show aH _ w c 1 (dA i).length _;rw[lN];exact h
theorem Rw(h:EC.At w j e)(i:∀(g o:ja) (x:T),w.cell? ⟨g,o,jf⟩=A (jd je x)->W.cell? ⟨g,o,jf⟩=A (jd je x)):EC.At W j e:=by
 obtain⟨k,p,c,l,m,n,q⟩:=h;refine⟨k,p,c,l,m,n,λr=>?_⟩;obtain⟨g,o,ep,s⟩:=q r;refine⟨g,o,ep,λv a b=>?_⟩;have t:=s v a b;have u:∃x,a=jd je x:=by
  have d:=j3 b;unfold EK.flat at d;obtain⟨y,-,z⟩:=List.mem_flatMap.1 d;have f:a∈ar.cells y:=z;simp only[ar.cells,qh,List.mem_nil_iff,or_false]at f
  rcases f with rfl|rfl|rfl|rfl|rfl<;>exact⟨_,I⟩
 obtain⟨x,rfl⟩:=u;exact i _ _ _ t
theorem PZ{v:jk}{l:jg ar}{j:ja}{X d:jp jk}{e:jH}(h:EC.At w v l)(f:w.heap[b]?=A (jc X e (0,0)))(g:w'.heap[b]?=A (jc d e (0,0)))(m:∀k,k<w.heap.size->k≠b->w'.heap[k]?=w.heap[k]?)
 (k:∀i,i≠j->d[i]?=X[i]?) (a:∃p n c,X[j]?=A (jb p n c)):EC.At w' v l:=by
 obtain⟨p,n,c,a⟩:=a;exact Rw h (uM f g k a m)
theorem KQ{d:T}{o y:LBy}{D:ja->Prop}{l m n:jk}(g:a.last.length=32)(f:w.ownsRow b 55 5 j e.length (e.flatMap ar.cells))(c:w.ownsRow M 3 1 l 10 ((dA i).map (jJ .i64)))
 (init:ln D w m ((eo (aX a.tree e) d).map (eE a d e i y))) (p:∃h,aH D w n 3 ((du d e).map (fz a d e i o y)).length (dR Wl.cells ((du d e).map (fz a d e i o y)) h)/\ez D w (((du d e).map (fz a d e i o y)).map Wl.body) h)
 (q:∀k,b<=k->k<w.heap.size->D k) (r:∀k,M<=k->k<w.heap.size->D k):aT D w (mk1 a d e i o y) ⟨j,l,m,n⟩:=by
 refine⟨aH.of_own f (λa g=>q a (f.lt a g).1 (f.lt a g).2),?_,init,p,g,eM⟩;have h:=aH.of_own (D:=D) c (λa g=>r a (c.lt a g).1 (c.lt a g).2);show aH _ w l 1 (dA i).length _;rw[lN];exact h
theorem aT.conf(h:aT D w p R){k:LBy}(a:k.length=32):aT D w {p with confirm:=k} R:=⟨h.chg,h.path,h.box,h.wel,h.plen,a⟩
theorem aT.rs(h:aT D w p R)(r s:T):aT D w {p with r:=r,s:=s} R:=⟨h.chg,h.path,h.box,h.wel,h.plen,h.clen⟩
theorem Ed(h:aT D w (mk1 a d e i o y) R):aT D w (mk2 a d e i o y) R:=by
 unfold mk2;exact h.conf (sW _ _)
theorem Ri{g:Grp}{a:T}{x:ja}{b:jg ar}{c init seed:LBy}{q:CQ}(h:aT D W (mk1 g a b c init seed) q):aT D W (mkC g a x b c init seed) q:=by
 unfold mkC;exact(Ed h).rs _ _
theorem aT.later(h:aT (λk=>b<=k/\k<w.heap.size) w p R)(n:jl w w W):aT (λk=>b<=k/\k<W.heap.size) W p R:=
 (h.keep λg a=>n.block g a.2).mono λg a=>⟨a.1,jL a.2 n.size⟩
def mS(a:jp jk):ja->jg jk->jp jk
 |_,[]=>a
 |o,v::b=>mS (a.setIfInBounds o v) (o+1) b
theorem BG:∀(d a c b:jg jk),c.length=d.length->mS (a++c++b).toArray a.length d=(a++d++b).toArray
 |[],a,c,b,h=>by
  obtain rfl:c=[]:=List.eq_nil_of_length_eq_zero h
  rfl
 |v::d,a,[],b,h=>by simp at h
 |v::d,a,x::c,b,h=>by
  have e:(a++x::c++b).toArray.setIfInBounds a.length v=((a++[v])++c++b).toArray:=by
   apply Array.ext'
   rw[Array.toList_setIfInBounds];show List.set (a++x::c++b) a.length v=_;rw[qV,List.set_append_right _ _ (jF _),Nat.sub_self];simp
  rw[mS,e];have f:=BG d (a++[v]) c b (ak h);rw[qg]at f;have g:mS ((a++[v])++c++b).toArray (a.length+1) d=(a++[v]++d++b).toArray:=f;rw[g];simp
theorem yU:∀(a:jg jk) (o:ja) (W:jj) (c:jp jk),W.heap[b]?=A (jc c u (0,0))->(W.setCells b o a).heap[b]?=A (jc (mS c o a) u (0,0))
 |[],o,W,c,h=>h
 |v::a,o,W,c,h=>yU a (o+1) _ _ (fl v h)
theorem tX{k:ja}(c:k≠b):∀(a:jg jk) (o:ja) (W:jj),(W.setCells b o a).heap[k]?=W.heap[k]?
 |[],o,W=>rfl
 |v::a,o,W=>(tX c a (o+1) (W.setCell ⟨b,o,jf⟩ v)).trans (dB v c)
theorem yt(b:ja):∀(a:jg jk) (o:ja) (W:jj),(W.setCells b o a).heap.size=W.heap.size
 |[],o,W=>rfl
 |v::a,o,W=>(yt b a (o+1) (W.setCell ⟨b,o,jf⟩ v)).trans (pF _ _ _)
theorem Oj(c:Cmt)(q:CQ)(k:LBy)(a:c.parent.length=32)(b:c.confirm.length=32)(d:k.length=32):mS (aF c q).toArray 39 (k.map v8)=(aF {c with confirm:=k} q).toArray:=by
 have e:∀x:LBy,aF {c with confirm:=x} q=(jd je c.folder::jd je c.epoch::(c.parent.map v8++[jd je c.author,q.vc,q.vp,q.vb,q.vw]))++x.map v8++[jd je c.r,jd je c.s]:=λx=>by simp[aF]
 have h:=BG (k.map v8) (jd je c.folder::jd je c.epoch::(c.parent.map v8++[jd je c.author,q.vc,q.vp,q.vb,q.vw])) (c.confirm.map v8) [jd je c.r,jd je c.s] (by simp[b,d]);have f:(jJ .i64 c.folder::jd je c.epoch::(c.parent.map v8++[jd je c.author,q.vc,q.vp,q.vb,q.vw])).length=39:=by simp[a]
 rw[f,<-e,<-e]at h;exact h
theorem TU(c:Cmt)(q:CQ)(r s:T)(a:c.parent.length=32)(b:c.confirm.length=32):mS (aF c q).toArray 71 [jd je r,jd je s]=(aF {c with r:=r,s:=s} q).toArray:=by
 have e:∀x y:T,aF {c with r:=x,s:=y} q=(jd je c.folder::jd je c.epoch::(c.parent.map v8++([jd je c.author,q.vc,q.vp,q.vb,q.vw]++c.confirm.map v8)))++[jd je x,jd je y]++[]:=λx y=>by simp[aF]
 have h:=BG [jd je r,jd je s] (jd je c.folder::jd je c.epoch::(c.parent.map v8++([jd je c.author,q.vc,q.vp,q.vb,q.vw]++c.confirm.map v8))) [jd je c.r,jd je c.s] [] I;have d:(jJ .i64 c.folder::jd je c.epoch::(c.parent.map v8++([jd je c.author,q.vc,q.vp,q.vb,q.vw]++c.confirm.map v8))).length=71:=by simp[a,b]
 rw[d,<-e,<-e]at h;exact h
theorem fI.conf(h:fI p){k:LBy}(a:k.length=32):fI {p with confirm:=k}:=⟨h.ints,h.plen,a,h.chg,h.path,h.box,h.wel⟩
theorem fI.rs(h:fI p){r s:T}(a:IR r)(b:IR s):fI {p with r:=r,s:=s}:=⟨⟨h.ints.1,h.ints.2.1,h.ints.2.2.1,a,b⟩,h.plen,h.clen,h.chg,h.path,h.box,h.wel⟩
theorem Pn(c:Cmt)(x y:T)(l:c.r=0)(m:c.s=0):({({c with r:=x,s:=y}:Cmt)with r:=0,s:=0}:Cmt)=c:=by
 obtain⟨a,b,c,d,e,f,g,h,i,j,k⟩:=c;obtain rfl:j=0:=l;obtain rfl:k=0:=m
 rfl
theorem KI(c:Cmt)(x:LBy)(l:c.confirm=cI):({({c with confirm:=x}:Cmt)with confirm:=cI}:Cmt)=c:=by
 obtain⟨a,b,c,d,e,f,g,h,i,j,k⟩:=c;obtain rfl:i=cI:=l
 rfl
theorem Tz(g:Grp)(a:T)(b:jg ar)(c init seed:LBy)(q:CQ):aF (mk1 g a b c init seed) q=aF (bY g a b c) q:=by simp only[aF,mk1,bY]
theorem ou(g:Grp)(a:T)(b:jg ar)(c init seed:LBy):(mk1 g a b c init seed).parent=g.last/\(mk1 g a b c init seed).confirm.length=32:=by
 unfold mk1;exact⟨I,eM⟩
theorem Dv(g:Grp)(a:T)(c:jg ar)(b init seed:LBy):mk2 g a c b init seed={mk1 g a c b init seed with confirm:=ko (dL g b init) (c8 kP ((aP (mk1 g a c b init seed)).take 8))}:=by unfold mk2;rfl
theorem GR(g:Grp)(a:T)(x:ja)(b:jg ar)(c init seed:LBy):mkC g a x b c init seed={mk2 g a b c init seed with r:=((kt x (dq (mk2 g a b c init seed)):ja):T),s:=((kH x (dq (mk2 g a b c init seed)):ja):T)}:=by unfold mkC;rfl
theorem B2(c:Cmt)(k:LBy):({c with confirm:=k}:Cmt).confirm=k/\({c with confirm:=k}:Cmt).parent=c.parent:=⟨I,I⟩
theorem pA(g:Grp)(a:T)(b:jg ar)(c init seed:LBy):(mk2 g a b c init seed).parent=g.last/\(mk2 g a b c init seed).confirm.length=32:=by
 rw[Dv,(B2 _ _).1,(B2 _ _).2];exact⟨(ou ..).1,sW _ _⟩
theorem Ge(c:Cmt)(r s:T):({c with r:=r,s:=s}:Cmt).confirm=c.confirm/\({c with r:=r,s:=s}:Cmt).parent=c.parent:=⟨I,I⟩
theorem BM(g:Grp)(a:T)(x:ja)(b:jg ar)(c init seed:LBy):(mkC g a x b c init seed).parent=g.last/\(mkC g a x b c init seed).confirm.length=32:=by
 rw[GR,(Ge _ _ _).1,(Ge _ _ _).2];exact pA ..
theorem MO(h:fI (mkC a d b e i o y)):fI (mk1 a d e i o y)/\fI (mk2 a d e i o y):=by
 have z:IR 0:=⟨by decide,by decide⟩;have x:fI (mk2 a d e i o y):=by
  have g:=h.rs z z;unfold mkC at g;rw[Pn _ _ _ I I]at g;exact g
 have g:=x.conf eM;unfold mk2 at g;rw[KI _ _ I]at g;exact⟨g,x⟩
theorem vK(k:P)(h:P->K:=by intro k;refine aS (v:=?_) rfl ai (λW' hS=>?_) ?_;rotate_left;(have b0:=ah (i:=1) hS.1 rfl;have b1:=ah (i:=2) hS.1 rfl;clear hS;go_simp;with_reducible rfl);refine G ?_;exact k):K:=h k
theorem RP(g:Grp)(vm vt vl:jk)(a x:T)(m:jg ar)(u init seed:LBy)(w:jj)(h:bH w g vm vt)(X:aH (·<w.heap.size) w vl 5 m.length (m.flatMap ar.cells))
 (a1:u.length=32) (a2:init.length=32) (g8:seed.length=32) (hT:ly w) (hS:iH w) (bc:g.mem.length<=900000) (bd:g.tree.length<=600000) (D:m.length<=1000000) (Yd:ie g a x m=0):
 jB jn 49 #[jh (aD g vm vt).toArray,jd je a,jd je x,vl,jh (u.map v8).toArray,jh (init.map v8).toArray,jh (seed.map v8).toArray] w (Pk g a x m u init seed (ie g a x m) w):=by
 obtain⟨er,M⟩:=J (ie g a x m);rw[<-M];have hM:=O M;have ew:N (er=0):=O (M.trans Yd);have a3:=rF (vm:=vm) (vt:=vt) h.llen;have Vs:=lQ (vm:=vm) (vt:=vt) h.llen;have a4:∀(w:jj) (b:ja),w.heap[b]?=A (jc (aD g vm vt).toArray 29 (0,0))->w.rangeAt b 2 (g.last.map v8):=λw b hb=>dy.last ⟨hb,h.llen⟩
 have HN:N (∀W,bH W g vm vt->EC.At W vl m->jB jn 28 #[jh (aD g vm vt).toArray,jd je a,vl] W λe w'=>∃aa,e=jy (jI #[aa,jd je (dt g a m)])/\w'.ownsRow W 85 4 aa (dT g a m).length (EB0.flat (dT g a m))/\jl W W w'):=O (λW hW hL=>Gz g vm vt _ _ _ W hW hL Y Y D);have hl:N (∀W,dC g->eU m->gN g a m->bH W g vm vt->EC.At W vl m->jB jn 35 #[jh (aD g vm vt).toArray,jd je a,vl] W λe w'=>e=jy (jd je (dP g a m))/\jl W W w'):=O (λW hv hf hp hW hL=>Gm g vm vt _ _ _ W hW (uD hv) Y hL (λhn=>by
  have c:=hp.own;rw[hn]at c;obtain⟨x,r,h1,-⟩:=hp.first (by have:=hv.ep.1;have h2:=of_decide_eq_false c.symm;omega);rw[h1];simp))
 have hN:N (∀W,eU m->bH W g vm vt->EC.At W vl m->jB jn 38 #[jh (aD g vm vt).toArray,vl] W λe w'=>∃aa,e=jy (jh #[aa])/\bJ w' aa (aX g.tree m)/\jl W W w'):=O (λW hf hW hL=>yG g vm vt _ _ W hW hf Y hL);obtain⟨ay,P⟩:=J ((aD g vm vt).toArray);obtain⟨Un,hL⟩:=J ((u.map v8).toArray);obtain⟨bI,U⟩:=J ((init.map v8).toArray);obtain⟨S,V⟩:=J ((seed.map v8).toArray);have c:∀(l:LBy),l.length=32->(jn.info? 65).map (·.size)=A (l.map v8).toArray.size:=λl D=>by rw[jv,jw,D];kernel_rfl
 have Ye:N ((jn.info? 65).map (·.size)=A Un.size):=O (by rw[hL];exact c _ a1);have lk:N ((jn.info? 65).map (·.size)=A bI.size):=O (by rw[U];exact c _ a2);have hO:N ((jn.info? 65).map (·.size)=A S.size):=O (by rw[V];exact c _ g8);rw[<-P]at a3 HN hl hN a4⊢;rw[<-hL,<-U,<-V];clear c;obtain⟨x0,k⟩:=J (((((((w.alloc (jc ay 29)).alloc (jc Un 65)).alloc (jc bI 65)).alloc (jc S 65)).alloc (jc zeroCells37 37)).alloc (jc a8 65)));obtain⟨t,hG⟩:=J w.heap.size;have i:=jz w (jc ay 29);have c:=ap w (jc ay 29);have bm:=jz (w.alloc (jc ay 29)) (jc Un 65);have d:=ap (w.alloc (jc ay 29)) (jc Un 65);have Vi:=jz ((w.alloc (jc ay 29)).alloc (jc Un 65)) (jc bI 65);have j:=ap ((w.alloc (jc ay 29)).alloc (jc Un 65)) (jc bI 65);have o:=jz (((w.alloc (jc ay 29)).alloc (jc Un 65)).alloc (jc bI 65)) (jc S 65);have q:=ap (((w.alloc (jc ay 29)).alloc (jc Un 65)).alloc (jc bI 65)) (jc S 65);have C:=jz ((((w.alloc (jc ay 29)).alloc (jc Un 65)).alloc (jc bI 65)).alloc (jc S 65)) (jc zeroCells37 37);have s:=ap ((((w.alloc (jc ay 29)).alloc (jc Un 65)).alloc (jc bI 65)).alloc (jc S 65)) (jc zeroCells37 37);have eA:=jz (((((w.alloc (jc ay 29)).alloc (jc Un 65)).alloc (jc bI 65)).alloc (jc S 65)).alloc (jc zeroCells37 37)) (jc a8 65);have v:=ap (((((w.alloc (jc ay 29)).alloc (jc Un 65)).alloc (jc bI 65)).alloc (jc S 65)).alloc (jc zeroCells37 37)) (jc a8 65);replace i:=av i d;replace i:=av i j;replace i:=av i q;replace i:=av i s;replace i:=av i v;rw[jq]at bm;replace bm:=av bm j;replace bm:=av bm q;replace bm:=av bm s;replace bm:=av bm v;rw[jq,jq]at Vi;replace Vi:=av Vi q;replace Vi:=av Vi s;replace Vi:=av Vi v;rw[jq,jq,jq]at o;replace o:=av o s;replace o:=av o v;rw[jq,jq,jq,jq]at C;replace C:=av C v;rw[jq,jq,jq,jq,jq]at eA;have hB:=(((((c).trans (d.mono (c).size)).trans (j.mono ((c).trans (d.mono (c).size)).size)).trans (q.mono (((c).trans (d.mono (c).size)).trans (j.mono ((c).trans (d.mono (c).size)).size)).size)).trans (s.mono ((((c).trans (d.mono (c).size)).trans (j.mono ((c).trans (d.mono (c).size)).size)).trans (q.mono (((c).trans (d.mono (c).size)).trans (j.mono ((c).trans (d.mono (c).size)).size)).size)).size)).trans (v.mono (((((c).trans (d.mono (c).size)).trans (j.mono ((c).trans (d.mono (c).size)).size)).trans (q.mono (((c).trans (d.mono (c).size)).trans (j.mono ((c).trans (d.mono (c).size)).size)).size)).trans (s.mono ((((c).trans (d.mono (c).size)).trans (j.mono ((c).trans (d.mono (c).size)).size)).trans (q.mono (((c).trans (d.mono (c).size)).trans (j.mono ((c).trans (d.mono (c).size)).size)).size)).size)).size);rw[<-k]at hB;rw[<-k,<-hG]at i;rw[<-k,<-hG]at bm;rw[<-k,<-hG]at Vi;rw[<-k,<-hG]at o;rw[<-k,<-hG]at C;rw[<-k,<-hG]at eA;have Q:=O i;have ad:=O bm;have ax:=O Vi;have Wb:=O o;have UU:=O C;have U1:=O eA;have Us:=O hB;have HW:=O k;have HG:=O hG;have hm:=O h;have eB:=O X;obtain⟨Z,F⟩:∃y:jp jk,y=zeroCells37:=⟨_,I⟩;obtain⟨K,z⟩:∃y:jp jk,y=a8:=⟨_,I⟩;have ii:N ((aF mR nK).toArray=Z):=O (by rw[F];rfl);have ho:N ((cI.map v8).toArray=K):=O (by rw[z];rfl);have U9:N ((jn.info? 37).map (·.size)=A Z.size):=O (by rw[F];kernel_rfl);have ll:N ((jn.info? 65).map (·.size)=A K.size):=O (by rw[z];kernel_rfl);have lm:N (Z.all (·.oneCell')=ji):=O (by rw[F];kernel_rfl);have lo:N (K.all (·.oneCell')=ji):=O (by rw[z];kernel_rfl);replace UU:N (x0.heap[(t+1+1+1+1)]?=A (jc Z 37 (0,0))):=O (by rw[F];exact UU);replace U1:N (x0.heap[(t+1+1+1+1+1)]?=A (jc K 65 (0,0))):=O (by rw[z];exact U1);have YO:=O a3;have i0:=O a4;have hP:=O hT;have Wc:=O hS;have WB:=O bc;have Ww:=O bd;have g9:=O D;have VA:=O a1;have hQ:=O a2;have hR:=O g8;have Yb:=O h.llen;have c5:N (ay[0]?=A (jd je g.folder)/\ay[1]?=A (jd je g.epoch)):=O (by rw[P];have:=Vs;exact⟨by simpa using this.1,by simpa using this.2.1⟩);have V8:=O P;have i1:=O hL;have hU:=O U;have hV:=O V;obtain⟨R,nc,H,i3⟩:∃p n c',vl=jb p n c':=by obtain⟨p,c',h⟩:=X.form;exact⟨p,_,c',h⟩
 subst i3;obtain⟨ep,a5⟩:=J g.epoch;obtain⟨fd,a6⟩:=J g.folder;rw[<-a5,<-a6]at c5;have Ya:=O a5;have i4:=O a6;have ba:=O (yH g a m);obtain⟨ne,bb⟩:=J (dt g a m);rw[<-bb]at HN ba;have e0:=O bb;clear h X a1 a2 g8 hT hS bc bd D M a3 Vs a4 P hL U V F z a5 a6 bb;clear hB k hG i c bm d Vi j o q C s eA v
 go_enter func49,ntmps49
 go_upto_region 1 with fail
 rw[<-HW,<-HG];have e1:N ((t+1+1+1+1+1)<x0.heap.size):=O (jA.1 U1).1;have k:=ah Q c5.2
 by_cases h1:1099511627776<=ep
 case pos=>
  have hT:decide (1099511627776<=ep)=ji:=ak h1;have c:N (er=1):=O (by rw[hM];unfold ie;rw[jr (by rw[<-Ya];exact h1)]);clear h1;exact ju (c.symm.trans ew) L
 have hT:decide (1099511627776<=ep)=jo:=ak h1;have i5:ep<1099511627776:=Y;have i:N (er=if dt g a m≠0 then dt g a m else if x<1\/2305843009213688669<=x then 50 else if((aY 4 x.toNat:ja):T)≠dP g a m then 221 else 0):=O (by rw[hM];unfold ie;rw[jE (by rw[<-Ya];exact h1)]);clear h1
 go_upto_region 3 with fail
 clear hT k;refine jZ ?_;refine j9 I 29 _ I t I 29 ay (0,0) _ Q.out qP I YO ?_
 go_wp2_with fail
 refine(HN x0 (hm.below Us) ((EK.At.of_sl (E:=EC) eB).below Us)).mono ?_;rintro e x1 ⟨aa,rfl,hu,d⟩;have q:=O hu;clear hu;have s:=ae Q d;have a2:=ae ad d;have V:=ae ax d;have Vh:=ae Wb d;have UM:=ae UU d;have UR:=ae U1 d;have U:=aj Us d;clear Q ad ax Wb UU U1 Us;clear d;obtain⟨pu,i6,rfl⟩:=cO q;obtain⟨nu,j⟩:=J ((dT g a m).length);rw[<-j]at q⊢;have hX:=O j;clear j
 rcases ba.out with⟨-,C⟩|⟨-,-,C⟩|⟨hv,hf,hp,C⟩
 case inl=>
  have c:N (er=1):=O (by rw[i,<-e0,C];rfl);subst C;clear q;exact ju (c.symm.trans ew) L
 case inr.inl=>
  have c:N (er=221):=O (by rw[i,<-e0,C];rfl);subst C;clear q;exact ju (c.symm.trans ew) L
 have o:N (er=if x<1\/2305843009213688669<=x then 50 else if((aY 4 x.toNat:ja):T)≠dP g a m then 221 else 0):=O (by rw[i,<-e0,C];rfl);subst C;have j:dC g:=by
  by_cases C:dC g
  ·exact C
  rw[kr C]at hv;cases hv
 have b6:=O j;have Yo:=O (oF.1 hf);have hr:=O (tK.1 hp);have hs:N (dT g a m=eo (aX g.tree m) a):=O (yh e0.symm);have lp:0<=ep:=by rw[Ya];exact j.ep.1
 have ei:=O (vU j Yo hr);clear hv hf hp j i ba
 by_cases e2:k7 x
 case neg=>
  have c:N (er=50):=O (by rw[o,jr (by unfold k7 at e2;omega)]);have i:=O (Jn x e2);clear e2 q
  go_wp2_with fail
  refine(i x1).mono ?_;rintro e x2 ⟨rfl,rfl⟩;exact ju (c.symm.trans ew) L
 obtain⟨X,hY⟩:=qI (show 0<=x by have:=e2.1;omega);have lr:=O hY;obtain⟨i,j⟩:=e2;subst hY;have U5:N (1<=X/\X<2305843009213688669):=O ⟨by omega,by omega⟩;have ha:N (er=if((aY 4 X:ja):T)≠dP g a m then 221 else 0):=O (by rw[o,jE Y];rfl);clear i j o
 go_wp2_with fail
 refine(Ac X U5.1 U5.2 x1).mono ?_;rintro e x2 ⟨rfl,d⟩;have i:=ae s d;have v:=ae a2 d;have D:=ae V d;have UP:=ae Vh d;have UJ:=ae UM d;have UQ:=ae UR d;have Ur:=aj U d;have e3:=bD q d;clear s a2 V Vh UM UR U q;clear d;obtain⟨vk,j⟩:=J (dP g a m);obtain⟨pb,e4⟩:∃y:T,y=((aY 4 X:ja):T):=⟨_,I⟩;rw[<-j]at hl ha;rw[<-e4]at ha⊢;have ZF:=O j;have i7:=O e4;clear j e4
 go_upto_region 9 with fail
 refine jZ ?_;refine ee ?_;refine j9 I 29 _ I t I 29 ay (0,0) _ i.out qP I YO (G ?_)
 go_wp2_with fail
 refine(hl x2 b6 Yo hr (hm.below Ur) ((EK.At.of_sl (E:=EC) eB).below Ur)).mono ?_;rintro e x3 ⟨rfl,d⟩;have WX:=ae i d;have Zu:=ae v d;have o:=ae D d;have VW:=ae UP d;have U2:=ae UJ d;have Vg:=ae UQ d;have Uu:=aj Ur d;have a1:=bD e3 d;clear i v D UP UJ UQ Ur e3;clear d
 by_cases h2:pb=vk
 case neg=>
  have hd2:(pb !=vk)=ji:=ak h2;have hg:(pb==vk)=jo:=ak h2;have c:N (er=221):=O (by rw[ha,jr h2]);clear h2 a1;exact ju (c.symm.trans ew) L
 have hd2:(pb !=vk)=jo:=ak h2;have hg:(pb==vk)=ji:=ak h2;have ka:N (er=0):=O (by rw[ha,jE (λhn=>hn h2)]);have kb:N (dP g a m=(aY 4 X:ja)):=O (by rw[<-ZF,<-h2,i7]);clear h2;have k:=ah WX c5.2;obtain⟨ix,c⟩:=J (if g.epoch=0 then cI else init);obtain⟨IX,i⟩:=J ((ix.map v8).toArray);have j:ix.length=32:=by rw[c];split;exact eM;exact hQ
 have kg:=O j;have bo:=O c;have br:=O i;have ht:N ((jn.info? 65).map (·.size)=A IX.size):=O (by rw[i,jv,jw,j];kernel_rfl);clear j
 go_upto_if 69 with fail
 go_cut []from 69 (λj=>j=x3.setRow (t+1+1) IX)
 case first=>
  by_cases j:ep=0
  ·have hd3:(ep==0)=ji:=ak j
   have v:IX=(cI.map v8).toArray:=by rw[i,c,jr (by rw[<-Ya];exact j)]
   have D:N ((cI.map v8).toArray.all (·.oneCell')=ji):=O (ff _);have F:N (bI.size=(cI.map v8).toArray.size):=O (by rw[hU,jv,jw,jv,jw,hQ,eM]);rw[v]at ht;have M:=O v;clear j v i c
   try rw[hd3]
   go_upto_region 12 with fail
   refine jZ ?_;refine eD (v:=jh (cI.map v8).toArray) ai (Ot I _) ?_;refine o8 I λ_ z=>jR 65 _ _ I (t+1+1) (cI.map v8).toArray I I 65 _ o.out ht F D (z _ _ ?_)
   refine G ?_
   go_wp2_with fail
   go_meet
   rw[M]
  have hd3:(ep==0)=jo:=ak j;have D:IX=bI:=by rw[i,c,jE (by rw[<-Ya];exact j),hU]
  have F:=O D;clear j D i c
  try rw[hd3]
  go_wp2_with fail
  go_meet
  rw[F];exact(rx o).symm
 subst hcut;clear i c hd2 hg k;have c:N ((x3.setRow (t+1+1) IX).heap[t]?=A (jc ay 29 (0,0))):=O ((js _ _ _ _ (by first|omega|(have:=Y8.out;omega))).trans WX);have D:N ((x3.setRow (t+1+1) IX).heap[t+1]?=A (jc Un 65 (0,0))):=O ((js _ _ _ _ (by first|omega|(have:=Y8.out;omega))).trans Zu);have F:N ((x3.setRow (t+1+1) IX).heap[t+1+1]?=A (jc IX 65 (0,0))):=O (jT _ _ _ _ _ _ o.out);have M:N ((x3.setRow (t+1+1) IX).heap[t+1+1+1]?=A (jc S 65 (0,0))):=O ((js _ _ _ _ (by first|omega|(have:=Y8.out;omega))).trans VW);have ba:N ((x3.setRow (t+1+1) IX).heap[(t+1+1+1+1)]?=A (jc Z 37 (0,0))):=O ((js _ _ _ _ (by first|omega|(have:=Y8.out;omega))).trans U2);have bc:N ((x3.setRow (t+1+1) IX).heap[(t+1+1+1+1+1)]?=A (jc K 65 (0,0))):=O ((js _ _ _ _ (by first|omega|(have:=Y8.out;omega))).trans Vg);have bd:N (jl w w (x3.setRow (t+1+1) IX)):=O (n0 Uu.out (by rw[HG];omega) _);have P:=O (nr (w':=(x3.setRow (t+1+1) IX)) a1 (λk hk=>js _ _ _ _ (aI e1)));generalize(x3.setRow (t+1+1) IX)=x4 at c D F M ba bc bd P⊢;clear WX Zu o VW U2 Vg Uu a1;have a3:=c;clear c;have o:=D;clear D;have a4:=F;clear F;have WQ:=M;clear M;have Yk:=ba;clear ba;have YH:=bc;clear bc;have UB:=bd;clear bd;have a5:=P;clear P
 go_upto_region 13 with fail
 refine jZ ?_;refine j9 I 65 _ I (t+1) I 65 Un (0,0) _ o.out jX I Ye ?_;have a1:N (∀W,bS W->jB jn 104 #[jh Un] W λe w'=>∃v,e=jy v/\w'.ownsRow W 65 32 v 10 (io (gI u 10))/\jl W W w'):=O (by rw[i1];exact λW hW=>LB u VA W hW)
 go_wp2_with fail
 refine(a1 x4 (Wc.dig.below UB)).mono ?_;rintro e x5 ⟨v,rfl,hv,d⟩;obtain⟨gl,cl,LC,rfl,lv,a6,bb,bf⟩:=S0 hv L;have e5:=O bb;have Y8:N (t+6<=gl):=O (by have h5:=(jA.1 YH).1;have:=a6;omega);have hh:N (∀i j aa,i<10->((aA u i).map v8)[j]?=A aa->LC[i*32+j]?=A aa):=O (λi j aa hi hj=>bf _ _ (RH u VA 10 i j hi aa hj));clear hv bb bf a6 a1;have bg:=ae a3 d;have bh:=ae o d;have a1:=ae a4 d;have Z9:=ae WQ d;have ej:=ae Yk d;have ek:=ae YH d;have UH:=aj UB d;have bi:=bD a5 d;clear a3 o a4 WQ Yk YH UB a5;clear d;obtain⟨RL,a3⟩:=J (((aA u 9).map v8).toArray);obtain⟨SA,o⟩:=J (((dL g u init).map v8).toArray);have bs:N (∀W,iH W->jB jn 105 #[jh IX,jh RL] W λe w'=>e=jy (jh SA)/\jl W W w'):=O (by
  rw[br,a3,o];unfold dL;rw[<-bo];exact λW hW=>QR ix (aA u 9) kg (fK u VA 9) W hW)
 have e6:N ((jn.info? 65).map (·.size)=A SA.size):=O (by rw[o,jv,jw,lG];kernel_rfl);have ki:N (K.size=SA.size):=O (by rw[o,<-ho,jv,jw,jv,jw,lG,eM]);have hZ:N (SA.all (·.oneCell')=ji):=O (by rw[o];exact ff _);have bu:=O a3;have hw:=O o;have bv:N ((jn.info? 65).map (·.size)=A ((aA u 9).map v8).length):=O (by rw[jw,fK u VA];kernel_rfl);clear a3 o
 go_upto_region 14 with fail
 refine jM ?_;refine dj (λW'=>W'.heap[t+1+1]?=A (jc IX 65 (0,0))/\W'.heap[gl]?=A (jc LC 65 (0,0))) (.t 0 (.t 1 (.t 2 (.t 3 (.o 4 (.o 5 .done)))))) af af af L (λ_ _ _ _ h=>h) ⟨a1,e5⟩ ?_;obtain⟨y0,UL⟩:=J x5.drew;have d:=bX x5;rw[<-UL]at d⊢;have a5:=ae bg d;have a6:=ae bh d;have bb:=ae a1 d;have bT:=ae Z9 d;have cm:=ae ej d;have cp:=ae ek d;have Zw:=aj UH d;have bf:=bD bi d;have cs:=ae e5 d;clear d UL bg bh a1 Z9 ej ek UH bi e5;have Q:=a5;clear a5;have ad:=a6;clear a6;have ax:=bb;clear bb;have Wb:=bT;clear bT;have UU:=cm;clear cm;have U1:=cp;clear cp;have Us:=Zw;clear Zw;have bg:=bf;clear bf;have bK:=cs;clear cs
 (refine aS (v:=jh IX) I ai (λW' hS=>mx jX I ht I I hS.1) (G ?_))
 iterate 2 refine aK ?_
 (refine aS (v:=jh RL) I ai (λW' hS=>by rw[bu];exact CR jX I bv I I (Hi (o:=288) hS.2 (λj aa hj=>hh 9 j aa L hj))) ?_;refine G ?_)
 refine aE I (λK' z=>?_);go_simp;refine(bs y0 (Wc.below Us)).mono ?_;rintro e y1 ⟨rfl,d⟩;have s:=ae Q d;have a2:=ae ad d;have V:=ae ax d;have Vh:=ae Wb d;have UM:=ae UU d;have UR:=ae U1 d;have U:=aj Us d;have q:=bD bg d;have a1:=ae bK d;clear Q ad ax Wb UU U1 Us bg bK;clear d;refine z _ _ ⟨V,a1⟩ λ_=>?_
 clear z;refine G ?_;refine aE I (λK' z=>?_);rw[jr ai];refine jR 65 _ _ I (t+1+1+1+1+1) SA I I 65 _ UR.out e6 ki hZ ?_;refine z _ _ ⟨(js _ _ _ _ Y).trans V,(js _ _ _ _ (aI Y8)).trans a1⟩ λ_=>?_
 clear z;have c:N ((y1.setRow (t+1+1+1+1+1) SA).heap[t]?=A (jc ay 29 (0,0))):=O ((js _ _ _ _ (by first|omega|(have:=Y8.out;omega))).trans s);have D:N ((y1.setRow (t+1+1+1+1+1) SA).heap[t+1]?=A (jc Un 65 (0,0))):=O ((js _ _ _ _ (by first|omega|(have:=Y8.out;omega))).trans a2);have F:N ((y1.setRow (t+1+1+1+1+1) SA).heap[t+1+1]?=A (jc IX 65 (0,0))):=O ((js _ _ _ _ (by first|omega|(have:=Y8.out;omega))).trans V);have M:N ((y1.setRow (t+1+1+1+1+1) SA).heap[t+1+1+1]?=A (jc S 65 (0,0))):=O ((js _ _ _ _ (by first|omega|(have:=Y8.out;omega))).trans Vh);have ba:N ((y1.setRow (t+1+1+1+1+1) SA).heap[(t+1+1+1+1)]?=A (jc Z 37 (0,0))):=O ((js _ _ _ _ (by first|omega|(have:=Y8.out;omega))).trans UM);have bc:N ((y1.setRow (t+1+1+1+1+1) SA).heap[(t+1+1+1+1+1)]?=A (jc SA 65 (0,0))):=O (jT _ _ _ _ _ _ UR.out);have bd:N (jl w w (y1.setRow (t+1+1+1+1+1) SA)):=O (n0 U.out (by rw[HG];omega) _);have P:=O (nr (w':=(y1.setRow (t+1+1+1+1+1) SA)) q (λk hk=>js _ _ _ _ (aI e1)));have a3:N ((y1.setRow (t+1+1+1+1+1) SA).heap[gl]?=A (jc LC 65 (0,0))):=O ((js _ _ _ _ (by first|omega|(have:=Y8.out;omega))).trans a1);generalize(y1.setRow (t+1+1+1+1+1) SA)=y9 at c D F M ba bc bd P a3⊢;clear s a2 V Vh UM UR U q a1;have ZQ:=c;clear c;have bi:=D;clear D;have bk:=F;clear F;have Zv:=M;clear M;have Zh:=ba;clear ba;have ZZ:=bc;clear bc;have VM:=bd;clear bd;have bh:=P;clear P;have a4:=a3;clear a3;refine G ?_;refine ow ?_;have bw:N ((jn.info? 23).map (·.size)=A (g.last.map v8).length):=O (by rw[jw,Yb];kernel_rfl);obtain⟨DL,bl⟩:=J ((g.last.map v8).toArray);have WS:=O bl;have h0:N (IntKind.i64.wrap (ep+1)=ep+1):=O (by rw[IntKind.wrap_i64];omega);have bA:N (DL.size=32):=O (by rw[bl,jv,jw,Yb]);clear bl
 go_upto_region 15 with fail
 refine jM ?_;refine dj (λW'=>W'.heap[t]?=A (jc ay 29 (0,0))) (.t 0 (.t 1 (.t 2 (.t 3 (.t 4 (.t 5 (.t 6 (.t 7 (.t 8 (.o 9 (.t 10 (.o 11 .done)))))))))))) af af af L (λ_ _ _ _ h=>h) ZQ ?_;obtain⟨z0,UL⟩:=J y9.drew;have d:=bX y9;rw[<-UL]at d⊢;have a5:=ae ZQ d;have a6:=ae bi d;have bb:=ae bk d;have bT:=ae Zv d;have cm:=ae Zh d;have cp:=ae ZZ d;have Zw:=aj VM d;have bf:=bD bh d;have cs:=ae a4 d;clear d UL ZQ bi bk Zv Zh ZZ VM bh a4;have Q:=a5;clear a5;have ad:=a6;clear a6;have ax:=bb;clear bb;have Wb:=bT;clear bT;have UU:=cm;clear cm;have U1:=cp;clear cp;have Us:=Zw;clear Zw;have bg:=bf;clear bf;have bK:=cs;clear cs;iterate 6 (refine aS (v:=?_) I ai (λW' hS=>?_) ?_;rotate_left;(have b0:=ah hS c5.1;have b1:=ah hS c5.2;go_simp;with_reducible rfl);refine G ?_)
 (refine aS (v:=jh DL) I ai (λW' hS=>by rw[WS];exact CR underlying23 I bw I I (i0 W' t hS)) ?_;refine G ?_)
 iterate 2 (refine aS (v:=?_) I ai (λW' hS=>?_) ?_;rotate_left;(have b0:=ah hS c5.1;have b1:=ah hS c5.2;go_simp;with_reducible rfl);refine G ?_)
 refine aE I (λK' z=>?_);go_simp;refine(IE m _ z0 ((EK.At.of_sl (E:=EC) eB).below Us) g9).mono ?_;rintro e z1 ⟨aa,rfl,hu,d⟩;obtain⟨EE,a5⟩:=J z0.heap.size;rw[<-a5]at hu;have c6:N (t+6<=EE):=O (by have h5:=(jA.1 U1).1;omega);clear a5;have Y9:=O hu;clear hu;obtain⟨V9,c1,rfl⟩:=cO Y9;obtain⟨X0,a6⟩:∃y:jp jk,y= #[jd je fd,jd je (ep+1)]++DL++ #[jd je a,jb V9 m.length c1,jb jf 0 0,jb jf 0 0,jb jf 0 0]++(cI.map v8).toArray++ #[jd je 0,jd je 0]:=⟨_,I⟩;have bb:=O a6;have a5:X0=(aF (bY g a m u) ⟨jb V9 m.length c1,jb jf 0 0,jb jf 0 0,jb jf 0 0⟩).toArray:=by rw[a6,WS,i4,Ya];unfold aF bY;simp
 have bf:=O a5;have bl:N ((jn.info? 37).map (·.size)=A X0.size):=O (by rw[a5,jv,dl _ _ Yb.out eM];exact mT);have bB:N (X0.all (·.oneCell')=ji):=O (by rw[a5];exact zO _ _ _ _ _ _ _ _ _ _ _ _ _);have bC:N (Z.size=X0.size):=O (by rw[a5,<-ii,jv,jv,dl (bY g a m u) _ Yb.out eM,dl mR nK eM eM]);clear a6 a5;have s:=ae Q d;have a2:=ae ad d;have V:=ae ax d;have Vh:=ae Wb d;have UM:=ae UU d;have UR:=ae U1 d;have U:=aj Us d;have q:=bD bg d;have a1:=ae bK d;clear Q ad ax Wb UU U1 Us bg bK;clear d;refine z _ _ s.out λ_=>?_
 clear z;refine G ?_
 (refine aS (v:=jh X0) I ai (λW' hS=>by rw[bb];exact L4 (f:=fd) (e:=ep+1) (au:=a) bA I (by simp only[p6,jY,jU,Act.eval,Array.getD_eq_getD_getElem?];simp;exact h0) W') ?_;refine G ?_)
 refine aE I (λK' z=>?_);rw[jr ai];refine jR 37 _ _ I (t+1+1+1+1) X0 I I 37 _ UM.out bl bC bB ?_;refine z _ _ ((js _ _ _ _ Y).trans s) λ_=>?_
 clear z;have Q:N ((z1.setRow (t+1+1+1+1) X0).ownsRow EE 55 5 (jb V9 m.length c1) m.length (m.flatMap ar.cells)):=O (nr Y9 (λk hk=>js _ _ _ _ (aI c6)));have c:N ((z1.setRow (t+1+1+1+1) X0).heap[t]?=A (jc ay 29 (0,0))):=O ((js _ _ _ _ (by first|omega|(have:=Y8.out;omega))).trans s);have D:N ((z1.setRow (t+1+1+1+1) X0).heap[t+1]?=A (jc Un 65 (0,0))):=O ((js _ _ _ _ (by first|omega|(have:=Y8.out;omega))).trans a2);have F:N ((z1.setRow (t+1+1+1+1) X0).heap[t+1+1]?=A (jc IX 65 (0,0))):=O ((js _ _ _ _ (by first|omega|(have:=Y8.out;omega))).trans V);have M:N ((z1.setRow (t+1+1+1+1) X0).heap[t+1+1+1]?=A (jc S 65 (0,0))):=O ((js _ _ _ _ (by first|omega|(have:=Y8.out;omega))).trans Vh);have ba:N ((z1.setRow (t+1+1+1+1) X0).heap[(t+1+1+1+1)]?=A (jc X0 37 (0,0))):=O (jT _ _ _ _ _ _ UM.out);have bc:N ((z1.setRow (t+1+1+1+1) X0).heap[(t+1+1+1+1+1)]?=A (jc SA 65 (0,0))):=O ((js _ _ _ _ (by first|omega|(have:=Y8.out;omega))).trans UR);have bd:N (jl w w (z1.setRow (t+1+1+1+1) X0)):=O (n0 U.out (by rw[HG];omega) _);have P:=O (nr (w':=(z1.setRow (t+1+1+1+1) X0)) q (λk hk=>js _ _ _ _ (aI e1)));have a3:N ((z1.setRow (t+1+1+1+1) X0).heap[gl]?=A (jc LC 65 (0,0))):=O ((js _ _ _ _ (by first|omega|(have:=Y8.out;omega))).trans a1);generalize(z1.setRow (t+1+1+1+1) X0)=z9 at c D F M ba bc bd P a3 Q⊢;clear s a2 V Vh UM UR U q a1;have ZQ:=c;clear c;have bi:=D;clear D;have bk:=F;clear F;have Zv:=M;clear M;have Zh:=ba;clear ba;have ZZ:=bc;clear bc;have VM:=bd;clear bd;have bh:=P;clear P;have a4:=a3;clear a3;clear Y9;have ad:=Q;clear Q;refine G ?_;refine ow ?_;obtain⟨M,c⟩:=J z9.heap.size;have Yp:N ((t+1+1+1+1)<M):=O (by rw[c];exact(jA.1 Zh).1);have e7:N (gl<M):=O (by rw[c];exact(jA.1 a4).1);have h4:=O c;have e8:N ((t+1+1+1+1+1)<M):=O (by rw[c];exact(jA.1 ZZ).1);have a3:N (∀aa v,((λv=>(aF (bY g a m u) ⟨jb V9 m.length c1,v,jb jf 0 0,jb jf 0 0⟩).toArray) aa).setIfInBounds 36 v=(λv=>(aF (bY g a m u) ⟨jb V9 m.length c1,v,jb jf 0 0,jb jf 0 0⟩).toArray) v):=O (λaa v=>RS (bY g a m u) _ _ _ _ _ Yb.out);have D:N (gB M (t+1+1+1+1) 37 3 1 (λv=>(aF (bY g a m u) ⟨jb V9 m.length c1,v,jb jf 0 0,jb jf 0 0⟩).toArray) z9 z9 0 (jb jf 0 0) (((dA u).take 0).map (jJ .i64))):=O ⟨by have h:=Zh.out;rw[bf]at h;exact h,qX _ _ _ _,dx.refl _ _ _,j5 c⟩;have kl:N (∀w,(Instr.alloc 65 ji (jI #[])).run jn w=.ok (jt (A ⟨w,0,jf⟩)) (w.alloc (jc K 65))):=O (λw=>by rw[<-ho];kernel_rfl);clear c;rw[h0]
 go_upto_region 16 with fail
 go_wp2_with fail
 go_loopw [91] (λv wr=>∃(i:ja) (pv:jG Addr) (cv:ja),v=jd je i/\i<=10/\N (gB M (t+1+1+1+1) 37 3 1 (λv=>(aF (bY g a m u) ⟨jb V9 m.length c1,v,jb jf 0 0,jb jf 0 0⟩).toArray) z9 wr i (jb pv i cv) (((dA u).take i).map (jJ .i64)))) (λv _=>10-(jW v).toNat)
 case atStart=>exact⟨0,jf,0,I,jO _,D⟩
 clear D;obtain⟨i,pv,cv,rfl,hi,P⟩:=hrel
 by_cases b7:i<10
 ·have hd:=az ((i:T)<10)
  have UN:=az (i<10);have h5:(i:T)<10:=Y;obtain⟨RK,c⟩:=J (((aA u i).map v8).toArray);have a6:=O c;have ax:N ((jn.info? 65).map (·.size)=A RK.size):=O (by rw[c,jv,jw,fK u VA];kernel_rfl);have bg:N (K.size=RK.size):=O (by rw[c,<-ho,jv,jw,jv,jw,fK u VA,eM]);have bq:N (RK.all (·.oneCell')=ji):=O (by rw[c];exact ff _);have bM:N ((jn.info? 65).map (·.size)=A ((aA u i).map v8).length):=O (by rw[jw,fK u VA];kernel_rfl);have bN:N (∀W,iH W->jB jn 106 #[jh RK] W λe w'=>e=jy (jd je (aU (aA u i):ja))/\jl W W w'):=O (by rw[c];exact λW hW=>SZ _ (fK u VA i) W hW);have D:N (wr.heap[gl]?=A (jc LC 65 (0,0))):=O ((P.but.block gl e7 (aI Y8)).trans a4);have F:N (wr.rangeAt gl (i*32) ((aA u i).map v8)):=O (Hi D (λj aa hj=>hh i j aa b7 hj));have WP:N (jl w w wr):=O (VM.trans (P.but.below (n:=w.heap.size) (by rw[HG];omega) (dY Yp HG)));clear c
  go_upto_region 18 with fail
  refine jZ ?_;refine ee ?_;refine uT ai λ_ z=>wp_load_mid 65 _ I _ _ I ((aA u i).map v8) _ (by first|exact F|simpa using F.out) jX I bM (z _ _ ?_)
  rw[<-a6];refine o8 I λ_ z=>gM 65 I K kl (z _ _ ?_)
  refine o8 I λ_ z=>jR 65 _ _ I wr.heap.size RK I I 65 K (jz wr _) ax bg bq (z _ _ ?_)
  have bn:((wr.alloc (jc K 65)).setRow wr.heap.size RK).heap[wr.heap.size]?=A (jc RK 65 (0,0)):=jT _ _ _ _ _ _ (jz wr _);have d:jl wr wr ((wr.alloc (jc K 65)).setRow wr.heap.size RK):=iS (ap wr _) (jF _) _;obtain⟨k0,Zg⟩:=J ((wr.alloc (jc K 65)).setRow wr.heap.size RK);obtain⟨bO,c⟩:=J wr.heap.size;rw[<-Zg,<-c]at bn;rw[<-Zg]at d⊢;rw[<-c]at⊢;have V:=O (P.later (aI Yp) d);have Q:=O bn;have Us:N (jl w w k0):=aj WP d;clear bn d Zg c P WP D F
  go_upto_region 19 with fail
  refine jZ ?_;refine j9 I 65 _ I bO I 65 RK (0,0) _ Q.out jX I ax ?_
  go_wp2_with fail
  refine(bN k0 (Wc.below Us)).mono ?_;rintro e k1 ⟨rfl,d⟩;have a2:=O (V.later Yp d);have a5:=ae Q d;have U:=aj Us d;clear V Q Us;clear d
  go_wp2_with fail
  refine(Ac (aU (aA u i)) (Ef _).1 (Ef _).2 k1).mono ?_;rintro e c ⟨rfl,d⟩;have F:=O (a2.later Yp d);have b1:=ae a5 d;have Ur:=aj U d;clear a2 a5 U;clear d;obtain⟨Q,V⟩:∃y:T,y=((aY 4 (aU (aA u i)):ja):T):=⟨_,I⟩;rw[<-V];have a2:=O V;clear V;have a5:=ah F.box (show((λv=>(aF (bY g a m u) ⟨jb V9 m.length c1,v,jb jf 0 0,jb jf 0 0⟩).toArray) (jb pv i cv))[36]?=A (jb pv i cv) by have h:=(iy (bY g a m u) ⟨jb V9 m.length c1,jb pv i cv,jb jf 0 0,jb jf 0 0⟩ Yb eM).2.2.2.2.1;simpa using h);have V:((λv=>(aF (bY g a m u) ⟨jb V9 m.length c1,v,jb jf 0 0,jb jf 0 0⟩).toArray) (jb pv i cv)).size=73:=by rw[jv,dl _ _ Yb.out eM]
  have b0:=O V;clear V
  go_wp2_with (at_builtin;refine Hid.out ?_)
  refine O ?_;refine o8 I λ_ z=>SE _ _ I M (jb pv i cv) i _ I (cP F.own (ap c _)) _ 1 [jd je Q] I (lA c [jd je Q] 3 (0,0) 1 1 1 I (jF _)) (by simp[j4]) Y (jD F.sz' (ap c _).size) λv' k9 U0=>z _ _ ?_
  clear z;have bp:gB M (t+1+1+1+1) 37 3 1 (λv=>(aF (bY g a m u) ⟨jb V9 m.length c1,v,jb jf 0 0,jb jf 0 0⟩).toArray) z9 (c.alloc (jc #[jd je Q] 3)) i (jb pv i cv) (((dA u).take i).map (jJ .i64)):=F.later (aI Yp) (ap c _);have ct:=lg bp.box U0.grown (eV bp.own (.inr Yp));obtain⟨pn,cn,rfl⟩:=cO U0.own;have e9:N (gB M (t+1+1+1+1) 37 3 1 (λv=>(aF (bY g a m u) ⟨jb V9 m.length c1,v,jb jf 0 0,jb jf 0 0⟩).toArray) z9 (k9.setCell ⟨(t+1+1+1+1),36,jf⟩ (jb pn (i+1) cn)) (i+1) (jb pn (i+1) cn) (((dA u).take (i+1)).map (jJ .i64))):=O (by
   have h:=bp.push (i:=36) Yp U0 (a3 _ _);rw[PO u i b7,nn,jY,jU,<-a2];exact h)
  obtain⟨⟨vo,c3⟩,f3,-,-⟩:=ku (i:=36) (jb pn (i+1) cn) ct (by rw[b0];decide);clear bp U0 ct a5
  go_wp2_with fail
  go_roundw
  case rel=>exact⟨i+1,pn,cn,by go_num,by omega,e9⟩
  case measure=>simp only[jW];omega
 obtain rfl:i=10:=Y;have hd:decide ((10:T)<10)=jo:=by decide
 have UN:decide (10<10)=jo:=by decide
 rename jj=>p1;have cu:(dA u).take 10=dA u:=qu (by rw[lN];exact jF _);rw[cu]at P;have c:(dA u).length=10:=lN u;have s:N (p1.heap[t]?=A (jc ay 29 (0,0))):=O ((P.but.block (t) (by first|(have:=Yp.out;omega)|(have:=e8.out;omega)|(have:=e7.out;omega)) (by first|omega|(have:=Y8.out;omega))).trans ZQ);have Vh:N (p1.heap[t+1+1+1]?=A (jc S 65 (0,0))):=O ((P.but.block (t+1+1+1) (by first|(have:=Yp.out;omega)|(have:=e8.out;omega)|(have:=e7.out;omega)) (by first|omega|(have:=Y8.out;omega))).trans Zv);have UR:N (p1.heap[(t+1+1+1+1+1)]?=A (jc SA 65 (0,0))):=O ((P.but.block (t+1+1+1+1+1) (by first|(have:=Yp.out;omega)|(have:=e8.out;omega)|(have:=e7.out;omega)) (by first|omega|(have:=Y8.out;omega))).trans ZZ);have a1:N (p1.heap[gl]?=A (jc LC 65 (0,0))):=O ((P.but.block (gl) (by first|(have:=Yp.out;omega)|(have:=e8.out;omega)|(have:=e7.out;omega)) (by first|omega|(have:=Y8.out;omega))).trans a4);have UM:N (p1.heap[(t+1+1+1+1)]?=A (jc ((λv=>(aF (bY g a m u) ⟨jb V9 m.length c1,v,jb jf 0 0,jb jf 0 0⟩).toArray) (jb pv 10 cv)) 37 (0,0))):=O P.box;have U:N (jl w w p1):=O (VM.trans (P.but.below (n:=w.heap.size) (by rw[HG];omega) (dY Yp HG)));have Y9:N (p1.ownsRow EE 55 5 (jb V9 m.length c1) m.length (m.flatMap ar.cells)):=O (kO ad (λk bq ax=>P.but.block k (by rw[h4];exact ax) (aI c6)));have q:=O (kO bh (λk bq ax=>P.but.block k (by rw[h4];exact ax) (aI e1)));have F:N (M<=p1.heap.size):=O P.sz';have a2:N (p1.ownsRow M 3 1 (jb pv 10 cv) 10 ((dA u).map (jJ .i64))):=O P.own;clear cu c P b7 hi bh ZQ bi bk Zv Zh ZZ VM a4 ad a3 br bo bu bs bv WS bw bb bl bB bC bf bA;obtain⟨pq,cq,km,kn⟩:∃(p:jG Addr) (c:ja),p=pv/\c=cv:=⟨_,_,I,I⟩;subst km;subst kn
 go_upto_region 22 with fail
 refine jZ ?_;refine j9 I 29 _ I t I 29 ay (0,0) _ s.out qP I YO ?_;have Q:N (M<=p1.heap.size):=F;clear s F
 go_wp2_with fail
 refine(hN p1 Yo (hm.below U) ((EK.At.of_sl (E:=EC) eB).below U)).mono ?_;rintro e pm ⟨u1,rfl,hu,d⟩;have s:=O hu;clear hu;obtain⟨pt,nt,cw,rfl⟩:=gu s;have V:N (M<=pm.heap.size):=O (jD Q d.size);have ad:=ae Vh d;have a5:=ae UR d;have a6:=ae a1 d;have bb:=ae UM d;have bf:=aj U d;have bg:=bD Y9 d;have bh:=bD a2 d;have bi:=bD q d;clear Vh UR a1 UM U Y9 a2 q;clear d;clear Q
 go_upto_region 23 with fail
 have d:=ap pm (jc #[jb pt nt cw] 27);have F:=jz pm (jc #[jb pt nt cw] 27);obtain⟨p2,C⟩:=J (pm.alloc (jc #[jb pt nt cw] 27));rw[<-C]at d F⊢;obtain⟨bt,Q⟩:=J pm.heap.size;rw[<-Q]at F⊢;have q:=O Q;have UP:=ae ad d;have UQ:=ae a5 d;have bM:=ae a6 d;have UJ:=ae bb d;have Ur:=aj bf d;have a3:=bD bg d;have a4:=bD bh d;have e3:=bD bi d;have b0:=O (s.below d);clear ad a5 a6 bb bf bg bh bi s;have s:=O F;clear F C d Q;have kv:N (M<=bt):=O (by rw[q];exact V);have hq:=s;clear s V q;obtain⟨M2,q⟩:=J p2.heap.size;have br:N ((t+1+1+1+1)<M2):=O (by rw[q];exact(jA.1 UJ).1);have h6:N ((t+1+1+1+1+1)<M2):=O (by rw[q];exact(jA.1 UQ).1);have h7:N (gl<M2):=O (by rw[q];exact(jA.1 bM).1);have h8:N (bt<M2):=O (by rw[q];exact(jA.1 hq).1);have h9:N (bt≠(t+1+1+1+1)):=O (dY kv Yp);have VN:=O q;have ia:N (∀aa v,((λv=>(aF (bY g a m u) ⟨jb V9 m.length c1,jb pq 10 cq,v,jb jf 0 0⟩).toArray) aa).setIfInBounds 37 v=(λv=>(aF (bY g a m u) ⟨jb V9 m.length c1,jb pq 10 cq,v,jb jf 0 0⟩).toArray) v):=O (λaa v=>Dy (bY g a m u) _ _ _ _ _ Yb.out);obtain⟨nl,s⟩:=J (dT g a m);have hx:=O s;have Zx:N (nu=nl.length):=O (by rw[s];exact hX);have ib:N (nu<=511):=O (by rw[hX,hs];exact CJ _ ei.1 ei.2);have kx:=O (oX m _ (lP b6.tree) (rm b6 Yo hr)).1;have V:N (eF M2 (t+1+1+1+1) 37 85 4 Bx.cells Bx.body (λv=>(aF (bY g a m u) ⟨jb V9 m.length c1,jb pq 10 cq,v,jb jf 0 0⟩).toArray) p2 p2 0 (jb jf 0 0) ((nl.take 0).map (eE g a m u seed)) []):=O (eF.start UJ (j5 q));clear q s
 go_upto_region 23 with fail
 go_wp2_with fail
 go_loopw [113] (λv wr=>∃(i:ja) (pv:jG Addr) (cv:ja) (us:jg jk),v=jd je i/\i<=nu/\N (eF M2 (t+1+1+1+1) 37 85 4 Bx.cells Bx.body (λv=>(aF (bY g a m u) ⟨jb V9 m.length c1,jb pq 10 cq,v,jb jf 0 0⟩).toArray) p2 wr i (jb pv i cv) ((nl.take i).map (eE g a m u seed)) us)) (λv _=>nu-(jW v).toNat)
 case atStart=>exact⟨0,jf,0,[],I,jO _,V⟩
 clear V;obtain⟨i,pv,cv,us,rfl,hi,P⟩:=hrel;have eA:=ib.out
 by_cases b7:i<nu
 ·have hd:=az ((i:T)<(nu:T))
  have UN:=az (i<nu);have h5:(i:T)<(nu:T):=Y;have WP:N (jl w w wr):=O (Ur.trans (P.row.but.below (n:=w.heap.size) (by rw[HG];omega) (dY br HG)));have ad:=P.row.but;have V:=O (kO e3 (λk bq ax=>ad.block k (by rw[VN];exact ax) (aI e1)));have fe:=O (kO a3 (λk bq ax=>ad.block k (by rw[VN];exact ax) (aI c6)));have fm:=O (kO a4 (λk bq ax=>ad.block k (by rw[VN];exact ax) (aI Yp)));have a5:N (bJ wr (jb pt nt cw) (aX g.tree m)):=O (MB b0 (j:=37) UJ P.row.box (λk hk hn=>ad.block k (by rw[VN];exact hk) hn) (λj hj=>Ml (bY g a m u) _ _ _ _ _ Yb.out j hj) ⟨_,_,_,(rV (bY g a m u) _ _ _ _ Yb.out eM).2.1⟩);have fo:N (wr.heap[t+1+1+1]?=A (jc S 65 (0,0))):=O ((ad.block (t+1+1+1) (aI br) Y).trans UP);have D:N (wr.heap[gl]?=A (jc LC 65 (0,0))):=O ((ad.block gl h7 (aI Y8)).trans bM);have a6:N (wr.heap[bt]?=A (jc #[jb pt nt cw] 27 (0,0))):=O ((ad.block bt h8 h9).trans hq);have Vs:EB0.At wr (jb pu nu i6) nl:=EK.At.of_own (E:=EB0) (B:=x0.heap.size) (by rw[<-Zx,hx];exact V);obtain⟨-,-,Vq⟩:=Vs.cells;obtain⟨g0,o,ky,bN⟩:=Vq Y;subst ky;obtain⟨⟨kk,s⟩,C,fv⟩:=dK (l:=nl) (j:=i) (by rw[<-Zx];exact b7);have d0:wr.cell? ⟨g0,o+i*4,jf⟩=A (jd je s):=bN i _ C 0 _ I;have d1:wr.cell? ⟨g0,o+i*4+1,jf⟩=A (jd je kk):=bN i _ C 1 _ I;have d2:wr.cell? ⟨g0,o+i*4+2,jf⟩=A (jd je 0):=bN i _ C 2 _ I;have d3:wr.cell? ⟨g0,o+i*4+3,jf⟩=A (jb jf 0 0):=bN i _ C 3 _ I;have Vm:=j3 C;rw[hx,hs]at Vm;obtain⟨⟨bq,ax⟩,⟨bm,Vi⟩,bb,cx⟩:=Gd kx ei.1 ei.2 Vm;obtain⟨q,rfl⟩:=qI (show 0<=kk by omega);obtain⟨Vu,em⟩:=qI (show 0<=(bG (aX g.tree m) s).getD 0 by have:=cx.1;omega);have k2:N (tG (aX g.tree m) s=Vu):=O (by unfold tG;rw[em];rfl);rw[em]at cx;have hz:=O cx;have k3:N (∀W,bJ W (jb pt nt cw) (aX g.tree m)->jB jn 107 #[jh #[jb pt nt cw],jd je s] W λe w'=>e=jy (jI #[jd je (Vu:T),.bool ji])/\jl W W w'):=O (λW hW=>by
   have h:=JW (aX g.tree m) _ s W hW (by have:=wP g.tree m;have:=Ww.out;have:=Yo.len;omega) (aO.of Y);rw[em,bb]at h;exact h)
  have hB:N ((nl.take (i+1)).map (eE g a m u seed)=(nl.take i).map (eE g a m u seed)++[eE g a m u seed ((q:T),s)]):=O (by rw[fv,nn];rfl);have ga:N (q<10/\1<=q):=O ⟨by omega,by omega⟩;have ic:N (1<=s/\s<1024):=O ⟨bm,Vi⟩;clear Vs Vq bN C fv Vm bq ax bm Vi bb cx em V ad
  go_upto_region 26 with fail
  obtain⟨bb,b4⟩:=J wr.heap.size;have bn:=jz wr (jc #[jd je s,jd je (q:T),jd je 0,jb jf 0 0] 85);have d:=ap wr (jc #[jd je s,jd je (q:T),jd je 0,jb jf 0 0] 85);have c7:N (M2<=bb):=O (by rw[b4];exact P.row.sz');have ZT:N ((qi pv i cv).ownBlock≠A bb):=O (eV P.row.own (.inl (j5 b4.symm)));rw[<-b4]at bn⊢;obtain⟨k0,Zg⟩:=J (wr.alloc (jc #[jd je s,jd je (q:T),jd je 0,jb jf 0 0] 85));rw[<-Zg]at bn d⊢;have bw:=O d;have bs:=O (av P.row.box d);have bu:=O bn;have Us:=aj WP d;have bA:=bD fe d;have bB:=bD fm d;have ce:=O (a5.below d);have Wb:=ae fo d;have bK:=ae D d;have V:=ae a6 d;have gf:N (wr.heap.size=bb):=O b4.symm;clear bn d Zg b4 WP fe fm a5 fo D a6 d0 d1 d2 d3;have D:=ah (i:=0) bu I
  go_upto_region 26 with fail
  refine jZ ?_;refine j9 I 27 _ I bt I 27 #[jb pt nt cw] (0,0) _ V.out underlying27 I rr ?_
  go_wp2_with fail
  refine(k3 k0 ce).mono ?_;rintro e k1 ⟨rfl,d⟩;have bg:=aj bw d;have Zz:=ae bs d;have a6:=ae bu d;have U:=aj Us d;have Y9:=bD bA d;have a2:=bD bB d;have b5:=O (ce.below d);have Vh:=ae Wb d;have a1:=ae bK d;clear bw bs bu Us bA bB ce Wb bK;clear d D V;have bh:N (k1.cell? ⟨bb,0,jf⟩=A (jd je s)/\k1.cell? ⟨bb,1,jf⟩=A (jd je (q:T))):=O ⟨ah a6 I,ah a6 I⟩;obtain⟨ex,b8⟩:=J (dX seed gP [(q:T),s]);have gi:ex.length=32:=by rw[b8];exact pE _ _ _
  obtain⟨EX,c9⟩:=J ((ex.map v8).toArray);obtain⟨b9,ca⟩:=J (iY (bY g a m u) gP [(q:T),s]);obtain⟨V,db⟩:∃y:T,y=((aY 4 (gj ex):ja):T):=⟨_,I⟩;obtain⟨bo,cc⟩:=J (gs Vu ex b9 (aA u q));have hD:N (bo.length=48):=O (by rw[cc,nO,fK u VA]);have cd:N (∀W v,dh W v [(q:T),s]->bS W->jB jn 109 #[jh S,qs ⟨#[98,111,120]⟩,v] W λe w'=>e=jy (jh EX)/\jl W W w'):=O (λW v hv hW=>by
   rw[hV,c9,b8];exact sI seed hR gP [(q:T),s] v W hv (GT L (by have:=ic.out;have:=ga.out;intro x C;simp at C;rcases C with rfl|rfl<;>exact⟨by omega,by omega⟩) ao) hW)
  have gk:N (∀W v Yf,aT (·<W.heap.size) W {bY g a m u with box:=Yf} ⟨jb V9 m.length c1,jb pq 10 cq,jb pv i cv,jb jf 0 0⟩->Yf.length<=1000000->dh W v [(q:T),s]->bS W->jB jn 110 #[jh ((λv=>(aF (bY g a m u) ⟨jb V9 m.length c1,jb pq 10 cq,v,jb jf 0 0⟩).toArray) (jb pv i cv)),qs ⟨#[98,111,120]⟩,v] W λe w'=>∃D,e=jy (jb (A ⟨D,0,jf⟩) 32 32)/\bj w' (jb (A ⟨D,0,jf⟩) 32 32) b9/\jl W W w'):=O (λW v Yf hC hu hv hW=>by
   rw[ca];exact EA {bY g a m u with box:=Yf} _ gP [(q:T),s] v W L hC hv ao ⟨g9,by show(dA u).length<=_;rw[lN];decide,hu,jO _⟩
    (DR (c:={bY g a m u with box:=Yf}) (nums:=[(q:T),s]) (by have h1:=b6.fol.1;have h2:=b6.fol.2;exact⟨by show _ <=g.folder;omega,by show g.folder<_;omega⟩) (by have h1:=b6.ep;exact⟨by show _ <=g.epoch+1;omega,by show g.epoch+1<_;omega⟩) (by have:=ei.out;exact⟨by show _ <=a;omega,by show a<_;omega⟩) Yb (by have:=ic.out;have:=ga.out;intro x C;simp at C;rcases C with rfl|rfl<;>exact⟨by omega,by omega⟩) ao) hW)
  have gn:N (∀W vh vb,bj W vh b9->bj W vb (aA u q)->ly W->jB jn 108 #[jd je (Vu:T),jh EX,vh,vb] W λe w'=>∃c,e=jy (jI #[jh #[jd je V,c],jd je 0])/\w'.ownsRow W 5 1 c 48 (bo.map v8)/\jl W W w'):=O (λW vh vb h1 h2 h3=>by
   have h:=Hu Vu hz ex b9 (aA u q) gi (by rw[ca];unfold iY;rw[eT];decide) (by rw[fK u VA];decide) vh vb W h1 h2 h3;rw[fK u VA]at h;rw[c9,db,cc];exact h)
  have UO:N (eE g a m u seed ((q:T),s)=⟨s,(q:T),V,bo⟩):=O (by rw[cc,db,ca,b8,<-k2];rfl);have k4:N ((jn.info? 37).map (·.size)=A ((λv=>(aF (bY g a m u) ⟨jb V9 m.length c1,jb pq 10 cq,v,jb jf 0 0⟩).toArray) (jb pv i cv)).size):=O (by rw[jv,dl _ _ Yb.out eM];exact mT);have lw:decide ((q:T)<10)=ji:=by have:=ga.out;simp;omega
  have l6:(q:T)<10:=aI ga;have k5:q<10:=aI ga;clear gi c9 ca db cc b8
  go_upto_region 27 with fail
  refine jM ?_;refine dj (λW'=>(W'.cell? ⟨bb,0,jf⟩=A (jd je s)/\W'.cell? ⟨bb,1,jf⟩=A (jd je (q:T)))/\W'.heap[t+1+1+1]?=A (jc S 65 (0,0))/\W'.heap[(t+1+1+1+1)]?=A (jc ((λv=>(aF (bY g a m u) ⟨jb V9 m.length c1,jb pq 10 cq,v,jb jf 0 0⟩).toArray) (jb pv i cv)) 37 (0,0))) (.t 0 (.t 1 (.t 2 (.t 3 (.t 4 (.t 5 (.t 8 (.t 9 (.t 10 (.t 11 (.t 12 (.t 15 (.t 16 (.t 17 (.t 18 (.t 19 (.w 6 13 (.w 7 13 (.o 13 (.o 14 (.o 20 (.t 21 (.t 22 (.t 23 (.t 24 (.o 25 .done)))))))) (.o 7 (.o 14 (.o 20 (.t 21 (.t 22 (.t 23 (.t 24 (.o 25 .done))))))))) (.o 6 (.o 7 (.o 14 (.o 20 (.t 21 (.t 22 (.t 23 (.t 24 (.o 25 .done)))))))))))))))))))))))))) af af af L (λ_ _ _ _ h=>h) ⟨bh,Vh,Zz⟩ ?_;obtain⟨l0,UL⟩:=J k1.drew;have d:=bX k1;rw[<-UL]at d⊢;have gp:=aj bg d;have gv:=ae Zz d;have gw:=ae a6 d;have Zw:=aj U d;have gx:=bD Y9 d;have gy:=bD a2 d;have a5:=O (b5.below d);have bT:=ae Vh d;have cs:=ae a1 d;have bf:=O (And.intro (aC bh.1 d) (aC bh.2 d));clear d UL bg Zz a6 U Y9 a2 b5 Vh a1 bh;have bw:=gp;clear gp;have bs:=gv;clear gv;have bu:=gw;clear gw;have Us:=Zw;clear Zw;have bA:=gx;clear gx;have bB:=gy;clear gy;have ce:=a5;clear a5;have Wb:=bT;clear bT;have bK:=cs;clear cs;have cf:=bf;clear bf;refine wR ?_
  (refine aS (v:=jh S) I ai (λW' hS=>mx jX I hO I I hS.2.1) (G ?_))
  iterate 4 refine wR ?_
  (refine aS (v:=jh ((λv=>(aF (bY g a m u) ⟨jb V9 m.length c1,jb pq 10 cq,v,jb jf 0 0⟩).toArray) (jb pv i cv))) I ai (λW' hS=>mx ob I k4 I I hS.2.2) (G ?_))
  iterate 9 refine wR ?_
  apply FU (.o 14 (.o 20 (.t 21 (.t 22 (.t 23 (.t 24 (.o 25 .done)))))))
  rotate_left
  ·intro YK
   refine iZ ?_ ?_
   ·refine aE I (λK' z=>?_)
    go_simp;have d:=ap l0 (jc #[jd je (q:T),jd je s] 3);have F:=mw l0 (q:T) s;obtain⟨l1,C⟩:=J (l0.alloc (jc #[jd je (q:T),jd je s] 3));rw[<-C]at d F⊢;obtain⟨b1,Q⟩:=J l0.heap.size;rw[<-Q]at F⊢;clear Q;have bg:=aj bw d;have Zz:=ae bs d;have a6:=ae bu d;have U:=aj Us d;have Y9:=bD bA d;have a2:=bD bB d;have b5:=O (ce.below d);have Vh:=ae Wb d;have a1:=ae bK d;have bh:=O (And.intro (aC cf.1 d) (aC cf.2 d));have b2:=O F;clear F C d;refine z _ _ ⟨bh,Vh,Zz⟩ λ_=>?_
    clear z;refine G ?_;refine iZ ?_ ?_
    ·refine aE I (λK' z=>?_)
     go_simp;refine(cd l1 _ b2.out (Wc.dig.below U)).mono ?_;rintro e l2 ⟨rfl,d⟩;have WZ:=aj bg d;have YT:=ae Zz d;have bi:=ae a6 d;have Ur:=aj U d;have a3:=bD Y9 d;have a4:=bD a2 d;have b0:=O (b5.below d);have UP:=ae Vh d;have bM:=ae a1 d;have bv:=O (And.intro (aC bh.1 d) (aC bh.2 d));have a5:=O (eu b2 d);clear bg Zz a6 U Y9 a2 b5 Vh a1 bh b2;clear d;refine z _ _ ⟨bv,UP,YT⟩ λ_=>?_
     clear z;refine G ?_;refine aE I (λK' z=>?_);go_simp;have d:=ap l2 (jc #[jd je (q:T),jd je s] 3);have F:=mw l2 (q:T) s;obtain⟨l3,C⟩:=J (l2.alloc (jc #[jd je (q:T),jd je s] 3));rw[<-C]at d F⊢;obtain⟨bC,Q⟩:=J l2.heap.size;rw[<-Q]at F⊢;clear Q;have Y6:=aj WZ d;have WC:=ae YT d;have bk:=ae bi d;have Uu:=aj Ur d;have Z3:=bD a3 d;have Z2:=bD a4 d;have cb:=O (b0.below d);have VW:=ae UP d;have cy:=ae bM d;have bO:=O (And.intro (aC bv.1 d) (aC bv.2 d));have bl:=O (eu a5 d);clear WZ YT bi Ur a3 a4 b0 UP bM bv a5;have bf:=O F;clear F C d;refine z _ _ ⟨bO,VW,WC⟩ λ_=>?_
     clear z;refine G ?_;have hG:=(And.intro Y6 (And.intro WC (And.intro bk (And.intro Uu (And.intro Z3 (And.intro Z2 (And.intro cb (And.intro VW (And.intro cy (And.intro bO (And.intro bl bf)))))))))));exact YK b1 bC l3 hG
    refine aE I (λK' z=>?_);go_simp;have d:=ap l1 (jc #[jd je (q:T),jd je s] 3);have F:=mw l1 (q:T) s;obtain⟨l2,C⟩:=J (l1.alloc (jc #[jd je (q:T),jd je s] 3));rw[<-C]at d F⊢;obtain⟨bC,Q⟩:=J l1.heap.size;rw[<-Q]at F⊢;clear Q;have WZ:=aj bg d;have YT:=ae Zz d;have bi:=ae a6 d;have Ur:=aj U d;have a3:=bD Y9 d;have a4:=bD a2 d;have b0:=O (b5.below d);have UP:=ae Vh d;have bM:=ae a1 d;have bv:=O (And.intro (aC bh.1 d) (aC bh.2 d));have a5:=O (eu b2 d);clear bg Zz a6 U Y9 a2 b5 Vh a1 bh b2;have b3:=O F;clear F C d;refine z _ _ ⟨bv,UP,YT⟩ λ_=>?_
    clear z;refine G ?_;refine aE I (λK' z=>?_);go_simp;refine(cd l2 _ a5.out (Wc.dig.below Ur)).mono ?_;rintro e l3 ⟨rfl,d⟩;have Y6:=aj WZ d;have WC:=ae YT d;have bk:=ae bi d;have Uu:=aj Ur d;have Z3:=bD a3 d;have Z2:=bD a4 d;have cb:=O (b0.below d);have VW:=ae UP d;have cy:=ae bM d;have bO:=O (And.intro (aC bv.1 d) (aC bv.2 d));have bl:=O (eu a5 d);have bf:=O (eu b3 d);clear WZ YT bi Ur a3 a4 b0 UP bM bv a5 b3;clear d;refine z _ _ ⟨bO,VW,WC⟩ λ_=>?_
    clear z;refine G ?_;have hG:=(And.intro Y6 (And.intro WC (And.intro bk (And.intro Uu (And.intro Z3 (And.intro Z2 (And.intro cb (And.intro VW (And.intro cy (And.intro bO (And.intro bl bf)))))))))));exact YK b1 bC l3 hG
   refine aE I (λK' z=>?_);go_simp;have d:=ap l0 (jc #[jd je (q:T),jd je s] 3);have F:=mw l0 (q:T) s;obtain⟨l1,C⟩:=J (l0.alloc (jc #[jd je (q:T),jd je s] 3));rw[<-C]at d F⊢;obtain⟨bC,Q⟩:=J l0.heap.size;rw[<-Q]at F⊢;clear Q;have bg:=aj bw d;have Zz:=ae bs d;have a6:=ae bu d;have U:=aj Us d;have Y9:=bD bA d;have a2:=bD bB d;have b5:=O (ce.below d);have Vh:=ae Wb d;have a1:=ae bK d;have bh:=O (And.intro (aC cf.1 d) (aC cf.2 d));have g1:=O F;clear F C d;refine z _ _ ⟨bh,Vh,Zz⟩ λ_=>?_
   clear z;refine G ?_;refine aE I (λK' z=>?_);go_simp;have d:=ap l1 (jc #[jd je (q:T),jd je s] 3);have F:=mw l1 (q:T) s;obtain⟨l2,C⟩:=J (l1.alloc (jc #[jd je (q:T),jd je s] 3));rw[<-C]at d F⊢;obtain⟨b1,Q⟩:=J l1.heap.size;rw[<-Q]at F⊢;clear Q;have WZ:=aj bg d;have YT:=ae Zz d;have bi:=ae a6 d;have Ur:=aj U d;have a3:=bD Y9 d;have a4:=bD a2 d;have b0:=O (b5.below d);have UP:=ae Vh d;have bM:=ae a1 d;have bv:=O (And.intro (aC bh.1 d) (aC bh.2 d));have b3:=O (eu g1 d);clear bg Zz a6 U Y9 a2 b5 Vh a1 bh g1;have a5:=O F;clear F C d;refine z _ _ ⟨bv,UP,YT⟩ λ_=>?_
   clear z;refine G ?_;refine aE I (λK' z=>?_);go_simp;refine(cd l2 _ a5.out (Wc.dig.below Ur)).mono ?_;rintro e l3 ⟨rfl,d⟩;have Y6:=aj WZ d;have WC:=ae YT d;have bk:=ae bi d;have Uu:=aj Ur d;have Z3:=bD a3 d;have Z2:=bD a4 d;have cb:=O (b0.below d);have VW:=ae UP d;have cy:=ae bM d;have bO:=O (And.intro (aC bv.1 d) (aC bv.2 d));have bf:=O (eu b3 d);have bl:=O (eu a5 d);clear WZ YT bi Ur a3 a4 b0 UP bM bv b3 a5;clear d;refine z _ _ ⟨bO,VW,WC⟩ λ_=>?_
   clear z;refine G ?_;have hG:=(And.intro Y6 (And.intro WC (And.intro bk (And.intro Uu (And.intro Z3 (And.intro Z2 (And.intro cb (And.intro VW (And.intro cy (And.intro bO (And.intro bl bf)))))))))));exact YK b1 bC l3 hG
  clear bw bs bu Us bA bB ce Wb bK cf;rintro b1 bC l3 ⟨Y6,WC,bk,Uu,Z3,Z2,cb,VW,cy,bO,bl,bf⟩;refine aE I (λK' z=>?_);go_simp;refine(gk l3 _ _ (RF Yb Z3 Z2 (P.later br Y6) (by rw[jw,qJ];have:=Zx.out;omega)) (by rw[jw,qJ];omega) bf (Wc.dig.below Uu)).mono ?_;rintro e l4 ⟨ih,rfl,cz,d⟩;have dd:=O cz;clear cz;have g2:=aj Y6 d;have dk:=ae WC d;have dr:=ae bk d;have UB:=aj Uu d;have ce:=bD Z3 d;have cf:=bD Z2 d;have ck:=O (cb.below d);have WQ:=ae VW d;have cj:=ae cy d;have bv:=O (And.intro (aC bO.1 d) (aC bO.2 d));have g3:=O (eu bl d);have g4:=O (eu bf d);clear Y6 WC bk Uu Z3 Z2 cb VW cy bO bl bf;clear d;refine z _ _ ⟨bv,WQ,dk⟩ λ_=>?_
  clear z;refine G ?_;refine aE I (λK' z=>?_);go_simp;refine(gn l4 _ _ dd.out (EL cj (λj aa hj=>hh q j aa k5 hj) (fK u VA q)) (hP.below UB)).mono ?_;rintro e l5 ⟨c,rfl,cg,d⟩;have VL:N (bb<l4.heap.size):=O (jA.1 dr).1;obtain⟨lb,hE⟩:=J l4.heap.size;rw[<-hE]at cg VL;have g5:=O cg;obtain⟨R,H,rfl⟩:=cO cg;clear cg;have g6:=aj g2 d;have dv:=ae dk d;have ea:=ae dr d;have UH:=aj UB d;have eq:=bD ce d;have ev:=bD cf d;have lc:=O (ck.below d);have Z9:=ae WQ d;have e5:=ae cj d;have g7:=O (And.intro (aC bv.1 d) (aC bv.2 d));have hF:=O (eu g3 d);have hH:=O (eu g4 d);have hI:=O (dd.below d);clear g2 dk dr UB ce cf ck WQ cj bv g3 g4 dd;clear d;refine z _ _ ⟨g7,Z9,dv⟩ λ_=>?_
  clear z;refine G ?_;iterate 4 refine wR ?_
  refine aE I (λK' z=>?_);rw[jr ai];refine qQ 83 _ _ I bb 2 #[jd je V,jb R 48 H] I I (sD (o:=2) (n:=2) ea ao) af (by simp[j4]) ?_;rw[show(#[jd je V,jb R 48 H]:jp jk).toList=[jd je V,jb R 48 H]from I];obtain⟨s1,s2⟩:=F2 (i:=2) (x:=jd je V) (y:=jb R 48 H) ea;have s3:jl wr wr (l5.setCells bb 2 [jd je V,jb R 48 H]):=Below.cellsFrom g6 bb (j5 gf) _ _;have eb:=nr (w':=l5.setCells bb 2 [jd je V,jb R 48 H]) g5 (λk hk=>s2 k (aI VL));refine z _ _ ⟨⟨ah s1 I,ah s1 I⟩,(s2 (t+1+1+1) (dY c7 br)).trans Z9,(s2 (t+1+1+1+1) (dY c7 br)).trans dv⟩ λ_=>?_
  clear z;have ec:N ((l5.setCells bb 2 [jd je V,jb R 48 H]).heap[bb]?=A (jc #[jd je s,jd je (q:T),jd je V,jb R 48 H] 85 (0,0))):=O s1;have ed:N (eF M2 (t+1+1+1+1) 37 85 4 Bx.cells Bx.body (λv=>(aF (bY g a m u) ⟨jb V9 m.length c1,jb pq 10 cq,v,jb jf 0 0⟩).toArray) p2 (l5.setCells bb 2 [jd je V,jb R 48 H]) i (jb pv i cv) ((nl.take i).map (eE g a m u seed)) us):=O (P.later br s3);have eg:N (aH (λg=>M2<=g/\g<(l5.setCells bb 2 [jd je V,jb R 48 H]).heap.size/\(qi pv i cv).ownBlock≠A g) (l5.setCells bb 2 [jd je V,jb R 48 H]) (jb R 48 H) 1 48 (bo.map v8)):=O (aH.of_own eb (λg Q=>by
   have h1:=eb.lt g Q;have h2:=VL.out;have h3:=c7.out;have lj:=gf.out;exact⟨by omega,h1.2,eV P.row.own (.inl Y)⟩))
  clear s1 s2 s3 eb;generalize l5.setCells bb 2 [jd je V,jb R 48 H]=kc at ec ed eg⊢;have hJ:=ec;have cj:=ed;have hK:=eg;clear ec ed eg;refine G ?_;refine ow ?_;clear g6 dv ea UH eq ev lc Z9 e5 g7 g5 hI hF hH P cd gk gn;have bv:=ah cj.row.box (rV (bY g a m u) (jb V9 m.length c1) (jb pq 10 cq) (jb pv i cv) (jb jf 0 0) Yb eM).2.1
  go_upto_region 28 with fail
  refine jZ ?_;iterate 2 refine ee ?_
  refine j9 I 85 _ I bb I 85 #[jd je s,jd je (q:T),jd je V,jb R 48 H] (0,0) _ hJ.out underlying85 I af ?_
  go_wp2_with (at_builtin;refine Hid.out ?_)
  refine O ?_;refine o8 I λ_ z=>MQ _ _ I M2 (jb pv i cv) i _ I (cP cj.row.own (ap kc _)) _ 1 [jd je s,jd je (q:T),jd je V,jb R 48 H] I (lA kc [jd je s,jd je (q:T),jd je V,jb R 48 H] 85 (0,0) 4 1 1 I (jF _)) (by simp[j4]) Y (jD cj.row.sz' (ap kc _).size) λv' k9 U0=>z _ _ ?_
  clear z;have ck:=ap kc (jc #[jd je s,jd je (q:T),jd je V,jb R 48 H] 85);have bp:=cj.later br ck;have g7:=(aH.keep hK (w':=kc.alloc (jc #[jd je s,jd je (q:T),jd je V,jb R 48 H] 85)) (λg Q=>ck.block g Q.2.1)).mono (D':=λg=>M2<=g/\g<(kc.alloc (jc #[jd je s,jd je (q:T),jd je V,jb R 48 H] 85)).heap.size/\(qi pv i cv).ownBlock≠A g) (λg Q=>⟨Q.1,jL Q.2.1 ck.size,Q.2.2⟩);have ct:=lg bp.row.box U0.grown (eV bp.row.own (.inr br));obtain⟨pn,cn,rfl⟩:=cO U0.own;have e9:N (eF M2 (t+1+1+1+1) 37 85 4 Bx.cells Bx.body (λv=>(aF (bY g a m u) ⟨jb V9 m.length c1,jb pq 10 cq,v,jb jf 0 0⟩).toArray) p2 (k9.setCell ⟨(t+1+1+1+1),37,jf⟩ (jb pn (i+1) cn)) (i+1) (jb pn (i+1) cn) ((nl.take (i+1)).map (eE g a m u seed)) (us++[jb R 48 H])):=O (by
   rw[hB,UO];exact eF.push (x:=(⟨s,(q:T),V,bo⟩:Bx)) bp br (by show aH _ _ _ 1 bo.length (bo.map v8);rw[hD];exact g7) U0 (ia _ _))
  obtain⟨⟨vo,c3⟩,f3,-,-⟩:=ku (i:=37) (jb pn (i+1) cn) ct (by rw[(rV (bY g a m u) (jb V9 m.length c1) (jb pq 10 cq) (jb pv i cv) (jb jf 0 0) Yb eM).2.2.2];decide);clear bp g7 U0 ct bv ck
  go_wp2_with fail
  go_roundw
  case rel=>exact⟨i+1,pn,cn,us++[jb R 48 H],by go_num,by omega,e9⟩
  case measure=>simp only[jW];omega
 obtain rfl:nu=i:=Y;have hd:decide ((nu:T)<(nu:T))=jo:=by simp
 have UN:decide (nu<nu)=jo:=by simp
 rename jj=>p3;obtain⟨pb,cb,e4,ic⟩:∃(p:jG Addr) (c:ja),p=pv/\c=cv:=⟨_,_,I,I⟩;subst e4;subst ic;have cu:nl.take nu=nl:=qu (by rw[Zx];exact jF _);rw[cu]at P;have ad:=P.row.but;have U2:=O P.row.box;have Uu:N (jl w w p3):=O (Ur.trans (P.row.but.below (n:=w.heap.size) (by rw[HG];omega) (dY br HG)));have Z3:=O (kO a3 (λk bq ax=>ad.block k (by rw[VN];exact ax) (aI c6)));have Z2:=O (kO a4 (λk bq ax=>ad.block k (by rw[VN];exact ax) (aI Yp)));have VW:N (p3.heap[t+1+1+1]?=A (jc S 65 (0,0))):=O ((ad.block (t+1+1+1) (aI br) Y).trans UP);have Vg:N (p3.heap[(t+1+1+1+1+1)]?=A (jc SA 65 (0,0))):=O ((ad.block (t+1+1+1+1+1) (aI h6) Y).trans UQ);have Wj:=P;clear ad cu P Ur a3 a4 UP UQ UJ bM hq b0 e3 b7 hi ia Y8 hh h7 h8 h9;have s:N (∀W,EC.At W (jb R nc H) m->jB jn 33 #[jd je a,jb R nc H] W λe w'=>∃aa,e=jy aa/\EC.At w' aa (du a m)/\jl W W w'):=O (λW hW=>zx a m _ W hW Yo.once g9);obtain⟨wl,q⟩:=J (du a m);rw[<-q]at s;have ga:=O q;have hh:N (wl.length<=64):=O (by rw[q];have:=CI a m;have:=Yo.len;omega);clear q
 go_upto_region 30 with fail
 go_wp2_with fail
 refine(s p3 ((EK.At.of_sl (E:=EC) eB).below Uu)).mono ?_;rintro e p4 ⟨aa,rfl,hu,d⟩;have cy:=O hu;obtain⟨pw,h7,rfl,-,-⟩:=hu.form;clear hu;have Yk:=ae U2 d;have YH:=ae Vg d;have WQ:=ae VW d;have UB:=aj Uu d;have ce:=bD Z3 d;have cf:=bD Z2 d;have VO:=O (Wj.later br d);clear U2 Vg VW Uu Z3 Z2 Wj;clear d;obtain⟨nw,q⟩:=J wl.length;rw[<-q]at cy hh⊢;have YA:=O q;clear q s;obtain⟨M3,q⟩:=J p4.heap.size;have Wx:=O q;have bv:N ((t+1+1+1+1)<M3):=O (by rw[q];exact(jA.1 Yk).1);have e3:N ((t+1+1+1+1+1)<M3):=O (by rw[q];exact(jA.1 YH).1);have Y7:N (ln (λk=>M2<=k/\k<M3) p4 (jb pb nu cb) (nl.map (eE g a m u seed))):=O (by
  obtain⟨s,h1,h2⟩:=VO.slice (by rw[jw];exact Zx) (D:=λk=>M2<=k/\k<M3) (λk bq ax=>⟨bq,by rw[q];exact ax⟩);exact⟨s,h1,h2⟩)
 have h8:N (∀aa v,((λv=>(aF (bY g a m u) ⟨jb V9 m.length c1,jb pq 10 cq,jb pb nu cb,v⟩).toArray) aa).setIfInBounds 38 v=(λv=>(aF (bY g a m u) ⟨jb V9 m.length c1,jb pq 10 cq,jb pb nu cb,v⟩).toArray) v):=O (λaa v=>Ev (bY g a m u) _ _ _ _ _ Yb.out);have s:N (eF M3 (t+1+1+1+1) 37 88 3 Wl.cells Wl.body (λv=>(aF (bY g a m u) ⟨jb V9 m.length c1,jb pq 10 cq,jb pb nu cb,v⟩).toArray) p4 p4 0 (jb jf 0 0) ((wl.take 0).map (fz g a m u init seed)) []):=O (eF.start Yk (j5 q));clear q VO
 go_wp2_with fail
 go_loopw [160] (λv wr=>∃(i:ja) (pv:jG Addr) (cv:ja) (us:jg jk),v=jd je i/\i<=nw/\N (eF M3 (t+1+1+1+1) 37 88 3 Wl.cells Wl.body (λv=>(aF (bY g a m u) ⟨jb V9 m.length c1,jb pq 10 cq,jb pb nu cb,v⟩).toArray) p4 wr i (jb pv i cv) ((wl.take i).map (fz g a m u init seed)) us)) (λv _=>nw-(jW v).toNat)
 case atStart=>exact⟨0,jf,0,[],I,jO _,s⟩
 clear s;obtain⟨i,pv,cv,us,rfl,hi,P⟩:=hrel;have ia:=hh.out
 by_cases b7:i<nw
 ·have hd2:=az ((i:T)<(nw:T))
  have hg:=az (i<nw);have h5:(i:T)<(nw:T):=Y;have WP:N (jl w w wr):=O (UB.trans (P.row.but.below (n:=w.heap.size) (by rw[HG];omega) (dY bv HG)));have ad:=P.row.but;have fe:=O (kO ce (λk bq ax=>ad.block k (by rw[Wx];exact ax) (aI c6)));have fm:=O (kO cf (λk bq ax=>ad.block k (by rw[Wx];exact ax) (aI Yp)));have bM:N (EC.At wr (jb pw nw h7) wl):=O (PZ cy (j:=38) Yk P.row.box (λk hk hn=>ad.block k (by rw[Wx];exact hk) hn) (λj hj=>JX (bY g a m u) _ _ _ _ _ Yb.out j hj) ⟨_,_,_,(rV (bY g a m u) _ _ _ _ Yb.out eM).2.2.1⟩);have fo:N (wr.heap[t+1+1+1]?=A (jc S 65 (0,0))):=O ((ad.block (t+1+1+1) (aI bv) Y).trans WQ);have b0:N (wr.heap[(t+1+1+1+1+1)]?=A (jc SA 65 (0,0))):=O ((ad.block (t+1+1+1+1+1) e3 Y).trans YH);have hn:N (ln (·<wr.heap.size) wr (jb pb nu cb) (nl.map (eE g a m u seed))):=O (Y7.keep (λk hk=>ad.block k hk.2 (aI br)) (λk hk=>by have:=P.row.sz';omega));obtain⟨-,-,Vq⟩:=bM.cells;obtain⟨g0,o,h9,bN⟩:=Vq Y;subst h9;obtain⟨⟨yk,q,yp,yv,yc⟩,C,fv⟩:=dK (l:=wl) (j:=i) (by rw[<-YA];exact b7);have d0:wr.cell? ⟨g0,o+i*5,jf⟩=A (jd je yk):=bN i _ C 0 _ I;have d1:wr.cell? ⟨g0,o+i*5+1,jf⟩=A (jd je q):=bN i _ C 1 _ I;have d2:wr.cell? ⟨g0,o+i*5+2,jf⟩=A (jd je yp):=bN i _ C 2 _ I;have d3:wr.cell? ⟨g0,o+i*5+3,jf⟩=A (jd je yv):=bN i _ C 3 _ I;have d4:wr.cell? ⟨g0,o+i*5+4,jf⟩=A (jd je yc):=bN i _ C 4 _ I;have Vm:=j3 C;rw[ga]at Vm;obtain⟨bh,Ys,b5⟩:=ID.1 Vm;have s:=Yo.each _ bh;have cx:bL yp:=by
   rcases s.2 with⟨_,b,_,_⟩|⟨a,_⟩|⟨_,b,_⟩
   ·exact b
   ·exact ju a Ys
   exact b
  have bO:0<=q/\q<512:=s.1;obtain⟨Vu,em⟩:=qI (show 0<=yp by have:=cx.1;omega);subst em;have hz:=O cx;have hq:=O bO;have hB:N ((wl.take (i+1)).map (fz g a m u init seed)=(wl.take i).map (fz g a m u init seed)++[fz g a m u init seed ⟨yk,q,(Vu:T),yv,yc⟩]):=O (by rw[fv,nn];rfl);clear Vq bN C fv Vm bh Ys b5 s cx bO ad
  go_upto_region 34 with fail
  obtain⟨bb,b4⟩:=J wr.heap.size;have bn:=jz wr (jc #[jd je yk,jd je q,jd je (Vu:T),jd je yv,jd je yc] 55);have d:=ap wr (jc #[jd je yk,jd je q,jd je (Vu:T),jd je yv,jd je yc] 55);have s:=jz (wr.alloc (jc #[jd je yk,jd je q,jd je (Vu:T),jd je yv,jd je yc] 55)) (jc #[jd je q,jd je 0,jb jf 0 0] 88);have bh:=ap (wr.alloc (jc #[jd je yk,jd je q,jd je (Vu:T),jd je yv,jd je yc] 55)) (jc #[jd je q,jd je 0,jb jf 0 0] 88);rw[jq]at s;replace bn:=av bn bh;replace d:=d.trans (bh.mono d.size);have c7:N (M3<=bb):=O (by rw[b4];exact P.row.sz');rw[<-b4]at bn s⊢;obtain⟨k0,Zg⟩:=J ((wr.alloc (jc #[jd je yk,jd je q,jd je (Vu:T),jd je yv,jd je yc] 55)).alloc (jc #[jd je q,jd je 0,jb jf 0 0] 88));rw[<-Zg]at bn s d⊢;have bw:=O d;have bs:=O (av P.row.box d);have bO:=O bn;have bu:=O s;have Us:=aj WP d;have bA:=bD fe d;have bB:=bD fm d;have b5:=O (hn.below d);have Wb:=ae fo d;have cx:=ae b0 d;have gf:N (wr.heap.size=bb):=O b4.symm;clear bn s d bh Zg b4 WP fe fm bM fo b0 hn d0 d1 d2 d3 d4;obtain⟨ex,b8⟩:=J (dX seed kA [q]);have gi:ex.length=32:=by rw[b8];exact pE _ _ _
  obtain⟨EX,c9⟩:=J ((ex.map v8).toArray);obtain⟨b9,ca⟩:=J (iY (bY g a m u) kA [q]);obtain⟨V,db⟩:∃y:T,y=((aY 4 (gj ex):ja):T):=⟨_,I⟩;obtain⟨bo,cc⟩:=J (gs Vu ex b9 (dL g u init));have hD:N (bo.length=48):=O (by rw[cc,nO,lG]);have cd:N (∀W v,dh W v [q]->bS W->jB jn 109 #[jh S,qs ⟨#[119,101,108,99,111,109,101]⟩,v] W λe w'=>e=jy (jh EX)/\jl W W w'):=O (λW v hv hW=>by
   rw[hV,c9,b8];exact sI seed hR kA [q] v W hv (GT L (by have:=hq.out;intro x C;simp at C;rcases C with rfl;exact⟨by omega,by omega⟩) ao) hW)
  have gk:N (∀W v s,aT (·<W.heap.size) W {bY g a m u with box:=nl.map (eE g a m u seed),wel:=s} ⟨jb V9 m.length c1,jb pq 10 cq,jb pb nu cb,jb pv i cv⟩->s.length<=1000000->dh W v [q]->bS W->jB jn 110 #[jh ((λv=>(aF (bY g a m u) ⟨jb V9 m.length c1,jb pq 10 cq,jb pb nu cb,v⟩).toArray) (jb pv i cv)),qs ⟨#[119,101,108,99,111,109,101]⟩,v] W λe w'=>∃D,e=jy (jb (A ⟨D,0,jf⟩) 32 32)/\bj w' (jb (A ⟨D,0,jf⟩) 32 32) b9/\jl W W w'):=O (λW v s hC hu hv hW=>by
   rw[ca];exact EA {bY g a m u with box:=nl.map (eE g a m u seed),wel:=s} _ kA [q] v W L hC hv ao ⟨g9,by show(dA u).length<=_;rw[lN];decide,by show(nl.map (eE g a m u seed)).length<=_;rw[jw,<-Zx];have:=ib.out;omega,hu⟩
    (DR (c:={bY g a m u with box:=nl.map (eE g a m u seed),wel:=s}) (nums:=[q]) (by have h1:=b6.fol.1;have h2:=b6.fol.2;exact⟨by show _ <=g.folder;omega,by show g.folder<_;omega⟩) (by have h1:=b6.ep;exact⟨by show _ <=g.epoch+1;omega,by show g.epoch+1<_;omega⟩) (by have:=ei.out;exact⟨by show _ <=a;omega,by show a<_;omega⟩) Yb (by have:=hq.out;intro x C;simp at C;rcases C with rfl;exact⟨by omega,by omega⟩) ao) hW)
  have gn:N (∀W vh vb,bj W vh b9->bj W vb (dL g u init)->ly W->jB jn 108 #[jd je (Vu:T),jh EX,vh,vb] W λe w'=>∃c,e=jy (jI #[jh #[jd je V,c],jd je 0])/\w'.ownsRow W 5 1 c 48 (bo.map v8)/\jl W W w'):=O (λW vh vb h1 h2 h3=>by
   have h:=Hu Vu hz ex b9 (dL g u init) gi (by rw[ca];unfold iY;rw[eT];decide) (by rw[lG];decide) vh vb W h1 h2 h3;rw[lG]at h;rw[c9,db,cc];exact h)
  have fe:N (fz g a m u init seed ⟨yk,q,(Vu:T),yv,yc⟩=⟨q,V,bo⟩):=O (by rw[cc,db,ca,b8];rfl);have fm:N ((jn.info? 37).map (·.size)=A ((λv=>(aF (bY g a m u) ⟨jb V9 m.length c1,jb pq 10 cq,jb pb nu cb,v⟩).toArray) (jb pv i cv)).size):=O (by rw[jv,dl _ _ Yb.out eM];exact mT);clear gi c9 ca db cc b8
  go_upto_region 34 with fail
  refine jM ?_;refine dj (λW'=>W'.heap[bb]?=A (jc #[jd je yk,jd je q,jd je (Vu:T),jd je yv,jd je yc] 55 (0,0))/\W'.heap[t+1+1+1]?=A (jc S 65 (0,0))/\W'.heap[(t+1+1+1+1)]?=A (jc ((λv=>(aF (bY g a m u) ⟨jb V9 m.length c1,jb pq 10 cq,jb pb nu cb,v⟩).toArray) (jb pv i cv)) 37 (0,0))) (.t 0 (.t 1 (.t 2 (.t 3 (.t 4 (.t 7 (.t 8 (.t 9 (.t 12 (.w 5 10 (.w 6 10 (.o 10 (.o 11 (.o 13 (.t 14 (.t 15 (.t 16 (.t 17 (.o 18 .done)))))))) (.o 6 (.o 11 (.o 13 (.t 14 (.t 15 (.t 16 (.t 17 (.o 18 .done))))))))) (.o 5 (.o 6 (.o 11 (.o 13 (.t 14 (.t 15 (.t 16 (.t 17 (.o 18 .done))))))))))))))))))) af af af L (λ_ _ _ _ h=>h) ⟨bO,Wb,bs⟩ ?_;obtain⟨l0,UL⟩:=J k0.drew;have d:=bX k0;rw[<-UL]at d⊢;have gp:=aj bw d;have gv:=ae bs d;have s:=ae bO d;have gw:=ae bu d;have Zw:=aj Us d;have gx:=bD bA d;have gy:=bD bB d;have bh:=O (b5.below d);have bT:=ae Wb d;have bn:=ae cx d;clear d UL bw bs bO bu Us bA bB b5 Wb cx;have bw:=gp;clear gp;have bs:=gv;clear gv;have bO:=s;clear s;have bu:=gw;clear gw;have Us:=Zw;clear Zw;have bA:=gx;clear gx;have bB:=gy;clear gy;have b5:=bh;clear bh;have Wb:=bT;clear bT;have cx:=bn;clear bn;iterate 2 refine vK ?_
  (refine aS (v:=jh S) I ai (λW' hS=>mx jX I hO I I hS.2.1) (G ?_))
  iterate 2 refine vK ?_
  (refine aS (v:=jh ((λv=>(aF (bY g a m u) ⟨jb V9 m.length c1,jb pq 10 cq,jb pb nu cb,v⟩).toArray) (jb pv i cv))) I ai (λW' hS=>mx ob I fm I I hS.2.2) (G ?_))
  iterate 3 refine vK ?_
  apply FU (.o 11 (.o 13 (.t 14 (.t 15 (.t 16 (.t 17 (.o 18 .done)))))))
  rotate_left
  ·intro YK
   refine iZ ?_ ?_
   ·refine aE I (λK' z=>?_)
    go_simp;have d:=ap l0 (jc #[jd je q] 3);have F:=ox l0 q;obtain⟨l1,C⟩:=J (l0.alloc (jc #[jd je q] 3));rw[<-C]at d F⊢;obtain⟨b1,Q⟩:=J l0.heap.size;rw[<-Q]at F⊢;clear Q;have bg:=aj bw d;have Zz:=ae bs d;have bn:=ae bO d;have a6:=ae bu d;have U:=aj Us d;have Y9:=bD bA d;have a2:=bD bB d;have b0:=O (b5.below d);have Vh:=ae Wb d;have b4:=ae cx d;have b2:=O F;clear F C d;refine z _ _ ⟨bn,Vh,Zz⟩ λ_=>?_
    clear z;refine G ?_;refine iZ ?_ ?_
    ·refine aE I (λK' z=>?_)
     go_simp;refine(cd l1 _ b2.out (Wc.dig.below U)).mono ?_;rintro e l2 ⟨rfl,d⟩;have WZ:=aj bg d;have YT:=ae Zz d;have s:=ae bn d;have bi:=ae a6 d;have Ur:=aj U d;have a3:=bD Y9 d;have a4:=bD a2 d;have Wq:=O (b0.below d);have UP:=ae Vh d;have bM:=ae b4 d;have a5:=O (eu b2 d);clear bg Zz bn a6 U Y9 a2 b0 Vh b4 b2;clear d;refine z _ _ ⟨s,UP,YT⟩ λ_=>?_
     clear z;refine G ?_;refine aE I (λK' z=>?_);go_simp;have d:=ap l2 (jc #[jd je q] 3);have F:=ox l2 q;obtain⟨l3,C⟩:=J (l2.alloc (jc #[jd je q] 3));rw[<-C]at d F⊢;obtain⟨bC,Q⟩:=J l2.heap.size;rw[<-Q]at F⊢;clear Q;have Y6:=aj WZ d;have WC:=ae YT d;have bh:=ae s d;have bk:=ae bi d;have Uu:=aj Ur d;have Z3:=bD a3 d;have Z2:=bD a4 d;have Wj:=O (Wq.below d);have VW:=ae UP d;have bN:=ae bM d;have bl:=O (eu a5 d);clear WZ YT s bi Ur a3 a4 Wq UP bM a5;have bf:=O F;clear F C d;refine z _ _ ⟨bh,VW,WC⟩ λ_=>?_
     clear z;refine G ?_;have hG:=(And.intro Y6 (And.intro WC (And.intro bh (And.intro bk (And.intro Uu (And.intro Z3 (And.intro Z2 (And.intro Wj (And.intro VW (And.intro bN (And.intro bl bf)))))))))));exact YK b1 bC l3 hG
    refine aE I (λK' z=>?_);go_simp;have d:=ap l1 (jc #[jd je q] 3);have F:=ox l1 q;obtain⟨l2,C⟩:=J (l1.alloc (jc #[jd je q] 3));rw[<-C]at d F⊢;obtain⟨bC,Q⟩:=J l1.heap.size;rw[<-Q]at F⊢;clear Q;have WZ:=aj bg d;have YT:=ae Zz d;have s:=ae bn d;have bi:=ae a6 d;have Ur:=aj U d;have a3:=bD Y9 d;have a4:=bD a2 d;have Wq:=O (b0.below d);have UP:=ae Vh d;have bM:=ae b4 d;have a5:=O (eu b2 d);clear bg Zz bn a6 U Y9 a2 b0 Vh b4 b2;have b3:=O F;clear F C d;refine z _ _ ⟨s,UP,YT⟩ λ_=>?_
    clear z;refine G ?_;refine aE I (λK' z=>?_);go_simp;refine(cd l2 _ a5.out (Wc.dig.below Ur)).mono ?_;rintro e l3 ⟨rfl,d⟩;have Y6:=aj WZ d;have WC:=ae YT d;have bh:=ae s d;have bk:=ae bi d;have Uu:=aj Ur d;have Z3:=bD a3 d;have Z2:=bD a4 d;have Wj:=O (Wq.below d);have VW:=ae UP d;have bN:=ae bM d;have bl:=O (eu a5 d);have bf:=O (eu b3 d);clear WZ YT s bi Ur a3 a4 Wq UP bM a5 b3;clear d;refine z _ _ ⟨bh,VW,WC⟩ λ_=>?_
    clear z;refine G ?_;have hG:=(And.intro Y6 (And.intro WC (And.intro bh (And.intro bk (And.intro Uu (And.intro Z3 (And.intro Z2 (And.intro Wj (And.intro VW (And.intro bN (And.intro bl bf)))))))))));exact YK b1 bC l3 hG
   refine aE I (λK' z=>?_);go_simp;have d:=ap l0 (jc #[jd je q] 3);have F:=ox l0 q;obtain⟨l1,C⟩:=J (l0.alloc (jc #[jd je q] 3));rw[<-C]at d F⊢;obtain⟨bC,Q⟩:=J l0.heap.size;rw[<-Q]at F⊢;clear Q;have bg:=aj bw d;have Zz:=ae bs d;have bn:=ae bO d;have a6:=ae bu d;have U:=aj Us d;have Y9:=bD bA d;have a2:=bD bB d;have b0:=O (b5.below d);have Vh:=ae Wb d;have b4:=ae cx d;have g1:=O F;clear F C d;refine z _ _ ⟨bn,Vh,Zz⟩ λ_=>?_
   clear z;refine G ?_;refine aE I (λK' z=>?_);go_simp;have d:=ap l1 (jc #[jd je q] 3);have F:=ox l1 q;obtain⟨l2,C⟩:=J (l1.alloc (jc #[jd je q] 3));rw[<-C]at d F⊢;obtain⟨b1,Q⟩:=J l1.heap.size;rw[<-Q]at F⊢;clear Q;have WZ:=aj bg d;have YT:=ae Zz d;have s:=ae bn d;have bi:=ae a6 d;have Ur:=aj U d;have a3:=bD Y9 d;have a4:=bD a2 d;have Wq:=O (b0.below d);have UP:=ae Vh d;have bM:=ae b4 d;have b3:=O (eu g1 d);clear bg Zz bn a6 U Y9 a2 b0 Vh b4 g1;have a5:=O F;clear F C d;refine z _ _ ⟨s,UP,YT⟩ λ_=>?_
   clear z;refine G ?_;refine aE I (λK' z=>?_);go_simp;refine(cd l2 _ a5.out (Wc.dig.below Ur)).mono ?_;rintro e l3 ⟨rfl,d⟩;have Y6:=aj WZ d;have WC:=ae YT d;have bh:=ae s d;have bk:=ae bi d;have Uu:=aj Ur d;have Z3:=bD a3 d;have Z2:=bD a4 d;have Wj:=O (Wq.below d);have VW:=ae UP d;have bN:=ae bM d;have bf:=O (eu b3 d);have bl:=O (eu a5 d);clear WZ YT s bi Ur a3 a4 Wq UP bM b3 a5;clear d;refine z _ _ ⟨bh,VW,WC⟩ λ_=>?_
   clear z;refine G ?_;have hG:=(And.intro Y6 (And.intro WC (And.intro bh (And.intro bk (And.intro Uu (And.intro Z3 (And.intro Z2 (And.intro Wj (And.intro VW (And.intro bN (And.intro bl bf)))))))))));exact YK b1 bC l3 hG
  clear bw bs bO bu Us bA bB b5 Wb cx;rintro b1 bC l3 ⟨Y6,WC,bh,bk,Uu,Z3,Z2,Wj,VW,bN,bl,bf⟩;refine aE I (λK' z=>?_);go_simp;refine(gk l3 _ _ (R4 Yb Z3 Z2 Wj (P.later bv Y6) (by rw[jw,qJ];have:=YA.out;omega)) (by rw[jw,qJ];omega) bf (Wc.dig.below Uu)).mono ?_;rintro e l4 ⟨ih,rfl,cz,d⟩;have dd:=O cz;clear cz;have g2:=aj Y6 d;have dk:=ae WC d;have s:=ae bh d;have dr:=ae bk d;have UB:=aj Uu d;have ce:=bD Z3 d;have cf:=bD Z2 d;have VO:=O (Wj.below d);have WQ:=ae VW d;have a5:=ae bN d;have g3:=O (eu bl d);have g4:=O (eu bf d);clear Y6 WC bh bk Uu Z3 Z2 Wj VW bN bl bf;clear d;refine z _ _ ⟨s,WQ,dk⟩ λ_=>?_
  clear z;refine G ?_;refine aE I (λK' z=>?_);go_simp;refine(gn l4 _ _ dd.out (EL a5 (λj aa hj=>by rw[hw,qU];simpa using hj) (lG _ _ _)) (hP.below UB)).mono ?_;rintro e l5 ⟨c,rfl,cg,d⟩;have VL:N (bb+1<l4.heap.size):=O (jA.1 dr).1;obtain⟨lb,hE⟩:=J l4.heap.size;rw[<-hE]at cg VL;have g5:=O cg;obtain⟨R,H,rfl⟩:=cO cg;clear cg;have g6:=aj g2 d;have dv:=ae dk d;have a6:=ae s d;have ea:=ae dr d;have UH:=aj UB d;have eq:=bD ce d;have ev:=bD cf d;have YC:=O (VO.below d);have Z9:=ae WQ d;have bg:=ae a5 d;have hF:=O (eu g3 d);have hH:=O (eu g4 d);have hI:=O (dd.below d);clear g2 dk s dr UB ce cf VO WQ a5 g3 g4 dd;clear d;refine z _ _ ⟨a6,Z9,dv⟩ λ_=>?_
  clear z;refine G ?_;iterate 4 refine vK ?_
  refine aE I (λK' z=>?_);rw[jr ai];refine qQ 83 _ _ I (bb+1) 1 #[jd je V,jb R 48 H] I I (sD (o:=1) (n:=2) ea ao) af (by simp[j4]) ?_;rw[show(#[jd je V,jb R 48 H]:jp jk).toList=[jd je V,jb R 48 H]from I];obtain⟨s1,s2⟩:=F2 (i:=1) (x:=jd je V) (y:=jb R 48 H) ea;have s3:jl wr wr (l5.setCells (bb+1) 1 [jd je V,jb R 48 H]):=Below.cellsFrom g6 (bb+1) (by rw[gf];omega) _ _;have eb:=nr (w':=l5.setCells (bb+1) 1 [jd je V,jb R 48 H]) g5 (λk hk=>s2 k (aI VL));refine z _ _ ⟨(s2 bb Y).trans a6,(s2 (t+1+1+1) (dY c7 bv)).trans Z9,(s2 (t+1+1+1+1) (dY c7 bv)).trans dv⟩ λ_=>?_
  clear z;have ec:N ((l5.setCells (bb+1) 1 [jd je V,jb R 48 H]).heap[bb+1]?=A (jc #[jd je q,jd je V,jb R 48 H] 88 (0,0))):=O s1;have ed:N (eF M3 (t+1+1+1+1) 37 88 3 Wl.cells Wl.body (λv=>(aF (bY g a m u) ⟨jb V9 m.length c1,jb pq 10 cq,jb pb nu cb,v⟩).toArray) p4 (l5.setCells (bb+1) 1 [jd je V,jb R 48 H]) i (jb pv i cv) ((wl.take i).map (fz g a m u init seed)) us):=O (P.later bv s3);have eg:N (aH (λg=>M3<=g/\g<(l5.setCells (bb+1) 1 [jd je V,jb R 48 H]).heap.size/\(qi pv i cv).ownBlock≠A g) (l5.setCells (bb+1) 1 [jd je V,jb R 48 H]) (jb R 48 H) 1 48 (bo.map v8)):=O (aH.of_own eb (λg Q=>by
   have h1:=eb.lt g Q;have h2:=VL.out;have h3:=c7.out;have lj:=gf.out;exact⟨by omega,h1.2,eV P.row.own (.inl Y)⟩))
  clear s1 s2 s3 eb;generalize l5.setCells (bb+1) 1 [jd je V,jb R 48 H]=kc at ec ed eg⊢;have hJ:=ec;have cj:=ed;have hK:=eg;clear ec ed eg;refine G ?_;refine ow ?_;clear g6 dv a6 ea UH eq ev YC Z9 bg g5 hI hF hH P cd gk gn;have s:=ah cj.row.box (rV (bY g a m u) (jb V9 m.length c1) (jb pq 10 cq) (jb pb nu cb) (jb pv i cv) Yb eM).2.2.1
  go_upto_region 35 with fail
  refine jZ ?_;iterate 2 refine ee ?_
  refine j9 I 88 _ I (bb+1) I 88 #[jd je q,jd je V,jb R 48 H] (0,0) _ hJ.out underlying88 I af ?_
  go_wp2_with (at_builtin;refine Hid.out ?_)
  refine O ?_;refine o8 I λ_ z=>Lx _ _ I M3 (jb pv i cv) i _ I (cP cj.row.own (ap kc _)) _ 1 [jd je q,jd je V,jb R 48 H] I (lA kc [jd je q,jd je V,jb R 48 H] 88 (0,0) 3 1 1 I (jF _)) (by simp[j4]) Y (jD cj.row.sz' (ap kc _).size) λv' k9 U0=>z _ _ ?_
  clear z;have ck:=ap kc (jc #[jd je q,jd je V,jb R 48 H] 88);have bp:=cj.later bv ck;have g7:=(aH.keep hK (w':=kc.alloc (jc #[jd je q,jd je V,jb R 48 H] 88)) (λg Q=>ck.block g Q.2.1)).mono (D':=λg=>M3<=g/\g<(kc.alloc (jc #[jd je q,jd je V,jb R 48 H] 88)).heap.size/\(qi pv i cv).ownBlock≠A g) (λg Q=>⟨Q.1,jL Q.2.1 ck.size,Q.2.2⟩);have ct:=lg bp.row.box U0.grown (eV bp.row.own (.inr bv));obtain⟨pn,cn,rfl⟩:=cO U0.own;have e9:N (eF M3 (t+1+1+1+1) 37 88 3 Wl.cells Wl.body (λv=>(aF (bY g a m u) ⟨jb V9 m.length c1,jb pq 10 cq,jb pb nu cb,v⟩).toArray) p4 (k9.setCell ⟨(t+1+1+1+1),38,jf⟩ (jb pn (i+1) cn)) (i+1) (jb pn (i+1) cn) ((wl.take (i+1)).map (fz g a m u init seed)) (us++[jb R 48 H])):=O (by
   rw[hB,fe];exact eF.push (x:=(⟨q,V,bo⟩:Wl)) bp bv (by show aH _ _ _ 1 bo.length (bo.map v8);rw[hD];exact g7) U0 (h8 _ _))
  obtain⟨⟨vo,c3⟩,f3,-,-⟩:=ku (i:=38) (jb pn (i+1) cn) ct (by rw[(rV (bY g a m u) (jb V9 m.length c1) (jb pq 10 cq) (jb pb nu cb) (jb pv i cv) Yb eM).2.2.2];decide);clear bp g7 U0 ct s ck
  go_wp2_with fail
  go_roundw
  case rel=>exact⟨i+1,pn,cn,us++[jb R 48 H],by go_num,by omega,e9⟩
  case measure=>simp only[jW];omega
 obtain rfl:nw=i:=Y;have hd2:decide ((nw:T)<(nw:T))=jo:=by simp
 have hg:decide (nw<nw)=jo:=by simp
 rename jj=>p5;obtain⟨pe,bM,bN,bO⟩:∃(p:jG Addr) (c:ja),p=pv/\c=cv:=⟨_,_,I,I⟩;subst bN;subst bO;have cu:wl.take nw=wl:=qu (by rw[YA];exact jF _);rw[cu]at P;have ad:=P.row.but;have UH:N (jl w w p5):=O (UB.trans (P.row.but.below (n:=w.heap.size) (by rw[HG];omega) (dY bv HG)));have eq:=kO ce (λk bq ax=>ad.block k (by rw[Wx];exact ax) (aI c6));have ev:=kO cf (λk bq ax=>ad.block k (by rw[Wx];exact ax) (aI Yp));have ek:N (p5.heap[(t+1+1+1+1+1)]?=A (jc SA 65 (0,0))):=O ((ad.block (t+1+1+1+1+1) e3 Y).trans YH);have bi:ln (λk=>t+6<=k/\k<p5.heap.size) p5 (jb pb nu cb) (nl.map (eE g a m u seed)):=Y7.keep (λk hk=>ad.block k hk.2 (aI br)) (λk hk=>⟨by have:=h6.out;omega,by have:=P.row.sz';omega⟩);have bk:=P.slice (by rw[jw];exact YA) (D:=λk=>t+6<=k/\k<p5.heap.size) (λk h1 h2=>⟨by have:=e3.out;omega,h2⟩);obtain⟨q,hq⟩:∃y:CQ,y=⟨jb V9 m.length c1,jb pq 10 cq,jb pb nu cb,jb pe nw bM⟩:=⟨_,I⟩;have bq:N (aT (λk=>t+6<=k/\k<p5.heap.size) p5 (mk1 g a m u init seed) q):=O (by
  rw[hx,hs]at bi;rw[ga]at bk;rw[hq];exact KQ Yb eq ev bi bk (λk h1 h2=>⟨by have:=c6.out;omega,h2⟩) (λk h1 h2=>⟨by have:=e8.out;omega,h2⟩))
 obtain⟨Y1,ax⟩:=J ((aF (mk1 g a m u init seed) q).toArray);have ej:N (p5.heap[(t+1+1+1+1)]?=A (jc Y1 37 (0,0))):=O (by rw[ax,hq,Tz];exact P.row.box);have bs:=Rt (x:=X) (init:=init) (seed:=seed) e0.symm (by rw[<-Ya];exact i5) kb VA Yb;obtain⟨bu,bw⟩:=MO bs;have bA:=O bu.encOk;have b0:=O bw.encOk;have b1:=O ax;have Yq:∀c:Cmt,c.parent.length=32->c.confirm.length=32->(jn.info? 37).map (·.size)=A (aF c q).toArray.size:=λc h1 h2=>by rw[jv,dl c q h1 h2];exact mT
 have Vh:N ((jn.info? 37).map (·.size)=A Y1.size):=O (by rw[ax];exact Yq _ (by rw[(ou ..).1];exact Yb) (ou ..).2);have b2:N (∀W,aT (·<W.heap.size) W (mk1 g a m u init seed) q->jB jn 25 #[jh Y1] W λe w'=>∃v,e=jy v/\vE W w' (mk1 g a m u init seed) v/\jl W W w'):=O (λW hW=>by
  obtain⟨l1,l2,l3,l4⟩:=bA.lens;rw[ax];exact tq _ q W hW l1 l2 l3 l4)
 obtain⟨bB,bf⟩:=J (c8 kP ((aP (mk1 g a m u init seed)).take 8));obtain⟨YM,bl⟩:=J ((bB.map v8).toArray);obtain⟨bg,bh⟩:=J (ko (dL g u init) bB);obtain⟨j,a6⟩:=J ((bg.map v8).toArray);have bn:bg.length=32:=by rw[bh];exact sW _ _
 have b3:N (mk2 g a m u init seed={mk1 g a m u init seed with confirm:=bg}):=O (by rw[bh,bf];exact Dv ..);have b4:N (∀W p H,aW (·<W.heap.size) W (vL ((aP (mk1 g a m u init seed)).take 8)) (jb p 8 H)->bS W->jB jn 24 #[qs ⟨#[99,111,109,109,105,116,32,98,111,100,121]⟩,jb p 8 H] W λe w'=>e=jy (jh YM)/\jl W W w'):=O (λW p H hv hW=>by
  rw[bl,bf];exact mN kP L _ _ W hv (bA.take (by rw[zC];decide) 8) hW.num hW.start)
 have b5:N (∀W,iH W->jB jn 111 #[jh SA,jh YM] W λe w'=>e=jy (jh j)/\jl W W w'):=O (λW hW=>by
  rw[a6,bh,hw,bl];exact Py _ _ (lG _ _ _) (by rw[bf];exact eT _ _) W hW)
 have bC:N (j.size=32):=O (by rw[a6,jv,jw,bn]);have b8:N (j.all (·.oneCell')=ji):=O (by rw[a6];exact ff _);have b9:N ((jn.info? 23).map (·.size)=A j.size):=O (by rw[bC];kernel_rfl);obtain⟨Y2,a5⟩:=J ((aF (mk2 g a m u init seed) q).toArray);have ca:N (mS Y1 39 j.toList=Y2):=O (by
  rw[a5,b3,a6,ax];exact Oj _ q bg (by rw[(ou ..).1];exact Yb) (ou ..).2 bn)
 have UP:N ((jn.info? 37).map (·.size)=A Y2.size):=O (by rw[a5];exact Yq _ (by rw[(pA ..).1];exact Yb) (pA ..).2);have cc:N (Y1.size=73):=O (by rw[ax,jv,dl _ _ (by rw[(ou ..).1];exact Yb) (ou ..).2]);have cd:N (Y2.size=73):=O (by rw[a5,jv,dl _ _ (by rw[(pA ..).1];exact Yb) (pA ..).2]);have cg:N (∀W,aT (·<W.heap.size) W (mk1 g a m u init seed) q->bS W->jB jn 36 #[jh Y2] W λe w'=>∃D,e=jy (jb (A ⟨D,0,jf⟩) 32 32)/\bj w' (jb (A ⟨D,0,jf⟩) 32 32) (dq (mk2 g a m u init seed))/\jl W W w'):=O (λW hC hW=>by
  rw[a5];exact Hw _ q W (Ed hC) b0 hW)
 obtain⟨sr,bo⟩:∃y:T,y=((kt X (dq (mk2 g a m u init seed)):ja):T):=⟨_,I⟩;obtain⟨ss,bp⟩:∃y:T,y=((kH X (dq (mk2 g a m u init seed)):ja):T):=⟨_,I⟩;have cj:N (∀W v,bj W v (dq (mk2 g a m u init seed))->bS W->jB jn 112 #[jd je (X:T),v] W λe w'=>e=jy (jI #[jh #[jd je sr,jd je ss],jd je 0])/\jl W W w'):=O (λW v hv hW=>by
  rw[bo,bp];exact R0 X U5.1 U5.2 _ v (by unfold dq;rw[eT];decide) W hv hW)
 obtain⟨Y3,bb⟩:=J ((aF (mkC g a X m u init seed) q).toArray);have ck:N (mkC g a X m u init seed={mk2 g a m u init seed with r:=sr,s:=ss}):=O (by rw[bo,bp];exact GR ..);have cn:N (mS Y2 71 [jd je sr,jd je ss]=Y3):=O (by
  rw[bb,ck,a5];exact TU _ q sr ss (by rw[(pA ..).1];exact Yb) (pA ..).2)
 have VW:N ((jn.info? 37).map (·.size)=A Y3.size):=O (by rw[bb];exact Yq _ (by rw[(BM ..).1];exact Yb) (BM ..).2);have ct:N (Y3.all (·.oneCell')=ji):=O (by rw[bb,hq];exact zO _ _ _ _ _ _ _ _ _ _ _ _ _);have cx:=O bb;clear bk bi ev eq ad cu P Yq bs bu bw hq ax a5 bb bo bp bn a6 bh bl bf Y7 Yk YH WQ UB ce cf cy b1 b7 hi
 go_upto_region 37 with fail
 refine jM ?_;refine lK (λW'=>W'.heap[(t+1+1+1+1)]?=A (jc Y1 37 (0,0))/\W'.heap[(t+1+1+1+1+1)]?=A (jc SA 65 (0,0))) 7 [(0,ji),(1,ji),(2,jo),(3,ji),(4,jo),(5,jo),(6,ji),(7,jo)] af af af L (λ_ _ _ _ h=>h) ⟨ej,ek⟩ ?_;obtain⟨q0,UL⟩:=J p5.drew;have d:=bX p5;rw[<-UL]at d⊢;have UU:=ae ej d;have U1:=ae ek d;have Us:=aj UH d;have P:=O (bq.later d);clear d UL ej ek UH bq
 (refine fY (v:=jh SA) I ai (λW' hS=>mx jX I e6 I I hS.2) (G ?_))
 (refine fY (v:=jh Y1) I ai (λW' hS=>mx ob I Vh I I hS.1) (G ?_))
 refine dp I (λK' z=>?_);go_simp;refine(b2 q0 (P.mono (λk hk=>hk.2))).mono ?_;rintro e q1 ⟨v,rfl,ad,d⟩;obtain⟨gc,a6,rfl,Vq⟩:∃g H,v=jb (A ⟨g,0,jf⟩) 11 H/\11<=H:=by
  obtain⟨us,ax,-⟩:=ad;obtain⟨g,c,h1,h2,-⟩:=vx ax L;exact⟨g,c,h1,h2⟩
 have bb:=O (ad.val 8 L).2;have g8:∀W,(Instr.sliceAt 77 (jb (A ⟨gc,0,jf⟩) 11 a6) jf (A (jd je 8)) jf).run jn W=.ok (jb (A ⟨gc,0,jf⟩) 8 a6) W:=λW=>wy 77 135 4 underlying77 wV gc 0 11 a6 8 Y W
 clear ad;have UM:=ae UU d;have UR:=ae U1 d;have U:=aj Us d;have ax:=O (P.later d);clear UU U1 Us P;clear d;refine z _ _ ⟨UM,UR⟩ λ_=>?_
 clear z;refine G ?_;refine EO ?_;refine dp I (λK' z=>?_);go_simp;refine(b4 q1 _ _ bb.out (Wc.dig.below U)).mono ?_;rintro e q2 ⟨rfl,d⟩;have UJ:=ae UM d;have UQ:=ae UR d;have Ur:=aj U d;have a5:=O (ax.later d);clear UM UR U ax bb;clear d;refine z _ _ ⟨UJ,UQ⟩ λ_=>?_
 clear z;refine G ?_;refine dp I (λK' z=>?_);go_simp;refine(b5 q2 (Wc.below Ur)).mono ?_;rintro e q3 ⟨rfl,d⟩;have U2:=ae UJ d;have Vg:=ae UQ d;have Uu:=aj Ur d;have bb:=O (a5.later d);clear UJ UQ Ur a5;clear d;refine z _ _ ⟨U2,Vg⟩ λ_=>?_
 clear z;refine G ?_;refine EO ?_;refine pD I (λK' z=>?_);rw[jr ai];refine qQ 23 _ _ I (t+1+1+1+1) 39 j I I (sD (o:=39) U2.out (by rw[cc,bC];decide)) b9 b8 ?_;have s1:=yU j.toList 39 q3 Y1 U2;rw[ca]at s1;have ba:=O s1;have bc:=O ((tX (k:=(t+1+1+1+1+1)) (b:=(t+1+1+1+1)) Y j.toList 39 q3).trans Vg);have bd:=O (Below.cellsFrom Uu (t+1+1+1+1) (by rw[HG];omega) j.toList 39);have ad:N (aT (λk=>t+6<=k/\k<(q3.setCells (t+1+1+1+1) 39 j.toList).heap.size) (q3.setCells (t+1+1+1+1) 39 j.toList) (mk1 g a m u init seed) q):=O ((bb.keep (λk hk=>tX Y _ _ _)).mono (λk hk=>by rw[yt];exact hk));clear s1;generalize q3.setCells (t+1+1+1+1) 39 j.toList=r0 at ba bc bd ad⊢;clear U2 Vg Uu bb;refine z _ _ ?_;clear z;have UU:=ba;have U1:=bc;have Us:=bd;have P:=ad;clear ba bc bd ad;refine ow ?_
 go_upto_region 38 with fail
 refine jZ ?_;refine ee ?_;refine j9 I 37 _ I (t+1+1+1+1) I 37 Y2 (0,0) _ UU.out ob I UP ?_
 go_wp2_with fail
 refine(cg r0 (P.mono (λk hk=>hk.2)) (Wc.dig.below Us)).mono ?_;rintro e r1 ⟨ih,rfl,cz,d⟩;have bb:=O cz;clear cz;have UM:=ae UU d;have UR:=ae U1 d;have U:=aj Us d;have ax:=O (P.later d);clear UU U1 Us P;clear d
 go_wp2_with fail
 refine(cj r1 _ bb.out (Wc.dig.below U)).mono ?_;rintro e r2 ⟨rfl,d⟩;have UJ:=ae UM d;have UQ:=ae UR d;have Ur:=aj U d;have a5:=O (ax.later d);clear UM UR U ax bb;clear d
 go_wp2_with (refine o8 I λ_ z=>qQ 35 _ _ I (t+1+1+1+1) 71 #[jd je sr,jd je ss] I I (sD (o:=71) (n:=2) UJ.out (by rw[cd];decide)) af (by simp[j4]) (z _ _ ?_))
 have s1:=yU [jd je sr,jd je ss] 71 r2 Y2 UJ;rw[cn]at s1;have ba:=O s1;have bc:=O ((tX (k:=(t+1+1+1+1+1)) (b:=(t+1+1+1+1)) Y [jd je sr,jd je ss] 71 r2).trans UQ);have bd:=O (Below.cellsFrom Ur (t+1+1+1+1) (by rw[HG];omega) [jd je sr,jd je ss] 71);have ad:N (aT (λk=>t+6<=k/\k<(r2.setCells (t+1+1+1+1) 71 [jd je sr,jd je ss]).heap.size) (r2.setCells (t+1+1+1+1) 71 [jd je sr,jd je ss]) (mk1 g a m u init seed) q):=O ((a5.keep (λk hk=>tX Y _ _ _)).mono (λk hk=>by rw[yt];exact hk));clear s1;generalize r2.setCells (t+1+1+1+1) 71 [jd je sr,jd je ss]=U at ba bc bd ad⊢;clear UJ UQ Ur a5;have Zh:=ba;have ZZ:=bc;have VM:=bd;have ax:=ad;clear ba bc bd ad
 go_upto_region 41 with fail
 refine jM ?_;refine dj (λW'=>W'.heap[(t+1+1+1+1)]?=A (jc Y3 37 (0,0))/\W'.heap[(t+1+1+1+1+1)]?=A (jc SA 65 (0,0))) (.t 0 (.t 1 (.o 2 (.o 3 (.t 4 .done))))) af af af L (λ_ _ _ _ h=>h) ⟨Zh,ZZ⟩ ?_;obtain⟨V,UL⟩:=J U.drew;have d:=bX U;rw[<-UL]at d⊢;have cm:=ae Zh d;have cp:=ae ZZ d;have Zw:=aj VM d;have ad:=O (ax.later d);clear d UL Zh ZZ VM ax;have UU:=cm;clear cm;have U1:=cp;clear cp;have Us:=Zw;clear Zw;have P:=ad;clear ad
 (refine aS (v:=jh Y3) I ai (λW' hS=>mx ob I VW I I hS.1) (G ?_))
 (refine aS (v:=jh SA) I ai (λW' hS=>mx jX I e6 I I hS.2) (G ?_))
 refine aE I (λK' z=>?_);rw[jr ai];refine jR 37 _ _ I (t+1+1+1+1) Y3 I I 37 _ UU.out VW I ct ?_;rw[rx UU];refine z _ _ ⟨UU,U1⟩ λ_=>?_
 clear z;refine G ?_;refine aE I (λK' z=>?_);rw[jr ai];refine jR 65 _ _ I (t+1+1+1+1+1) SA I I 65 _ U1.out e6 I hZ ?_;rw[rx U1];refine z _ _ ⟨UU,U1⟩ λ_=>?_
 clear z;refine G ?_;refine aK ?_;refine ow ?_
 go_wp2_with fail
 refine ql (F9 I _ _ (t+1+1+1+1) (t+1+1+1+1+1) 37 65 Y3 SA (0,0) (0,0) _ _ I I UU U1 ob I VW jX I e6) I ⟨λ_=>⟨q,?_,?_⟩,λh=>ju ka h,Us⟩
 ·rw[cx,hw,qK]
  rfl
 rw[qK];exact(Ri (x:=X) P).mono (λk hk=>⟨by have h1:=HG.out;have h2:=hk.1;omega,hk.2⟩)
noncomputable def VY:VarT jn:=⟨65,32,(cI.map v8).toArray,_,jX,I,by kernel_rfl,by rfl,λ_=>by kernel_rfl⟩
def kzA(b:j8 8):jp jk:=((kz b).map v8).toArray
def kzN(n:T):jp jk:=(jJ .u8 n::wq 31 (jJ .u8 0)).toArray
theorem Mc(b:j8 8):kzA b=kzN b.toNat:=by unfold kzA kzN kz;rw[jY,List.map_replicate];rfl
theorem JY(b:j8 8)(c:C.op=.build 65 #[(0,Q)])(d:m.eval Q=v8 b)(W:jj):(jN m.eval C).run jn W=.ok (.value (jh (kzA b))) W:=by
 have h:∀n:T,(Instr.build 65 #[(0,jd .u8 n)]).run jn W=.ok (jh (kzN n)) W:=λn=>by kernel_rfl
 rw[Mc];have e:m.eval Q=jd .u8 (b.toNat:T):=d;simp only[jN,c,p6,jY,jU,e,Sem.run_bind,h,Result.andThen_ok,Sem.run_pure]
theorem De(b:j8 8)(w:jj):jB jn 50 #[v8 b] w λe w'=>e=jy (jh (kzA b))/\jl w w w':=by
 obtain⟨K,a⟩:=J (kzA b);have c:N (K.size=VY.n):=O (by rw[a];rfl);have f:N (K.all (·.oneCell')=ji):=O (by rw[a,jS];exact λg d=>iu (kz b) g (by unfold kzA at d;simpa using d));have d:=O a;rw[<-a];clear a
 go_enter func50,ntmps50
 go_upto_region 1 with(first|(refine VY.made I I (G ?_)))
 go_wp2_with (first|(refine eD (v:=jh K) ai (by rw[d];exact JY b I I _) ?_;refine G ?_)|(refine VY.first I I I K I c f (G ?_)))
 obtain⟨x1,g,a,h,i,j⟩:=cX w K VY.t;rw[<-a];exact sh (v:=jh K) (sn I _ _ w.heap.size VY.t _ (0,0) _ I (h▸i.out) jX I (by rw[c];exact VY.hi)) I ⟨I,j⟩
theorem Pf{y:j1}{c:T}(b:C.op=.build 55 #[(0,.const (jd je 2)),(1,Q),(4,y)])(f:m.eval Q=jd je d)(g:m.eval y=jd je c)(W:jj):
 (jN m.eval C).run jn W=.ok (.value (jh (ar.cells ⟨2,d,0,0,c⟩).toArray)) W:=by
 have h:∀d c:T,(Instr.build 55 #[(0,jd je 2),(1,jd je d),(4,jd je c)]).run jn W=.ok (jh (ar.cells ⟨2,d,0,0,c⟩).toArray) W:=λd c=>by kernel_rfl
 have e:m.eval (.const (jd je 2))=jd je 2:=I;simp only[jN,b,p6,jY,jU,f,g,e,Sem.run_bind,h,Result.andThen_ok,Sem.run_pure]
theorem Ew(x:ar):x.cells.toArray.size=VH.n/\x.cells.toArray.all (·.oneCell')=ji:=⟨I,by
 rw[jS];exact λa b=>EC.one x a (show a∈ar.cells _ by simpa using b)⟩
theorem GB(d c:T)(w:jj):jB jn 15 #[jd je d,jd je c] w λe w'=>e=jy (jh (ar.cells ⟨2,d,0,0,c⟩).toArray)/\jl w w w':=by
 obtain⟨K,b⟩:=J ((ar.cells ⟨2,d,0,0,c⟩).toArray);have a:=O (Ew ⟨2,d,0,0,c⟩);have f:=O b;rw[<-b]at a⊢;clear b
 go_enter func15,ntmps15
 go_upto_region 1 with(first|(refine VH.made I I (G ?_)))
 go_wp2_with (first|(refine eD (v:=jh K) ai (by rw[f];exact Pf I I I _) ?_;refine G ?_)|(refine VH.first I I I K I a.1 a.2 (G ?_)))
 obtain⟨x1,g,b,h,i,j⟩:=cX w K VH.t;rw[<-b];exact sh (v:=jh K) (sn I _ _ w.heap.size VH.t _ (0,0) _ I (h▸i.out) sa I (by rw[a.1];exact VH.hi)) I ⟨I,j⟩
theorem Mi{y z:j1}{p q:T}(b:C.op=.build 55 #[(0,.const (jd je 1)),(1,Q),(2,y),(3,z)])(c:m.eval Q=jd je d)(f:m.eval y=jd je p)(g:m.eval z=jd je q)(W:jj):
 (jN m.eval C).run jn W=.ok (.value (jh (ar.cells ⟨1,d,p,q,0⟩).toArray)) W:=by
 have h:∀d p q:T,(Instr.build 55 #[(0,jd je 1),(1,jd je d),(2,jd je p),(3,jd je q)]).run jn W=.ok (jh (ar.cells ⟨1,d,p,q,0⟩).toArray) W:=λd p q=>by kernel_rfl
 have e:m.eval (.const (jd je 1))=jd je 1:=I;simp only[jN,b,p6,jY,jU,c,f,g,e,Sem.run_bind,h,Result.andThen_ok,Sem.run_pure]
theorem FQ(d:ja)(q:d<512)(w:jj):jB jn 14 #[jd je d] w λe w'=>e=jy (jh (cR d).cells.toArray)/\jl w w w':=by
 obtain⟨x1,c,j,k,a,l⟩:=cX w chZ.cells.toArray VH.t;have f:N (∀W,jB jn 51 #[jd je ((d:T)+2)] W λe w'=>e=jy (jI #[jd je (aY 4 (d+2):ja),jd je 0])/\jl W W w'):=O (λW=>by
  rw[show(d:T)+2=((d+2:ja):T) by omega];exact Ac (d+2) Y Y W)
 obtain⟨p,g⟩:∃y:T,y=((aY 4 (d+2):ja):T):=⟨_,I⟩;obtain⟨K,h⟩:=J ((cR d).cells.toArray);have n:N (K=(ar.cells ⟨1,d,p,p,0⟩).toArray):=O (by rw[h,g];rfl);have b:=O (Ew (cR d));rw[<-g]at f;rw[<-h]at b⊢;have o:=O j;have m:=O k;have i:=O l;clear g h j k l
 go_enter func14,ntmps14
 go_upto_region 1 with(first|(refine VH.made I I (G ?_)))
 change Code.wp _ _ _ _ (w.alloc (jc chZ.cells.toArray VH.t));rw[<-o,<-m]
 go_wp2_with fail
 refine(f _).mono ?_;rintro e h ⟨rfl,g⟩;replace a:=ae a g;replace i:=aj i g;clear g f;have f:=O (jT h c _ K _ _ a.out);have g:=O (n0 i (j5 m.symm) K)
 go_wp2_with (first|(refine eD (v:=jh K) ai (by rw[n];exact Mi I I I I _) ?_;refine G ?_)|(refine VH.store I I I K I b.1 b.2 a I (G ?_)))
 generalize h.setRow c K=j at f g⊢;exact sh (v:=jh K) (sn I _ _ c VH.t _ (0,0) _ I f sa I (by rw[b.1];exact VH.hi)) I ⟨I,g⟩
section
section
variable {P:o1} {ops:jp jK} {Q:Exit->Act->jj->Prop} {md:Region.Mode} {S:jj->Prop}
def te(P:o1)(ops:jp jK)(S:jj->Prop):jg ja->(Act->jj->Prop)->Act->jj->Prop
 |[],K,a,w=>K a w
 |i::r,K,a,w=>∃o v,ops[i]?=A o/\fQ P ops S o v a/\te P ops S r K (a.put o.dst v) w
def vG(md:Region.Mode)(ops:jp jK):jg ja->jp jC->jC
 |[],_=>ji
 |i::r,a=>Region.free md ops a i&&(Region.ready md ops a).contains i&&vG md ops r (a.setIfInBounds i ji)
def ot:jg ja->jp jC->jp jC
 |[],a=>a
 |i::r,a=>ot r (a.setIfInBounds i ji)
theorem Il(k:Region.noSelect ops=ji)(m:∀c a b w,Q (.panic c) a w->Q (.panic c) b w){K:Act->jj->Prop}{n:ja}{g:jp jC}(p:∀a w,K a w->ip P md ops Q S ops.size n g a w):
 ∀(l:jg ja) (b:jp jC) (a:Act) (w:jj),vG md ops l b=ji->ot l b=g->S w->te P ops S l K a w->ip P md ops Q S ops.size (n+l.length) b a w
 |[],b,a,w,_,e,_,h=>by
  have d:b=g:=e;rw[d];exact p a w h
 |i::r,b,a,w,f,e,q,⟨o,v,s,t,h⟩=>by
  simp only[vG,j7]at f;refine wg s (Region.noSelect_spec k) (λc a d v w=>m c _ a w) (n+r.length) b a w (Region.free_spec s f.1.1) (λj c d u _=>(Ek j c d u).elim) (ak f.1.2) t q (Il k m p r _ _ _ f.2 e q h)
def kX(md:Region.Mode)(ops:jp jK)(e f:ja)(g:jp jC):ja->jg (ja×jC)->jC->jC->jp jC->jC
 |0,b,c,d,a=>b.isEmpty&&c&&d&&(a==g)
 |n+1,b,c,d,a=>match b.head? with
  |some (k,ji)=>Region.free md ops a k&&(Region.ready md ops a).contains k&&kX md ops e f g n b.tail c d (a.setIfInBounds k ji)
  |_=> !(Region.ready md ops a).isEmpty&&(Region.ready md ops a).all λi=>
   (b.head?==A (i,jo)&&kX md ops e f g n b.tail c d (a.setIfInBounds i ji))||(i==e&& !c&&kX md ops e f g n b ji d (a.setIfInBounds i ji))||(i==f&& !d&&kX md ops e f g n b c ji (a.setIfInBounds i ji))
theorem tP{s t:ja}{u:jp jC}{l:jg (ja×jC)}{fe:ja}(x:Region.noSelect ops=ji)(y:∀c a r w,Q (.panic c) a w->Q (.panic c) r w)(g:ja->jC->jC->Act->jj->Prop)(q:∀j b f a w,g j b f a w->S w)
 (z:∀j i,l[j]?=A (i,ji)->∀b f a w,g j b f a w->∃o v,ops[i]?=A o/\fQ P ops S o v a/\g (j+1) b f (a.put o.dst v) w) (B:∀j i,l[j]?=A (i,jo)->∀b f a w,g j b f a w->wpOp P ops Q i (g (j+1) b f) a w) (C:∀j f a w,g j jo f a w->wpOp P ops Q s (g j ji f) a w) (D:∀j b a w,g j b jo a w->wpOp P ops Q t (g j b ji) a w)
 (E:∀a w,g l.length ji ji a w->ip P md ops Q S ops.size fe u a w):
 ∀(n j:ja) (b f:jC) (p:jp jC) (a:Act) (w:jj),j<=l.length->kX md ops s t u n (l.drop j) b f p=ji->g j b f a w->ip P md ops Q S ops.size (fe+n) p a w
 |0,j,b,f,p,a,w,F,m,h=>by
  simp only[kX,j7,beq_iff_eq,List.isEmpty_iff,List.drop_eq_nil_iff]at m;obtain⟨⟨⟨d,rfl⟩,rfl⟩,rfl⟩:=m;obtain rfl:j=l.length:=Y;exact E a w h
 |n+1,j,b,f,p,a,w,F,m,h=>by
  rw[kX,List.head?_drop]at m
  by_cases K:∃k,l[j]?=A (k,ji)
  ·obtain⟨k,e⟩:=K
   rw[e]at m;simp only[j7]at m;have H:j<l.length:=(jV.1 e).1;obtain⟨o,v,M,R,U⟩:=z j k e b f a w h;rw[wt]at m;refine wg M (Region.noSelect_spec x) (λc a d v w=>y c _ a w) (fe+n) p a w (Region.free_spec M m.1.1) (λj c F d _=>(Ek j c F d).elim) (ak m.1.2) R (q _ _ _ _ _ h) (tP x y g q z B C D E n (j+1) b f _ _ w H m.2 U)
  have d:(!(Region.ready md ops p).isEmpty&&(Region.ready md ops p).all λi=>
   (l[j]?==A (i,jo)&&kX md ops s t u n (l.drop j).tail b f (p.setIfInBounds i ji))||(i==s&& !b&&kX md ops s t u n (l.drop j) ji f (p.setIfInBounds i ji))||(i==t&& !f&&kX md ops s t u n (l.drop j) b ji (p.setIfInBounds i ji)))=ji:=by
   split at m
   ·rename_i k e
    exact ju ⟨k,e⟩ K
   exact m
  simp only[j7,wv]at d;refine λ_=>⟨λv=>(by rw[v]at d;simp at d),λi M=>?_⟩
  have o:=d.2 i M;simp only[wx,j7,beq_iff_eq,Bool.not_eq_true']at o
  rcases o with(⟨e,k⟩|⟨⟨rfl,rfl⟩,k⟩)|⟨⟨rfl,rfl⟩,k⟩
  ·rw[wt]at k
   have H:j<l.length:=(jV.1 e).1;exact wpOp_mono (λr w' c=>⟨.inr (q _ _ _ _ _ c),tP x y g q z B C D E n (j+1) b f _ r w' H k c⟩) (B j i e b f a w h)
  ·exact wpOp_mono (λr w' c=>⟨.inr (q _ _ _ _ _ c),tP x y g q z B C D E n j ji f _ r w' F k c⟩) (C j f a w h)
  exact wpOp_mono (λr w' c=>⟨.inr (q _ _ _ _ _ c),tP x y g q z B C D E n j b ji _ r w' F k c⟩) (D j b a w h)
theorem uw{r:ja}{a:Act}{w:jj}(S:jj->Prop)(g:jg ja)(b:jg (ja×jC))(h k:ja)(t:bE)(d:ja->jC->jC->Act->jj->Prop)(s:P.follows .mixedOrders=ji)(l:Region.noSelect ops=ji)
 (u:vG .any ops g (qf ops.size jo)=ji) (x:kX .any ops h k (ot (b.map Prod.fst++[h,k]) (ot g (qf ops.size jo))) (b.length+2) b jo jo (ot g (qf ops.size jo))=ji)
 (y:gC .any ops t (ot (b.map Prod.fst++[h,k]) (ot g (qf ops.size jo)))=ji) (H:g.length+(b.length+2)+t.len<=ops.size) (m:∀c a p w,Q (.panic c) a w->Q (.panic c) p w)
 (z:S w.drew) (q:∀j c e a w,d j c e a w->S w)
 (B:∀j i,b[j]?=A (i,ji)->∀c e a w,d j c e a w->∃o v,ops[i]?=A o/\fQ P ops S o v a/\d (j+1) c e (a.put o.dst v) w) (o:∀j i,b[j]?=A (i,jo)->∀c e a w,d j c e a w->wpOp P ops Q i (d (j+1) c e) a w) (i:∀j e a w,d j jo e a w->wpOp P ops Q h (d j ji e) a w) (v:∀j c a w,d j c jo a w->wpOp P ops Q k (d j c ji) a w)
 (j:∀a w,d b.length ji ji a w->eJ P ops Q S t a w) (C:te P ops S g (d 0 jo jo) a w.drew):(Code.region r ops ji).wp P Q a w:=by
 refine wp_region_any s (rQ (S:=S) (f:=ops.size) _ _ _ _ (iP.zero _) ?_);have e:ops.size=(ops.size-g.length-(b.length+2))+(b.length+2)+g.length:=Y;have key:=Il (md:=.any) (S:=S) l m (K:=d 0 jo jo) (n:=ops.size-g.length-(b.length+2)+(b.length+2)) (λp w' D=>tP (md:=.any) (fe:=ops.size-g.length-(b.length+2)) l m d q B o i v (λE F c=>kG l m t _ _ _ _ Y y (bE.waits_size t) (.inr (q _ _ _ _ _ c)) (eO.toF t _ _ (j E F c))) (b.length+2) 0 jo jo _ p w' (jO _) x D) g _ a w.drew u I z C;rw[<-e]at key;exact key
theorem nL{i:ja}{o:jK}{v:jk}{r:jg ja}{K:Act->jj->Prop}{a:Act}{w:jj}(b:ops[i]?=A o)(c:Region.wanted o (yielded ops a.tmps)=ji)
 (d:∀w,S w->(jN a.eval o).run P w=.ok (.value v) w) (h:te P ops S r K (a.put o.dst v) w):te P ops S (i::r) K a w:=
 ⟨o,v,b,.inl ⟨c,λw e=>.inl (d w e)⟩,h⟩
end
end
theorem kzl(b:j8 8):(kz b).length=32:=by unfold kz;simp
structure gJ(w:jj):Prop where
 t:ly w
 s:iH w
theorem gJ.below(h:gJ w)(a:jl w w w'):gJ w':=⟨h.t.below a,h.s.below a⟩
abbrev ptr(g:ja):jk:=jt (A ⟨g,0,jf⟩)
def iB(c:jH)(Z:jp jk)(d:jj)(b:jC)(a:jk)(W:jj):Prop:=
 (b=ji->∃g,a=ptr g/\W.heap[g]?=A (jc Z c (0,0))/\d.heap.size<=g)/\(b=jo->a=jm)
theorem iB.keep{a:jH}{Z:jp jk}{c d:jj}{b:jC}{f:jk}(h:iB a Z c b f W)(i:jl W W d):iB a Z c b f d:=
 ⟨λe=>let⟨g,j,k,l⟩:=h.1 e;⟨g,j,av k i,l⟩,h.2⟩
theorem iB.ne{X:jp jk}{b:jC}(h:iB u X w b j W){g:ja}(i:W.heap.size<=g):j≠ptr g:=by
 cases b with
 |true=>
  obtain⟨k,rfl,f,-⟩:=h.1 I;intro e;injection e with e
  injection e with e
  injection e with e
  have:=(jA.1 f).1;omega
 |false=>rw[h.2 I];intro e;cases e
def PI(b:jj)(M:ja)(e:jp jk)(d:ja)(V:jk)(f:jG Addr)(h cl:ja)(i l:jp jk)(c:Cmt)(k:jp jk)(j:ja)(m n:jC)(a:Act)(W:jj):Prop:=
 ∃WE T12 T16 T23 T24 T26 T27 T28 T29 T30,a={tmps:=#[jh e,jd je (d:T),V,jb f h cl,ptr M,jm,jm,jm,ptr (M+1),ptr (M+2),.bool jo,WE,T12,jm,jm,jm,T16,jh e,jd je (d:T),jd je (d:T),jd je ((d:T)+2),jb f h cl,V,T23,T24,V,T26,T27,T28,T29,T30,jm,jm,jm,jm,jm,jm,jm,jm,jm,jm,jm,jm,jm,jm],defers:=[]}/\jl b b W/\(1<=j->T23=jh i)/\(2<=j->T24=jh l)/\(3<=j->T26=jh i)/\
  (4<=j->∃(q:CQ) (D:ja->Prop),(T27=jI #[jh (aF c q).toArray,jh k,jd je 0]/\(5<=j->T16=T27)/\(6<=j->T28=jh (aF c q).toArray)/\(7<=j->T29=jh k)/\(8<=j->T30=jd je 0))/\aT D W c q/\∀g,D g->b.heap.size<=g/\g<W.heap.size/\WE≠ptr g/\T12≠ptr g)/\
  iB VC.t VC.Z b m WE W/\iB VY.t VY.Z b n T12 W
theorem RE(g:Grp)(vm vt:jk)(d:ja)(m:d<512)(b:j8 8)(vl:jk)(ch:jg ar)(w:jj)(j:bH w g vm vt)(p:aH (·<w.heap.size) w vl 5 ch.length (ch.flatMap ar.cells))(hT:gJ w)(t:ie g (d:T) ((d+2:ja):T) ch=0)
 (c:Cmt) (V:c=mkC g (d:T) (d+2) ch (kz b) (kz 1) (kz b)) (X:cC g c=0) (hE:cT (aP c)) (u:g.mem.length<=900000) (z:g.tree.length<=600000) (a6:ch.length<=1000000):
 jB jn 13 #[jh (aD g vm vt).toArray,jd je (d:T),v8 b,vl] w λe w'=>∃q x y,e=jy (jI #[jh (aF c q).toArray,jh (aD (aB g c) x y).toArray,.bool ji])/\
  aT (λk=>w.heap.size<=k/\k<w'.heap.size) w' c q/\bH w' (aB g c) x y/\Fr w.heap.size x/\Fr w.heap.size y/\jl w w w':=by
 obtain⟨pl,cl,rfl⟩:=p.form;obtain⟨nl,B⟩:=J ch.length;obtain⟨S,i⟩:=J ((aD g vm vt).toArray);obtain⟨KA,C⟩:=J (kzA b);obtain⟨K1,D⟩:=J (kzA 1);obtain⟨s,l⟩:=J (((dL g (kz b) (kz 1)).map v8).toArray);obtain⟨NG,E⟩:=J (aB g c);have bm:N (S.size=VG.n):=O (by rw[i,jv];exact eX j.llen);have bn:N (∀W,jl w w W->jB jn 49 #[jh S,jd je (d:T),jd je ((d:T)+2),jb pl nl cl,jh KA,jh K1,jh KA] W λe w'=>(∃q,e=jy (jI #[jh (aF c q).toArray,jh s,jd je 0])/\aT (λk=>W.heap.size<=k/\k<w'.heap.size) w' c q)/\jl W W w'):=O (λW a=>by
  have h:=RP g vm vt (jb pl ch.length cl) (d:T) ((d+2:ja):T) ch (kz b) (kz 1) (kz b) W (j.below a) ((p.keep λk n=>a.block k n).mono λk (n:k<w.heap.size)=>jL n a.size) (kzl _) (kzl _) (kzl _) (hT.t.below a) (hT.s.below a) u z a6 t;rw[t]at h;rw[i,C,D,l,B,show(d:T)+2=((d+2:ja):T) by omega];refine h.mono ?_;rintro e w' ⟨h1,-,f⟩;have r:=h1 I;rw[qK,<-V]at r;exact⟨r,f⟩)
 have ZR:N (∀W q,jl w w W->aT (·<W.heap.size) W c q->jB jn 9 #[jh S,jh (aF c q).toArray] W λe w'=>(∃vm vt,e=jy (jI #[jh (aD NG vm vt).toArray,jd je 0])/\bH w' NG vm vt/\Fr W.heap.size vm/\Fr W.heap.size vt)/\jl W W w'):=O (λW q a r=>by
  rw[i,E];refine(yV g vm vt c q W (j.below a) r hE (hT.s.dig.below a) u z).mono ?_;rintro e w' ⟨h1,-,f⟩;exact⟨h1 X,f⟩)
 have au:N (∀W,jB jn 50 #[v8 b] W λe w'=>e=jy (jh KA)/\jl W W w'):=O (λW=>by rw[C];exact De b W);have bo:N (∀W,jB jn 50 #[jd .u8 1] W λe w'=>e=jy (jh K1)/\jl W W w'):=O (λW=>by rw[D];exact De 1 W);have ba:N (s.size=VY.n/\s.all (·.oneCell')=ji):=O ⟨by rw[l,jv,jw,lG];rfl,by rw[l,jS];exact λa2 hu=>iu _ a2 (ak hu)⟩;rw[<-i];rw[<-B];obtain⟨P,F⟩:∃P:Ending->jj->Prop,P=λe w'=>∃q x y,e=jy (jI #[jh (aF c q).toArray,jh (aD (aB g c) x y).toArray,.bool ji])/\
  aT (λk=>w.heap.size<=k/\k<w'.heap.size) w' c q/\bH w' (aB g c) x y/\Fr w.heap.size x/\Fr w.heap.size y/\jl w w w':=⟨_,I⟩
 have HP:N (∀e w',(∃q x y,e=jy (jI #[jh (aF c q).toArray,jh (aD NG x y).toArray,.bool ji])/\aT (λk=>w.heap.size<=k/\k<w'.heap.size) w' c q/\bH w' NG x y/\Fr w.heap.size x/\Fr w.heap.size y/\jl w w w')->P e w'):=O (by
  rw[F,E];exact λe w' h=>h)
 rw[<-F];obtain⟨x1,M,H,K,U5,f⟩:=cX w S VG.t;obtain⟨x2,M1,ax,Q,Vj,aa⟩:=cX x1 VC.Z VC.t;obtain⟨x3,M2,YU,R,bb,a⟩:=cX x2 VG.Z VG.t;have e1:M1=M+1:=by rw[Q,H,jq,K]
 have e2:M2=M+2:=by rw[R,ax,jq,<-Q,e1]
 subst e1;subst e2;have U:=f.trans (aa.mono f.size);replace U5:=O (av (av U5 aa) a);replace Vj:=ae Vj a;have HB:N (jl w w x3):=O (U.trans (a.mono U.size));have HW:N (x3=((w.alloc (jc S VG.t)).alloc (jc VC.Z VC.t)).alloc (jc VG.Z VG.t)):=O (by rw[YU,ax,H]);have HM:=O K;have Zy:N (x3.heap.size=M+3):=O (by rw[YU,jq,<-R]);clear H ax YU K Q R f aa a U i C D l E F j p hT t V X hE u z a6 B
 go_enter func13,ntmps13
 go_upto_region 1 with(first|(refine VC.made I I (G ?_))|(refine VG.made I I (G ?_)))
 rw[show((w.alloc (jc S 29)).alloc (jc VC.Z VC.t)).alloc (jc VG.Z VG.t)=x3 from HW.symm]
 try simp only[jq]
 try rw[show w.heap.size+1+1=w.heap.size+2 from I]
 rw[<-HM];clear HW;obtain⟨V,a⟩:=J (v8 b);rw[<-a]at au⊢;clear a;have f:=bX x3;obtain⟨x4,hx⟩:=J x3.drew;rw[<-hx]at f;have bp:=O hx;replace U5:=ae U5 f;replace Vj:=ae Vj f;replace bb:=ae bb f;replace HB:=aj HB f;have bq:N (M+3<=x4.heap.size):=O (by rw[<-Zy];exact f.size);clear hx f Zy;refine jM ?_;refine uw (λt=>t.heap[M]?=A (jc S VG.t (0,0))) [0,1,2,3,4,5,8] [(6,jo),(7,jo),(9,jo),(10,jo),(11,ji),(12,ji),(13,ji),(14,ji)] 15 16 (.o 17 (.o 18 (.t 19 .done))) (PI x4 M S d V pl nl cl KA K1 c s) af af af af af L (λ_ _ _ _ h=>h) (by rw[<-bp];exact U5) ?hI ?hT ?hC ?h1 ?h2 ?hE ?h0
 case hI=>
  rintro j U b2 a W ⟨WE,T12,T16,T23,T24,T26,T27,T28,T29,T30,rfl,l,-⟩;exact av U5 l
 case h1=>
  rintro j b2 a W ⟨WE,T12,T16,T23,T24,T26,T27,T28,T29,T30,rfl,l,E,F,H,R,z,B⟩;refine qb (o:=_) I (λX u=>?_);rw[jr ai];refine gM VC.t I VC.Z VC.hal ?_;have f:=ap W (jc VC.Z VC.t);refine u _ _ ⟨ptr W.heap.size,T12,T16,T23,T24,T26,T27,T28,T29,T30,I,l.trans (f.mono l.size),E,F,H,λe=>?_,⟨λ_=>⟨_,I,jz _ _,l.size⟩,λh=>(by cases h)⟩,B.keep f⟩;obtain⟨q,D,K,r,m⟩:=R e;exact⟨q,D,K,r.keep λg p=>f.block g (m g p).2.1,λg p=>⟨(m g p).1,jL (m g p).2.1 f.size,(λe=>by injection e with e;injection e with e;injection e with e;have:=(m g p).2.1;omega),(m g p).2.2.2⟩⟩
 case h2=>
  rintro j U a W ⟨WE,T12,T16,T23,T24,T26,T27,T28,T29,T30,rfl,l,E,F,H,R,z,B⟩;refine qb (o:=_) I (λX u=>?_);rw[jr ai];refine gM VY.t I VY.Z VY.hal ?_;have f:=ap W (jc VY.Z VY.t);refine u _ _ ⟨WE,ptr W.heap.size,T16,T23,T24,T26,T27,T28,T29,T30,I,l.trans (f.mono l.size),E,F,H,λe=>?_,z.keep f,⟨λ_=>⟨_,I,jz _ _,l.size⟩,λh=>(by cases h)⟩⟩;obtain⟨q,D,K,r,m⟩:=R e;exact⟨q,D,K,r.keep λg p=>f.block g (m g p).2.1,λg p=>⟨(m g p).1,jL (m g p).2.1 f.size,(m g p).2.2.1,(λe=>by injection e with e;injection e with e;injection e with e;have:=(m g p).2.1;omega)⟩⟩
 case h0=>
  rw[<-bp]
  (refine nL (v:=jh S) I ai (λt Q=>cM VG.hu VG.hd (by rw[bm];exact VG.hi) I I Q) ?_;refine G ?_)
  iterate 2 (refine nL (v:=jd je (d:T)) I ai (λt Q=>by go_simp;try with_reducible rfl) ?_;refine G ?_)
  (refine nL (v:=jd je ((d:T)+2)) I ai (λt Q=>by have e:=wrap_small ((d:T)+2) Y Y;go_simp;try rw[e];try with_reducible rfl) ?_;refine G ?_)
  (refine nL (v:=jb pl nl cl) I ai (λt Q=>by go_simp;try with_reducible rfl) ?_;refine G ?_)
  iterate 2 (refine nL (v:=V) I ai (λt Q=>by go_simp;try with_reducible rfl) ?_;refine G ?_)
  exact⟨jm,jm,jm,jm,jm,jm,jm,jm,jm,jm,I,pz _ _,λh=>ju h L,λh=>ju h L,λh=>ju h L,λh=>ju h L,⟨λh=>(by cases h),λ_=>rfl⟩,⟨λh=>(by cases h),λ_=>rfl⟩⟩
 case hT=>
  rintro j i C U b2 a W ⟨WE,T12,T16,T23,T24,T26,T27,T28,T29,T30,rfl,l,E,F,H,R,z,B⟩
  rcases j with _ |_ |_ |_ |_ |_ |_ |_ |j
  iterate 4 (·simp at C)
  ·obtain rfl:i=11:=ak C.symm
   obtain⟨q,D,K,r,m⟩:=R Y;refine⟨_,T27,I,.inl ⟨by rfl,λt Q=>.inl (by go_simp;try with_reducible rfl)⟩,?_⟩;exact⟨WE,T12,T27,T23,T24,T26,T27,T28,T29,T30,I,l,λ_=>E Y,λ_=>F Y,λ_=>H Y,λ_=>⟨q,D,⟨K.1,λ_=>rfl,(λh=>ju h Y),(λh=>ju h Y),(λh=>ju h Y)⟩,r,m⟩,z,B⟩
  ·obtain rfl:i=12:=ak C.symm
   obtain⟨q,D,⟨rfl,ad,ay,a1,a3⟩,r,m⟩:=R Y;obtain rfl:=ad Y;refine⟨_,jh (aF c q).toArray,I,.inl ⟨by rfl,λt Q=>.inl (by go_simp;try with_reducible rfl)⟩,?_⟩;exact⟨WE,T12,_,T23,T24,T26,_,_,T29,T30,I,l,λ_=>E Y,λ_=>F Y,λ_=>H Y,λ_=>⟨q,D,⟨I,λ_=>rfl,λ_=>rfl,(λh=>ju h Y),(λh=>ju h Y)⟩,r,m⟩,z,B⟩
  ·obtain rfl:i=13:=ak C.symm
   obtain⟨q,D,⟨rfl,ad,ay,a1,a3⟩,r,m⟩:=R Y;obtain rfl:=ad Y;refine⟨_,jh s,I,.inl ⟨by rfl,λt Q=>.inl (by go_simp;try with_reducible rfl)⟩,?_⟩;exact⟨WE,T12,_,T23,T24,T26,_,T28,_,T30,I,l,λ_=>E Y,λ_=>F Y,λ_=>H Y,λ_=>⟨q,D,⟨I,λ_=>rfl,λ_=>ay Y,λ_=>rfl,(λh=>ju h Y)⟩,r,m⟩,z,B⟩
  ·obtain rfl:i=14:=ak C.symm
   obtain⟨q,D,⟨rfl,ad,ay,a1,a3⟩,r,m⟩:=R Y;obtain rfl:=ad Y;refine⟨_,jd je 0,I,.inl ⟨by rfl,λt Q=>.inl (by go_simp;try with_reducible rfl)⟩,?_⟩;exact⟨WE,T12,_,T23,T24,T26,_,T28,T29,_,I,l,λ_=>E Y,λ_=>F Y,λ_=>H Y,λ_=>⟨q,D,⟨I,λ_=>rfl,λ_=>ay Y,λ_=>a1 Y,λ_=>rfl⟩,r,m⟩,z,B⟩
  simp at C
 case hC=>
  rintro j i C U b2 a W ⟨WE,T12,T16,T23,T24,T26,T27,T28,T29,T30,rfl,l,E,F,H,R,z,B⟩
  rcases j with _ |_ |_ |_ |_ |_ |_ |_ |j
  ·obtain rfl:i=6:=ak C.symm
   refine qb (o:=_) I (λX u=>?_);go_simp;refine(au W).mono ?_;rintro e t ⟨rfl,f⟩;exact u _ _ ⟨WE,T12,T16,_,T24,T26,T27,T28,T29,T30,I,l.trans (f.mono l.size),λ_=>rfl,(λh=>ju h Y),(λh=>ju h Y),λe=>ju e Y,z.keep f,B.keep f⟩
  ·obtain rfl:i=7:=ak C.symm
   refine qb (o:=_) I (λX u=>?_);go_simp;refine(bo W).mono ?_;rintro e t ⟨rfl,f⟩;exact u _ _ ⟨WE,T12,T16,_,_,T26,T27,T28,T29,T30,I,l.trans (f.mono l.size),λ_=>rfl,λ_=>rfl,(λh=>ju h Y),λe=>ju e Y,z.keep f,B.keep f⟩
  ·obtain rfl:i=9:=ak C.symm
   refine qb (o:=_) I (λX u=>?_);go_simp;refine(au W).mono ?_;rintro e t ⟨rfl,f⟩;exact u _ _ ⟨WE,T12,T16,_,_,_,T27,T28,T29,T30,I,l.trans (f.mono l.size),λ_=>rfl,λ_=>rfl,λ_=>rfl,λe=>ju e Y,z.keep f,B.keep f⟩
  ·obtain rfl:i=10:=ak C.symm
   obtain rfl:=E Y;obtain rfl:=F Y;obtain rfl:=H Y;refine qb (o:=_) I (λX u=>?_);go_simp;refine(bn W (HB.trans (l.mono HB.size))).mono ?_;rintro e t ⟨⟨q,rfl,r⟩,f⟩;exact u _ _ ⟨WE,T12,T16,_,_,_,_,T28,T29,T30,I,l.trans (f.mono l.size),λ_=>rfl,λ_=>rfl,λ_=>rfl,λ_=>⟨q,_,⟨I,(λh=>ju h Y),(λh=>ju h Y),(λh=>ju h Y),(λh=>ju h Y)⟩,r,λg p=>⟨jD l.size p.1,p.2,z.ne p.1,B.ne p.1⟩⟩,z.keep f,B.keep f⟩
  iterate 5 (·simp at C)
 rintro a W ⟨WE,T12,T16,T23,T24,T26,T27,T28,T29,T30,rfl,l,E,F,H,R,z,B⟩;obtain⟨q,D,⟨rfl,ad,ay,a1,a3⟩,r,m⟩:=R L;obtain rfl:=ad L;obtain rfl:=ay L;obtain rfl:=a1 L;obtain rfl:=a3 L;obtain rfl:=E L;obtain rfl:=F L;obtain rfl:=H L;obtain⟨C,rfl,hC,bh⟩:=z.1 I;obtain⟨K,rfl,u,br⟩:=B.1 I;have bi:C≠K:=by
  rintro rfl;rw[hC]at u;simp[VC,VY]at u
 have bc:w.heap.size<=x4.heap.size:=HB.size;have bk:=bq.out;obtain⟨i,j⟩:=J ((aF c q).toArray);have Y4:N (i.size=VC.n):=O (by rw[j,jv];exact dl _ _ r.plen r.clen);have bs:N (i.all (·.oneCell')=ji):=O (by
  rw[j,jS];exact λa2 hu=>nD r a2 (ak hu))
 have UM:=O (jT W C _ i _ _ hC);have bu:=(js W C K i (Ne.symm bi)).trans u;have UJ:=O ((js (W.setRow C i) K C s bi).trans UM);have bd:∀k,k<x4.heap.size->((W.setRow C i).setRow K s).heap[k]?=x4.heap[k]?:=λk n=>(js _ K k s Y).trans ((js W C k i Y).trans (l.block k n))
 have bf:N (((W.setRow C i).setRow K s).heap[M]?=A (jc S VG.t (0,0))):=O ((bd M Y).trans U5);have a4:N (((W.setRow C i).setRow K s).heap[M+1]?=A (jc VC.Z VC.t (0,0))):=O ((bd (M+1) Y).trans Vj);have a5:N (((W.setRow C i).setRow K s).heap[M+2]?=A (jc VG.Z VG.t (0,0))):=O ((bd (M+2) Y).trans bb);have Ur:N (jl w w ((W.setRow C i).setRow K s)):=O (n0 (n0 (HB.trans (l.mono bc)) (jD bc bh) i) (jD bc br) s);have bl:((W.setRow C i).setRow K s).heap.size=W.heap.size:=by rw[setRow_size,setRow_size]
 have bg:N (aT (λk=>x4.heap.size<=k/\k<((W.setRow C i).setRow K s).heap.size) ((W.setRow C i).setRow K s) c q):=O ((r.keep λg p=>(js _ K g s (λe=>(m g p).2.2.2 (by rw[e]))).trans (js W C g i (λe=>(m g p).2.2.1 (by rw[e])))).mono λg p=>⟨(m g p).1,by rw[bl];exact(m g p).2.1⟩);have Vx:N (C<((W.setRow C i).setRow K s).heap.size):=O (by rw[bl];exact(jA.1 hC).1);have bv:=O j;rw[<-j];refine aE I (λX U=>?_);rw[jr ai];refine jR VC.t _ _ I C i I I VC.t VC.Z hC (by rw[Y4];exact VC.hi) (VC.hZ.trans Y4.symm) bs ?_;refine U _ _ ((js W C M i Y).trans ((l.block M Y).trans U5)) λ_=>?_
 clear U;refine G ?_;refine aE I (λX U=>?_);rw[jr ai];refine jR VY.t _ _ I K s I I VY.t VY.Z bu (by rw[ba.1];exact VY.hi) (VY.hZ.trans ba.1.symm) ba.2 ?_;refine U _ _ bf.out λ_=>?_
 clear U;refine G ?_;have UU:=O bh;generalize(W.setRow C i).setRow K s=y1 at UJ bf a4 a5 Ur bg Vx⊢;clear hC u bh br l E F H R ad ay a1 a3 z B r m bi j bu bd bl UM U5 Vj bb bn au bo ba bc bk;refine aK ?_;refine ow ?_
 go_wp2_with (first|(refine VG.loadA ai I I S bm bf (G ?_))|(refine VC.loadA ai I I i Y4 UJ (G ?_)))
 have au:=ZR y1 q Ur (bg.mono λk n=>n.2);rw[<-bv]at au;refine au.mono ?_;rintro e y2 ⟨⟨x,y,rfl,ZE,ba,bb⟩,f⟩;obtain⟨j,p⟩:=J ((aD NG x y).toArray);have YP:N (j.size=VG.n):=O (by rw[p,jv];exact eX ZE.llen);have Vy:N (j.all (·.oneCell')=ji):=O (by rw[p,jS];exact λa2 hu=>mc ZE a2 (ak hu));have bl:=O p;have bh:=O (dN.of ZE ba bb);have bi:N (aT (λk=>x4.heap.size<=k/\k<y2.heap.size) y2 c q):=O ((bg.keep λk n=>f.block k n.2).mono λk n=>⟨n.1,jL n.2 f.size⟩);have HF:N (Fr y1.heap.size x/\Fr y1.heap.size y):=O ⟨ba,bb⟩;replace UJ:=ae UJ f;replace a4:=ae a4 f;replace a5:=ae a5 f;have Uu:=aj Ur f;have bc:N (x4.heap.size<=y1.heap.size/\y1.heap.size<=y2.heap.size):=O ⟨by have:=Vx.out;have:=UU.out;omega,f.size⟩;rw[<-p];clear au ZE ba bb p f bf Ur bg
 go_upto_region 3 with(first|(refine VG.made I I (G ?_))|(refine VG.first I I I j I YP Vy (G ?_)))
 obtain⟨y3,bx,hx,hb,bf,f⟩:=cX y2 j VG.t;rw[<-hx,<-hb];have aa:=bX y3;obtain⟨p,ba⟩:=J y3.drew;rw[<-ba]at aa;have au:jl y2 y2 p:=f.trans (aa.mono f.size);have bb:=av bf aa;have bd:=av UJ au;have ax:=av a4 au;have YU:=av a5 au;refine jM ?_;refine fN (λt=>t.heap[C]?=A (jc i VC.t (0,0))/\t.heap[bx]?=A (jc j VG.t (0,0))) 10 (.t 0 (.t 1 (.t 2 (.t 3 (.t 4 (.t 5 (.t 6 (.t 7 (.o 8 (.o 9 (.o 10 .done))))))))))) af af af af L (λ_ _ _ _ h=>h) (by rw[<-ba];exact⟨bd,bb⟩) ?_;rw[<-ba];have bg:bx=y2.heap.size:=hb;have bn:N (aT (λk=>x4.heap.size<=k/\k<y2.heap.size) p c q):=O (bi.keep λk n=>au.block k n.2);have bo:N (dN (λk=>y1.heap.size<=k/\k<y2.heap.size) p NG x y):=O (bh.keep λk n=>au.block k n.2);have UB:=aj Uu au;have WQ:=O au.size;clear hx hb f aa ba au bf bi bh Uu UJ a4 a5
 (refine cL (v:=jh i) I ai (λt Q=>cM VC.hu VC.hd (by rw[Y4];exact VC.hi) I I Q.1) ?_;refine G ?_)
 (refine cL (v:=jh j) I ai (λt Q=>cM VG.hu VG.hd (by rw[YP];exact VG.hi) I I Q.2) ?_;refine G ?_)
 iterate 6 refine cr ?_
 have bk:=bq.out;have Vq:=UU.out;have a6:=Vx.out;have a5:=bc.1;have Q:C≠M+1:=Y;have n2:C≠M+2:=Y;have n3:bx≠M+1:=by have:=bc.2;omega
 have n4:bx≠M+2:=by have:=bc.2;omega
 have r1:=(js p (M+1) C i Q).trans bd;have r2:=(js p (M+1) bx i n3).trans bb;have r3:=jT p (M+1) _ i _ _ ax;have h:=(js p (M+1) (M+2) i Y).trans YU;refine cY I (λX U=>?_);rw[jr ai];refine jR VC.t _ _ I (M+1) i I I VC.t VC.Z ax (by rw[Y4];exact VC.hi) (VC.hZ.trans Y4.symm) bs ?_;refine U _ _ ⟨r1,r2⟩ λ_=>?_
 clear U;refine G ?_;have s1:=(js (p.setRow (M+1) i) (M+2) C j n2).trans r1;have s2:=(js (p.setRow (M+1) i) (M+2) bx j n4).trans r2;have Vh:=O ((js (p.setRow (M+1) i) (M+2) (M+1) j Y).trans r3);have UP:=O (jT (p.setRow (M+1) i) (M+2) _ j _ _ h);refine cY I (λX U=>?_);rw[jr ai];refine jR VG.t _ _ I (M+2) j I I VG.t VG.Z h (by rw[YP];exact VG.hi) (VG.hZ.trans YP.symm) Vy ?_;refine U _ _ ⟨s1,s2⟩ λ_=>?_
 clear U;refine G ?_;refine nH I L af (λX u=>?_);go_simp;refine u _ _ ?_;clear u;refine G ?_;refine fa ?_;have t:∀k,M+3<=k->((p.setRow (M+1) i).setRow (M+2) j).heap[k]?=p.heap[k]?:=λk n=>(js _ _ k _ Y).trans (js _ _ k _ Y)
 have ba:w.heap.size=M:=HM.symm;have U:N (jl w w ((p.setRow (M+1) i).setRow (M+2) j)):=O (n0 (n0 UB Y i) Y j);have X:((p.setRow (M+1) i).setRow (M+2) j).heap.size=p.heap.size:=by rw[setRow_size,setRow_size]
 have aa:N (aT (λk=>w.heap.size<=k/\k<((p.setRow (M+1) i).setRow (M+2) j).heap.size) ((p.setRow (M+1) i).setRow (M+2) j) c q):=O ((bn.keep λk n=>t k (cV n.1)).mono λk n=>⟨by have:=n.1;omega,by rw[X];exact jL n.2 WQ⟩);have au:N (bH ((p.setRow (M+1) i).setRow (M+2) j) NG x y):=O (bo.keep λk n=>t k (cV n.1)).grp;have a4:N (Fr w.heap.size x/\Fr w.heap.size y):=O ⟨HF.1.mono Y,HF.2.mono Y⟩;clear t ba X s1 s2 r1 r2 r3 h Q n2 n3 n4 bd bb ax YU bk Vq a6 a5 bg;generalize(p.setRow (M+1) i).setRow (M+2) j=h at Vh UP U aa au⊢;refine‹∀(a:Act) (w:jj),Code.wp jn Code.ret (bodyPost jn _ P) a w->_›_ _ ?_;refine wp_ret ?_;show bodyPost _ _ P .ret _ _;refine ql (F9 I _ _ (M+1) (M+2) VC.t VG.t i j (0,0) (0,0) _ _ I I Vh UP ob I (by rw[Y4];exact VC.hi) qP I (by rw[YP];exact VG.hi)) I (HP _ _ ⟨q,x,y,by rw[bv,bl];rfl,aa,au,a4.1,a4.2,U⟩)
section
open Go.RowKit Go.ChangeShapes Go.WideShapes Go.Deep
theorem EU{H:Type}{enc:jH×jk->H}{d:DataW H}{p:jg MemPlace}(h:DataW.Trod enc jn w 0 (λ_=>ji) ji 37 j d p)(i:Value.okWide jn w .any b 37 j):
 ∃(c:Cmt) (q:CQ),j=.agg (aF c q).toArray/\aT (·<w.heap.size) w c q/\wQ c/\c.chg.length<=maxLen/\c.box.length<=maxLen/\c.wel.length<=maxLen:=by
 obtain⟨v,rfl,o⟩:=okWide_struct ob i;obtain⟨cl⟩:=v;obtain⟨fuel,a⟩:=h;have k:(Value.agg ⟨cl⟩).cells.toList=cl:=I;rw[k]at a;obtain⟨c,q,e,l,m,base,n,f,g⟩:=Kp a;exact⟨c,q,by rw[e],l,⟨m,base.2,n.2,f.2,g.2⟩,base.1,f.1,g.1⟩
theorem Lo(a:laidMetH jn sZ w):gJ w:=by
 obtain⟨t,s⟩:=LQ a;exact⟨t,s⟩
end
theorem C5(x y:T):cE x y<0↔x<y:=by
 unfold cE
 split
 ·constructor<;>intro<;>first|assumption|decide
 split
 ·constructor
  ·intro h;exact ju h L
  intro h;omega
 constructor
 ·intro h;exact ju h L
 intro h;omega
theorem Bu(x y:T):cE x y=0↔x=y:=by
 unfold cE
 split
 ·constructor
  ·intro h;exact ju h L
  intro h;omega
 split
 ·constructor
  ·intro h;exact ju h L
  intro h;omega
 constructor
 ·intro h;omega
 intro h;rfl
theorem CZ{b:aR}(h:x.com.author≠b.com.author):(iE x b<0↔x.since<b.since\/x.since=b.since/\x.com.author<b.com.author):=by
 unfold iE
 by_cases d:x.since=b.since
 ·rw[jE (by rw[(Bu _ _).2 d];exact λh=>h I),jr (λe=>h ((Bu _ _).1 e)),C5]
  constructor
  ·exact λc=>.inr ⟨d,c⟩
  rintro(c|c)
  ·omega
  exact c.2
 rw[jr (λe=>d ((Bu _ _).1 e)),C5]
 constructor
 ·exact .inl
 rintro(c|c)
 ·exact c
 exact ju c.1 d
def gT(g:Grp)(a b:Cmt):Prop:=dW g a.author<dW g b.author\/dW g a.author=dW g b.author/\a.author<b.author
theorem B6{b:Cmt}(h:p.author≠b.author):¬gT a p b↔gT a b p:=by
 unfold gT;omega
theorem TD{b:Cmt}(h:aG p≠aG b):bV [p,b] 2=[0,1]:=by
 have d:aQ [p,b] 0=p:=I;have e:aQ [p,b] 1=b:=I;have f:bV [p,b] 0=[]:=I;rw[mP,mP,f,jr (λj c=>ju c (r4 j)),jr ?_]
 ·rfl
 intro j c;obtain rfl:j=0:=Y;rw[d];show aG p≠aG (aQ [p,b] 1);rw[e];exact h
noncomputable def bQ(g:Grp)(c:Cmt)(i:ja):aR:=⟨i,c,aG c,dW g c.author,aB g c⟩
theorem Nk{b:Cmt}(h:aG p≠aG b)(c:cC a p=0)(d:cC a b=0):eH a [p,b]=[bQ a p 0,bQ a b 1]:=by
 have e:aQ [p,b] 0=p:=I;have f:aQ [p,b] 1=b:=I;have i:eh a [p,b] 0=A (bQ a p 0):=by
  unfold eh bQ;rw[e,jr ⟨(fW.1 c).par,c⟩]
 have j:eh a [p,b] 1=A (bQ a b 1):=by
  unfold eh bQ;rw[f,jr ⟨(fW.1 d).par,d⟩]
 unfold eH;rw[show [p,b].length=2 from I,TD h,jQ,i,jQ,j,qj]
theorem EI(x y:aR):[x,y].mergeSort leC=if leC x y=ji then [x,y]else [y,x]:=by
 cases h:leC x y with
 |true=>simp[xa,List.MergeSort.Internal.splitInTwo,List.merge,h]
 |false=>simp[xa,List.MergeSort.Internal.splitInTwo,List.merge,h]
theorem yB{y:aR}(h:x.com.author≠y.com.author)(a:gS x.com y.com.author=ji):([x,y].foldl fT ([],jf)).2=A x:=by
 have b:fT ([],jf) x=([x],A x):=by
  unfold fT;rw[jE (by unfold rR;rw[List.any_nil];decide)];unfold wu;rw[jr I];rfl
 have c:fT ([x],A x) y=([x],A x):=by
  unfold fT;rw[jr];unfold rR;rw[List.any_cons,a,bne_iff_ne.2 h];rfl
 rw[r5,r5,r6,b,c]
theorem IF{b:Cmt}(h:aG p≠aG b)(c:p.author≠b.author)(j:cC a p=0)(k:cC a b=0)(l:gS p b.author=ji)(rb:gS b p.author=ji):
 (gT a p b->et a [p,b]=A (bQ a p 0))/\(gT a b p->et a [p,b]=A (bQ a b 1)):=by
 have f:(iE (bQ a b 1) (bQ a p 0)<0)↔gT a b p:=by
  rw[CZ (by unfold bQ;exact λe=>c e.symm)];unfold bQ gT;exact Iff.rfl
 have i:et a [p,b]=((if leC (bQ a p 0) (bQ a b 1)=ji then [bQ a p 0,bQ a b 1]else [bQ a b 1,bQ a p 0]).foldl fT ([],jf)).2:=by
  unfold et eS;rw[Nk h j k,EI]
 constructor
 ·intro d
  have m:¬iE (bQ a b 1) (bQ a p 0)<0:=λe=>(B6 c).2 (f.1 e) d
  rw[i,jr (by unfold leC;rw[decide_eq_false m];rfl)];exact yB (x:=bQ a p 0) (y:=bQ a b 1) c l
 intro d;rw[i,jE (by unfold leC;rw[qo (f.2 d)];decide)];exact yB (x:=bQ a b 1) (y:=bQ a p 0) (λe=>c e.symm) rb
theorem C1(h:gz a p)(b:gS p d=ji):cD (aB a p).mem d=jo:=by
 unfold gS at b;obtain⟨y,e,g⟩:=xd.1 b;rw[j7,beq_iff_eq,beq_iff_eq]at g;have f:=If h ((td h.form.once d y).2 ⟨e,g.2⟩) g.1;rw[<-uG,f.2];rfl
noncomputable def tR(l:jg Cmt)(S:jg aR)(k:ja):jg aR:=match S[k]? with|none=>S|some c=>S++eS c.leads l
noncomputable def eG(l:jg Cmt)(c:aR):ja->jg aR
 |0=>[c]
 |k+1=>tR l (eG l c k) k
noncomputable def sO(l:jg Cmt)(c:aR):jg aR:=eG l c l.length
theorem GY(h:S.length<=b):tR f S b=S:=by
 unfold tR;rw[List.getElem?_eq_none h]
theorem rh{l:jg Cmt}{k:ja}{c:aR}(h:S[k]?=A c):tR l S k=S++eS c.leads l:=by
 unfold tR;rw[h]
structure fc(l:jg Cmt)(g:Grp)(c:aR):Prop where
 ok:nX g l c
 par:c.com.parent=g.last
 least:∀j,j<c.ix->aG (aQ l j)≠c.id
theorem fc.ofU(h:x∈eH a f):fc f a x:=by
 obtain⟨g,b,-,d⟩:=vz h;exact⟨g,b,d⟩
theorem fc.com{d:aR}(h:fc f a x)(b:fc f g' d)(e:x.id=d.id):x.com=d.com:=by
 have l:x.ix=d.ix:=by
  rcases xe x.ix d.ix with g|g|g
  ·exact ju (by rw[<-h.ok.com,<-h.ok.id];exact e) (b.least _ g)
  ·exact g
  exact ju (by rw[<-b.ok.com,<-b.ok.id];exact e.symm) (h.least _ g)
 rw[h.ok.com,b.ok.com,l]
theorem fc.last{l:jg Cmt}{g:Grp}{c:aR}(h:fc l g c):c.leads.last=c.id:=by rw[h.ok.leads,AK,h.ok.id]
theorem fc.epoch(h:fc f a x):x.leads.epoch=a.epoch+1/\x.com.epoch=a.epoch+1:=by
 have g:=(ud h.ok).ep;exact⟨by rw[h.ok.leads,iG];exact g,g⟩
theorem La(g:Grp)(l:jg Cmt):((eH g l).map aR.id).Nodup:=by
 unfold eH;have n:(bV l l.length).Nodup:=by
  unfold bV;exact(List.nodup_range).filter _
 have key:∀(a:jg ja),a.Nodup->(∀i∈a,i∈bV l l.length)->((a.filterMap (eh g l)).map aR.id).Nodup:=by
  intro a
  induction a with
  |nil=>intro _ _;rw[qj,jU];exact List.nodup_nil
  |cons i a o=>
   intro f h;rw[xf]at f;have k:=o f.2 λj e=>h j (qz _ e)
   rw[jQ]
   cases hc:eh g l i with
   |none=>exact k
   |some c=>
    dsimp only;rw[jY,xf];refine⟨λp=>?_,k⟩;obtain⟨d,q,he⟩:=qc.1 p;obtain⟨j,e,r⟩:=List.mem_filterMap.1 q;obtain⟨y,s,t,-⟩:=tT hc;obtain⟨z,u,v,-⟩:=tT r;have w:=(oW.1 (h i (qy ..))).2;have x:=(oW.1 (h j (qz _ e))).2;have m:aG (aQ l j)=aG (aQ l i):=by rw[<-u,<-v,<-s,<-t];exact he
    rcases xe i j with b|b|b
    ·exact x i b m.symm
    ·exact f.1 (b▸e)
    exact w j b m
 exact key _ n λi b=>b
theorem Qg(g:Grp)(l:jg Cmt):((eS g l).map aR.id).Nodup:=((List.mergeSort_perm (eH g l) leC).map aR.id).nodup_iff.2 (La g l)
structure tJ(l:jg Cmt)(a:Grp)(b:aR)(S:jg aR)(k:ja):Prop where
 head:S[0]?=A b
 par:∀i c,S[i]?=A c->0<i->∃n x,n<k/\n<i/\S[n]?=A x/\fc l x.leads c
 all:∀n x,n<k->S[n]?=A x->∀c∈eH x.leads l,c∈S
 ids:(S.map aR.id).Nodup
 ep:∀c∈S,a.epoch+1<=c.leads.epoch
theorem tJ.at{l:jg Cmt}{b:Grp}{d:aR}{k:ja}(h:tJ l b d S k)(e:fc l b d){i:ja}{c:aR}(a:S[i]?=A c):∃g,fc l g c/\(i=0->g=b):=by
 rcases i with _|i
 ·rw[h.head]at a
  injection a with a
  exact⟨b,by rw[<-a];exact e,λ_=>rfl⟩
 obtain⟨n,x,-,-,-,f⟩:=h.par _ c a (Nat.succ_pos i);exact⟨_,f,λh=>ju h (Nat.succ_ne_zero i)⟩
theorem Qw(h:(S.map aR.id).Nodup){i j:ja}{c d:aR}(a:S[i]?=A c)(b:S[j]?=A d)(e:c.id=d.id):i=j:=by
 have f:(S.map aR.id)[i]?=A c.id:=by rw[qS,a];rfl
 have g:(S.map aR.id)[j]?=A c.id:=by rw[qS,b,Option.map_some,e]
 obtain⟨m,k⟩:=jV.1 f;obtain⟨n,l⟩:=jV.1 g;exact(List.getElem_inj h).1 (k.trans l.symm)
theorem BJ(p:fc f a x):∀k,tJ f a x (eG f x k) k
 |0=>by
  rw[eG];refine⟨by simp,?_,λn s t=>ju t (r4 n),by simp,?_⟩
  ·intro i c h l
   cases i with
   |zero=>exact ju l (rv 0)
   |succ i=>simp at h
  intro c h;rw[jP]at h;rw[h,(p.epoch).1];omega
 |k+1=>by
  have h:=BJ p k;rw[eG];generalize eG f x k=S at h⊢
  cases hx:S[k]? with
  |none=>
   have v:=List.getElem?_eq_none_iff.1 hx;rw[GY v];refine⟨h.head,?_,?_,h.ids,h.ep⟩
   ·intro i c l q
    obtain⟨n,s,j,r⟩:=h.par i c l q;exact⟨n,s,by omega,r⟩
   intro n s t b c o;have:=(jV.1 b).1;exact h.all n s Y b c o
  |some s=>
   rw[rh hx];have w:=(jV.1 hx).1;obtain⟨R,D,-⟩:=h.at p hx;refine⟨by rw[qa Y];exact h.head,?_,?_,?_,?_⟩
   ·intro i c l q
    by_cases v:i<S.length
    ·rw[qa v]at l
     obtain⟨n,y,j,r,z,b⟩:=h.par i c l q;exact⟨n,y,by omega,r,by rw[qa Y];exact z,b⟩
    rw[List.getElem?_append_right Y]at l;exact⟨k,s,Nat.lt_succ_self k,by omega,by rw[qa w];exact hx,fc.ofU (sJ.1 (j3 l))⟩
   ·intro n y t m c o
    by_cases v:n=k
    ·rw[v,qa w,hx]at m
     injection m with m
     rw[<-m]at o;exact wi _ (sJ.2 o)
    have b:n<k:=Y;rw[qa Y]at m;exact vi _ (h.all n y b m c o)
   ·rw[nn,List.nodup_append]
    refine⟨h.ids,Qg _ _,?_⟩;intro v E b F e;obtain⟨c,H,rfl⟩:=qc.1 E;obtain⟨d,K,rfl⟩:=qc.1 F;have u:=fc.ofU (sJ.1 K);obtain⟨i,l⟩:=xg.1 H;obtain⟨g,B,M⟩:=h.at p l;have C:=B.com u e
    by_cases q:i=0
    ·have P:=M q
     subst P;have j:=B.epoch.2;rw[C,u.epoch.2]at j;have r:=h.ep s (j3 hx);omega
    obtain⟨n,y,t,-,m,P⟩:=h.par i c l Y;obtain⟨U,Q,-⟩:=h.at p m;have j:y.id=s.id:=by rw[<-Q.last,<-D.last,<-P.par,<-u.par,C]
    have:=Qw h.ids m hx j;omega
   intro c o
   rcases oj.1 o with j|j
   ·exact h.ep c j
   have r:=(fc.ofU (sJ.1 j)).epoch.1;have z:=h.ep s (j3 hx);omega
theorem Q2(h:(S.map aR.id).Nodup)(l:∀c∈S,∃g,fc f g c):S.length<=f.length:=by
 have j:(S.map aR.ix).Nodup:=by
  refine xh.2 ?_;refine List.Pairwise.imp_of_mem ?_ (xh.1 h);intro a b k m n e;obtain⟨o,d⟩:=l a k;obtain⟨gb,i⟩:=l b m;exact n (by rw[d.ok.id,i.ok.id,d.ok.com,i.ok.com,e])
 have b:S.map aR.ix⊆rn f.length:=by
  intro i a;obtain⟨c,e,rfl⟩:=qc.1 a;obtain⟨g,d⟩:=l c e;exact List.mem_range.2 d.ok.lt
 have a:=List.Nodup.length_le_of_subset j b;rw[jw,List.length_range]at a;exact a
theorem tJ.len(h:tJ f a x S b)(d:fc f a x):S.length<=f.length:=by
 refine Q2 h.ids λc e=>?_
 obtain⟨i,l⟩:=xg.1 e;obtain⟨g,j,-⟩:=h.at d l;exact⟨g,j⟩
theorem Gy(h:(eG f x b).length<=b):∀m,b<=m->eG f x m=eG f x b
 |0,k=>by
  obtain rfl:b=0:=Y
  rfl
 |m+1,k=>by
  by_cases e:b=m+1
  ·rw[e]
  have c:=Gy h m Y;rw[eG,c,GY Y]
theorem Nm(d:fc f a x){k:ja}(h:(eG f x k).length<=k)(c:k<=f.length):sO f x=eG f x k:=Gy h _ c
section
theorem mf{g:Grp}{l:jg Cmt}{i:ja}(h:cC g (aQ l i)≠0):eh g l i=jf:=by
 unfold eh;rw[jE λe=>h e.2]
theorem zR{g:Grp}{l:jg Cmt}{i:ja}{c:Cmt}(e:aQ l i=c)(h:cC g c=0):eh g l i=A (bQ g c i):=by
 unfold eh bQ;rw[e,jr ⟨(fW.1 h).par,h⟩]
theorem mj{g:Grp}{c:Cmt}(h:c.epoch≠g.epoch+1):cC g c≠0:=λe=>h (fW.1 e).ep
theorem wH{a b c d:Cmt}(k:aG a≠aG b)(l:aG a≠aG c)(m:aG a≠aG d)(n:aG b≠aG c)(o:aG b≠aG d)(p:aG c≠aG d):bV [a,b,c,d] 4=[0,1,2,3]:=by
 have q:bV [a,b,c,d] 0=[]:=I;have f:aQ [a,b,c,d] 0=a:=I;have g:aQ [a,b,c,d] 1=b:=I;have h:aQ [a,b,c,d] 2=c:=I;have i:aQ [a,b,c,d] 3=d:=I;have r:∀j,j<1->aG (aQ [a,b,c,d] j)≠aG (aQ [a,b,c,d] 1):=λj e=>by
  obtain rfl:j=0:=Y;rw[f,g];exact k
 have s:∀j,j<2->aG (aQ [a,b,c,d] j)≠aG (aQ [a,b,c,d] 2):=λj e=>by
  rcases(by omega:j=0\/j=1)with rfl|rfl
  ·rw[f,h];exact l
  rw[g,h];exact n
 have t:∀j,j<3->aG (aQ [a,b,c,d] j)≠aG (aQ [a,b,c,d] 3):=λj e=>by
  rcases(by omega:j=0\/j=1\/j=2)with rfl|rfl|rfl
  ·rw[f,i];exact m
  ·rw[g,i];exact o
  rw[h,i];exact p
 rw[mP,jr t,mP,jr s,mP,jr r,mP,jr (λj e=>ju e (r4 j)),q]
 rfl
structure dU(fol:T)(y s o f:Cmt):Prop where
 ys:aG y≠aG s
 yo:aG y≠aG o
 yf:aG y≠aG f
 so:aG s≠aG o
 sf:aG s≠aG f
 of:aG o≠aG f
 hf:cC (aM fol) f=0
 hs:cC (aB (aM fol) f) s=0
 hy:cC (aB (aB (aM fol) f) s) y=0
 ho:cC (aB (aB (aM fol) f) s) o=0
 auth:o.author≠y.author
 ahead:gT (aB (aB (aM fol) f) s) o y
 ro:gS o y.author=ji
section
variable {fol:T} {y s o f:Cmt}
theorem dU.eps(h:dU fol y s o f):f.epoch=1/\s.epoch=2/\y.epoch=3/\o.epoch=3:=by
 have d:f.epoch=(aM fol).epoch+1:=(fW.1 h.hf).ep;have a:=(fW.1 h.hs).ep;have b:=(fW.1 h.hy).ep;have c:=(fW.1 h.ho).ep;rw[iG]at a b c;have e:(aM fol).epoch=0:=I;exact⟨by omega,by omega,by omega,by omega⟩
theorem dU.first(h:dU fol y s o f):fC fol (aG f) [y,s,o,f]=A ⟨3,f,aG f,0,aB (aM fol) f⟩:=by
 have b:aQ [y,s,o,f] 0=y:=I;have c:aQ [y,s,o,f] 1=s:=I;have d:aQ [y,s,o,f] 2=o:=I;have a:aQ [y,s,o,f] 3=f:=I;unfold fC;rw[show [y,s,o,f].length=4 from I,wH h.ys h.yo h.yf h.so h.sf h.of,
  r7 (by rw[b,decide_eq_true_eq];exact h.yf),r7 (by rw[c,decide_eq_true_eq];exact h.sf),
  r7 (by rw[d,decide_eq_true_eq];exact h.of),List.find?_cons_of_pos (by rw[a,decide_eq_true_eq]),Option.bind_some,a,jr h.hf]
theorem dU.cand1(h:dU fol y s o f):eH (aB (aM fol) f) [y,s,o,f]=[bQ (aB (aM fol) f) s 1]:=by
 obtain⟨e,g,i,j⟩:=h.eps;have a:cC (aB (aM fol) f) (aQ [y,s,o,f] 0)≠0:=mj (c:=y) (by rw[iG];omega);have b:cC (aB (aM fol) f) (aQ [y,s,o,f] 2)≠0:=mj (c:=o) (by rw[iG];omega);have d:cC (aB (aM fol) f) (aQ [y,s,o,f] 3)≠0:=mj (c:=f) (by rw[iG];omega);unfold eH;rw[show [y,s,o,f].length=4 from I,wH h.ys h.yo h.yf h.so h.sf h.of,jQ,mf a,jQ,zR (c:=s) I h.hs,jQ,mf b,
  jQ,mf d,qj]
theorem dU.cand2(h:dU fol y s o f):eH (aB (aB (aM fol) f) s) [y,s,o,f]=[bQ (aB (aB (aM fol) f) s) y 0,bQ (aB (aB (aM fol) f) s) o 2]:=by
 obtain⟨d,e,g,i⟩:=h.eps;have a:cC (aB (aB (aM fol) f) s) (aQ [y,s,o,f] 1)≠0:=mj (c:=s) (by rw[iG];omega);have b:cC (aB (aB (aM fol) f) s) (aQ [y,s,o,f] 3)≠0:=mj (c:=f) (by rw[iG];omega);unfold eH;rw[show [y,s,o,f].length=4 from I,wH h.ys h.yo h.yf h.so h.sf h.of,jQ,zR (c:=y) I h.hy,jQ,mf a,jQ,zR (c:=o) I h.ho,
  jQ,mf b,qj]
theorem dU.cand3(h:dU fol y s o f){g:Grp}(i:g.epoch=3):eH g [y,s,o,f]=[]:=by
 obtain⟨j,k,l,m⟩:=h.eps;have a:cC g (aQ [y,s,o,f] 0)≠0:=mj (c:=y) Y;have b:cC g (aQ [y,s,o,f] 1)≠0:=mj (c:=s) Y;have d:cC g (aQ [y,s,o,f] 2)≠0:=mj (c:=o) Y;have e:cC g (aQ [y,s,o,f] 3)≠0:=mj (c:=f) Y;unfold eH;rw[show [y,s,o,f].length=4 from I,wH h.ys h.yo h.yf h.so h.sf h.of,jQ,mf a,jQ,mf b,jQ,mf d,
  jQ,mf e,qj]
theorem dU.list2(h:dU fol y s o f):eS (aB (aB (aM fol) f) s) [y,s,o,f]=[bQ (aB (aB (aM fol) f) s) o 2,bQ (aB (aB (aM fol) f) s) y 0]:=by
 have a:(iE (bQ (aB (aB (aM fol) f) s) o 2) (bQ (aB (aB (aM fol) f) s) y 0)<0)↔gT (aB (aB (aM fol) f) s) o y:=by
  rw[CZ (by unfold bQ;exact h.auth)];unfold bQ gT;exact Iff.rfl
 unfold eS;rw[h.cand2,EI,jE];unfold leC;rw[qo (a.2 h.ahead)]
 decide
theorem dU.win1(h:dU fol y s o f):et (aB (aM fol) f) [y,s,o,f]=A (bQ (aB (aM fol) f) s 1):=by
 unfold et eS;rw[h.cand1,xi,r5,r6];unfold fT;rw[jE (by unfold rR;rw[List.any_nil];decide)];unfold wu;rw[jr I]
theorem dU.win2(h:dU fol y s o f):et (aB (aB (aM fol) f) s) [y,s,o,f]=A (bQ (aB (aB (aM fol) f) s) o 2):=by
 unfold et;rw[h.list2];exact yB (x:=bQ (aB (aB (aM fol) f) s) o 2) (y:=bQ (aB (aB (aM fol) f) s) y 0) h.auth h.ro
theorem dU.win3(h:dU fol y s o f){g:Grp}(a:g.epoch=3):et g [y,s,o,f]=jf:=by
 unfold et eS;rw[h.cand3 a,xj,r6]
theorem rM(g:Grp)(c:Cmt)(i:ja):(bQ g c i).leads=aB g c:=by unfold bQ;dsimp only
theorem dU.chain(h:dU fol y s o f):ft fol (aG f) [y,s,o,f]=[⟨3,f,aG f,0,aB (aM fol) f⟩,bQ (aB (aM fol) f) s 1,bQ (aB (aB (aM fol) f) s) o 2]:=by
 obtain⟨c,d,e,a⟩:=h.eps;have b:(bQ (aB (aB (aM fol) f) s) o 2).leads.epoch=3:=by rw[rM,iG];exact a
 rw[zk,h.first];dsimp only;rw[vW];dsimp only;rw[h.win1];dsimp only;rw[vW,rM,h.win2];dsimp only;rw[vW,h.win3 b]
theorem dU.all(h:dU fol y s o f):sO [y,s,o,f] ⟨3,f,aG f,0,aB (aM fol) f⟩=[⟨3,f,aG f,0,aB (aM fol) f⟩,bQ (aB (aM fol) f) s 1,bQ (aB (aB (aM fol) f) s) o 2,bQ (aB (aB (aM fol) f) s) y 0]:=by
 obtain⟨j,l,b,d⟩:=h.eps;have e:eS (aB (aM fol) f) [y,s,o,f]=[bQ (aB (aM fol) f) s 1]:=by unfold eS;rw[h.cand1,xi]
 have a:∀g:Grp,g.epoch=3->eS g [y,s,o,f]=[]:=λg i=>by unfold eS;rw[h.cand3 i,xj]
 have s1:eG [y,s,o,f] ⟨3,f,aG f,0,aB (aM fol) f⟩ 1=[⟨3,f,aG f,0,aB (aM fol) f⟩,bQ (aB (aM fol) f) s 1]:=by
  rw[eG,eG,rh (c:=⟨3,f,aG f,0,aB (aM fol) f⟩) I];dsimp only;rw[e];rfl
 have s2:eG [y,s,o,f] ⟨3,f,aG f,0,aB (aM fol) f⟩ 2=[⟨3,f,aG f,0,aB (aM fol) f⟩,bQ (aB (aM fol) f) s 1,bQ (aB (aB (aM fol) f) s) o 2,bQ (aB (aB (aM fol) f) s) y 0]:=by
  rw[eG,s1,rh (c:=bQ (aB (aM fol) f) s 1) I,rM,h.list2];rfl
 unfold sO;show eG _ _ 4=_;rw[eG,eG,s2,rh (k:=2) (c:=bQ (aB (aB (aM fol) f) s) o 2) I,a _ (by rw[rM,iG];exact d),qe,
  rh (k:=3) (c:=bQ (aB (aB (aM fol) f) s) y 0) rfl,a _ (by rw[rM,iG];exact b),qe]
end
end
theorem Oy:bL 4:=by
 refine⟨by decide,by decide,?_⟩;rw[<-wA _ QN 62 L]
 decide+kernel
theorem SQ:bL 16:=by
 refine⟨by decide,by decide,?_⟩;rw[<-wA _ QN 62 L]
 decide+kernel
theorem Ny(a:0<=d)(b:d<512)(x:T):lE (512+d) x=decide (x∈(512+d)::bW d):=by
 by_cases h:x∈(512+d)::bW d
 ·rw[qo h,ui ((pj d a b x).1 h)]
 rw[decide_eq_false h,Ex (λc=>h ((pj d a b x).2 c))]
def kY(t:jg (T×T))(d:T):jg (T×T):=t.filter λe=> !decide (e.1∈(512+d)::bW d)
theorem ze(a:0<=d)(b:d<512)(t:jg (T×T)):dI t d=kY t d:=by
 unfold dI kY;refine List.filter_congr λe _=>?_
 rw[Ny a b]
def vd(b:jg (T×T))(d:T)(l:jg T):ja->jg (T×T)
 |0=>b
 |k+1=>en ((512+d)/2^k,l.getD k 0) (vd b d l k)
theorem Ei(t:jg (T×T))(d:T)(l:jg T):∀k,eL t d l k=vd (dI t d) d l k
 |0=>rfl
 |k+1=>by unfold eL vd;rw[Ei t d l k]
def pV:jg (T×T)->jC
 |[]=>ji
 |[_]=>ji
 |x::y::r=>decide (x.1<y.1)&&pV (y::r)
theorem Ig:∀{t:jg (T×T)} {x:T×T},pV (x::t)=ji->∀e∈t,x.1<e.1
 |[],x,_,e,he=>by cases he
 |y::r,x,h,e,he=>by
  simp only[pV,j7,decide_eq_true_eq]at h
  rcases qh.1 he with rfl|he
  ·exact h.1
  have:=Ig h.2 e he;omega
theorem G2:∀{t:jg (T×T)},pV t=ji->Str t
 |[],_=>List.Pairwise.nil
 |[x],_=>List.pairwise_singleton _ _
 |x::y::r,h=>by
  refine sy.2 ⟨Ig h,G2 ?_⟩;simp only[pV,j7]at h;exact h.2
def ED(t:jg (T×T)):jC:=
 pV t&&t.all λe=>decide (1<=e.1)&&decide (e.1<=1023)&&(decide (e.2=4)||decide (e.2=16))&&t.any λf=>decide (512<=f.1)&&decide (f.1<=1023)&&decide (e.1∈f.1::bW (f.1-512))
theorem Qo(h:ED t=ji):fV t:=by
 unfold ED at h;simp only[j7,wv,xd,decide_eq_true_eq,wx]at h;refine⟨G2 h.1,λe he=>?_⟩;obtain⟨⟨⟨b,c⟩,a⟩,f,d,⟨g,j⟩,i⟩:=h.2 e he;refine⟨b,c,?_,f,d,g,?_⟩
 ·rcases a with a|a
  ·rw[a];exact Oy
  rw[a];exact SQ
 have:=(pj (f.1-512) Y Y e.1).1;rw[show 512+(f.1-512)=f.1 by omega]at this;exact this i
theorem Gb:df []=0:=tx (Qo (by decide+kernel))
theorem wh(n:ja):bL ((aY 4 n:ja):T):=pi (a:=4) mY n
theorem Fc(h:b<512):oS (cR b):=⟨⟨by show(0:T)<=(b:T);omega,by show(b:T)<512;omega⟩,.inl ⟨I,wh _,wh _,I⟩⟩
theorem D3(h:b<512)(a:M<=1048576):oS (dJ b M):=⟨⟨by show(0:T)<=(b:T);omega,by show(b:T)<512;omega⟩,.inr (.inl ⟨I,I,I,by show(0:T)<=(M:T);omega,by show(M:T)<=1048576;omega⟩)⟩
theorem uk(h:oS U):eU [U]:=⟨λy a=>by
 rw[jP]at a;rw[a];exact h,by simp,by simp⟩
theorem SP:cA []=[]:=by decide+kernel
theorem JA(a:kp d):dC (aM d) where
 fol:=a
 ep:=⟨Int.le_refl _,by show(0:T)<=1099511627776;omega⟩
 tree:=Gb
 zero:=λ_=>⟨I,I⟩
 dev:=SP.symm
 ok:=λm b=>by cases b
theorem oM{l:jg aJ}{o:jG aJ}(h:cZ l d=o):cD l d=o.isSome:=by rw[<-uG,h]
theorem rH{m:aJ}(h:cZ a.mem d=A m):dP a d e=m.ver:=by
 unfold dP;have l:(a.mem.find? λm=>m.dev==d)=A m:=h;rw[l]
theorem Co{m:aJ}(h:cZ a.mem d=A m):dW a d=m.since:=by
 unfold dW;rw[h];rfl
theorem zG:m7 [U] U.d=A U:=by unfold m7;simp
theorem zv(h:U.d≠d):m7 [U] d=jf:=by unfold m7;simp[h]
theorem A9(c:cD a.mem d=ji)(g:0<a.epoch)(e:cD a.mem U.d=decide (U.k≠1))(f:U.d≠d):gN a d [U]:=
 ⟨by rw[c,qo g],λh=>by omega,λy b=>by
  rw[jP]at b;rw[b];exact⟨e,λ_=>f⟩⟩
theorem wO(x:a.epoch<1099511627776)(c:dt a d e=0)(f:1<=b)(i:b<2305843009213688669)(g:dP a d e=((aY 4 b:ja):T)):ie a d (b:T) e=0:=by
 unfold ie;rw[jE Y,jE (λh=>h c),jE Y,jE (λh=>h (by rw[g,qK]))]
theorem uJ{g:Grp}{a:T}{x:ja}{c:jg ar}{b init:LBy}{d:jg Bx}{e:jg Wl}(h:g.folder=g'.folder)(f:g.epoch=g'.epoch)(i:g.last=g'.last):mkF g a x c b init d e=mkF g' a x c b init d e:=by
 have j:nB g a c b init d e=nB g' a c b init d e:=by unfold nB;rw[h,f,i]
 have k:dL g b init=dL g' b init:=by unfold dL;rw[f]
 have l:lH g a c b init d e=lH g' a c b init d e:=by unfold lH;rw[j,k]
 unfold mkF;rw[l]
noncomputable def bF:Cmt:=mkC (aM 3) 1 3 [cR 1] (kz 1) (kz 1) (kz 1)
noncomputable def gS1:Grp:=aB (aM 3) bF
noncomputable def bU:Cmt:=mkC gS1 1 3 [cR 0] (kz 2) (kz 1) (kz 2)
noncomputable def cW:Grp:=aB gS1 bU
noncomputable def cS3:Cmt:=mkC cW 0 2 [dJ 1 5] (kz 3) (kz 1) (kz 3)
noncomputable def cN:Cmt:=mkC cW 1 3 [dJ 0 5] (kz 4) (kz 1) (kz 4)
theorem uA(b:j8 8):(kz b).length=32:=by unfold kz;simp
theorem A7:dt (aM 3) 1 [cR 1]=0:=lC.2 ⟨JA L,uk (Fc L),⟨I,λ_=>⟨_,_,I,I⟩,λy a=>by
 rw[jP]at a;rw[a];exact⟨I,λh=>by cases h⟩⟩⟩
theorem lT:gz (aM 3) bF:=se A7 (by show(0:T)<1099511627776;omega) I (uA _)
theorem mr:bF.chg=[cR 1]/\bF.author=1/\bF.epoch=1:=by
 refine⟨?_,?_,lT.ep.trans I⟩<;>rfl
theorem lZ:cZ gS1.mem 1=A ⟨1,1,((aY 4 3:ja):T)⟩/\cZ gS1.mem 0=jf/\gS1.epoch=1:=by
 have a:=Ft lT (d:=1) (y:=cR 1) (by rw[mr.1];exact zG) L;have b:=zM lT (d:=0) (by rw[mr.1];exact zv L);rw[mr.2.2]at a;exact⟨a.1,b.trans I,(iG _ _).trans mr.2.2⟩
theorem A8:dt gS1 1 [cR 0]=0:=lC.2 ⟨gY lT,uk (Fc L),
 A9 (oM lZ.1) (by rw[lZ.2.2];decide) (by rw[show(cR 0).d=0 from I,oM lZ.2.1];rfl) L⟩
theorem li:gz gS1 bU:=se A8 (by rw[lZ.2.2];decide) (rH lZ.1) (uA _)
theorem nS:bU.chg=[cR 0]/\bU.author=1/\bU.epoch=2:=by
 refine⟨I,I,?_⟩;rw[li.ep,lZ.2.2];rfl
theorem fu:cZ cW.mem 1=A ⟨1,1,((aY 4 3:ja):T)⟩/\cZ cW.mem 0=A ⟨0,2,((aY 4 2:ja):T)⟩/\cW.epoch=2:=by
 have a:=Ft li (d:=0) (y:=cR 0) (by rw[nS.1];exact zG) L;have b:=zM li (d:=1) (by rw[nS.1];exact zv L);rw[nS.2.2]at a;exact⟨b.trans lZ.1,a.1,(iG _ _).trans nS.2.2⟩
theorem yK:dt cW 0 [dJ 1 5]=0:=lC.2 ⟨gY li,uk (D3 L L),
 A9 (oM fu.2.1) (by rw[fu.2.2];decide) (by rw[show(dJ 1 5).d=1 from I,oM fu.1];rfl) L⟩
theorem D9:gz cW cS3:=se yK (by rw[fu.2.2];decide) (rH fu.2.1) (uA _)
theorem zA:dt cW 1 [dJ 0 5]=0:=lC.2 ⟨gY li,uk (D3 L L),
 A9 (oM fu.1) (by rw[fu.2.2];decide) (by rw[show(dJ 0 5).d=0 from I,oM fu.2.1];rfl) L⟩
theorem mU:gz cW cN:=se zA (by rw[fu.2.2];decide) (rH fu.1) (uA _)
theorem iO:cS3.chg=[dJ 1 5]/\cS3.author=0/\cN.chg=[dJ 0 5]/\cN.author=1:=⟨I,I,I,I⟩
theorem SF:gT cW cN cS3:=by
 left
 rw[iO.2.2.2,iO.2.1,Co fu.1,Co fu.2.1]
 decide
theorem wn:ie (aM 3) 1 (3:ja) [cR 1]=0/\ie gS1 1 (3:ja) [cR 0]=0/\ie cW 0 (2:ja) [dJ 1 5]=0/\ie cW 1 (3:ja) [dJ 0 5]=0:=
 ⟨wO (by show(0:T)<1099511627776;omega) A7 L L rfl,wO (by rw[lZ.2.2];decide) A8 L L (rH lZ.1),
  wO (by rw[fu.2.2];decide) yK L L (rH fu.2.1),wO (by rw[fu.2.2];decide) zA L L (rH fu.1)⟩
theorem Jq(a:aG cS3≠aG bU)(b:aG cS3≠aG cN)(c:aG cS3≠aG bF)(d:aG bU≠aG cN)(e:aG bU≠aG bF)(f:aG cN≠aG bF):dU 3 cS3 bU cN bF where
 ys:=a
 yo:=b
 yf:=c
 so:=d
 sf:=e
 of:=f
 hf:=fW.2 lT
 hs:=fW.2 li
 hy:=fW.2 D9
 ho:=fW.2 mU
 auth:=by rw[iO.2.2.2,iO.2.1];decide
 ahead:=SF
 ro:=by unfold gS;rw[iO.2.2.1,iO.2.1];decide
theorem Jv(g:Grp)(c:Cmt)(i:ja):(bQ g c i).id=aG c:=by unfold bQ;dsimp only
theorem Jl(g:Grp)(c:Cmt)(i:ja):(bQ g c i).com=c:=by unfold bQ;dsimp only
theorem ML(h:dU 3 cS3 bU cN bF)(a:T):eI (aG bU) 0 a jo (ft 3 (aG bF) [cS3,bU,cN,bF])=decide (a<=5):=by
 have b:cD (aB (aB (aM 3) bF) bU).mem 0=ji:=oM fu.2.1;have c:¬aG bF=aG bU:=λe=>h.sf e.symm
 have d:(cN.chg.find? λx=>x.d==0&&x.k !=1)=A (dJ 0 5):=by rw[iO.2.2.1];rfl
 rw[h.chain,eI];dsimp only;rw[jE c,eI,jr (Jv _ _ _),rM,jr b,eI,Jl,d]
 rfl
theorem Ts(h:dU 3 cS3 bU cN bF):(aB cW cN).mem.length=1:=by
 have n:=gY mU;have o:=If mU (d:=0) (y:=dJ 0 5) (by rw[iO.2.2.1];exact zG) I;have g:=zM mU (d:=1) (by rw[iO.2.2.1];exact zv L);rw[fu.1]at g;have c:∀m∈(aB cW cN).mem,m=⟨1,1,((aY 4 3:ja):T)⟩:=λm j=>by
  rcases(pI mU m).1 j with⟨f,i⟩|⟨x,a,b,rfl⟩
  ·rcases(pI li m).1 f with⟨k,p⟩|⟨x,a,b,rfl⟩
   ·rcases(pI lT m).1 k with⟨l,-⟩|⟨x,a,b,rfl⟩
    ·cases l
    rw[mr.1,jP]at a;subst a;rw[mr.2.2];rfl
   rw[nS.1,jP]at a;subst a;exact ju I (i (dJ 0 5) (by rw[iO.2.2.1];exact jP.2 I))
  rw[iO.2.2.1,jP]at a;subst a;exact ju I b
 have i:=((sV (sd mU) _ _).1 g).1;have f:=sd mU
 cases e:(aB cW cN).mem with
 |nil=>rw[e]at i;cases i
 |cons m l=>
  rcases l with _|⟨k,p⟩
  ·rfl
  rw[e]at c f;have a:=c m (qy ..);have b:=c k (qz _ (qy ..));rw[a,b]at f;simp at f
theorem Mg(a:df t=0)(b:0<=d)(c:d<512):dF t d jo=0:=by
 unfold dF;rw[jr a,jE];rintro(h|h|⟨h,-⟩)
 ·omega
 ·omega
 cases h
theorem MD{x:T}(a:df t=0)(b:0<=d)(c:d<512)(e:bL x):gK t d x=0:=by
 unfold gK;rw[jr (Mg a b c),jr (gF e)]
theorem C0{x:T}(c:df t=0)(a:0<=d)(b:d<512)(e:bL x):kU t d x=en (512+d,x) (kY t d):=by
 unfold kU;rw[jr (MD c a b e),ze a b]
theorem Rm(a:df t=0)(c:0<=d)(e:d<512)(b:bG t (512+d)≠jf):dF t d ji=0:=by
 unfold dF;rw[jr a,jE];rintro(h|h|⟨-,h⟩)
 ·omega
 ·omega
 exact b h
theorem Gu(c:df t=0)(a:0<=d)(b:d<512)(e:bG t (512+d)≠jf):kK t d=kY t d:=by
 unfold kK;rw[jr (Rm c a b e),ze a b]
theorem FC{l:jg T}(h:eZ t d l=0)(a:0<=d)(b:d<512):gr t d l=vd (kY t d) d l 10:=by
 unfold gr;rw[jr h,Ei,ze a b]
theorem CH(a:LBy):∃b c d e f g h i j k:T,dA a=[b,c,d,e,f,g,h,i,j,k]:=by
 unfold dA;exact⟨_,_,_,_,_,_,_,_,_,_,I⟩
theorem Fy(g:Grp)(c:Cmt):(aB g c).tree=gr (aX g.tree c.chg) c.author c.path:=by unfold aB;dsimp only
theorem GH:aX (aM 3).tree [cR 1]=[(513,((aY 4 3:ja):T))]:=by
 show kU [] 1 ((aY 4 3:ja):T)=_;rw[C0 Gb L L (wh _)]
 rfl
theorem M4:∃a b c d f g i j k l:T,gS1.tree=[(1,l),(2,k),(4,j),(8,i),(16,g),(32,f),(64,d),(128,c),(256,b),(513,a)]:=by
 obtain⟨a,b,c,d,f,g,i,j,k,l,m⟩:=CH (kz 1);refine⟨a,b,c,d,f,g,i,j,k,l,?_⟩;have h:=lT.ren;have e:gS1.tree=gr (aX (aM 3).tree bF.chg) bF.author bF.path:=Fy _ _;have n:bF.path=dA (kz 1):=(yI (aM 3) 1 3 [cR 1] (kz 1) (kz 1) (kz 1)).2.2.2.2.2;rw[mr.1,mr.2.1,n]at h e;rw[e,FC h L L,GH,m];generalize((aY 4 3:ja):T)=q;have:kY [(513,q)] 1=[]:=by
  unfold kY;rw[qL (by show ¬(!decide ((513:T)∈(512+1)::bW 1))=ji;decide+kernel),qk]
 rw[this]
 rfl
theorem pz0:bW 0=[256,128,64,32,16,8,4,2,1]:=by decide+kernel
theorem pz1:bW 1=[256,128,64,32,16,8,4,2,1]:=by decide+kernel
theorem Bh:∃a:T,aX gS1.tree [cR 0]=[(512,((aY 4 2:ja):T)),(513,a)]:=by
 obtain⟨a,c,d,f,g,h,i,j,k,l,e⟩:=M4;have b:df gS1.tree=0:=(gY lT).tree;refine⟨a,?_⟩;show kU gS1.tree 0 ((aY 4 2:ja):T)=_;rw[C0 b L L (wh _),e];generalize((aY 4 2:ja):T)=q;unfold kY;rw[pz0]
 rfl
theorem Sw:∃a r1 r2 r3 b c d f g i:T,cW.tree=[(1,i),(2,g),(4,f),(8,d),(16,c),(32,b),(64,r3),(128,r2),(256,r1),(512,((aY 4 2:ja):T)),(513,a)]:=by
 obtain⟨m,j⟩:=Bh;obtain⟨a,r1,r2,r3,b,c,d,f,g,i,k⟩:=CH (kz 2);refine⟨a,r1,r2,r3,b,c,d,f,g,i,?_⟩;have h:=li.ren;have e:cW.tree=gr (aX gS1.tree bU.chg) bU.author bU.path:=Fy _ _;have l:bU.path=dA (kz 2):=(yI gS1 1 3 [cR 0] (kz 2) (kz 1) (kz 2)).2.2.2.2.2;rw[nS.1,nS.2.1,l]at h e;rw[e,FC h L L,j,k];generalize((aY 4 2:ja):T)=q;unfold kY;rw[pz1]
 rfl
theorem Nn:aX cW.tree [dJ 1 5]=[(512,((aY 4 2:ja):T))]/\∃a:T,aX cW.tree [dJ 0 5]=[(513,a)]:=by
 obtain⟨a,r1,r2,r3,c,d,f,g,i,j,e⟩:=Sw;have b:df cW.tree=0:=(gY li).tree;refine⟨?_,a,?_⟩
 ·show kK cW.tree 1=_
  rw[Gu b L L (by rw[e];exact λh=>by cases h),e];generalize((aY 4 2:ja):T)=q;unfold kY;rw[pz1]
  rfl
 show kK cW.tree 0=_;rw[Gu b L L (by rw[e];exact λh=>by cases h),e];generalize((aY 4 2:ja):T)=q;unfold kY;rw[pz0]
 rfl
theorem mK(h:fV t){x:T}(a:1<=x)(b:x<=1023):fb t x=di (bG t) (hgt x.toNat) x.toNat:=by
 have e:lS t x=0:=by unfold lS;rw[jr (tx h),jE Y]
 unfold fb;rw[jr e]
theorem R6:ig 0=[513,257,129,65,33,17,9,5,3]:=by decide+kernel
theorem zY:ig 1=[512,257,129,65,33,17,9,5,3]:=by decide+kernel
theorem wM{b:T}(h:fV t)(c:ig d=[b,257,129,65,33,17,9,5,3])(a:1<=b)(e:b<=1023){r:jg (jg T)}(f:(([b,257,129,65,33,17,9,5,3]:jg T).map λx=>di (bG t) (hgt x.toNat) x.toNat)=r):
 eo t d=(r.zipIdx 1).flatMap λx=>x.1.map λn=>((x.2:T),n):=by
 unfold eo fw;rw[c,<-f];simp only[jY,jU,List.zipIdx_cons,List.zipIdx_nil,xk,xl];rw[mK h a e,mK h (x:=257) L L,mK h (x:=129) L L,mK h (x:=65) L L,mK h (x:=33) L L,
  mK h (x:=17) L L,mK h (x:=9) L L,mK h (x:=5) L L,mK h (x:=3) L L]
theorem uU(h:dt a d e=0):fV (aX a.tree e):=by
 obtain⟨b,c,g⟩:=lC.1 h;exact(oX e _ (lP b.tree) (rm b c g)).1
theorem FG:∀p:T,(([512,257,129,65,33,17,9,5,3]:jg T).map λx=>di (bG [(513,p)]) (hgt x.toNat) x.toNat)=[[],[],[],[],[],[],[],[],[]]:=by intro p;kernel_rfl
theorem Tu:∀p:T,(([513,257,129,65,33,17,9,5,3]:jg T).map λx=>di (bG [(512,p)]) (hgt x.toNat) x.toNat)=[[],[],[],[],[],[],[],[],[]]:=by intro p;kernel_rfl
theorem Ud:∀p q:T,(([512,257,129,65,33,17,9,5,3]:jg T).map λx=>di (bG [(512,p),(513,q)]) (hgt x.toNat) x.toNat)=[[512],[],[],[],[],[],[],[],[]]:=by intro p q;kernel_rfl
theorem wS:eo (aX (aM 3).tree [cR 1]) 1=[]/\eo (aX gS1.tree [cR 0]) 1=[(1,512)]/\eo (aX cW.tree [dJ 1 5]) 0=[]/\eo (aX cW.tree [dJ 0 5]) 1=[]:=by
 obtain⟨e,b⟩:=Bh;obtain⟨c,f,d⟩:=Nn;refine⟨?_,?_,?_,?_⟩
 ·have a:(([512,257,129,65,33,17,9,5,3]:jg T).map λx=>di (bG (aX (aM 3).tree [cR 1])) (hgt x.toNat) x.toNat)=[[],[],[],[],[],[],[],[],[]]:=by rw[GH];exact FG _
  rw[wM (uU A7) zY L L a]
  rfl
 ·have a:(([512,257,129,65,33,17,9,5,3]:jg T).map λx=>di (bG (aX gS1.tree [cR 0])) (hgt x.toNat) x.toNat)=[[512],[],[],[],[],[],[],[],[]]:=by rw[b];exact Ud _ _
  rw[wM (uU A8) zY L L a]
  rfl
 ·have a:(([513,257,129,65,33,17,9,5,3]:jg T).map λx=>di (bG (aX cW.tree [dJ 1 5])) (hgt x.toNat) x.toNat)=[[],[],[],[],[],[],[],[],[]]:=by rw[c];exact Tu _
  rw[wM (uU yK) R6 L L a]
  rfl
 have a:(([512,257,129,65,33,17,9,5,3]:jg T).map λx=>di (bG (aX cW.tree [dJ 0 5])) (hgt x.toNat) x.toNat)=[[],[],[],[],[],[],[],[],[]]:=by rw[d];exact FG _
 rw[wM (uU zA) zY L L a]
 rfl
theorem wI:du 1 [cR 1]=[]/\du 1 [cR 0]=[cR 0]/\du 0 [dJ 1 5]=[]/\du 1 [dJ 0 5]=[]:=by
 refine⟨?_,?_,?_,?_⟩
 ·unfold du kZ
  rw[qL L,qk];simp[fh]
 ·unfold du kZ
  rw[List.filter_cons_of_pos L,qk];simp[fh]
 ·unfold du kZ
  rw[qL L,qk];simp[fh]
 unfold du kZ;rw[qL L,qk];simp[fh]
section
set_option maxRecDepth 1000000
def bzn(k n:ja):LBy:=(rn k).map λi=>BitVec.ofNat 8 (n/256^(k-1-i))
def bz(n:ja):LBy:=bzn 32 n
theorem vf{a:Grp}{d:T}{b:ja}{e:jg ar}{i o:LBy}{r:jg Bx}{H:jg Wl}{x:jg T}{y body h msg:LBy}{M z:ja}
 (k:ma i=x) (l:dL a i o=y) (j:c8 kP ((aP ⟨a.folder,a.epoch+1,a.last,d,e,x,r,H,cI,0,0⟩).take 8)=body) (m:ko y body=h)
 (n:dq ⟨a.folder,a.epoch+1,a.last,d,e,x,r,H,h,0,0⟩=msg) (init:pw 4 (iU b msg)=M) (p:ni b msg=z):
 mkF a d b e i o r H=⟨a.folder,a.epoch+1,a.last,d,e,x,r,H,h,(M:ja),(z:ja)⟩:=by
 have q:nB a d e i o r H=⟨a.folder,a.epoch+1,a.last,d,e,x,r,H,cI,0,0⟩:=by unfold nB;rw[k]
 have t:lH a d e i o r H=⟨a.folder,a.epoch+1,a.last,d,e,x,r,H,h,0,0⟩:=by
  unfold lH;rw[q,l];dsimp only at j⊢;rw[j,m]
 unfold mkF;rw[t,n,init,p]
theorem GU:aA (kz 1) 1=bz 92947053214586472348261825333834548428676820749397000367760927962054231880206:=by rw[aA,aA];decide+kernel
theorem EY:aA (kz 1) 2=bz 110269909067070830460258195486788993570795853927037390172319513479910842111086:=by rw[aA,GU];decide+kernel
theorem Cs:aA (kz 1) 3=bz 25892258339256454676443945956354232645023697359747327914787591083075305642554:=by rw[aA,EY];decide+kernel
theorem BR:aA (kz 1) 4=bz 38690980210331588110400036669245523398886357721832508197118173294600712690993:=by rw[aA,Cs];decide+kernel
theorem EB:aA (kz 1) 5=bz 44385089301805622807802772369333755547620878409928888610337709062735322103782:=by rw[aA,BR];decide+kernel
theorem Is:aA (kz 1) 6=bz 89203680705282144270341728638031108040740304520070780012083671599142392496052:=by rw[aA,EB];decide+kernel
theorem DX:aA (kz 1) 7=bz 100551540601728949310560055356990068823531297451471705944642868317943424802089:=by rw[aA,Is];decide+kernel
theorem Ga:aA (kz 1) 8=bz 80773885239101932582560612707767667507454745959666497068145301597327502169229:=by rw[aA,DX];decide+kernel
theorem CX:aA (kz 1) 9=bz 32932589713238151175116942116042105857792114562720779989060310603950895136414:=by rw[aA,Ga];decide+kernel
theorem TW:pw 4 (aU (aA (kz 1) 0))=3982525525669097395:=by rw[aA];decide+kernel
theorem Mh:pw 4 (aU (aA (kz 1) 1))=3368371570921412518:=by rw[GU];decide+kernel
theorem Tm:pw 4 (aU (aA (kz 1) 2))=2420363809147598689:=by rw[EY];decide+kernel
theorem MU:pw 4 (aU (aA (kz 1) 3))=53518799388614053:=by rw[Cs];decide+kernel
theorem Qm:pw 4 (aU (aA (kz 1) 4))=2894597427308308891:=by rw[BR];decide+kernel
theorem Pt:pw 4 (aU (aA (kz 1) 5))=2396399926350998175:=by rw[EB];decide+kernel
theorem Q6:pw 4 (aU (aA (kz 1) 6))=3259069423189128266:=by rw[Is];decide+kernel
theorem Qb:pw 4 (aU (aA (kz 1) 7))=1205985981775409817:=by rw[DX];decide+kernel
theorem Lz:pw 4 (aU (aA (kz 1) 8))=2101393345108455879:=by rw[Ga];decide+kernel
theorem Lc:pw 4 (aU (aA (kz 1) 9))=2875087179471260367:=by rw[CX];decide+kernel
def pl1:jg T:=[3982525525669097395,3368371570921412518,2420363809147598689,53518799388614053,2894597427308308891,2396399926350998175,3259069423189128266,1205985981775409817,2101393345108455879,2875087179471260367]
theorem pa1:ma (kz 1)=pl1:=by
 show [((pw 4 (aU (aA (kz 1) 0)):ja):T),((pw 4 (aU (aA (kz 1) 1)):ja):T),((pw 4 (aU (aA (kz 1) 2)):ja):T),((pw 4 (aU (aA (kz 1) 3)):ja):T),((pw 4 (aU (aA (kz 1) 4)):ja):T),((pw 4 (aU (aA (kz 1) 5)):ja):T),((pw 4 (aU (aA (kz 1) 6)):ja):T),((pw 4 (aU (aA (kz 1) 7)):ja):T),((pw 4 (aU (aA (kz 1) 8)):ja):T),((pw 4 (aU (aA (kz 1) 9)):ja):T)]=_;rw[TW,Mh,Tm,MU,Qm,Pt,Q6,Qb,Lz,Lc];rfl
theorem zF:aA (kz 2) 1=bz 7795026126522001566530479997073560168090451678956069711981303104202711385306:=by rw[aA,aA];decide+kernel
theorem Ir:aA (kz 2) 2=bz 78643572629378111538628181399693355582309667718313446362834464818673189624336:=by rw[aA,zF];decide+kernel
theorem Ia:aA (kz 2) 3=bz 114108813753808823508573204213242017525290924912032827683083883622471437070517:=by rw[aA,Ir];decide+kernel
theorem GM:aA (kz 2) 4=bz 113855224720463661563885976400783124269809154446430648728169800553026566981714:=by rw[aA,Ia];decide+kernel
theorem Gn:aA (kz 2) 5=bz 32524229718462889697687133027243686621107296854090295308046354960141566043497:=by rw[aA,GM];decide+kernel
theorem CV:aA (kz 2) 6=bz 56788005722780344953335773866346267966372028095981818404508348894266993562800:=by rw[aA,Gn];decide+kernel
theorem Ie:aA (kz 2) 7=bz 2014910312052460976280735825190903697928716350251033593519941492829749524222:=by rw[aA,CV];decide+kernel
theorem GD:aA (kz 2) 8=bz 76869863361308483062111728667213287504179821872492424401802065332902998049894:=by rw[aA,Ie];decide+kernel
theorem BK:aA (kz 2) 9=bz 72678393599735024128468285507161992898562739420159586140064223818366269839631:=by rw[aA,GD];decide+kernel
theorem Qe:pw 4 (aU (aA (kz 2) 0))=4572362397544290297:=by rw[aA];decide+kernel
theorem Lk:pw 4 (aU (aA (kz 2) 1))=83602551327005630:=by rw[zF];decide+kernel
theorem LI:pw 4 (aU (aA (kz 2) 2))=3980522495517885342:=by rw[Ir];decide+kernel
theorem Q3:pw 4 (aU (aA (kz 2) 3))=861726599088549604:=by rw[Ia];decide+kernel
theorem PY:pw 4 (aU (aA (kz 2) 4))=382661267723870360:=by rw[GM];decide+kernel
theorem Ll:pw 4 (aU (aA (kz 2) 5))=4361949050238618437:=by rw[Gn];decide+kernel
theorem OB:pw 4 (aU (aA (kz 2) 6))=2067886714649420014:=by rw[CV];decide+kernel
theorem TM:pw 4 (aU (aA (kz 2) 7))=2197768742755191226:=by rw[Ie];decide+kernel
theorem Rp:pw 4 (aU (aA (kz 2) 8))=545361312990491382:=by rw[GD];decide+kernel
theorem O2:pw 4 (aU (aA (kz 2) 9))=3014658826702240148:=by rw[BK];decide+kernel
def pl2:jg T:=[4572362397544290297,83602551327005630,3980522495517885342,861726599088549604,382661267723870360,4361949050238618437,2067886714649420014,2197768742755191226,545361312990491382,3014658826702240148]
theorem pa2:ma (kz 2)=pl2:=by
 show [((pw 4 (aU (aA (kz 2) 0)):ja):T),((pw 4 (aU (aA (kz 2) 1)):ja):T),((pw 4 (aU (aA (kz 2) 2)):ja):T),((pw 4 (aU (aA (kz 2) 3)):ja):T),((pw 4 (aU (aA (kz 2) 4)):ja):T),((pw 4 (aU (aA (kz 2) 5)):ja):T),((pw 4 (aU (aA (kz 2) 6)):ja):T),((pw 4 (aU (aA (kz 2) 7)):ja):T),((pw 4 (aU (aA (kz 2) 8)):ja):T),((pw 4 (aU (aA (kz 2) 9)):ja):T)]=_;rw[Qe,Lk,LI,Q3,PY,Ll,OB,TM,Rp,O2];rfl
theorem Eb:aA (kz 3) 1=bz 46904460737930777852346229449928834429062247665295844018793763330700240469376:=by rw[aA,aA];decide+kernel
theorem IG:aA (kz 3) 2=bz 101730935365692994563964248270881352789641712153222409846868437557839033110599:=by rw[aA,Eb];decide+kernel
theorem Ho:aA (kz 3) 3=bz 40728488087116557286746955838157925602660613431526327412489450425897523334074:=by rw[aA,IG];decide+kernel
theorem Gr:aA (kz 3) 4=bz 99179449191126613624578143328970327338626792620640268053248606503718128807850:=by rw[aA,Ho];decide+kernel
theorem Ip:aA (kz 3) 5=bz 56032842510510386555462372023201643267544770558763912154503970267867634372657:=by rw[aA,Gr];decide+kernel
theorem DW:aA (kz 3) 6=bz 53095064823814443809285330713787463797115131544970777857145070560007978820967:=by rw[aA,Ip];decide+kernel
theorem F3:aA (kz 3) 7=bz 43507548118366430520583849677623852436014510882370163507572407360615036361017:=by rw[aA,DW];decide+kernel
theorem G8:aA (kz 3) 8=bz 93436734642940098613090714888553887485458246808041010523669472885772065099764:=by rw[aA,F3];decide+kernel
theorem Iv:aA (kz 3) 9=bz 33975105336812410515559925757825706852335543773340134127742992176516891445595:=by rw[aA,G8];decide+kernel
theorem Te:pw 4 (aU (aA (kz 3) 0))=4471659185962668909:=by rw[aA];decide+kernel
theorem MV:pw 4 (aU (aA (kz 3) 1))=3617808682835033999:=by rw[Eb];decide+kernel
theorem Ka:pw 4 (aU (aA (kz 3) 2))=3001429045986596234:=by rw[IG];decide+kernel
theorem PW:pw 4 (aU (aA (kz 3) 3))=2225913278891432786:=by rw[Ho];decide+kernel
theorem LN:pw 4 (aU (aA (kz 3) 4))=974775673560239181:=by rw[Gr];decide+kernel
theorem Qn:pw 4 (aU (aA (kz 3) 5))=2657093889804896221:=by rw[Ip];decide+kernel
theorem NI:pw 4 (aU (aA (kz 3) 6))=3803846485021874901:=by rw[DW];decide+kernel
theorem T3:pw 4 (aU (aA (kz 3) 7))=4258262581727677338:=by rw[F3];decide+kernel
theorem JZ:pw 4 (aU (aA (kz 3) 8))=204465990907776052:=by rw[G8];decide+kernel
theorem Me:pw 4 (aU (aA (kz 3) 9))=166027103051556743:=by rw[Iv];decide+kernel
def pl3:jg T:=[4471659185962668909,3617808682835033999,3001429045986596234,2225913278891432786,974775673560239181,2657093889804896221,3803846485021874901,4258262581727677338,204465990907776052,166027103051556743]
theorem pa3:ma (kz 3)=pl3:=by
 show [((pw 4 (aU (aA (kz 3) 0)):ja):T),((pw 4 (aU (aA (kz 3) 1)):ja):T),((pw 4 (aU (aA (kz 3) 2)):ja):T),((pw 4 (aU (aA (kz 3) 3)):ja):T),((pw 4 (aU (aA (kz 3) 4)):ja):T),((pw 4 (aU (aA (kz 3) 5)):ja):T),((pw 4 (aU (aA (kz 3) 6)):ja):T),((pw 4 (aU (aA (kz 3) 7)):ja):T),((pw 4 (aU (aA (kz 3) 8)):ja):T),((pw 4 (aU (aA (kz 3) 9)):ja):T)]=_;rw[Te,MV,Ka,PW,LN,Qn,NI,T3,JZ,Me];rfl
theorem Cq:aA (kz 4) 1=bz 50722205186391903595132185935550243514785757736150323968424273179957915260378:=by rw[aA,aA];decide+kernel
theorem Iy:aA (kz 4) 2=bz 101310645668282014026348788696419716451190150362053753708536171234038456856707:=by rw[aA,Cq];decide+kernel
theorem Hr:aA (kz 4) 3=bz 42376911518104537199852456965600289776964293368915876846180987369823919944846:=by rw[aA,Iy];decide+kernel
theorem CC:aA (kz 4) 4=bz 92777326006413517535642294566398491312292136436067891343560110706895332312186:=by rw[aA,Hr];decide+kernel
theorem CO:aA (kz 4) 5=bz 13532582193433087599370014281589388409497560774222296801713207669392413658087:=by rw[aA,CC];decide+kernel
theorem BP:aA (kz 4) 6=bz 95055745239012566121540913178029454666690195084440460800017035152292777760850:=by rw[aA,CO];decide+kernel
theorem GI:aA (kz 4) 7=bz 15529787399067858416926276930027456261191774492478224736741866638593695587050:=by rw[aA,BP];decide+kernel
theorem FZ:aA (kz 4) 8=bz 22492036315392790401503571428077834369844364048405240334831675570703168145467:=by rw[aA,GI];decide+kernel
theorem BQ:aA (kz 4) 9=bz 50776473759655940268073372889152495648905650426791004802066150283028038399796:=by rw[aA,FZ];decide+kernel
theorem Ra:pw 4 (aU (aA (kz 4) 0))=387509236366328249:=by rw[aA];decide+kernel
theorem Nl:pw 4 (aU (aA (kz 4) 1))=3509365028658716024:=by rw[Cq];decide+kernel
theorem Lw:pw 4 (aU (aA (kz 4) 2))=2098131147301025627:=by rw[Iy];decide+kernel
theorem Qa:pw 4 (aU (aA (kz 4) 3))=3393190081034882839:=by rw[Hr];decide+kernel
theorem LM:pw 4 (aU (aA (kz 4) 4))=2977238981076608589:=by rw[CC];decide+kernel
theorem TH:pw 4 (aU (aA (kz 4) 5))=3900264601396445229:=by rw[CO];decide+kernel
theorem P8:pw 4 (aU (aA (kz 4) 6))=1096630281638188484:=by rw[BP];decide+kernel
theorem OK:pw 4 (aU (aA (kz 4) 7))=1923971880346926212:=by rw[GI];decide+kernel
theorem Nc:pw 4 (aU (aA (kz 4) 8))=3249172878372356751:=by rw[FZ];decide+kernel
theorem Mt:pw 4 (aU (aA (kz 4) 9))=4368071318166190663:=by rw[BQ];decide+kernel
def pl4:jg T:=[387509236366328249,3509365028658716024,2098131147301025627,3393190081034882839,2977238981076608589,3900264601396445229,1096630281638188484,1923971880346926212,3249172878372356751,4368071318166190663]
theorem pa4:ma (kz 4)=pl4:=by
 show [((pw 4 (aU (aA (kz 4) 0)):ja):T),((pw 4 (aU (aA (kz 4) 1)):ja):T),((pw 4 (aU (aA (kz 4) 2)):ja):T),((pw 4 (aU (aA (kz 4) 3)):ja):T),((pw 4 (aU (aA (kz 4) 4)):ja):T),((pw 4 (aU (aA (kz 4) 5)):ja):T),((pw 4 (aU (aA (kz 4) 6)):ja):T),((pw 4 (aU (aA (kz 4) 7)):ja):T),((pw 4 (aU (aA (kz 4) 8)):ja):T),((pw 4 (aU (aA (kz 4) 9)):ja):T)]=_;rw[Ra,Nl,Lw,Qa,LM,TH,P8,OK,Nc,Mt];rfl
def gq1:Grp:=⟨3,0,cI,[],[]⟩
theorem se1:dL gq1 (kz 1) (kz 1)=bz 11587432877149456826038772010012695763244694783340461140323635969870305861011:=by unfold dL;rw[CX];decide+kernel
theorem bo1:c8 kP ((aP ⟨3,1,cI,1,[⟨1,1,64,64,0⟩],pl1,[],[],cI,0,0⟩).take 8)=bz 59178843141278552747077220196396757512064675479112619899357449785079483226147:=by decide+kernel
theorem co1:ko (bz 11587432877149456826038772010012695763244694783340461140323635969870305861011) (bz 59178843141278552747077220196396757512064675479112619899357449785079483226147)=bz 103875796824923414196824021614561014878573348506570782549374484912780481974313:=by decide+kernel
theorem ms1:dq ⟨3,1,cI,1,[⟨1,1,64,64,0⟩],pl1,[],[],bz 103875796824923414196824021614561014878573348506570782549374484912780481974313,0,0⟩=bz 98181464338107786806568372226347940484695391662024152663985610118788978991738:=by decide+kernel
theorem sr1:pw 4 (iU 3 (bz 98181464338107786806568372226347940484695391662024152663985610118788978991738))=3775612072464831930:=by decide+kernel
theorem ss1:ni 3 (bz 98181464338107786806568372226347940484695391662024152663985610118788978991738)=830699883390057841:=by decide+kernel
def cq1:Cmt:=⟨3,1,cI,1,[⟨1,1,64,64,0⟩],pl1,[],[],bz 103875796824923414196824021614561014878573348506570782549374484912780481974313,3775612072464831930,830699883390057841⟩
theorem cm1:mkF gq1 1 3 [⟨1,1,64,64,0⟩] (kz 1) (kz 1) [] []=cq1:=vf pa1 se1 bo1 co1 ms1 sr1 ss1
theorem id1:aG cq1=bz 60992011752960795406008006297352343504793997280000501183144456388909801558589:=by decide+kernel
end
section
set_option maxRecDepth 1000000
def gq2:Grp:=⟨3,1,bz 60992011752960795406008006297352343504793997280000501183144456388909801558589,[],[]⟩
def bx2:jg Bx:=[⟨512,1,2801750266817263894,bzn 48 8550460389822551234691172542154060837740394151504701374635927435609034206085716453024328047452611061461299859318243⟩]
def wl2:jg Wl:=[⟨0,3156406232766253868,bzn 48 30328976050764050497863295521349111085652616993088484896582654896404348041333169072959794622030448471618480304798837⟩]
theorem se2:dL gq2 (kz 2) (kz 1)=bz 86300630709454735566991282598813013915515185164968841693825136527240578538799:=by unfold dL;rw[BK];decide+kernel
theorem bo2:c8 kP ((aP ⟨3,2,bz 60992011752960795406008006297352343504793997280000501183144456388909801558589,1,[⟨1,0,16,16,0⟩],pl2,bx2,wl2,cI,0,0⟩).take 8)=bz 111836705245294279712540714532115813126359755190493950792635559288785812804591:=by decide+kernel
theorem co2:ko (bz 86300630709454735566991282598813013915515185164968841693825136527240578538799) (bz 111836705245294279712540714532115813126359755190493950792635559288785812804591)=bz 66874548954937515799626712096825392219475791935152822755709587926395103290192:=by decide+kernel
theorem ms2:dq ⟨3,2,bz 60992011752960795406008006297352343504793997280000501183144456388909801558589,1,[⟨1,0,16,16,0⟩],pl2,bx2,wl2,bz 66874548954937515799626712096825392219475791935152822755709587926395103290192,0,0⟩=bz 60029244016365655121296611949084526167943574304834986623221294609187733568761:=by decide+kernel
theorem sr2:pw 4 (iU 3 (bz 60029244016365655121296611949084526167943574304834986623221294609187733568761))=2686710751992989885:=by decide+kernel
theorem ss2:ni 3 (bz 60029244016365655121296611949084526167943574304834986623221294609187733568761)=1618199608460444900:=by decide+kernel
def cq2:Cmt:=⟨3,2,bz 60992011752960795406008006297352343504793997280000501183144456388909801558589,1,[⟨1,0,16,16,0⟩],pl2,bx2,wl2,bz 66874548954937515799626712096825392219475791935152822755709587926395103290192,2686710751992989885,1618199608460444900⟩
theorem cm2:mkF gq2 1 3 [⟨1,0,16,16,0⟩] (kz 2) (kz 1) bx2 wl2=cq2:=vf pa2 se2 bo2 co2 ms2 sr2 ss2
theorem id2:aG cq2=bz 88992349110045890293031702689725335422885112073919865013635317827805150740113:=by decide+kernel
def gq3:Grp:=⟨3,2,bz 88992349110045890293031702689725335422885112073919865013635317827805150740113,[],[]⟩
theorem se3:dL gq3 (kz 3) (kz 1)=bz 14140827853253934465713609576110972707195609043612048008240041617846791945706:=by unfold dL;rw[Iv];decide+kernel
theorem bo3:c8 kP ((aP ⟨3,3,bz 88992349110045890293031702689725335422885112073919865013635317827805150740113,0,[⟨2,1,0,0,5⟩],pl3,[],[],cI,0,0⟩).take 8)=bz 11965895166114973089929953304706452019811316119355055290507520295581964366986:=by decide+kernel
theorem co3:ko (bz 14140827853253934465713609576110972707195609043612048008240041617846791945706) (bz 11965895166114973089929953304706452019811316119355055290507520295581964366986)=bz 27561883997766735046413595882050119573792003876001794290709968006452573935485:=by decide+kernel
theorem ms3:dq ⟨3,3,bz 88992349110045890293031702689725335422885112073919865013635317827805150740113,0,[⟨2,1,0,0,5⟩],pl3,[],[],bz 27561883997766735046413595882050119573792003876001794290709968006452573935485,0,0⟩=bz 38162426039600690362604798942281649593738812862695932429585278224974558400764:=by decide+kernel
theorem sr3:pw 4 (iU 2 (bz 38162426039600690362604798942281649593738812862695932429585278224974558400764))=1577396955371366354:=by decide+kernel
theorem ss3:ni 2 (bz 38162426039600690362604798942281649593738812862695932429585278224974558400764)=75771689533523714:=by decide+kernel
def cq3:Cmt:=⟨3,3,bz 88992349110045890293031702689725335422885112073919865013635317827805150740113,0,[⟨2,1,0,0,5⟩],pl3,[],[],bz 27561883997766735046413595882050119573792003876001794290709968006452573935485,1577396955371366354,75771689533523714⟩
theorem cm3:mkF gq3 0 2 [⟨2,1,0,0,5⟩] (kz 3) (kz 1) [] []=cq3:=vf pa3 se3 bo3 co3 ms3 sr3 ss3
theorem id3:aG cq3=bz 32371387926736634216535347702442327293048012036282422387908802099916694618635:=by decide+kernel
def gq4:Grp:=⟨3,2,bz 88992349110045890293031702689725335422885112073919865013635317827805150740113,[],[]⟩
theorem se4:dL gq4 (kz 4) (kz 1)=bz 31717900871116426940974248920179605542417805662885447996228938546984442708731:=by unfold dL;rw[BQ];decide+kernel
theorem bo4:c8 kP ((aP ⟨3,3,bz 88992349110045890293031702689725335422885112073919865013635317827805150740113,1,[⟨2,0,0,0,5⟩],pl4,[],[],cI,0,0⟩).take 8)=bz 96895921174342806548929680580763891585996086404844077971508438049742290544176:=by decide+kernel
theorem co4:ko (bz 31717900871116426940974248920179605542417805662885447996228938546984442708731) (bz 96895921174342806548929680580763891585996086404844077971508438049742290544176)=bz 34091518182390227652338508222211088701835031511056991201772480224585938545050:=by decide+kernel
theorem ms4:dq ⟨3,3,bz 88992349110045890293031702689725335422885112073919865013635317827805150740113,1,[⟨2,0,0,0,5⟩],pl4,[],[],bz 34091518182390227652338508222211088701835031511056991201772480224585938545050,0,0⟩=bz 60840287528674358614910522863630861983419329702507194380485367051938083405796:=by decide+kernel
theorem sr4:pw 4 (iU 3 (bz 60840287528674358614910522863630861983419329702507194380485367051938083405796))=1969310725839796123:=by decide+kernel
theorem ss4:ni 3 (bz 60840287528674358614910522863630861983419329702507194380485367051938083405796)=1860957067704991380:=by decide+kernel
def cq4:Cmt:=⟨3,3,bz 88992349110045890293031702689725335422885112073919865013635317827805150740113,1,[⟨2,0,0,0,5⟩],pl4,[],[],bz 34091518182390227652338508222211088701835031511056991201772480224585938545050,1969310725839796123,1860957067704991380⟩
theorem cm4:mkF gq4 1 3 [⟨2,0,0,0,5⟩] (kz 4) (kz 1) [] []=cq4:=vf pa4 se4 bo4 co4 ms4 sr4 ss4
theorem id4:aG cq4=bz 40399255312295421589678605028887707432260949857411389580315019617144268743788:=by decide+kernel
end
section
set_option maxRecDepth 1000000
theorem ex2:dX (kz 2) gP [1,512]=bz 28834796812059796831153880214034695305042619698714721074953174729757338840647:=by decide+kernel
theorem wr2:gj (bz 28834796812059796831153880214034695305042619698714721074953174729757338840647)=1411647746223762745:=by decide+kernel
theorem hd2:iY (kh gq2 1 [⟨1,0,16,16,0⟩] (kz 2)) gP [1,512]=bz 2501810280086358338482877340928844570746966646813275981558870108572385983696:=by decide+kernel
theorem wk2:oo 16 2801750266817263894 1220890677202315452=bz 35782427620651771022322598411519022916935147931825569834900726163485863973335:=by decide+kernel
theorem QH:oR (bz 35782427620651771022322598411519022916935147931825569834900726163485863973335) sC (bz 2501810280086358338482877340928844570746966646813275981558870108572385983696) (bz 7795026126522001566530479997073560168090451678956069711981303104202711385306)=bzn 48 8550460389822551234691172542154060837740394151504701374635927435609034206085716453024328047452611061461299859318243:=by decide+kernel
theorem pb2:pw 4 1411647746223762745=2801750266817263894:=by decide+kernel
theorem pc2:pw 16 1411647746223762745=1220890677202315452:=by decide+kernel
theorem NM:pk gq2 1 [⟨1,0,16,16,0⟩] (kz 2) (kz 2) (1,512) 16=⟨512,1,2801750266817263894,bzn 48 8550460389822551234691172542154060837740394151504701374635927435609034206085716453024328047452611061461299859318243⟩:=by
 unfold pk rB;dsimp only;rw[ex2,wr2,hd2,show aA (kz 2) (1:T).toNat=aA (kz 2) 1 from I,zF,pb2,pc2,wk2,QH];rfl
theorem ex3:dX (kz 2) kA [0]=bz 85658980463103618253254359257392765658075469388387170265357785600735784020057:=by decide+kernel
theorem wr3:gj (bz 85658980463103618253254359257392765658075469388387170265357785600735784020057)=735819052497938333:=by decide+kernel
theorem hd3:iY (kh gq2 1 [⟨1,0,16,16,0⟩] (kz 2)) kA [0]=bz 2477595739808375406656291175005832148916796608310543197002793270942918024589:=by decide+kernel
theorem wk3:oo 16 3156406232766253868 2332544211292724166=bz 37564205058184885572817594063299281707782672538304462235945086542858599395842:=by decide+kernel
theorem Nz:oR (bz 37564205058184885572817594063299281707782672538304462235945086542858599395842) sC (bz 2477595739808375406656291175005832148916796608310543197002793270942918024589) (bz 86300630709454735566991282598813013915515185164968841693825136527240578538799)=bzn 48 30328976050764050497863295521349111085652616993088484896582654896404348041333169072959794622030448471618480304798837:=by decide+kernel
theorem pb3:pw 4 735819052497938333=3156406232766253868:=by decide+kernel
theorem pc3:pw 16 735819052497938333=2332544211292724166:=by decide+kernel
theorem JG:oV gq2 1 [⟨1,0,16,16,0⟩] (kz 2) (kz 1) (kz 2) ⟨1,0,16,16,0⟩=⟨0,3156406232766253868,bzn 48 30328976050764050497863295521349111085652616993088484896582654896404348041333169072959794622030448471618480304798837⟩:=by
 unfold oV rB;dsimp only;rw[ex3,wr3,hd3,se2,show(16:T).toNat=16 from I,pb3,pc3,wk3,Nz];rfl
end
section
set_option maxRecDepth 1000000
theorem wT{b:ja}{H:jg Wl}(f:(eo (aX a.tree e) d).map (eE a d e i y)=r)(h:(du d e).map (fz a d e i o y)=H):
 mkC a d b e i o y=mkF a d b e i o r H:=by
 rw[<-Nu];unfold mkC mk2 mk1 mkX pJ vB;rw[f,h]
theorem Lm:aY 4 3=64:=by rw[ng];decide+kernel
theorem I5:aY 4 2=16:=by rw[ng];decide+kernel
theorem TC:cR 1=⟨1,1,64,64,0⟩:=by
 have h:((aY 4 (1+2):ja):T)=64:=by rw[show 1+2=3 from I,Lm];rfl
 unfold cR;rw[h];rfl
theorem Bv:cR 0=⟨1,0,16,16,0⟩:=by
 have h:((aY 4 (0+2):ja):T)=16:=by rw[show 0+2=2 from I,I5];rfl
 unfold cR;rw[h];rfl
theorem Pi{x:T×T}(g:a.folder=g'.folder)(f:a.epoch=g'.epoch)(h:a.last=g'.last):pk a d e i o x b=pk g' d e i o x b:=by
 have p:kh a d e i=kh g' d e i:=by unfold kh;rw[g,f,h]
 unfold pk;rw[p]
theorem Jp(f:a.folder=g'.folder)(g:a.epoch=g'.epoch)(h:a.last=g'.last):oV a d e i o y U=oV g' d e i o y U:=by
 have c:kh a d e i=kh g' d e i:=by unfold kh;rw[f,g,h]
 have b:dL a i o=dL g' i o:=by unfold dL;rw[g]
 unfold oV;rw[c,b]
theorem Hh(g:Grp)(c:Cmt):(aB g c).folder=g.folder:=by unfold aB;dsimp only
theorem tz:bF=cq1:=by
 have h:bF=mkF (aM 3) 1 3 [cR 1] (kz 1) (kz 1) [] []:=wT (by rw[wS.1];rfl) (by rw[wI.1];rfl);rw[h,uJ (g:=aM 3) (g':=gq1) I I I,TC,cm1]
theorem lF:gS1.folder=gq2.folder/\gS1.epoch=gq2.epoch/\gS1.last=gq2.last:=by
 have a:gS1.last=aG bF:=AK _ _;refine⟨Hh _ _,lZ.2.2,?_⟩;rw[a,tz,id1];rfl
theorem tm:bU=cq2:=by
 obtain⟨e,a⟩:=Bh;have b:tG (aX gS1.tree [cR 0]) (512:T)=16:=by
  rw[a,I5];rfl
 have c:(eo (aX gS1.tree [cR 0]) 1).map (eE gS1 1 [cR 0] (kz 2) (kz 2))=bx2:=by
  rw[wS.2.1,jY,jU,Mm (x:=(1,512)) b,KJ,Pi lF.1 lF.2.1 lF.2.2,Bv,NM];rfl
 have d:(du 1 [cR 0]).map (fz gS1 1 [cR 0] (kz 2) (kz 1) (kz 2))=wl2:=by
  rw[wI.2.1,jY,jU,Tx,Jp lF.1 lF.2.1 lF.2.2,Bv,JG];rfl
 have h:bU=mkF gS1 1 3 [cR 0] (kz 2) (kz 1) bx2 wl2:=wT c d;rw[h,uJ lF.1 lF.2.1 lF.2.2,Bv,cm2]
theorem pQ:cW.folder=gq3.folder/\cW.epoch=gq3.epoch/\cW.last=gq3.last:=by
 have a:cW.last=aG bU:=AK _ _;refine⟨(Hh _ _).trans lF.1,fu.2.2,?_⟩;rw[a,tm,id2];rfl
theorem ug:cS3=cq3:=by
 have h:cS3=mkF cW 0 2 [dJ 1 5] (kz 3) (kz 1) [] []:=wT (by rw[wS.2.2.1];rfl) (by rw[wI.2.2.1];rfl);rw[h,uJ pQ.1 pQ.2.1 pQ.2.2,show dJ 1 5=⟨2,1,0,0,5⟩from I,cm3]
theorem uh:cN=cq4:=by
 have h:cN=mkF cW 1 3 [dJ 0 5] (kz 4) (kz 1) [] []:=wT (by rw[wS.2.2.2];rfl) (by rw[wI.2.2.2];rfl);rw[h,uJ (g':=gq4) pQ.1 pQ.2.1 pQ.2.2,show dJ 0 5=⟨2,0,0,0,5⟩from I,cm4]
theorem oN:dU 3 cS3 bU cN bF:=
 Jq (by rw[ug,tm,id3,id2];decide+kernel) (by rw[ug,uh,id3,id4];decide+kernel) (by rw[ug,tz,id3,id1];decide+kernel)
  (by rw[tm,uh,id2,id4];decide+kernel) (by rw[tm,tz,id2,id1];decide+kernel) (by rw[uh,tz,id4,id1];decide+kernel)
end
section
set_option maxRecDepth 1000000
theorem KW:fI cq1:=by refine⟨?_,?_,?_,?_,?_,?_,?_⟩<;>decide+kernel
theorem Ru:fI cq2:=by refine⟨?_,?_,?_,?_,?_,?_,?_⟩<;>decide+kernel
theorem Kd:fI cq3:=by refine⟨?_,?_,?_,?_,?_,?_,?_⟩<;>decide+kernel
theorem Mr:fI cq4:=by refine⟨?_,?_,?_,?_,?_,?_,?_⟩<;>decide+kernel
theorem lD:cT (aP bF)/\cT (aP bU)/\cT (aP cS3)/\cT (aP cN):=
 ⟨by rw[tz];exact KW.encOk,by rw[tm];exact Ru.encOk,by rw[ug];exact Kd.encOk,by rw[uh];exact Mr.encOk⟩
theorem O7{g:Grp}{vm vt:jk}{d:ja}(j:d<512)(b:j8 8){a:jk}{x:ar}{W:jj}(l:bH W g vm vt)(n:aH (·<W.heap.size) W a 5 1 x.cells)(o:gJ W)(p:ie g (d:T) ((d+2:ja):T) [x]=0)
 (c:Cmt) (r:c=mkC g (d:T) (d+2) [x] (kz b) (kz 1) (kz b)) (f:gz g c) (s:cT (aP c)):
 jB jn 13 #[jh (aD g vm vt).toArray,jd je (d:T),v8 b,a] W λe w'=>∃q h i,e=jy (jI #[jh (aF c q).toArray,jh (aD (aB g c) h i).toArray,.bool ji])/\
  aT (λk=>W.heap.size<=k/\k<w'.heap.size) w' c q/\dN (λk=>W.heap.size<=k/\k<w'.heap.size) w' (aB g c) h i/\jl W W w':=by
 have B:=nN f.val;refine(RE g vm vt d j b a [x] W l (by rw[xk,xl,qe];exact n) o p c r (fW.2 f) s Y Y ao).mono ?_;rintro e w' ⟨q,m,t,k,u,v,w,y,z⟩;exact⟨q,m,t,k,u,dN.of v w y,z⟩
structure SSt(w:jj)(BL:jg (ja×jp jk×jH))(CL:jg CP)(GL:jg (Grp×jk×jk))(x:jj):Prop where
 blk:∀e∈BL,x.heap[e.1]?=A (jc e.2.1 e.2.2 (0,0))
 com:∀p∈CL,aT (·<x.heap.size) x p.1 p.2
 grp:∀p∈GL,bH x p.1 p.2.1 p.2.2
 tab:gJ x
 bel:jl w w x
section
variable {w x x':jj} {BL:jg (ja×jp jk×jH)} {CL:jg CP} {GL:jg (Grp×jk×jk)}
theorem SSt.below(h:SSt w BL CL GL x)(a:jl x x x'):SSt w BL CL GL x':=
 ⟨λe he=>av (h.blk e he) a,λp b=>(h.com p b).below a,λp b=>(h.grp p b).below a,h.tab.below a,h.bel.trans (a.mono h.bel.size)⟩
theorem SSt.block(h:SSt w BL CL GL x){b:ja}{a:jp jk}{t:jH}(c:x.heap[b]?=A (jc a t (0,0))):SSt w ((b,a,t)::BL) CL GL x:=
 ⟨λe he=>(qh.1 he).elim (λd=>d▸c) (h.blk e),h.com,h.grp,h.tab,h.bel⟩
theorem SSt.made(h:SSt w BL CL GL x){c:Cmt}{q:CQ}{g:Grp}{vm vt:jk}{D:ja->Prop}(d:aT D x c q)(e:∀k,D k->k<x.heap.size)(f:bH x g vm vt):SSt w BL ((c,q)::CL) ((g,vm,vt)::GL) x:=
 ⟨h.blk,λp a=>(qh.1 a).elim (λb=>b▸d.mono e) (h.com p),λp a=>(qh.1 a).elim (λb=>b▸f) (h.grp p),h.tab,h.bel⟩
theorem SSt.start(a:gJ w):SSt w [] [] [] w:=⟨λe h=>(by cases h),λe h=>(by cases h),λe h=>(by cases h),a,pz _ _⟩
end
theorem uR{W:jj}{g k:ja}{a:jp jk}{e:jH}(h:W.heap[g]?=A (jc a e (0,0)))(b:a.size=k):aH (·<W.heap.size) W (jb (A ⟨g,0,jf⟩) 1 1) k 1 a.toList:=by
 refine⟨by rw[sA,b,Nat.one_mul],_,1,I,jF _,(λe=>by cases e),λ_=>⟨g,0,I,(jA.1 h).1,λj d c=>?_⟩⟩;rw[qU];exact ah h (ak c)
noncomputable def RCg:eC jn:=.of 30 55 5 40 (jh #[jd je 0,jd je 0,jd je 0,jd je 0,jd je 0]) underlying30 af I L L L
def vN:jk:=jb jf 0 0
def AG3:jp jk:=(aD (aM 3) vN vN).toArray
theorem Ji{a:Act}{o:jK}(b:o.op=.build 29 #[(0,.const (jd je 3))])(W:jj):
 (jN a.eval o).run jn W=.ok (.value (jh AG3)) W:=by
 simp only[jN,b]
 kernel_rfl
theorem SU(w:jj)(f:T):bH w (aM f) vN vN:=
 ⟨⟨rfl,jf,0,rfl,jF _,λ_=>rfl,λh=>ju h (rv _)⟩,nJ w,rfl⟩
end
end Go.Proofs.YtpmlopbaafjefaaGreatDoor
