/- Contracts of functions that the law reaches, part 6 of 10; no condition. -/
import Derived.Test.YthonckffmkefdaaGreatDoorZJ5
namespace Go.Proofs.YthonckffmkefdaaGreatDoor
set_option maxHeartbeats 64000000
set_option maxRecDepth 100000
set_option linter.unusedVariables false
set_option linter.unusedSimpArgs false
set_option linter.unusedSectionVars false
open Go.RowKit
open Go.Proofs.Tryz
open _root_ renaming rfl->I,Int->jb,Nat->jc,List->jg,Array->jq,if_pos->jr,absurd->ju,Bool->jC,if_neg->jD,Option->jG,BitVec->nn,congrArg->qk,of_decide_eq_true->qK,decide_eq_true->qN
open Go.RowKit renaming Hid->N,Below->jk
open _root_.Option renaming some->T,none->jf
open Go.Value renaming slice->A,agg->jh,pointer->jt,tuple->jI,string->ql
open Go.Obj renaming cells->ja
open Go.Value renaming int->jd
open Go.IntKind renaming i64->je
open _root_.Bool renaming true->ji,false->jn,and_eq_true->mz,or_eq_true->wt
open Go renaming World->jj,Value->jl,undef->jm,setRow_other->js,Calls->jB,Oper->jK,wp_region_noPanic->jL,TypeId->jM,execOp->jP,wp_store_row->jQ,setRow_heap->jT,wp_region_lit->jX,Operand->j0,wpList_load_row->j7,below_setRow->nv,Program->oj,wpList_plain->ow,wpOp_step->p6,bodyPost_ret_by->qj,callsIn_wide->qL,run_takeDeferred->qM,wp_store_mid->qP,callsIn_of_wp_marks->r5,bodyPost_ret->r7,results_cell_row->r8
open Go.Proofs.Tryz renaming prog->jo
open Go.World renaming size_alloc->jp,alloc_heap_new->jy,putObj_heap_other->ms,cell?_of_block->qu,ownsRow_nil->qV
open _root_.List renaming size_toArray->jv,length_map->jw,mem_singleton->jO,filterMap_cons->jS,getElem?_eq_some_iff->jU,map_nil->jY,length_cons->jZ,map_cons->j1,mem_of_getElem?->j3,getElem?_toArray->lw,map_append->mb,mem_append->n0,map_toArray->o8,getElem?_append_left->pz,mem_cons_self->qb,mem_cons_of_mem->qc,mem_map->qd,nil_append->qe,length_append->qg,filter_nil->qi,take_of_length_le->qo,find?_eq_none->qs,length_nil->qv,push_toArray->qA,append_toArray->qB,cons_append->qC,append_nil->qD,getElem?_cons_succ->qE,length_take->qG,filterMap_nil->qI,filter_cons_of_neg->qJ,getElem?_map->qQ,append_assoc->qT,append_inj'->qW,setIfInBounds_toArray->qX,set_cons_zero->qY,set_cons_succ->qZ,mem_of_getLast?->q8,foldl_cons->rk,foldl_nil->rn,find?_cons_of_neg->rv,take_append_drop->r9,find?_append->sh,getElem?_eq_getElem->sn,pairwise_cons->sq,mem_append_left->sx,mem_append_right->sy,replicate->vi,tail_drop->wi,all_eq_true->wq,mergeSort->wv,nodup_cons->xa,mem_iff_getElem?->xe,pairwise_map->xf,mergeSort_singleton->xg,mergeSort_nil->xh
open Go.Ending renaming returned->jz
open _root_.Array renaming getElem?_eq_some_iff->jA,all_eq_true_iff_forall_mem->jR,size_append->j8,all_append->j9,replicate->qf,replicate_succ->qy,replicate_zero->qz,toArray_toList->qS
open _root_.Nat renaming le_trans->jE,le_refl->jF,lt_of_lt_of_le->jJ,zero_le->jN,le_of_eq->j5,le_succ->j6,add_assoc->qn,add_comm->qt,reduceAdd->qw,reduceSub->qx,succ_pos->qU,le_add_right->q7,lt_irrefl->q9,lt_trichotomy->wx,not_lt_zero->xd
open Go.Value renaming int->jH,oneCell'->j4,slice->qh,ownBlock->sv
open Go.Proofs renaming intOf->jV
open Go.Proofs.Tryz renaming underlying27->jW,underlying57->o1,underlying51->qO,underlying79->r4,underlying61->r6
open Go.NoPanic renaming normal->ob
open Go.RowKit.Below renaming refl->qa
open _root_.Int renaming eq_ofNat_of_zero_le->qF,toNat_natCast->qH
variable{m:Act}{R:CQ}{H:Cmt}{i:Exit->Act->jj->Prop}{e:Grp}{o seed:LBy}{K P:Prop}{x:aN}{Q:j0}{C:jK}{p:jM}{a u:jb}{B M b:jc}{D E Ψ:jc->Prop}{t:jg (jb×jb)}{d:jg Cmt}{S:jg aN}{f:jg ap}{r:jg jl}{W w w':jj}{j:jl}{U:jq jK}
theorem MG(l:jg Cmt)(P:jg jc)(d:LBy)(k:d.length=32)(v:jl)(w:jj)(h:cF w v 32 P.length (eJ l P))(F:P.length<=1000000):
 jB jo 77 #[v,jh (d.map v8).toArray] w λe w'=>∃r,e=jz (jd je r)/\mU (λi=>decide (aG (aQ l i)=d)) P r/\jk w w w':=by
 obtain⟨-,q,c,rfl,H,-,p⟩:=h;have u:=O p;obtain⟨n,o⟩:=J P.length;have x:=O o;rw[<-o]at F H u⊢;obtain⟨a,f⟩:=J ((d.map v8).toArray);have K:=O f;have M:N (a.size=VD.n):=O (by rw[f,jv,jw,k];rfl);obtain⟨m,g⟩:=J (w.alloc (ja a 23));have b:N (jk w w m):=O (by rw[g];exact ao _ _);have Q:N (m.heap[w.heap.size]?=T (ja a VD.t (0,0))):=O (by rw[g];exact jy _ _);have s:=O g;have R:=O k;rw[<-f];clear o p f g k
 go_enter func77,ntmps77
 go_upto_region 1 with fail
 rw[<-s];clear s
 go_wp2_with fail
 go_loopw [8] (λi wr=>∃k:jc,i=jd je k/\k<=n/\N (∀y∈P.take k,decide (aG (aQ l y)=d)=jn)/\N (jk m m wr)) (λi _=>n-(jV i).toNat)
 case atStart=>exact⟨0,I,jN _,O ar,O (qa _ _)⟩
 obtain⟨k,rfl,hk,p,i⟩:=hrel
 by_cases S:k<n
 ·have V:=az ((k:jb)<(n:jb))
  have W:=az (k<n);obtain⟨e,he,B⟩:=dL (l:=P) (j:=k) (by rw[<-x];exact S);obtain⟨g,o,rfl,C⟩:=u Y;have D:N (wr.rangeAt g (o+k*32) ((aG (aQ l e)).map v8)):=O λt X ht=>by
   rw[qn];exact aB (C _ X (Bs he ht)) (b.trans (i.mono b.size))
  have VT:=O (av Q i);obtain⟨r,f⟩:=J (decide (aG (aQ l e)=d));obtain⟨U,s⟩:=J (((aG (aQ l e)).map v8).toArray);have ac:∀z,(Op.equalIn 10000 23 (jh a) (jh U)).run jo z=.ok r z:=by
   rw[K,s,f,show decide (aG (aQ l e)=d)=decide (d=aG (aQ l e))from decide_eq_decide.2 ⟨Eq.symm,Eq.symm⟩];exact λz=>nQ _ _ R.out (dS _) z
  have E:=O f;have HU:=O s;have Vf:=O B;have HE:=O he;have aa:N (((aG (aQ l e)).map v8).length=VD.n):=O (by rw[jw,dS];rfl);clear C he B f s
  go_upto_region 4 with fail
  refine jL ?_;refine fM (λf=>f.heap[w.heap.size]?=T (ja a VD.t (0,0))/\f.rangeAt g (o+k*32) ((aG (aQ l e)).map v8)) 6 (.take 0 (.take 1 (.take 2 (.take 3 (.take 4 (.take 5 .done)))))) af af af af G (λ_ _ _ _ h=>h) ⟨VT,D⟩ ?_
  (refine cJ (v:=jh a) I aj (λf s=>dh VD.hu VD.hd (by rw[M];exact VD.hi) I I s.1) ?_;refine L ?_)
  iterate 3 refine co ?_
  (refine cJ (v:=jh U) I aj (λf s=>by rw[HU];exact fx _ _ VD.t _ I _ _ I _ VD.d s.2 VD.hu VD.hd (by rw[aa];exact VD.hi)) ?_;refine L ?_)
  refine co ?_;refine fb ?_;have f:=bX wr;obtain⟨C,s⟩:=J wr.drew;rw[<-s]at f⊢;have B:=ai i f;clear f s D
  rcases r with _|_
  ·go_wp2_with fail
   exact⟨⟨k+1,by go_num,by omega,O (by
    rw[Vf];intro y f
    rcases n0.1 f with f|f
    ·exact p y f
    rw[jO]at f;rw[f];exact E.symm),B⟩,by simp only[jV];omega⟩
  go_wp2_with fail
  go_ret;exact⟨_,I,.inr ⟨k,_,I,HE,E.symm,p⟩,b.trans (B.mono b.size)⟩
 have V:=aw ((k:jb)<(n:jb));have W:=aw (k<n);obtain rfl:k=n:=Y
 go_wp2_with fail
 go_ret;exact⟨_,I,.inl ⟨I,by have h:=p.out;rw[qo (by rw[<-x];exact jF _)]at h;exact h⟩,b.trans (i.mono b.size)⟩
def cZ(a:jb)(b:LBy):jg jl:=jd je a::b.map v8
noncomputable def VF:VarT jo:=⟨25,33,(cZ 0 cG).toArray,_,underlying25,I,by kernel_rfl,rfl,λ_=>by kernel_rfl⟩
theorem A9{P:oj}{S:jj->Prop}{x y:bE}(d:cX P U i S b (.one M x) m w)(e:cX P U i S b (.one B y) m w):cX P U i S b (.two M B x y) m w:=⟨d,e⟩
theorem MI(b:C.op=.build 51 #[(0,Q)])(c:m.eval Q=jd je a)(W:jj):
 (jP m.eval C).run jo W=.ok (.value (jh (aD (aK a) (A jf 0 0) (A jf 0 0)).toArray)) W:=by
 have d:=uy (P:=jo) (t:=51) (zero:=jh VG.Z) (places:=#[(0,1),(1,1),(2,32),(34,1),(35,1)]) (λw=>by kernel_rfl) VG.hu (λw=>by kernel_rfl) (parts:=#[(0,jd je a)]) (X:=(aD (aK a) (A jf 0 0) (A jf 0 0)).toArray) af W;simp only[jP,b,o8,j1,jY,c,Sem.run_bind,d,Result.andThen_ok,Sem.run_pure]
theorem mU.find{α:Type}{p:α->jC}{l:jg α}(h:mU p l a):(a= -1/\l.find? p=jf)\/∃(k:jc) (x:α),a=k/\l[k]?=T x/\l.find? p=T x:=by
 rcases h with⟨b,r⟩|⟨k,x,b,r,c,d⟩
 ·exact .inl ⟨b,qs.2 λx e=>by rw[r x e];decide⟩
 refine .inr ⟨k,x,b,r,?_⟩;have g:=(jU.1 r).1;have e:l=l.take k++x::l.drop (k+1):=by
  rw[<-(jU.1 r).2,List.getElem_cons_drop,r9]
 rw[e,sh,qs.2 λy f=>by rw[d y f];decide];simp[c]
theorem GM(a:jb)(w:jj):bW w (aK a) (A jf 0 0) (A jf 0 0):=⟨EK.At.nil,oE w,I⟩
theorem yj(k:P)(h:P->K:=by intro k;refine cJ (v:=?_) rfl aj (λW' hS=>?_) ?_;rotate_left;(have b1:=ah (i:=0) hS.1 rfl;clear hS;go_simp;with_reducible rfl);refine L ?_;exact k):K:=h k
theorem tQ(k:P)(h:P->K:=by intro k;refine cJ (v:=?_) rfl aj (λW' hS=>?_) ?_;rotate_left;(have b1:=ah (i:=2) hS.1 rfl;clear hS;go_simp;with_reducible rfl);refine L ?_;exact k):K:=h k
theorem tW(k:P)(h:P->K:=by intro k;refine cJ (v:=?_) rfl aj (λW' hS=>?_) ?_;rotate_left;(have b1:=hS.2.2.2.1;clear hS;go_simp;with_reducible rfl);refine L ?_;exact k):K:=h k
theorem Fi(Uc:jg CP)(v1 v2 v3:jl)(x:jb)(Ur:LBy)(i:Ur.length=32)(w:jj)(r:iq (·<w.heap.size) w v1 v2 v3 Uc)(V:∀p∈Uc,da (aR p.1))(W:bP w)(hn:Uc.length<=1000):
 jB jo 30 #[jh #[v1,v2,v3],jh (cZ x Ur).toArray] w λe w'=>∃m o,e=jz (jI #[jh m,.bool o])/\m.size=VK.n/\m.all (·.oneCell')=ji/\
  (o=ji->∃k,m=(aL k).toArray/\KD (λb=>w.heap.size<=b/\b<w'.heap.size) Uc w' k/\ft x Ur (Uc.map (·.1))=T k.cand)/\(o=jn->ft x Ur (Uc.map (·.1))=jf)/\jk w w w':=by
 obtain⟨l,u⟩:∃l:jg Cmt,l=Uc.map (·.1):=⟨_,I⟩;obtain⟨PL,z⟩:=J (bU l l.length);have K:l.length=Uc.length:=by rw[u,jw]
 have bk:PL.length<=1000:=by rw[z];have:=rU l l.length;omega
 have R:=r.ids;have B:=r.at_;rw[<-u,<-K,<-z]at R B;obtain⟨p1,k1,rfl⟩:=r.list.form;obtain⟨p2,k2,rfl⟩:=R.form;obtain⟨p3,k3,rfl⟩:=B.form;have HL:=O r.list;have HI:=O R;have HA:=O B;have HE:=O V;have HT:=O W;have YW:=O u;have We:=O z;have bf:=O i;obtain⟨n,C⟩:=J Uc.length;obtain⟨F,D⟩:=J PL.length;have Zo:=O C;have bl:=O D;have Vn:N (l.length=n):=O (K.trans C.symm);rw[<-C]at hn⊢;rw[<-D]at bk HI HA⊢;rw[<-u];obtain⟨FA,y⟩:=J ((cZ x Ur).toArray);have Y9:N (FA.size=VF.n):=O (by rw[y,jv];unfold cZ;rw[jZ,jw,i];rfl);have bm:N (FA[0]?=T (jd je x)):=O (by rw[y];rfl);have a4:N (∀(j:jc) d,(Ur.map v8)[j]?=T d->FA[1+j]?=T d):=O λj d hj=>by
  rw[y,qt]
  simpa [cZ]using hj
 have Ya:N ((Ur.map v8).length=VD.n):=O (by rw[jw,i];rfl);rw[<-y];obtain⟨M,f⟩:=J w.heap.size;have HM:=O f;obtain⟨W0,c⟩:=J (((w.alloc (ja #[A p1 n k1,A p2 F k2,A p3 F k3] 75)).alloc (ja FA 25)).alloc (ja VK.Z VK.t));have P:=ao w (ja #[A p1 n k1,A p2 F k2,A p3 F k3] 75);have Q:=P.trans ((ao (w.alloc (ja #[A p1 n k1,A p2 F k2,A p3 F k3] 75)) (ja FA 25)).mono P.size);have E:=ao ((w.alloc (ja #[A p1 n k1,A p2 F k2,A p3 F k3] 75)).alloc (ja FA 25)) (ja VK.Z VK.t);have S:N (W0.heap[M]?=T (ja #[A p1 n k1,A p2 F k2,A p3 F k3] 75 (0,0))):=O (by rw[c,f];exact av (av (jy w _) (ao _ _)) E);have U:N (W0.heap[M+1]?=T (ja FA VF.t (0,0))):=O (by
  have h:=jy (w.alloc (ja #[A p1 n k1,A p2 F k2,A p3 F k3] 75)) (ja FA 25);rw[jp]at h;rw[c,f];exact av h E)
 have X:N (W0.heap[M+2]?=T (ja VK.Z VK.t (0,0))):=O (by
  have h:=jy ((w.alloc (ja #[A p1 n k1,A p2 F k2,A p3 F k3] 75)).alloc (ja FA 25)) (ja VK.Z VK.t);rw[jp,jp]at h;rw[c,f];exact h)
 have Uh:N (jk w w W0):=O (by rw[c];exact Q.trans (E.mono Q.size));have bn:N (W0.heap.size=M+3):=O (by rw[c,f,jp,jp,jp]);have HW:=O c;have aa:N (W0.rangeAt (M+1) 1 (Ur.map v8)):=O λt d q=>ah U (a4 t d q)
 have H:=MG l PL Ur i (A p2 PL.length k2) W0 ((R.keep λg hg=>Uh.block g hg).row) Y;rw[<-D]at H;obtain⟨TF,g⟩:=J ((Ur.map v8).toArray);rw[<-g]at H;have ad:=O g;have ac:=O H;clear g;clear H P Q E c f y C D u K z R B r V W i
 go_enter func30,ntmps30
 go_upto_region 1 with(first|(refine VK.made I I (L ?_)))
 rw[<-HW];simp only[jp];rw[show w.heap.size+1+1=w.heap.size+2 from I,<-HM];clear HW;have g:=ah (i:=1) S I
 go_upto_region 2 with(first|(refine VD.load aj I I (Ur.map v8) Ya aa ?_;rw[<-ad];refine L ?_))
 refine ac.mono ?_;rintro e x1 ⟨r,rfl,f,c⟩;have HB:=O c;have V:N (jk w w x1):=ai Uh c;have H:=ae S c;have K:=ae U c;have y:=ae X c;have bo:=f.find;clear f c ac aa S U X g
 rcases bo with⟨rfl,c⟩|⟨kk,i,rfl,g,c⟩
 ·have HF:N (ft x Ur l=jf):=O (by unfold ft;rw[<-We,c];rfl)
  clear c
  go_wp2_with (first|(refine VK.loadA aj I I VK.Z VK.hZ y (L ?_))|(refine VK.store I I I VK.Z I VK.hZ af y VK.hZ ?_;rw[setRow_self _ _ _ _ _ y.out];refine L ?_))
  refine qj (fO I _ _ (M+2) VK.t VK.Z (0,0) _ I y r4 I (by rw[VK.hZ];exact VK.hi)) I ?_;exact⟨_,_,I,VK.hZ,by kernel_rfl,(λh=>by cases h),(λ_=>HF),V⟩
 have HF:N (ft x Ur l=if cQ (aK x) (aQ l i)=0 then T ⟨i,aQ l i,Ur,0,aC (aK x) (aQ l i)⟩else jf):=O (by unfold ft;rw[<-We,c];rfl);have bu:kk<F:=by rw[bl];exact(jU.1 g).1
 have bp:i<n:=by
  have h:=j3 g;rw[We]at h;have R:=(oR.1 h).1;rw[Vn]at R;exact R
 have hd:decide ((kk:jb)<0)=jn:=by simp<;>omega
 have bv:=az (kk<F);have hd2:=az (i<n);obtain⟨ga,oa,ka,e3,D,-,E⟩:=HA.at1 Y;injection e3 with e1 z e2
 subst e1;subst e2;clear z;obtain⟨⟨u,qm⟩,f⟩:∃p,Uc[i]?=T p:=⟨_,sn (by rw[<-Zo];exact bp)⟩;obtain⟨W,ol,kl,e5,S,-,-,U⟩:=HL.elem f;injection e5 with e1 z e2
 subst e1;subst e2;clear z;have z:=j3 f;have P:N (x1.cell? ⟨ga,oa+kk,jf⟩=T (jd je (i:jc))):=O (aB (E kk _ (by unfold fQ;rw[qQ,g];rfl)) V);have Q:N (x1.rangeAt W (ol+i*73) (aF u qm)):=O λj d hj=>aB (U j d hj) V
 have HQ:=O (HL.all _ z);have bg:=O (HE _ z);have bh:=O f;have ZR:N (aQ l i=u):=O (by unfold aQ;rw[YW];simp[List.getD,f]);have Vh:N ((aF u qm).length=VC.n):=O (dz u qm HQ.plen HQ.clen);obtain⟨C,B⟩:=J ((aF u qm).toArray);have WS:=O B;have Wo:N (C.size=VC.n):=O (by rw[B,jv];exact Vh);obtain⟨G0,X⟩:=J ((aD (aK x) (A jf 0 0) (A jf 0 0)).toArray);have a5:=O X;have ax:N (cQ (aK x) (aQ l i)=cQ (aK x) u/\aC (aK x) (aQ l i)=aC (aK x) u):=O (by rw[ZR];exact⟨I,I⟩);have Y5:N (ga<M/\W<M):=O ⟨by rw[HM];exact D,by rw[HM];exact S⟩;clear B X z f U E D S c g
 go_upto_region 4 with fail
 refine jL ?_;refine fM (λg=>g.heap[M]?=T (ja #[A (T ⟨W,ol,jf⟩) n k1,A p2 F k2,A (T ⟨ga,oa,jf⟩) F k3] 75 (0,0))/\g.heap[M+1]?=T (ja FA VF.t (0,0))/\g.heap[M+2]?=T (ja VK.Z VK.t (0,0))/\g.cell? ⟨ga,oa+kk,jf⟩=T (jd je (i:jc))/\g.rangeAt W (ol+i*73) (aF u qm)) 19
  (.take 0 (.take 1 (.take 2 (.take 3 (.take 4 (.take 5 (.take 6 (.take 7 (.take 8 (.take 9 (.take 10 (.take 11 (.two 12 16 (.take 13 (.take 14 (.take 15 (.one 16 (.one 17 (.take 18 .done)))))) (.one 12 (.take 13 (.take 14 (.take 15 (.one 17 (.take 18 .done))))))))))))))))))) af af af af G (λ_ _ _ _ h=>h) ⟨H,K,y,P,Q⟩ ?_
 have c:=bX x1;obtain⟨x2,hx⟩:=J x1.drew;rw[<-hx]at c⊢;replace HB:=ai HB c;replace V:=ai V c;replace H:=ae H c;replace K:=ae K c;replace y:=ae y c;replace P:=O (aB P c);replace Q:N (x2.rangeAt W (ol+i*73) (aF u qm)):=O (λt d q=>aB (Q t d q) c);have a3:N (M+3<=x2.heap.size):=O (by rw[<-bn];exact HB.size);clear hx c;refine co ?_
 (refine cJ (v:=?_) I aj (λg S=>?_) ?_;rotate_left;(have f:=ah (i:=0) S.2.1 bm;clear S;go_simp;with_reducible rfl);refine L ?_)
 (refine cJ (v:=jh G0) I aj (λg S=>by rw[a5];exact MI I I g) ?_;refine L ?_)
 refine co ?_;refine yj ?_;refine co ?_;refine tQ ?_;iterate 2 refine co ?_
 refine tW ?_;refine co ?_
 (refine cJ (v:=jh C) I aj (λg S=>by rw[WS];exact fx _ _ VC.t _ I _ _ I _ VC.d S.2.2.2.2 VC.hu VC.hd (by rw[Vh];exact VC.hi)) ?_;refine L ?_)
 refine A9 ?_ ?_
 ·refine cV I (λK' B=>?_)
  go_simp;have hN:=AQ (aK x) (A jf 0 0) (A jf 0 0) u qm x2 (GM x _) (HQ.below V) bg (HT.below V) (jN _) (jN _);rw[<-a5,<-WS]at hN;refine hN.mono ?_;clear hN;rintro e x3 ⟨X,er,rfl,hN⟩;have z:=O hN;clear hN;have U:=O z.bel;refine B _ _ ⟨av H (U),av K (U),av y (U),aB P (U),λt d q=>aB (Q t d q) (U)⟩ λ_=>?_
  clear B;refine L ?_;iterate 3 refine co ?_
  refine cV I (λK' B=>?_);rw[jr aj];refine gK VG.t I VG.Z VG.hal ?_;have f:=U.trans ((ao x3 (ja VG.Z VG.t)).mono U.size);refine B _ _ ⟨av H (f),av K (f),av y (f),aB P (f),λt d q=>aB (Q t d q) (f)⟩ λ_=>?_
  clear B f;refine L ?_;refine cV I (λK' B=>?_);rw[jr aj];refine jQ VG.t _ _ I x3.heap.size X I I VG.t VG.Z (jy x3 _) (by rw[z.sz];exact VG.hi) (VG.hZ.trans z.sz.symm) z.one ?_;rw[ya];obtain⟨x5,b7,hx,f,V8,aa⟩:=dt x3 X VG.t;rw[<-hx,<-f];have ZJ:N (M+3<=b7):=O (by rw[f];exact jE a3 U.size);have Vj:N (er=0->∃D E,X=(aD (aC (aK x) u) D E).toArray/\dO (λk=>M+3<=k/\k<x5.heap.size) x5 (aC (aK x) u) D E):=O λh=>by
   obtain⟨D,E,e1,R⟩:=z.new h;exact⟨D,E,e1,(R.below aa).mono λb f=>⟨jE a3 f.1,f.2⟩⟩
  have c:=U.trans (aa.mono U.size);refine B _ _ ⟨av H (c),av K (c),av y (c),aB P (c),λt d q=>aB (Q t d q) (c)⟩ λ_=>?_
  replace HB:=ai HB c;replace V:=ai V c;replace H:=ae H c;replace K:=ae K c;replace y:=ae y c;replace P:=O (aB P c);replace Q:N (x5.rangeAt W (ol+i*73) (aF u qm)):=O (λt d q=>aB (Q t d q) c);clear c;clear B hx f aa;refine L ?_;refine co ?_;refine fb ?_;obtain⟨o,ho⟩:=J (decide (er=0));have ay:=O ho;have bq:(er==0)=o:=by rw[ho];by_cases h:er=0<;>simp[h]
  have br:decide (er=0)=o:=ho.symm;clear ho
  go_upto_region 5 with fail
  refine jL ?_;refine fM (λg=>g.heap[M]?=T (ja #[A (T ⟨W,ol,jf⟩) n k1,A p2 F k2,A (T ⟨ga,oa,jf⟩) F k3] 75 (0,0))/\g.heap[M+1]?=T (ja FA VF.t (0,0))/\g.heap[b7]?=T (ja X VG.t (0,0))/\g.cell? ⟨ga,oa+kk,jf⟩=T (jd je (i:jc))/\g.rangeAt W (ol+i*73) (aF u qm)) 22
   (.take 0 (.take 1 (.take 2 (.take 3 (.take 4 (.take 5 (.take 6 (.take 7 (.take 8 (.take 9 (.take 10 (.take 11 (.take 12 (.take 13 (.take 14 (.take 15 (.take 16 (.take 17 (.take 18 (.take 19 (.one 20 (.take 21 .done)))))))))))))))))))))) af af af af G (λ_ _ _ _ h=>h) ⟨H,K,V8,P,Q⟩ ?_
  have c:=bX x5;obtain⟨x6,hx⟩:=J x5.drew;rw[<-hx]at c⊢;replace V:=ai V c;replace H:=ae H c;replace K:=ae K c;replace y:=ae y c;replace V8:=ae V8 c;replace P:=O (aB P c);replace Q:N (x6.rangeAt W (ol+i*73) (aF u qm)):=O (λt d q=>aB (Q t d q) c);have a6:=O c;clear hx c;refine co ?_;refine tQ ?_;iterate 2 refine co ?_
  refine tW ?_;refine co ?_;refine yj ?_;refine co ?_;refine tQ ?_;iterate 2 refine co ?_
  refine tW ?_;refine co ?_
  (refine cJ (v:=jh C) I aj (λg S=>by rw[WS];exact fx _ _ VC.t _ I _ _ I _ VC.d S.2.2.2.2 VC.hu VC.hd (by rw[Vh];exact VC.hi)) ?_;refine L ?_)
  refine co ?_
  (refine cJ (v:=jh TF) I aj (λg S=>by rw[ad];exact fx _ _ VD.t _ I (M+1) 1 I _ VD.d (λt d q=>ah S.2.1 (a4 t d q)) VD.hu VD.hd (by rw[Ya];exact VD.hi)) ?_;refine L ?_)
  (refine cJ (v:=jh X) I aj (λg S=>dh VG.hu VG.hd (by rw[z.sz];exact VG.hi) I I S.2.2.1) ?_;refine L ?_)
  have YD:N (TF.size=32):=O (by rw[ad,jv];exact Ya);obtain⟨m,hY⟩:=J ((#[jH .i64 (i:jc)]++C++TF++ #[jH .i64 (0:jb)]++X))
  (refine cJ (v:=jh m) I aj (λg S=>by rw[hY];exact zt (i:=(i:jc)) (s:=0) (C:=C) (I0:=TF) (G0:=X) Wo YD z.sz I af g) ?_;refine L ?_)
  have Yc:N (m.size=VK.n):=O (by rw[hY,j8,j8,j8,j8,Wo,YD,z.sz];rfl);have a1:N (m.all (·.oneCell')=ji):=O (by
   have VU:C.all (·.oneCell')=ji:=by rw[WS,jR];exact λd hu=>nj HQ d (ak hu)
   have U0:TF.all (·.oneCell')=ji:=by rw[ad];exact eR _
   rw[hY,j9,j9,j9,j9,z.one,VU,U0];simp[j4])
  have ba:=O hY;clear hY;iterate 2 refine co ?_
  refine cV I (λK' B=>?_);rw[jr aj];refine jQ VK.t _ _ I (M+2) m I I VK.t VK.Z y.out (by rw[Yc];exact VK.hi) (VK.hZ.trans Yc.symm) a1 ?_;have aa:∀b,b≠M+2->(x6.setRow (M+2) m).heap[b]?=x6.heap[b]?:=λb f=>js _ _ _ _ f
  have au:jk w w (x6.setRow (M+2) m):=iP V.out (by rw[<-HM];omega) m;have ac:(x6.setRow (M+2) m).heap.size=x6.heap.size:=setRow_size _ _ _;have a2:N ((x6.setRow (M+2) m).heap[M+2]?=T (ja m VK.t (0,0))):=O (jT _ _ _ _ _ _ y.out);generalize x6.setRow (M+2) m=x7 at aa au ac a2⊢;refine B _ _ ⟨(aa M Y).trans H,(aa (M+1) Y).trans K,(aa b7 (aI ZJ)).trans V8,(qu (a:=⟨ga,oa+kk,jf⟩) (aa ga (cT Y5.1))).trans P,λt d q=>(qu (a:=⟨W,ol+i*73+t,jf⟩) (aa W (cT Y5.2))).trans (Q t d q)⟩ λ_=>?_
  have bb:N (er=0->∃D E,X=(aD (aC (aK x) u) D E).toArray/\dO (λk=>M+3<=k/\k<x7.heap.size) x7 (aC (aK x) u) D E):=O λh=>by
   obtain⟨D,E,e1,R⟩:=Vj h;exact⟨D,E,e1,((R.below a6).keep λb f=>aa b Y).mono λb f=>⟨f.1,by rw[ac];exact f.2⟩⟩
  have bc:=O au;clear B aa ac au Vj;refine L ?_;refine co ?_;refine fb ?_
  go_wp2_with fail
  refine qj (fO I _ _ (M+2) VK.t m (0,0) _ I a2 r4 I (by rw[Yc];exact VK.hi)) I ?_;refine⟨m,o,I,Yc,a1,λh=>?_,λh=>?_,bc⟩
  ·have h0:er=0:=qK (ay.out▸h)
   obtain⟨D,E,e1,R⟩:=bb h0;refine⟨⟨i,(u,qm),Ur,0,aC (aK x) u,D,E⟩,?_,KD.of bh (R.mono λb f=>⟨by rw[<-HM];omega,f.2⟩) bf,?_⟩
   ·rw[ba,WS,ad,e1,<-Aj,qS]
   rw[HF,ax.1,ax.2,jr (z.eq.symm.trans h0),ZR];exact qk T CK.cand_of.symm
  have h0:¬er=0:=of_decide_eq_false (ay.out▸h);rw[HF,ax.1,jD (λe=>h0 (z.eq.trans e))]
 refine cV I (λK' B=>?_);rw[jr aj];refine gK VG.t I VG.Z VG.hal ?_;obtain⟨x3,b7,hx,f,bs,bd⟩:=dt x2 VG.Z VG.t;rw[<-hx,<-f];have UD:N (b7=x2.heap.size/\x3.heap.size=b7+1):=O ⟨f,by rw[hx,f,jp]⟩;have U:=O bd;have bi:=ai V bd;refine B _ _ ⟨av H (U),av K (U),av y (U),aB P (U),λt d q=>aB (Q t d q) (U)⟩ λ_=>?_
 clear B hx f bd;refine L ?_;refine cV I (λK' B=>?_);go_simp;have hN:=AQ (aK x) (A jf 0 0) (A jf 0 0) u qm x3 (GM x _) (HQ.below bi) bg (HT.below bi) (jN _) (jN _);rw[<-a5,<-WS]at hN;refine hN.mono ?_;clear hN;rintro e x4 ⟨X,er,rfl,hN⟩;have z:=O hN;clear hN;have Uq:=O (U.trans (z.bel.mono U.size));have bd:=O (av bs z.bel);refine B _ _ ⟨av H (Uq),av K (Uq),av y (Uq),aB P (Uq),λt d q=>aB (Q t d q) (Uq)⟩ λ_=>?_
 clear B;refine L ?_;iterate 3 refine co ?_
 refine cV I (λK' B=>?_);rw[jr aj];refine jQ VG.t _ _ I b7 X I I VG.t VG.Z bd.out (by rw[z.sz];exact VG.hi) (VG.hZ.trans z.sz.symm) z.one ?_;have V8:N ((x4.setRow b7 X).heap[b7]?=T (ja X VG.t (0,0))):=O (jT _ _ _ _ _ _ bd.out);have c:jk x2 x2 (x4.setRow b7 X):=iP Uq.out (by rw[UD.1];exact jF _) X;have Ys:∀b,x3.heap.size<=b->(x4.setRow b7 X).heap[b]?=x4.heap[b]?:=λb f=>js _ _ _ _ (cT UD.2)
 have ac:(x4.setRow b7 X).heap.size=x4.heap.size:=setRow_size _ _ _;generalize x4.setRow b7 X=x5 at V8 c Ys ac⊢;have ZJ:N (M+3<=b7):=O (by rw[UD.1];exact a3);have Vj:N (er=0->∃D E,X=(aD (aC (aK x) u) D E).toArray/\dO (λk=>M+3<=k/\k<x5.heap.size) x5 (aC (aK x) u) D E):=O λh=>by
  obtain⟨D,E,e1,R⟩:=z.new h;exact⟨D,E,e1,(R.keep λb f=>Ys b f.1).mono λb f=>⟨jE a3 (jE U.size f.1),by rw[ac];exact f.2⟩⟩
 refine B _ _ ⟨av H (c),av K (c),av y (c),aB P (c),λt d q=>aB (Q t d q) (c)⟩ λ_=>?_
 replace HB:=ai HB c;replace V:=ai V c;replace H:=ae H c;replace K:=ae K c;replace y:=ae y c;replace P:=O (aB P c);replace Q:N (x5.rangeAt W (ol+i*73) (aF u qm)):=O (λt d q=>aB (Q t d q) c);clear c;clear B Ys ac;refine L ?_;refine co ?_;refine fb ?_;obtain⟨o,ho⟩:=J (decide (er=0));have ay:=O ho;have bq:(er==0)=o:=by rw[ho];by_cases h:er=0<;>simp[h]
 have br:decide (er=0)=o:=ho.symm;clear ho
 go_upto_region 5 with fail
 refine jL ?_;refine fM (λg=>g.heap[M]?=T (ja #[A (T ⟨W,ol,jf⟩) n k1,A p2 F k2,A (T ⟨ga,oa,jf⟩) F k3] 75 (0,0))/\g.heap[M+1]?=T (ja FA VF.t (0,0))/\g.heap[b7]?=T (ja X VG.t (0,0))/\g.cell? ⟨ga,oa+kk,jf⟩=T (jd je (i:jc))/\g.rangeAt W (ol+i*73) (aF u qm)) 22
  (.take 0 (.take 1 (.take 2 (.take 3 (.take 4 (.take 5 (.take 6 (.take 7 (.take 8 (.take 9 (.take 10 (.take 11 (.take 12 (.take 13 (.take 14 (.take 15 (.take 16 (.take 17 (.take 18 (.take 19 (.one 20 (.take 21 .done)))))))))))))))))))))) af af af af G (λ_ _ _ _ h=>h) ⟨H,K,V8,P,Q⟩ ?_
 have c:=bX x5;obtain⟨x6,hx⟩:=J x5.drew;rw[<-hx]at c⊢;replace V:=ai V c;replace H:=ae H c;replace K:=ae K c;replace y:=ae y c;replace V8:=ae V8 c;replace P:=O (aB P c);replace Q:N (x6.rangeAt W (ol+i*73) (aF u qm)):=O (λt d q=>aB (Q t d q) c);have a6:=O c;clear hx c;refine co ?_;refine tQ ?_;iterate 2 refine co ?_
 refine tW ?_;refine co ?_;refine yj ?_;refine co ?_;refine tQ ?_;iterate 2 refine co ?_
 refine tW ?_;refine co ?_
 (refine cJ (v:=jh C) I aj (λg S=>by rw[WS];exact fx _ _ VC.t _ I _ _ I _ VC.d S.2.2.2.2 VC.hu VC.hd (by rw[Vh];exact VC.hi)) ?_;refine L ?_)
 refine co ?_
 (refine cJ (v:=jh TF) I aj (λg S=>by rw[ad];exact fx _ _ VD.t _ I (M+1) 1 I _ VD.d (λt d q=>ah S.2.1 (a4 t d q)) VD.hu VD.hd (by rw[Ya];exact VD.hi)) ?_;refine L ?_)
 (refine cJ (v:=jh X) I aj (λg S=>dh VG.hu VG.hd (by rw[z.sz];exact VG.hi) I I S.2.2.1) ?_;refine L ?_)
 have YD:N (TF.size=32):=O (by rw[ad,jv];exact Ya);obtain⟨m,hY⟩:=J ((#[jH .i64 (i:jc)]++C++TF++ #[jH .i64 (0:jb)]++X))
 (refine cJ (v:=jh m) I aj (λg S=>by rw[hY];exact zt (i:=(i:jc)) (s:=0) (C:=C) (I0:=TF) (G0:=X) Wo YD z.sz I af g) ?_;refine L ?_)
 have Yc:N (m.size=VK.n):=O (by rw[hY,j8,j8,j8,j8,Wo,YD,z.sz];rfl);have a1:N (m.all (·.oneCell')=ji):=O (by
  have VU:C.all (·.oneCell')=ji:=by rw[WS,jR];exact λd hu=>nj HQ d (ak hu)
  have U0:TF.all (·.oneCell')=ji:=by rw[ad];exact eR _
  rw[hY,j9,j9,j9,j9,z.one,VU,U0];simp[j4])
 have ba:=O hY;clear hY;iterate 2 refine co ?_
 refine cV I (λK' B=>?_);rw[jr aj];refine jQ VK.t _ _ I (M+2) m I I VK.t VK.Z y.out (by rw[Yc];exact VK.hi) (VK.hZ.trans Yc.symm) a1 ?_;have aa:∀b,b≠M+2->(x6.setRow (M+2) m).heap[b]?=x6.heap[b]?:=λb f=>js _ _ _ _ f
 have au:jk w w (x6.setRow (M+2) m):=iP V.out (by rw[<-HM];omega) m;have ac:(x6.setRow (M+2) m).heap.size=x6.heap.size:=setRow_size _ _ _;have a2:N ((x6.setRow (M+2) m).heap[M+2]?=T (ja m VK.t (0,0))):=O (jT _ _ _ _ _ _ y.out);generalize x6.setRow (M+2) m=x7 at aa au ac a2⊢;refine B _ _ ⟨(aa M Y).trans H,(aa (M+1) Y).trans K,(aa b7 (aI ZJ)).trans V8,(qu (a:=⟨ga,oa+kk,jf⟩) (aa ga (cT Y5.1))).trans P,λt d q=>(qu (a:=⟨W,ol+i*73+t,jf⟩) (aa W (cT Y5.2))).trans (Q t d q)⟩ λ_=>?_
 have bb:N (er=0->∃D E,X=(aD (aC (aK x) u) D E).toArray/\dO (λk=>M+3<=k/\k<x7.heap.size) x7 (aC (aK x) u) D E):=O λh=>by
  obtain⟨D,E,e1,R⟩:=Vj h;exact⟨D,E,e1,((R.below a6).keep λb f=>aa b Y).mono λb f=>⟨f.1,by rw[ac];exact f.2⟩⟩
 have bc:=O au;clear B aa ac au Vj;refine L ?_;refine co ?_;refine fb ?_
 go_wp2_with fail
 refine qj (fO I _ _ (M+2) VK.t m (0,0) _ I a2 r4 I (by rw[Yc];exact VK.hi)) I ?_;refine⟨m,o,I,Yc,a1,λh=>?_,λh=>?_,bc⟩
 ·have h0:er=0:=qK (ay.out▸h)
  obtain⟨D,E,e1,R⟩:=bb h0;refine⟨⟨i,(u,qm),Ur,0,aC (aK x) u,D,E⟩,?_,KD.of bh (R.mono λb f=>⟨by rw[<-HM];omega,f.2⟩) bf,?_⟩
  ·rw[ba,WS,ad,e1,<-Aj,qS]
  rw[HF,ax.1,ax.2,jr (z.eq.symm.trans h0),ZR];exact qk T CK.cand_of.symm
 have h0:¬er=0:=of_decide_eq_false (ay.out▸h);rw[HF,ax.1,jD (λe=>h0 (z.eq.trans e))]
theorem B3:∀(l:jg jb) (a b:jb),l.Pairwise (·<·)->(∀x∈l,a<=x/\x<=b)->(l.length:jb)<=max 0 (b-a+1)
 |[],a,b,_,_=>by simp;omega
 |x::l,a,b,h,c=>by
  rw[sq]at h;have e:=c x (qb ..);have f:=B3 l (x+1) b h.2 λy d=>⟨by have:=h.1 y d;omega,(c y (qc _ d)).2⟩
  rw[jZ];omega
theorem oM(h:dC e):e.mem.length<=512/\e.tree.length<=1023:=by
 constructor
 ·have a:=qk List.length h.dev
  rw[jw]at a;have:=F9 e.tree;omega
 have b:=lM h.tree;have a:=B3 (e.tree.map (·.1)) 1 1023 b.1.keys λx c=>by
  obtain⟨g,he,rfl⟩:=qd.1 c;exact⟨(b.2 g he).1,(b.2 g he).2.1⟩
 rw[jw]at a;omega
section
variable{b:CK}{e:jl}
section
variable {P:oj} {F:Fence} {nF:jc} {ops:jq jK} {rest:jg jK} {o:jK} {a:Act} {w:jj} {Q:Exit->Act->jj->Prop} (V:VarT P)
theorem VarT.madeI(d:o.guard=jf)(b:o.op=.alloc V.t)(h:wpListIn F nF P ops Q rest (a.put o.dst (jt (T ⟨w,0,jf⟩))) (w.alloc (ja V.Z V.t))):wpListIn F nF P ops Q (o::rest) a w:=by
 refine wpListIn_plain d λg e=>?_
 unfold Oper.wpIn;refine⟨by simp[Oper.about,b],?_⟩;rw[Oper.semAt_plain F _ _ (by rw[b];intro c f;cases f)];simp only[jP,b,Sem.run_bind,V.hal,Result.andThen_ok,Sem.run_pure];exact e _ _ h
theorem VarT.storeI(d:o.guard=jf){x y:j0}(e:o.op=.store V.t x y){g:jc}(f:a.eval x=jt (T ⟨g,0,jf⟩))(C:jq jl)(i:a.eval y=jh C)(c:C.size=V.n)(j:C.all (·.oneCell')=ji)
 {b:jq jl} (k:w.heap[g]?=T (ja b V.t (0,0))) (l:b.size=V.n) (h:wpListIn F nF P ops Q rest (a.put o.dst jm) (w.setRow g C)):wpListIn F nF P ops Q (o::rest) a w:=
 Ak d V.t x y e g C f i V.t b k (by rw[c];exact V.hi) (l.trans c.symm) j h
theorem VarT.firstI(b:o.guard=jf){x y:j0}(c:o.op=.store V.t x y)(d:a.eval x=jt (T ⟨w,0,jf⟩))(C:jq jl)(e:a.eval y=jh C)(f:C.size=V.n)(g:C.all (·.oneCell')=ji)
 (h:wpListIn F nF P ops Q rest (a.put o.dst jm) (w.alloc (ja C V.t))):wpListIn F nF P ops Q (o::rest) a (w.alloc (ja V.Z V.t)):=
 V.storeI b c d C e f g (jy w _) V.hZ (by rw[ya];exact h)
theorem VarT.loadI(e:Region.wanted o (yielded ops a.tmps)=ji){x:j0}(d:o.op=.load V.t x){g f:jc}(i:a.eval x=jt (T ⟨g,f,jf⟩))(b:jg jl)(j:b.length=V.n)(k:w.rangeAt g f b)
 (h:wpListIn F nF P ops Q rest (a.put o.dst (jh b.toArray)) w):wpListIn F nF P ops Q (o::rest) a w:=by
 refine wpListIn_step λn l=>?_
 rw[jr e];unfold Oper.wpIn;refine⟨by simp[Oper.about,d],?_⟩;rw[Oper.semAt_plain F _ _ (by rw[d];intro c m;cases m),fx o a V.t x d g f i b V.d k V.hu V.hd (by rw[j];exact V.hi)];exact l _ _ h
theorem VarT.loadAI(b:Region.wanted o (yielded ops a.tmps)=ji){x:j0}(c:o.op=.load V.t x){g:jc}(d:a.eval x=jt (T ⟨g,0,jf⟩))(C:jq jl)(e:C.size=V.n){t:jM}(f:w.heap[g]?=T (ja C t (0,0)))
 (h:wpListIn F nF P ops Q rest (a.put o.dst (jh C)) w):wpListIn F nF P ops Q (o::rest) a w:=by
 refine V.loadI b c d C.toList (by rw[Array.length_toList];exact e) (λj v i=>?_) (by rw[qS];exact h);rw[Nat.zero_add];exact ah f (ak i)
end
theorem H8{w:jj}{g o:jc}(h:w.cell? ⟨g,o,jf⟩=T e):∃c t f,w.heap[g]?=T (ja c t f):=by
 unfold World.cell? at h
 cases ho:w.heap[g]? with
 |none=>simp[ho]at h
 |some a=>
  cases a with
  |cells c t f=>exact⟨c,t,f,I⟩
  |_=>simp[ho]at h
theorem cF.cellsB{w:jj}{sz n:jc}{xs:jg jl}(h:cF w e sz n xs)(i:0<sz):kT (λb=>∃c t f,w.heap[b]?=T (ja c t f)) e:=by
 obtain⟨f,p,c,rfl,-,-,j⟩:=h;rintro r k s v d a rfl;injection v with b l t
 subst l;obtain⟨g,o,rfl,m⟩:=j d;injection b with b
 subst b;have q:0<xs.length:=by rw[f];exact Nat.mul_pos d i
 exact H8 (m 0 _ (sn q))
theorem bH.cellsB{w:jj}{t:jg (jb×jb)}(h:bH w e t):kT (λb=>∃c t f,w.heap[b]?=T (ja c t f)) e:=by
 obtain⟨p,c,rfl,-,-,f,-⟩:=h;rintro l k m v d a rfl;injection v with b i n
 subst i;obtain⟨g,o,rfl,j⟩:=f d;injection b with b
 subst b;exact H8 (j 0 d).1
theorem dO.cellsOnly{D:jc->Prop}{w:jj}{g:Grp}{vt:jl}(h:dO D w g e vt):dO (λb=>D b/\∃c t f,w.heap[b]?=T (ja c t f)) w g e vt:=by
 refine⟨h.grp,λp k c vm b a d=>⟨h.bm p k c vm b a d,?_⟩,λp k c vm b a d=>⟨h.bt p k c vm b a d,?_⟩⟩
 ·exact cF.cellsB h.grp.mem G p k c vm b a d
 exact bH.cellsB h.grp.tree p k c vm b a d
def gb(k:CK)(b:jc):Prop:=(∃a n c,k.vm=A (T a) n c/\0<n/\a.block=b)\/∃a n c,k.vt=A (T a) n c/\0<n/\a.block=b
theorem KD.own{D:jc->Prop}{f:jg CP}{w:jj}(h:KD D f w b):KD (λk=>gb b k/\D k) f w b:=
 ⟨h.at_,⟨h.grp.grp,λp n c e k a d=>⟨.inl ⟨a,n,c,by rw[e,d],k,I⟩,h.grp.bm p n c e k a d⟩,λp n c e k a d=>⟨.inr ⟨a,n,c,by rw[e,d],k,I⟩,h.grp.bt p n c e k a d⟩⟩,h.idl⟩
theorem rE{D:jc->Prop}{f:jg CP}{w:jj}(h:KD D f w b){k:jc}(g:gb b k):D k:=by
 rcases g with⟨a,n,c,e,d,rfl⟩|⟨a,n,c,e,d,rfl⟩
 ·exact h.grp.bm _ _ _ e d a I
 exact h.grp.bt _ _ _ e d a I
def GK(a:jg CP)(Ψ:jc->Prop)(W:jj)(k:CK):Prop:=KD (λb=>gb k b/\¬Ψ b/\∃c t f,W.heap[b]?=T (ja c t f)) a W k
theorem GK.of{D:jc->Prop}{a:jg CP}{Ψ:jc->Prop}{W:jj}{k:CK}(h:KD D a W k)(d:∀b,D b->¬Ψ b):GK a Ψ W k:=
 KD.own ⟨h.at_,h.grp.cellsOnly.mono λb c=>⟨d b c.1,c.2⟩,h.idl⟩
theorem GK.keep{g:jg CP}{Ψ i:jc->Prop}{d B:jj}{k:CK}(h:GK g Ψ d k)(e:∀b,gb k b->¬Ψ b->(∃c t f,d.heap[b]?=T (ja c t f))->B.heap[b]?=d.heap[b]?/\¬i b):GK g i B k:=
 (KD.keep h λb a=>(e b a.1 a.2.1 a.2.2).1).mono λb a=>⟨a.1,(e b a.1 a.2.1 a.2.2).2,by obtain⟨c,t,f,j⟩:=a.2.2;exact⟨c,t,f,(e b a.1 a.2.1 a.2.2).1.trans j⟩⟩
theorem GK.turns{B0:jc}{i:jg CP}{Ψ a:jc->Prop}{e B:jj}(h:GK i Ψ e b)(l:bL B0 a e B)(m:∀b,a b->Ψ b\/e.heap.size<=b):GK i a B b:=
 h.keep λk p n o=>by
  obtain⟨c,t,f,g⟩:=o;have d:¬a k:=λd=>by
   rcases m k d with j|j
   ·exact n j
   have:=(jA.1 g).1;omega
  exact⟨(l.cells g d).trans g.symm,d⟩
theorem Dg(B0:jc)(a:jg CP):bY B0 (fun(ys:jg CK) Ψ W=>∀x∈ys,GK a Ψ W x):=
 λs Ψ f g B b c _ d x e=>(b x e).turns c d
structure fh(w0 w:jj)(a m:jc)(Ψ:jc->Prop)(W:jj):Prop where
 lt:∀k,Ψ k->k<W.heap.size
 old:∀k,m<=k->k<w.heap.size->Ψ k
 kept:∀k,m<=k->k<w.heap.size->W.heap[k]?=w.heap[k]?
 bel:jk a w0 W
 low:∀k,Ψ k->m<=k
 sz:w.heap.size<=W.heap.size
theorem fh.below{w0 w W c:jj}{b m:jc}{Ψ:jc->Prop}(h:fh w0 w b m Ψ W)(e:b<=w.heap.size)(a:jk W W c):fh w0 w b m Ψ c:=
 ⟨λk f=>jJ (h.lt k f) a.size,h.old,λk g d=>(a.block k (jJ d h.sz)).trans (h.kept k g d),h.bel.trans (a.mono (jE e h.sz)),h.low,jE h.sz a.size⟩
theorem fh.yield{w0 w W b:jj}{c m:jc}{Ψ:jc->Prop}(h:fh w0 w c m Ψ W)(d:jk c W b)(f:∀k,Ψ k->b.heap[k]?=W.heap[k]?):fh w0 w c m Ψ b:=
 ⟨λk a=>jJ (h.lt k a) d.size,h.old,λk a e=>(f k (h.old k a e)).trans (h.kept k a e),h.bel.trans d,h.low,jE h.sz d.size⟩
theorem fh.more{w0 w W:jj}{c m b:jc}{Ψ:jc->Prop}(h:fh w0 w c m Ψ W)(d:b<W.heap.size)(e:m<=b):fh w0 w c m (λk=>Ψ k\/k=b) W:=
 ⟨λk a=>by rcases a with a|rfl;exact h.lt k a;exact d,λk f g=>.inl (h.old k f g),h.kept,h.bel,λk a=>by rcases a with a|rfl;exact h.low k a;exact e,h.sz⟩
theorem fh.pool{w0 w W:jj}{d m:jc}{Ψ:jc->Prop}{f g:jl}{a:jg CP}(h:fh w0 w d m Ψ W)(i:w0.heap.size<=d)(j:cC w0 e a)(k:aH (λb=>m<=b/\b<w.heap.size) w f 32 (bU (a.map (·.1)) a.length).length (eJ (a.map (·.1)) (bU (a.map (·.1)) a.length)))
 (l:aH (λb=>m<=b/\b<w.heap.size) w g 1 (bU (a.map (·.1)) a.length).length (fQ (bU (a.map (·.1)) a.length))):iq (·<W.heap.size) W e f g a:=
 ⟨j.below (h.bel.mono i),(k.keep λb c=>h.kept b c.1 c.2).mono λb c=>jJ c.2 h.sz,(l.keep λb c=>h.kept b c.1 c.2).mono λb c=>jJ c.2 h.sz⟩
noncomputable def uv(l:jg Cmt):jG CK->jg aN
 |none=>[]
 |some k=>gW l k.cand
noncomputable def yx(l:jg Cmt)(k:CK):jg aN:=match dY k.g l with|none=>[]|some w=>gW l w
theorem KI(l:jg Cmt)(k:CK):uv l (T k)=k.cand::yx l k:=rA l k.cand
structure CSt(a:jg CP)(e:jb)(f:LBy)(w W:jj)(Ψ:jc->Prop)(b:jc)(c:jq jl)(ys:jg CK)(d:jG CK):Prop where
 box:W.heap[b]?=T (ja c VK.t (0,0))
 sz:c.size=VK.n
 one:c.all (·.oneCell')=ji
 mine:Ψ b
 low:w.heap.size<=b
 now:∀k,d=T k->c=(aL k).toArray/\GK a Ψ W k/\∃g,gB g (a.map (·.1)) k.cand
 rest:ys.map CK.cand++uv (a.map (·.1)) d=dU e f (a.map (·.1))
noncomputable def chM(l:jg Cmt)(a ok:jl)(W:jj):jc:=
 match ok,a with
 | .bool ji,jt (T ⟨b,_,_⟩)=>(l.countP λc=>decide (((W.cell? ⟨b,108,jf⟩).map jV).getD 0<c.epoch))+1
 |_,_=>0
theorem GF{a:jg CP}{d:jb}{v:LBy}{w W:jj}{Ψ:jc->Prop}{k:jc}{f:jq jl}{ys:jg CK}(h:CSt a d v w W Ψ k f ys (T b))(g:cC W e a):
 chM (a.map (·.1)) (jt (T ⟨k,0,jf⟩)) (.bool ji) W=iE (a.map (·.1)) b.g+1:=by
 obtain⟨i,j,-⟩:=h.now b I;have c:=KD.kin j g;have l:W.cell? ⟨k,108,jf⟩=T (jd je b.g.epoch):=ah h.box (by
  rw[i,lw];exact(nB c 2).trans (lN (vm:=b.vm) (vt:=b.vt) c.leads.llen).2.1)
 unfold chM;simp only[l]
 rfl
theorem yh(d:jg CP)(H U V:jl)(r:jb)(q:LBy)(j:q.length=32)(w0 w:jj)(s m bp bf:jc)(v:w0.heap.size<=s)(F:jk s w0 w)(y:s<=m)(l:m<=w.heap.size)(P:cC w0 H d)
 (Q:aH (λb=>m<=b/\b<w.heap.size) w U 32 (bU (d.map (·.1)) d.length).length (eJ (d.map (·.1)) (bU (d.map (·.1)) d.length))) (R:aH (λb=>m<=b/\b<w.heap.size) w V 1 (bU (d.map (·.1)) d.length).length (fQ (bU (d.map (·.1)) d.length)))
 (o:w.heap[bp]?=T (ja #[H,U,V] VP.t (0,0))) (u:w.heap[bf]?=T (ja (cZ r q).toArray VF.t (0,0))) (S:m<=bp) (X:m<=bf) (C:∀p∈d,da (aR p.1)) (hT:bP w0) (D:d.length<=1000) (aa:∀p∈d,p.1.chg.length<=1000000):
 zV jo 36 #[jt (T ⟨bp,0,jf⟩),jt (T ⟨bf,0,jf⟩)] (λk:CK=>#[jh (aL k).toArray]) (λk=>m<=k/\k<w.heap.size) s (λxs=>xs.map CK.cand=dU r q (d.map (·.1))) (λa=>∃c,a.map CK.cand++c=dU r q (d.map (·.1)))
  (λys Ψ e=>(∃a x,ys=a++[x]/\GK d Ψ e x)/\∃c,ys.map CK.cand++c=dU r q (d.map (·.1))) (λys Ψ B=>∀x∈ys,GK d Ψ B x) gb w:=by
 intro lp K Jx W c p x B hY ac;have e:fh w0 w s m (λk=>m<=k/\k<w.heap.size) W:=⟨λk g=>jJ g.2 c.size,λk a b=>⟨a,b⟩,λk _ g=>c.block k g,F.trans (c.mono (jE y l)),λk g=>g.1,c.size⟩;obtain⟨PA,f⟩:=J (#[H,U,V]);obtain⟨FA,i⟩:=J ((cZ r q).toArray);have bk:N (PA.size=VP.n):=O (by rw[f];rfl);have Y9:N (FA.size=VF.n):=O (by rw[i,jv];unfold cZ;rw[jZ,jw,j];rfl);rw[<-f]at o;rw[<-i]at u;have YR:N (∀Ψ z,fh w0 w s m Ψ z->z.heap[bp]?=T (ja PA VP.t (0,0))):=O λΨ z h=>(h.kept bp S (jA.1 o).1).trans o
 have bw:N (∀Ψ z,fh w0 w s m Ψ z->z.heap[bf]?=T (ja FA VF.t (0,0))):=O λΨ z h=>(h.kept bf X (jA.1 u).1).trans u
 have Yq:N (∀Ψ z,fh w0 w s m Ψ z->iq (·<z.heap.size) z H U V d):=O λΨ z h=>h.pool v P Q R
 have bl:N (∀Ψ z,fh w0 w s m Ψ z->bP z):=O λΨ z h=>hT.below (h.bel.mono v)
 have bA:=O f;have b5:=O i;have HE:=O C;have HN:=O D;have Vo:=O aa;have Zi:=O e;have M:=O p;have b6:=O x;have HG:=O B;have HY:=O hY;have E:=O ac;have Ym:=O (jE y l);have Z6:=O l;have ba:=O c.size;have b7:=O j;have Wy:=O (YR _ _ e);have U1:=O (bw _ _ e);have t:=Fi d H U V r q j W (Yq _ _ e) C (bl _ _ e) D;rw[<-f,<-i]at t;replace t:=O t;clear c p x B hY ac e f i o u v F y l P Q R S X C hT D aa j;refine(qL (n:=0)).1 ?_;refine callsIn_of_wp func36 I trivial ?_ I;simp only[ntmps36,jv,jZ,qv,qw,qx,qy,qz,qA,qB,qe,qC]
 gi_wp2_with (first|(refine VP.loadAI aj I I PA bk Wy (L ?_))|(refine VF.loadAI aj I I FA Y9 U1 (L ?_)))
 refine⟨trivial,I,(callsIn_wide.2 t).mono ?_⟩;rintro e x1 ⟨p,o,rfl,c,ad,f,i,u⟩;obtain⟨l,rfl,x,y⟩:∃l:jG CK,o=l.isSome/\(∀k,l=T k->p=(aL k).toArray/\KD (λb=>W.heap.size<=b/\b<x1.heap.size) d x1 k/\ft r q (d.map (·.1))=T k.cand)/\(l=jf->ft r q (d.map (·.1))=jf):=by
  rcases o with _|_
  ·exact⟨jf,I,(λk g=>by cases g),(λ_=>i I)⟩
  obtain⟨k,C,P,h3⟩:=f I;exact⟨T k,I,λj g=>by injection g with g;subst g;exact⟨C,P,h3⟩,λh=>by cases h⟩
 have D:=O c;have F:=O ad;have v:=O x;have R:=O y;have X:=O u;clear c ad f i x y u Wy U1 t;obtain⟨ok,c⟩:=J l.isSome;rw[<-c];have bB:=O c;clear c
 gi_wp2_with (first|(refine VK.madeI I I (L ?_))|(refine VK.firstI I I I p I D F (L ?_)))
 obtain⟨x2,b4,hx,u,Q,t⟩:=dt x1 p VK.t;rw[<-hx,<-u];have x:=X.trans (t.mono X.size);obtain⟨y,f⟩:∃y:jc->Prop,y=λk=>(m<=k/\k<w.heap.size)\/k=b4:=⟨_,I⟩
 have aa:W.heap.size<=b4:=by rw[u];exact X.size
 have S:∀b,(W.heap.size<=b/\b<x1.heap.size)->¬y b:=λb bm h=>by
  rw[f]at h;have:=ba.out
  rcases h with h|h
  ·omega
  omega
 have ac:N (fh w0 w s m y x2):=O (by rw[f];exact(Zi.below Ym x).more (by rw[u];have h:=(jA.1 Q).1;rw[u]at h;exact h) (ee ba Z6));have UR:N (K [] y x2):=O (M _ _ y _ _ E.out (bL.ofBelow x λk g _=>g) (λk g=>by rw[f];exact .inl g) (λk g=>by
  rw[f]at g
  rcases g with g|g
  ·exact .inl g
  exact .inr (by rw[g];exact aa)))
 have VJ:N (∀k,l=T k->K [] (λi=>y i\/gb k i) x2):=O λk g=>M _ _ (λi=>y i\/gb k i) _ _ E.out (bL.ofBelow x λk g _=>g) (λi c=>by rw[f];exact .inl (.inl c)) (λi c=>by
  rw[f]at c
  rcases c with(c|c)|c
  ·exact .inl c
  ·exact .inr (by rw[c];exact aa)
  exact .inr (rE (v k g).2.1 c).1)
 have B:N (CSt d r q w x2 y b4 p [] l):=O ⟨Q,D,F,by rw[f];exact .inr I,jE ba aa,λk g=>by
  obtain⟨e1,e2,e3⟩:=v k g;refine⟨e1,GK.of (e2.keep λb bm=>t.block b bm.2) S,_,(Ag e3).1⟩,by
  rw[uK,jY,qe]
  rcases l with _|k
  ·rw[R I];rfl
  rw[(v k I).2.2];rfl⟩
 have UX:N (W.heap.size<=x2.heap.size):=O x.size;clear hx u t x aa S f v R X Q D F E Zi
 gi_loopw [4,5] (λf ok wr=>W.heap.size<=wr.heap.size/\∃(b:jc) (p:jq jl) (ys:jg CK) (l:jG CK) (Ψ:jc->Prop),f=jt (T ⟨b,0,jf⟩)/\ok=.bool l.isSome/\N (fh w0 w s m Ψ wr)/\N (K ys Ψ wr)/\N (∀k,l=T k->K ys (λi=>Ψ i\/gb k i) wr)/\N (CSt d r q w wr Ψ b p ys l)) (λf ok wr=>chM (d.map (·.1)) f ok wr)
 case atStart=>exact⟨UX,b4,p,[],l,y,I,by rw[bB],ac,UR,VJ,B⟩
 obtain⟨b8,b,p,ys,l,Ψ,rfl,rfl,ac,UR,VJ,B⟩:=hrel
 rcases l with _|k
 ·have t:N (ys.map CK.cand=dU r q (d.map (·.1))):=O (by have h:=B.rest;unfold uv at h;rw[qD]at h;exact h)
  gi_wp2_with fail
  refine⟨(λf h=>by cases h),?_⟩
  gi_wp2_with fail
  refine bodyPost_end (results_none I _ _ _) I ?_;exact⟨⟨_,I⟩,.inl ⟨_,_,t,UR⟩⟩
 obtain⟨f,t,g0,v⟩:=B.now k I;have bC:=O t;have ZE:=O v;have bI:=O f;have bn:N (cC wr H d):=O (Yq _ _ ac.out).list;have bK:=O (GF B bn);have UV:N ((ys++[k]).map CK.cand++yx (d.map (·.1)) k=dU r q (d.map (·.1))):=O (by
  rw[<-B.rest,mb,qT,KI]
  rfl)
 have UD:=O B.box;have ax:=O B.sz;have X:=O B.one;have bo:=HY ys k Ψ wr UR (VJ k I) ac.lt ⟨⟨ys,k,I,t⟩,_,UV⟩;rw[<-f]at bo;obtain⟨fn,tmps,assign,body,ad,D⟩:=bo;have HR:=O D;clear D f t v
 gi_wp2_with (first|(refine VK.loadAI aj I I p ax UD (L ?_)))
 refine⟨I,HR.mono ?_⟩;rintro e W3 (⟨rfl,YU,x,UY⟩|⟨rfl,ZA,x,UY⟩)
 ·have E:=O (ac.yield x UY)
  have a2:=O (HG _ _ _ YU k ar);have ay:=O YU;have VZ:=O ((UY b B.mine).trans UD);have Wi:=x.size;clear YU x UY HR ad ac bC UR VJ UD bn
  gi_upto_region 2 with(first|(refine VK.loadAI aj I I p ax VZ (L ?_))|(refine VK.madeI I I (L ?_))|(refine VK.firstI I I I p I ax X (L ?_)))
  obtain⟨D,v,hx,u,Q,F⟩:=dt W3 p VK.t;rw[<-hx,<-u];obtain⟨f,t⟩:∃f:jc->Prop,f=λi=>Ψ i\/i=v:=⟨_,I⟩
  have YM:v<D.heap.size:=(jA.1 Q).1;have au:N (fh w0 w s m f D):=O (by rw[t];exact(E.below Ym F).more YM (by rw[u];have:=E.sz;have:=Z6.out;omega));have R:∀i,f i->Ψ i\/W3.heap.size<=i:=λi c=>by
   rw[t]at c
   rcases c with c|c
   ·exact .inl c
   exact .inr (by rw[c,u];exact jF _)
  have S:bL W.heap.size f W3 D:=bL.ofBelow F λi c _=>c
  have bq:N (K (ys++[k]) f D):=O (M _ _ f _ _ ay.out S (λi c=>by rw[t];exact .inl c) R);have bM:N (GK d f D k):=O (a2.turns S R);have a1:N (f v):=O (by rw[t];exact .inr I);have bb:N (w.heap.size<=v):=O (by rw[u];exact E.sz);have WC:N (W.heap.size<=D.heap.size/\W.heap.size<=v):=O ⟨by have:=F.size;omega,by rw[u];omega⟩;clear hx u F t YM R S E a2 ay VZ Wi;have bc:=O (Yq _ _ au.out);have Wy:=O (YR _ _ au.out);have ZM:=O (KD.kin bM bc.list);have br:=O (oM (iz (rP ZE)));have VW:N ((aD k.g k.vm k.vt).length=VG.n):=O (eX ZM.leads.llen);have bN:N (D.rangeAt v 107 (aD k.g k.vm k.vt)):=O λt b9 ht=>ah Q (by
   rw[bI,lw];have h:=nB ZM (1+t);rw[<-qn,qt 1 t,qE]at h;exact h.trans ht)
  have a2:=ud d H U V k.g k.vm k.vt D bc ZM.leads HE (bl _ _ au.out) HN (by have h:=br.1;rw[<-ZE.leads]at h;have P:k.g.mem.length<=512:=h;omega) (by have h:=br.2;rw[<-ZE.leads]at h;have P:k.g.tree.length<=1023:=h;omega) Vo;obtain⟨GA,E⟩:=J ((aD k.g k.vm k.vt).toArray);rw[<-E,<-bA]at a2;have Y5:=O E;replace a2:=O a2;clear E
  gi_wp2_with (first|(refine VP.loadAI aj I I PA bk Wy (L ?_))|(refine VG.loadI aj I I (aD k.g k.vm k.vt) VW bN ?_;rw[<-Y5];refine L ?_))
  refine⟨trivial,I,(callsIn_wide.2 a2).mono ?_⟩;rintro e x5 ⟨wk,rfl,a3,a4,R⟩;obtain⟨E,F⟩:=J (x5.setRow v (di wk));have bd:=au.lt;have aa:=bd v a1;have bg:=av Q R;have a5:=sF (wk:=wk) λj h=>(a3 j h).kin (bc.list.below R)
  have bO:=R.size;have bh:∀i,i≠v->E.heap[i]?=x5.heap[i]?:=λi c=>by rw[F];exact js _ _ _ _ c
  have a6:E.heap.size=x5.heap.size:=by rw[F];exact setRow_size _ _ _
  have S:=au.below Ym R;have bs:N (fh w0 w s m f E):=O ⟨λi c=>by rw[a6];exact S.lt i c,S.old,λi C P=>(bh i (aI bb)).trans (S.kept i C P),by rw[F];exact iP S.bel (jE Ym bb) _,S.low,by rw[a6];exact S.sz⟩;have bT:N (K (ys++[k]) f E):=O (by
   have C:=M.keep bq (bL.ofBelow R λi c _=>c);rw[F];exact M.keep C (bL.setRow _ _ _ a1.out))
  have b0:N (∀j,wk=T j->K (ys++[k]) (λi=>f i\/gb j i) E):=O λj h=>by
   have C:=M _ _ (λi=>f i\/gb j i) _ _ bq.out (bL.ofBelow R λi c _=>c) (λi c=>.inl c) (λi c=>by
    rcases c with c|c
    ·exact .inl c
    exact .inr (rE (a3 j h) c).1)
   rw[F];exact M.keep C (bL.setRow _ _ _ (.inl a1))
  have bi:∀j,wk=T j->gB k.g (d.map (·.1)) j.cand:=λj h=>by
   rw[h]at a4;exact(ov (rC a4.symm)).1
  have bu:N (CSt d r q w E f v (di wk) (ys++[k]) wk):=O ⟨by rw[F];exact jT _ _ _ _ _ _ bg,a5.1,a5.2,a1,bb,λj h=>by
   refine⟨by rw[h];rfl,GK.of ((a3 j h).keep λi c=>bh i Y) (λi c h3=>by have:=bd i h3;omega),_,bi j h⟩,by
   rw[<-UV];refine qk (_ ++·) ?_;unfold uv yx;rw[<-a4]
   cases wk<;>rfl⟩
  have Z5:N (chM (d.map (·.1)) (jt (T ⟨v,0,jf⟩)) (.bool wk.isSome) E<chM (d.map (·.1)) (jt (T ⟨b,0,jf⟩)) (.bool ji) wr):=O (by
   rw[bK]
   cases hwk:wk with
   |none=>exact qU _
   |some j=>
    have C:=GF (hwk▸bu.out) (Yq _ _ bs.out).list;have P:=sM (bi j hwk);have h3:iE (d.map (·.1)) j.g<iE (d.map (·.1)) k.g:=P;show chM _ _ (.bool ji) _ <_;rw[C];omega)
  have b1:=O bg;have bv:=O a5;have b2:=O F;have b3:N (W.heap.size<=E.heap.size):=O (by rw[a6];have:=WC.out;omega);clear bd aa bg a5 bO bh a6 S bi a3 a4 R F
  gi_wp2_with (first|(refine VK.storeI I I I (di wk) I bv.1 bv.2 b1 ax ?_;rw[<-b2];refine L ?_))
  exact⟨⟨b3,v,di wk,ys++[k],wk,f,I,I,bs,bT,b0,bu⟩,Z5⟩
 have ay:=O ZA;clear ZA x UY HR ad
 gi_wp2_with fail
 refine bodyPost_end (results_none I _ _ _) I ?_;exact⟨⟨_,I⟩,.inr ⟨_,_,⟨_,UV⟩,ay⟩⟩
end
theorem RQ{P:oj}{i:Exit->Act->jj->Prop}{b M B:jc}{m:Act}{w:jj}(S:jj->Prop)(f:jc)(t:bE)(g:P.follows .mixedOrders=ji)(d:Region.noSelect U=ji)(j:rJ U=ji)
 (k:gz .any U t (qf U.size jn)=ji) (a:t.waits .any U f=ji) (o:t.len<=U.size) (p:∀c m h w,i (.panic c) m w->i (.panic c) h w) (c:¬LetsOut i)
 (q:S w.drew) (h:cX P U i S f t m w.drew):(Code.region B U ji).wpIn (Fence.wide.inRound b) M P i m w:=
 wpIn_region_any g (yt c j _ _ _ _ (rK _ _ _ _ (iM.zero _) (kC d p t _ _ _ _ o k a (.inr q) h)))
theorem zK(a b:jq jl)(w:jj):jB jo 21 #[jh a,jh b] w λe w'=>
 e=jz (.func (.func 36) #[] #[jt (T ⟨w,0,jf⟩),jt (T ⟨w.heap.size+1,0,jf⟩)])/\w'=(w.alloc (ja a 75)).alloc (ja b 25):=by
 go_enter func21,ntmps21
 go_wp2_with fail
 go_ret;exact⟨I,I⟩
theorem zE(t:jq jl)(p:Tmp)(v:jl):(#[p].zip #[v]).foldl (λt (p,v)=>t.setIfInBounds p v) t=t.setIfInBounds p v:=by simp
theorem za(l:jg Cmt):∀(n:jc) (c:jG aN),(kS l n c).length<=n
 |0,_=>jF _
 |_ +1,jf=>jN _
 |n+1,T c=>Nat.succ_le_succ (za l n _)
noncomputable def RG:eI jo:=.of 39 51 36 96 (jh VG.Z) underlying39 af VG.hZ G G G
theorem bL.more(h:bL b D w W):bL b (λB0=>D B0\/E B0) w W:=⟨h.os,h.tape,h.output,h.size,λk B0 d=>h.block k B0 λe=>d (.inl e)⟩
theorem bY.more{β:Type}{c:β->(jc->Prop)->jj->Prop}(h:bY b c)(d:β->jc->Prop):bY b (λs Ψ W=>c s (λB0=>Ψ B0\/d s B0) W):=
 λs Ψ j B0 B e f g i=>h s _ _ B0 B e f.more (λk a=>a.imp (g k) id) λk a=>a.elim (λa=>(i k a).imp .inl id) λa=>.inl (.inr a)
def gbs(ys:jg CK)(b:jc):Prop:=∃k∈ys,gb k b
def ChI(a:jg CP)(M:jc)(w:jj)(ys:jg CK)(Ψ:jc->Prop)(W:jj):Prop:=(∀x∈ys,GK a Ψ W x)/\gP (M+1) 38 (M+1) RI.e RI.k ys.length (ys.map λk=>jH .i64 (k.ix:jc)) (λ_=>True) (λb=>Ψ b\/gbs ys b) W/\gP (M+2) 39 (M+1) RG.e RG.k ys.length (ys.flatMap λk=>aD k.g k.vm k.vt) (λ_=>True) (λb=>Ψ b\/gbs ys b) W/\(jk w w W/\∀k,Ψ k->w.heap.size<=k)
theorem Ff(a:jg CP)(M:jc)(w:jj)(B0:jc)(h:w.heap.size<=B0):bY B0 (ChI a M w):=
 (Dg _ _).and (((mY _ _ _ _ _ _ (λys:jg CK=>ys.length) (λys=>ys.map λk=>jH .i64 (k.ix:jc)) (λ_ _=>True)).more gbs).and (((mY _ _ _ _ _ _ (λys:jg CK=>ys.length) (λys=>ys.flatMap λk=>aD k.g k.vm k.vt) (λ_ _=>True)).more gbs).and (kH _ _ w (jF _) h)))
def Off(B M:jc)(t e:jM)(k:jc)(x:CK)(Ψ:jc->Prop)(W:jj):Prop:=∃n xs,gP B t M e k n xs (λ_=>True) (λb=>Ψ b\/gb x b) W
theorem Off.stable(B M:jc)(t e:jM)(k B0:jc):bY B0 (Off B M t e k):=by
 rintro x Ψ a b W ⟨n,xs,h⟩ c d f;exact⟨n,xs,((mY B0 B t M e k (λ_:CK=>n) (λ_=>xs) (λ_ _=>True)).more gb) x Ψ a b W h c d f⟩
theorem Off.sep{e:jM}{x:CK}(h:Off b M p e B x D w)(c:Boxed w b p j):¬gb x b/\∀v,j.ownBlock=T v->¬gb x v:=by
 obtain⟨n,xs,k,d,f,-,g,-⟩:=h;have e:j=k:=by have a:T (Obj.cells #[j] p (0,0))=T (ja #[k] p (0,0)):=c.symm.trans d;injection a with a;injection a with a;simpa using a
 exact⟨λh=>f (.inr h),λv i h=>g v (by rw[<-e];exact i) (.inr h)⟩
theorem gP.less{e:jM}{n:jc}{a:jl->Prop}(h:gP b p M e B n r a D w)(d:∀k,E k->D k):gP b p M e B n r a E w:=by
 obtain⟨v,f,g,i,k,l⟩:=h;exact⟨v,f,λh=>g (d _ h),i,λj m h=>k j m (d _ h),l⟩
theorem tX{F:jg CK}{x:CK}(h:gbs (F++[x]) b):gbs F b\/gb x b:=by
 obtain⟨k,a,h⟩:=h
 rcases n0.1 a with a|a
 ·exact .inl ⟨k,a,h⟩
 rw[jO]at a;exact .inr (a▸h)
def Dt(a:jg CP)(M:jc)(c:jc->CK->jq jl)(x:CK)(d:Act)(Ψ:jc->Prop)(W:jj):Prop:=(∃b,d={tmps:=c b x,defers:=[]}/\W.heap[b]?=T (ja (aL x).toArray VK.t (0,0))/\¬Ψ b/\GK a Ψ W x)/\Off (M+1) (M+1) 38 RI.e RI.k x Ψ W/\Off (M+2) (M+1) 39 RG.e RG.k x Ψ W
theorem TH(i:jg CP)(M:jc)(j:jc->CK->jq jl)(B0:jc):bY B0 (fun(s:CK×Act) Ψ W=>Dt i M j s.1 s.2 Ψ W):=by
 rintro⟨x,p⟩ Ψ k q B ⟨⟨b,e,d,l,m⟩,n,o⟩ a f c;have g:¬k b:=λh=>by
  rcases c b h with h|h
  ·exact l h
  have:=(jA.1 d).1;omega
 exact⟨⟨b,e,a.cells d g,g,m.turns a c⟩,Off.stable _ _ _ _ _ B0 _ _ _ _ _ n a f c,Off.stable _ _ _ _ _ B0 _ _ _ _ _ o a f c⟩
theorem vg{k:jc}(h:w.ownsRow b p M j B r){o:Obj}(d:w.heap[k]?=T o)(c:o.isCells=jn):j.ownBlock≠T k:=λa=>by
 rcases h.2 with f|⟨g,v,l,i,-,n,-⟩
 ·rw[f.1]at a;cases a
 rw[i]at a;obtain rfl:g=k:=by injection a
 rw[d]at n;injection n with n
 rw[n]at c
 cases c
theorem ChI.step{F:jg CP}{n:jc}{a H l:jj}{i:jg CK}{x:CK}{u1 u2 m o y1 y2:jl}(K:∀k∈i++[x],GK F Ψ a k)(hB:jk w w a)(q:jk a a H)(hw:w.heap.size<=M+1)
 (hΨ:∀k,Ψ k->w.heap.size<=k) (hl:∀k,Ψ k->k<a.heap.size) (v:Boxed a (M+1) 38 u1) (P:Boxed a (M+2) 39 u2) (Q:¬(Ψ (M+1)\/gbs (i++[x]) (M+1))) (R:¬(Ψ (M+2)\/gbs (i++[x]) (M+2)))
 (S:∀j,u1.ownBlock=T j->¬(Ψ j\/gbs (i++[x]) j)) (U:∀j,u2.ownBlock=T j->¬(Ψ j\/gbs (i++[x]) j)) (ac:∀j,u1.ownBlock=T j->M+1<=j) (Up:∀j,u2.ownBlock=T j->M+1<=j) (V:n=i.length)
 (W:u1.ownBlock≠T (M+1)/\u2.ownBlock≠T (M+1)) (X:u1.ownBlock≠T (M+2)/\u2.ownBlock≠T (M+2)) (Y4:y1.cells.toList=[jd je (x.ix:jc)]) (ad:y2.cells.toList=aD x.g x.vm x.vt)
 (d:zM RI RG (M+1) H l u1 u2 m o (n+1) (n+1) (i.map (λk=>jH .i64 (k.ix:jc))++y1.cells.toList) (i.flatMap (λk=>aD k.g k.vm k.vt)++y2.cells.toList)):
 ChI F M w (i++[x]) Ψ ((l.setCell ⟨M+1,0,jf⟩ m).setCell ⟨M+2,0,jf⟩ o)/\jk (M+1) a ((l.setCell ⟨M+1,0,jf⟩ m).setCell ⟨M+2,0,jf⟩ o)/\
  ∀k,k<a.heap.size->k≠M+1->k≠M+2->u1.ownBlock≠T k->u2.ownBlock≠T k->((l.setCell ⟨M+1,0,jf⟩ m).setCell ⟨M+2,0,jf⟩ o).heap[k]?=a.heap[k]?:=by
 have y:l.heap[M+1]?=T (ja #[u1] 38 (0,0)):=(d.heap _ (jJ v.lt q.size) W.1 W.2).trans (av v q);have z:l.heap[M+2]?=T (ja #[u2] 39 (0,0)):=(d.heap _ (jJ P.lt q.size) X.1 X.2).trans (av P q);have B:∀k,k≠M+1->k≠M+2->((l.setCell ⟨M+1,0,jf⟩ m).setCell ⟨M+2,0,jf⟩ o).heap[k]?=l.heap[k]?:=λk C r=>(dB _ r).trans (dB _ C)
 have D:∀k,k<a.heap.size->k≠M+1->k≠M+2->u1.ownBlock≠T k->u2.ownBlock≠T k->((l.setCell ⟨M+1,0,jf⟩ m).setCell ⟨M+2,0,jf⟩ o).heap[k]?=a.heap[k]?:=λk h C r s h4=>
  (B k C r).trans ((d.heap k (jJ h q.size) s h4).trans (q.block k h))
 have aa:jk (M+1) a ((l.setCell ⟨M+1,0,jf⟩ m).setCell ⟨M+2,0,jf⟩ o):=by
  have h:=(q.mono (jN _)).trans d.bel;have r:=(h.setCell (p:=⟨M+1,0,jf⟩) (jN _) m).setCell (p:=⟨M+2,0,jf⟩) (jN _) o;refine⟨r.os,r.tape,r.output,r.size,λk u=>?_⟩;have s:=v.lt;exact D k Y Y Y (λe=>by have:=ac k e;omega) (λe=>by have:=Up k e;omega)
 have E:∀j,(Ψ j\/gbs (i++[x]) j)->j<a.heap.size:=by
  rintro j (h|⟨k,u,h⟩)
  ·exact hl j h
  obtain⟨-,-,c,t,f,s⟩:=rE (K k u) h;exact(jA.1 s).1
 have hz:=q.size;refine⟨⟨λk u=>(K k u).keep λb hb s h4=>⟨?_,s⟩,⟨m,?_,Q,?_,?_,trivial⟩,⟨o,?_,R,?_,?_,trivial⟩,hB.trans (aa.mono hw),hΨ⟩,aa,D⟩
 ·have c:Ψ b\/gbs (i++[x]) b:=.inr ⟨k,u,hb⟩
  exact D b (E b c) (λe=>Q (e▸c)) (λe=>R (e▸c)) (λe=>S b e c) (λe=>U b e c)
 ·exact(dB _ (show M+1≠M+2 by omega)).trans (fa m y)
 ·have h:=iB d.own1 λg f=>B g (λe=>cO d.own1 y G (e▸f)) (λe=>cO d.own1 z G (e▸f))
  rw[Y4,V]at h;rw[qg,mb];exact h
 ·intro j t c
  rcases d.lie1 with h|h
  ·exact S j (h▸t) c
  have:=h j t;have:=E j c;omega
 ·exact fa o ((dB _ (show M+2≠M+1 by omega)).trans z)
 ·have h:=iB d.own2 λg f=>B g (λe=>cO d.own2 y G (e▸f)) (λe=>cO d.own2 z G (e▸f))
  rw[ad,V]at h;rw[qg,List.flatMap_append,List.flatMap_singleton];exact h
 intro j t c
 rcases d.lie2 with h|h
 ·exact U j (h▸t) c
 have:=h j t;have:=E j c;omega
theorem yE(d:jg CP)(v:jl)(ax:jb)(Ur:LBy)(n:Ur.length=32)(w:jj)(q:cC w v d)(t:∀p∈d,da (aR p.1))(u:bP w)(Q:d.length<=1000)(x:∀p∈d,p.1.chg.length<=1000000):
 jB jo 7 #[jh (cZ ax Ur).toArray,v] w λe w'=>∃(u1 u2:jl) (Ks:jg CK),e=jz (jI #[u1,u2])/\Ks.map CK.cand=dU ax Ur (d.map (·.1))/\aH (λb=>w.heap.size<=b/\b<w'.heap.size) w' u1 1 Ks.length (Ks.map λk=>jH .i64 k.ix)/\
  aH (λb=>w.heap.size<=b/\b<w'.heap.size) w' u2 36 Ks.length (Ks.flatMap λk=>aD k.g k.vm k.vt)/\(∀k∈Ks,KD (λb=>b<w'.heap.size) d w' k)/\jk w w w':=by
 obtain⟨p1,k1,rfl⟩:=q.form;obtain⟨r,j⟩:=J ((cZ ax Ur).toArray);have Y9:N (r.size=VF.n):=O (by rw[j,jv];unfold cZ;rw[jZ,jw,n];rfl);rw[<-j];obtain⟨M,f⟩:=J w.heap.size;obtain⟨x0,a⟩:=J (((w.alloc (ja r 25)).alloc (ja #[A jf 0 0] 38)).alloc (ja #[A jf 0 0] 39));have l:=ao w (ja r 25);have s:=l.trans ((ao (w.alloc (ja r 25)) (ja #[A jf 0 0] 38)).mono l.size);have m:=ao ((w.alloc (ja r 25)).alloc (ja #[A jf 0 0] 38)) (ja #[A jf 0 0] 39);have c:N (x0.heap[M]?=T (ja r VF.t (0,0))):=O (by rw[a,f];exact av (av (jy w _) (ao _ _)) m);have UT:N (x0.heap[M+1]?=T (ja #[A jf 0 0] 38 (0,0))):=O (by
  have h:=jy (w.alloc (ja r 25)) (ja #[A jf 0 0] 38);rw[jp]at h;rw[a,f];exact av h m)
 have U8:N (x0.heap[M+2]?=T (ja #[A jf 0 0] 39 (0,0))):=O (by
  have h:=jy ((w.alloc (ja r 25)).alloc (ja #[A jf 0 0] 38)) (ja #[A jf 0 0] 39);rw[jp,jp]at h;rw[a,f];exact h)
 have F:N (jk w w x0):=O (by rw[a];exact s.trans (m.mono s.size));have bk:N (x0.heap.size=M+3):=O (by rw[a,f,jp,jp,jp]);obtain⟨xF,g⟩:=J (w.alloc (ja r 25));have ay:N (xF.heap.size=M+1):=O (by rw[g,f,jp]);have ba:N (jk w w xF):=O (by rw[g];exact l);have S:N (jk (M+1) xF x0):=O (by
  have h:=(ao xF (ja #[A jf 0 0] 38)).trans ((ao (xF.alloc (ja #[A jf 0 0] 38)) (ja #[A jf 0 0] 39)).mono (ao xF _).size);rw[ay,g,<-a]at h;rw[g];exact h)
 have HL:=O q;have HE:=O t;have HT:=O u;have HN:=O Q;have Vo:=O x;have HM:=O f;have y:=O a;have bl:=O j;have bm:=O n;clear g l s m j f a q t u Q x n;refine(qL (n:=0)).1 ?_;refine r5 func7 I trivial ?_ I;refine wpIn_wide.2 ?_;simp only[ntmps7,jv,jZ,qv,qw,qx,qy,qz,qA,qB,qe,qC]
 go_upto_region 1 with fail
 rw[<-y]
 try simp only[jp]
 try rw[show w.heap.size+1+1=w.heap.size+2 from I]
 rw[<-HM];clear y;refine jL ?_;refine fM (λg=>g.heap[M]?=T (ja r VF.t (0,0))) 4 (.take 0 (.take 2 (.one 1 (.one 3 .done)))) af af af af G (λ_ _ _ _ h=>h) c ?_;have a:=bX x0;obtain⟨x1,U⟩:=J x0.drew;rw[<-U]at a⊢;have bb:N (M+3<=x1.heap.size):=O (by rw[<-bk];exact a.size);replace F:=ai F a;replace c:=ae c a;replace UT:=ae UT a;replace S:=O (S.trans (a.mono (by have:=S.size;have:=ay.out;omega)));replace U8:=ae U8 a;clear U a;refine co ?_
 (refine cJ (v:=jh r) I aj (λg m=>dh VF.hu VF.hd (by rw[Y9];exact VF.hi) I I m) ?_;refine L ?_)
 refine cV I (λK' f=>?_);go_simp;refine(pS d _ x1 (HL.below F) HE (HT.below F) HN).mono ?_;rintro e x2 ⟨v2,v3,rfl,j,a⟩;have l:=O (j.mono (E:=λb=>M+3<=b/\b<x2.heap.size) λb q=>⟨jE bb q.1,q.2⟩);have YZ:N (M+3<=x2.heap.size):=O (jE bb a.size);replace F:=ai F a;replace c:=ae c a;replace UT:=ae UT a;replace S:=O (S.trans (a.mono (by have:=S.size;have:=ay.out;omega)));replace U8:=ae U8 a;refine f _ _ c.out λ_=>?_
 clear f j a;refine L ?_;refine cV I (λK' f=>?_);go_simp;refine(zK _ r x2).mono ?_;rintro e s ⟨rfl,j⟩;have a:jk x2 x2 s:=by rw[j];exact(ao _ _).trans ((ao _ _).mono (ao _ _).size)
 have YR:N (s.heap[x2.heap.size]?=T (ja #[A p1 d.length k1,v2,v3] VP.t (0,0))):=O (by rw[j];exact av (jy x2 _) (ao _ _));have bc:N (s.heap[x2.heap.size+1]?=T (ja r VF.t (0,0))):=O (by
  have h:=jy (x2.alloc (ja #[A p1 d.length k1,v2,v3] 75)) (ja r 25);rw[jp]at h;rw[j];exact h)
 have Zp:N (s.heap.size=x2.heap.size+2):=O (by rw[j,jp,jp]);replace F:=ai F a;replace UT:=ae UT a;replace S:=O (S.trans (a.mono (by have:=S.size;have:=ay.out;omega)));replace U8:=ae U8 a;have t:N (aH (λb=>M+3<=b/\b<s.heap.size) s v2 32 (bU (d.map (·.1)) d.length).length (eJ (d.map (·.1)) (bU (d.map (·.1)) d.length))):=O ((l.ids.keep λb q=>a.block b q.2).mono λb q=>⟨q.1,by have:=Zp.out;omega⟩);have u:N (aH (λb=>M+3<=b/\b<s.heap.size) s v3 1 (bU (d.map (·.1)) d.length).length (fQ (bU (d.map (·.1)) d.length))):=O ((l.at_.keep λb q=>a.block b q.2).mono λb q=>⟨q.1,by have:=Zp.out;omega⟩);refine f _ _ (av c a) λ_=>?_
 clear f j a c l;refine L ?_;refine fb ?_
 go_wp2_with fail
 obtain⟨bp,c⟩:=J x2.heap.size;rw[<-c]at YR bc YZ Zp⊢;have j:=yh d (A p1 d.length k1) v2 v3 ax Ur bm xF s (M+1) (M+3) bp (bp+1) (j5 ay) S Y (ee Zp YZ) (HL.below ba) t u YR.out (by rw[<-bl];exact bc) YZ (aI YZ) HE (HT.below ba) HN Vo;have bn:=O j;clear j c t u;refine(wpIn_wide (n:=0)).1 ?_;refine rD (n:=0) (gf:=36) (lb:=#[jt (T ⟨bp,0,jf⟩),jt (T ⟨bp+1,0,jf⟩)]) I (enters_of func36 af I) bn (ee Zp YZ) (λ_=>rfl) (λk l=>l.2)
  (ChI d M w)
  (λ_ _ _ _=>False) ?hI (λys Ψ B h=>h.1) (λ_=>fk _ _) ?h0
  (Dt d M λb x=>#[jh r,A p1 d.length k1,jt (T ⟨M,0,jf⟩),jm,jt (T ⟨M+1,0,jf⟩),jt (T ⟨M+2,0,jf⟩),jt (T ⟨b,0,jf⟩),A p1 d.length k1,jh #[A p1 d.length k1,v2,v3],jh r,.func (.func 36) #[] #[jt (T ⟨bp,0,jf⟩),jt (T ⟨bp+1,0,jf⟩)],jh (aL x).toArray,jm,jm,jm,jm,jm,jm,jm,jm,jm,jm,jm,jm]) ?hAx ?assign ?body ?done ?stop
 case hI=>exact Ff _ _ _ _ F.size
 case h0=>exact⟨(λx U=>by cases U),⟨_,UT,λh=>h.elim (λh=>by have h:=h.1;omega) fun⟨_,l,_⟩=>(by cases l),qV _ _ _ _,by simp[sv],trivial⟩,⟨_,U8,λh=>h.elim (λh=>by have h:=h.1;omega) fun⟨_,l,_⟩=>(by cases l),qV _ _ _ _,by simp[sv],trivial⟩,F,λk l=>by have:=HM.out;omega⟩
 case stop=>
  intro D c Ui Ψ W _ _ h;exact h.elim
 case hAx=>exact TH _ _ _ _
 case assign=>
  intro l' Ui x Ψ t K hI u hV hΨ f;have aa:GK d Ψ t x:=by
   obtain⟨⟨j,y,e,h⟩,-⟩:=hV;have e2:=(qW e I).2;injection e2 with e2
   rw[e2];exact h
  have P:=KD.kin aa (HL.below hI.2.2.2.1);obtain⟨X,j⟩:=J ((aL x).toArray);have y:X.size=VK.n:=by rw[j,jv];exact P.len
  have z:X.all (·.oneCell')=ji:=by rw[j,jR];exact λac hu=>P.ones ac (ak hu)
  have C:=O y;have UT:=O z;have B:=O j;have H:=O f;have R:=O hI;have V:N (Off (M+1) (M+1) 38 RI.e RI.k x Ψ t):=O ⟨_,_,u.2.1.less λk l=>.inl l⟩;have Va:N (Off (M+2) (M+1) 39 RG.e RG.k x Ψ t):=O ⟨_,_,u.2.2.1.less λk l=>.inl l⟩;have ad:=O aa;have HΨ:=O hΨ;rw[<-j];clear j y z f hI u aa hV P hΨ;rw[zE];simp only[qX,qY,qZ]
  gi_wp2_with (first|(refine VK.madeI I I (L ?_))|(refine VK.firstI I I I X I C UT (L ?_)))
  have u:=ao t (ja X VK.t);refine H _ _ u (Ff d M w w.heap.size (jF _) _ _ _ _ _ R.out (bL.ofBelow u λ_ h _=>h) (λ_ h=>h) λ_ h=>.inl h) ?_;have y:bL 0 Ψ t (t.alloc (ja X VK.t)):=bL.ofBelow u λ_ h _=>h
  refine⟨⟨t.heap.size,by rw[B],by rw[<-B];exact jy _ _,λh=>by have:=HΨ _ h;omega,ad.turns y λ_ h=>.inl h⟩,Off.stable _ _ _ _ _ 0 _ _ _ _ _ V.out y (λ_ h=>h) λ_ h=>.inl h,Off.stable _ _ _ _ _ 0 _ _ _ _ _ Va.out y (λ_ h=>h) λ_ h=>.inl h⟩
 case body=>
  rintro l' Ui x Ψ bA a5 ⟨aa,⟨u1,u,a3,B,ad,-⟩,⟨u2,y,U6,C,au,-⟩,a1,hΨ⟩ ⟨⟨b,rfl,a6,bB,bd⟩,bo,bq⟩ hV Ye br hl bf bs;obtain⟨H,K,rfl⟩:=cK B;obtain⟨V,c2,rfl⟩:=cK C;obtain⟨n,Q⟩:=J Ui.length;rw[<-Q]at u y B C ad au;have P:=KD.kin bd (HL.below a1);obtain⟨X,j⟩:=J ((aL x).toArray);have bu:N (X[0]?=T (jd je (x.ix:jc))):=O (by rw[j];simpa using(mG P).1);have bv:N (∀z:jj,z.heap[b]?=T (ja X VK.t (0,0))->z.rangeAt b 107 (aD x.g x.vm x.vt)):=O λz hz t ac ht=>ah hz (by
   rw[j,lw];have h:=nB P (1+t);rw[<-qn,qt 1 t,qE]at h;exact h.trans ht)
  have VW:N ((aD x.g x.vm x.vt).length=VG.n):=O (eX P.leads.llen);have Vl:N (∀ac∈aD x.g x.vm x.vt,ac.oneCell'=ji):=O (mQ P.leads);obtain⟨GA,R⟩:=J ((aD x.g x.vm x.vt).toArray);have Y5:=O R;have a2:=O Q;have bg:N (n<=1000000):=O (by
   obtain⟨-,-,-,a4,hV⟩:=hV;have h1:=qk List.length hV;have h2:(dU ax Ur (d.map (·.1))).length<=(d.map (·.1)).length+1:=za _ _ _;have h3:=HN.out;have h4:=a2.out;rw[qg,jw,qg]at h1;rw[jw]at h2
   omega)
  dsimp only;rw[<-j]at a6⊢;clear j R Q P
  gi_upto_region 3 with fail
  refine RQ (λg=>g.heap[M+1]?=T (ja #[A H n K] 38 (0,0))/\g.heap[M+2]?=T (ja #[A V n c2] 39 (0,0))/\g.heap[b]?=T (ja X VK.t (0,0))) 10
   (.take 0 (.take 1 (.take 2 (.take 5 (.take 6 (.take 7 (rT id (.one 10 (.one 11 .done))))))))) af af af af af G (λ_ _ _ _ h=>h) (fun⟨_,_,h⟩=>h) ⟨u,y,a6⟩ ?_
  have a:=bX a5;obtain⟨A1,U⟩:=J a5.drew;rw[<-U]at a⊢;have y1:=av u a;have y2:=av y a;have yb:=av a6 a;have R1:=cL B a;have R2:=cL C a;have bC:a5.heap.size<=A1.heap.size:=a.size;clear U
  (refine cJ (v:=?_) I aj (λg m=>?_) ?_;rotate_left;(have b1:=ah (i:=0) m.1 I;clear m;go_simp;with_reducible rfl);refine L ?_)
  refine co ?_
  (refine cJ (v:=?_) I aj (λg m=>?_) ?_;rotate_left;(have b1:=ah (i:=0) m.2.2 bu;clear m;go_simp;with_reducible rfl);refine L ?_)
  (refine cJ (v:=?_) I aj (λg m=>?_) ?_;rotate_left;(have b1:=ah (i:=0) m.2.1 I;clear m;go_simp;with_reducible rfl);refine L ?_)
  refine co ?_
  (refine cJ (v:=jh GA) I aj (λg m=>by rw[Y5];exact fx _ _ VG.t _ I _ _ I _ VG.d (bv g m.2.2) VG.hu VG.hd (by rw[VW];exact VG.hi)) ?_;refine L ?_)
  refine z7 RI RG (T0:=id) (E:=id) (r1:=15) (r2:=16) (rb:=20) (r3:=21) (s1:=14) (s2:=19) (t1:=12) (t2:=17) af (λ_ _ _ _ h=>h) af af
   rfl rfl rfl rfl rfl rfl rfl rfl rfl rfl rfl rfl rfl rfl rfl rfl (show 15<24 by decide) (show 20<24 by decide) G G G G G G
   (λj v=>rfl) (λj=>rfl) (λj=>rfl) (λj=>rfl) (λj w' R h P=>P)
   (x1:=jd je (x.ix:jc)) (x2:=jh GA) (u1:=A H n K) (u2:=A V n c2) rfl rfl rfl rfl rfl (by rw[Y5];exact VW) (by simp[Value.cells,j4]) (λac hu=>Vl ac (by rw[Y5]at hu;simpa [Value.cells]using hu)) R1 R2 (AJ R1 R2 G) bg bg (by have:=(jA.1 y1).1;omega) ?_ ?_
  ·intro w' l br
   exact⟨(l _ (jA.1 y1).1 (cO R1 y1 G) (cO R2 y1 G)).trans y1,(l _ (jA.1 y2).1 (cO R1 y2 G) (cO R2 y2 G)).trans y2,
    (l _ (jA.1 yb).1 (cO R1 yb G) (cO R2 yb G)).trans yb⟩
  rintro z1 z2 bI a4 A2 j;obtain⟨bK,d1,rfl⟩:=cK j.own1;obtain⟨bM,d2,rfl⟩:=cK j.own2;have bh:=(j.heap _ (jA.1 y1).1 (cO R1 y1 G) (cO R2 y1 G)).trans y1;have bi:=(j.heap _ (jA.1 y2).1 (cO R1 y2 G) (cO R2 y2 G)).trans y2;have P:=ah (i:=0) bh I;have R:=ah (i:=0) bi I;have f1:=fR (o:=0) bh;have f2:=fR (o:=0) bi;have bw:=O j;clear j;refine L ?_;refine nA I G af (λK' f=>?_);go_simp;refine f _ _ ?_;clear f;refine L ?_;refine nA I G af (λK' f=>?_);go_simp;refine f _ _ ?_;clear f P R f1 f2;refine L ?_;show((_ /\_)/\_ /\_)/\_;have R:=bo.sep u;have g2:=bq.sep y;obtain⟨s1,s2,s3⟩:=ChI.step (y1:=jd je (x.ix:jc)) (y2:=jh GA) (λk l=>by
   rcases n0.1 l with l|l
   ·exact aa k l
   ·rw[jO]at l;rw[l];exact bd) a1 a (by rw[<-HM];exact j6 _) hΨ Ye u y
   (λh=>h.elim (λh=>a3 (.inl h)) λh=>(tX h).elim (λh=>a3 (.inr h)) R.1) (λh=>h.elim (λh=>U6 (.inl h)) λh=>(tX h).elim (λh=>U6 (.inr h)) g2.1)
   (λj P h=>h.elim (λh=>ad j P (.inl h)) λh=>(tX h).elim (λh=>ad j P (.inr h)) (R.2 j P)) (λj P h=>h.elim (λh=>au j P (.inl h)) λh=>(tX h).elim (λh=>au j P (.inr h)) (g2.2 j P))
   (λj P=>(B.lt j P).1) (λj P=>(C.lt j P).1) a2 ⟨cO B u G,cO C u G⟩ ⟨cO B y G,cO C y G⟩ rfl (by rw[Y5];rfl) bw
  have P:=Zp.out;have bN:=YZ.out;obtain⟨rl,j⟩:=bs;refine⟨⟨⟨s3 _ Y Y Y (vg B bf I) (vg C bf I),s3 _ Y Y Y (vg B j I) (vg C j I)⟩,s2,λk l=>s3 k (Ye k l) (λe=>a3 (.inl (e▸l))) (λe=>U6 (.inl (e▸l))) (λe=>ad k e (.inl l)) (λe=>au k e (.inl l))⟩,s1⟩
 rintro D xs Ψ W rfl m ⟨aa,⟨u1,u,a3,B,ad,-⟩,⟨u2,y,U6,C,au,-⟩,a1,hΨ⟩ a5;obtain⟨H,K,rfl⟩:=cK B;obtain⟨V,c2,rfl⟩:=cK C;obtain⟨n,Q⟩:=J xs.length;rw[<-Q]at u y B C ad au;have a2:=O Q;clear Q;have z:=u.cell;have P:=u.frozen;have Q:=y.cell;have X:=y.frozen
 go_upto_region 4 with fail
 refine jL ?_;refine fM (λg=>g.heap[M+1]?=T (ja #[A H n K] 38 (0,0))/\g.heap[M+2]?=T (ja #[A V n c2] 39 (0,0))) 4 (.take 0 (.take 1 (.one 2 (.one 3 .done)))) af af af af G (λ_ _ _ _ h=>h) ⟨u,y⟩ ?_;have a:=bX W;obtain⟨x,U⟩:=J W.drew;rw[<-U]at a⊢;have v1:=av u a;have a4:=av y a;have j:=ah (i:=0) v1 I;have e2:=ah (i:=0) a4 I;have R:=fR (o:=0) v1;have g2:=fR (o:=0) a4;clear z P Q X U
 (refine cJ (v:=?_) I aj (λg m=>?_) ?_;rotate_left;(have b1:=ah (i:=0) m.1 I;clear m;go_simp;with_reducible rfl);refine L ?_)
 (refine cJ (v:=?_) I aj (λg m=>?_) ?_;rotate_left;(have b1:=ah (i:=0) m.2 I;clear m;go_simp;with_reducible rfl);refine L ?_)
 have w1:=fa (i:=0) (A H n K) v1;have z:=(dB (w:=x) (b:=M+1) (i:=0) (A H n K) (show M+2≠M+1 by omega)).trans a4;refine cV I (λK' f=>?_);go_simp;refine f _ _ ⟨w1,z⟩ λ_=>?_
 clear f j e2 R g2;refine L ?_;have a6:∀k,(x.setCell ⟨M+1,0,jf⟩ (A H n K)).heap[k]?=x.heap[k]?:=λk=>by
  by_cases e:k=M+1
  ·rw[e,w1,v1];rfl
  exact dB _ e
 have bd:jk w w (x.setCell ⟨M+1,0,jf⟩ (A H n K)):=(a1.trans (a.mono a1.size)).setCell (p:=⟨M+1,0,jf⟩) (by rw[<-HM];exact j6 _) _;generalize x.setCell ⟨M+1,0,jf⟩ (A H n K)=P at w1 z a6 bd⊢;have ac:P.heap[M+1]?=T (ja #[A H n K] 38 (0,0)):=w1;have j:=ah (i:=0) ac I;have e2:=ah (i:=0) z I;have R:=fR (o:=0) ac;have g2:=fR (o:=0) z;have Q:=fa (i:=0) (A V n c2) z;have w4:=(dB (w:=P) (b:=M+2) (i:=0) (A V n c2) (show M+1≠M+2 by omega)).trans ac;refine cV I (λK' f=>?_);go_simp;refine f _ _ ⟨w4,Q⟩ λ_=>?_
 clear f j e2 R g2;refine L ?_;have X:∀k,(P.setCell ⟨M+2,0,jf⟩ (A V n c2)).heap[k]?=x.heap[k]?:=λk=>by
  refine Eq.trans ?_ (a6 k)
  by_cases e:k=M+2
  ·rw[e,Q,z];rfl
  exact dB _ e
 have bf:jk w w (P.setCell ⟨M+2,0,jf⟩ (A V n c2)):=bd.setCell (p:=⟨M+2,0,jf⟩) (by rw[<-HM];exact q7 _ _) _;generalize P.setCell ⟨M+2,0,jf⟩ (A V n c2)=W3 at Q w4 X bf⊢;refine fb ?_
 go_wp2_with fail
 have j:W3.heap[s.heap.size]?=T (.deferred (T [])):=(X _).trans (av a5 a);have bg:M+1≠s.heap.size:=λe=>by rw[<-e,w4]at j;cases j
 have bh:M+2≠s.heap.size:=λe=>by rw[<-e,Q]at j;cases j
 have z1:=ah (i:=0) ((ms (w:=W3) (o:=.deferred jf) bg).trans w4) I;have z2:=ah (i:=0) ((ms (w:=W3) (o:=.deferred jf) bh).trans Q) I;have r1:=ownsRow_putObj (iB (cL B a) λb _=>X b) (.deferred jf) j I;have r2:=ownsRow_putObj (iB (cL C a) λb _=>X b) (.deferred jf) j I;have bi:w.heap.size<=s.heap.size:=F.size;refine⟨by simp,.inl ⟨_,_,I,qM (b:=s.heap.size) (ds:=[]) j,?_⟩⟩;refine⟨jI #[A H n K,A V n c2],by simp[results,results7,go_sem,z1,z2],_,_,I,xs,m,?_,?_,?_,?_⟩
 ·rw[<-a2];exact aH.of_own r1 λg f=>⟨by have:=(r1.lt g f).1;rw[<-HM];omega,(r1.lt g f).2⟩
 ·rw[<-a2];exact aH.of_own r2 λg f=>⟨by have:=(r2.lt g f).1;rw[<-HM];omega,(r2.lt g f).2⟩
 ·intro k l
  have h:=aa k l;have g:∀b,(gb k b/\¬Ψ b/\∃c t f,W.heap[b]?=T (ja c t f))->(W3.putObj s.heap.size (.deferred jf)).heap[b]?=W.heap[b]?:=λb q=>by
   obtain⟨-,-,c,t,f,q⟩:=q;refine(ms (λe=>by rw[e,a5]at q;cases q)).trans ((X b).trans (a.block b (jA.1 q).1))
  refine(KD.keep h g).mono λb q=>?_
  obtain⟨h0,h1,c,t,f,h2⟩:=q;exact(jA.1 ((g b ⟨h0,h1,c,t,f,h2⟩).trans h2)).1
 exact bf.trans (iA bi)
section
def BxI(a:jg CP)(w:jj)(V:jg CK->jc->jG Obj)(ys:jg CK)(Ψ:jc->Prop)(W:jj):Prop:=(∀x∈ys,GK a Ψ W x)/\(∀b o,V ys b=T o->o.isCells=ji/\W.heap[b]?=T o/\¬(Ψ b\/gbs ys b))/\(jk w w W/\∀k,Ψ k->w.heap.size<=k)
theorem BxI.stable(j:jg CP)(w:jj)(V:jg CK->jc->jG Obj)(B0:jc)(h:w.heap.size<=B0):bY B0 (BxI j w V):=by
 refine(Dg _ _).and (bY.and ?_ (kH _ _ w (jF _) h));intro ys Ψ k r B l m s n b o p;obtain⟨d,c,f⟩:=l b o p;have q:=(jA.1 c).1;have g:¬(k b\/gbs ys b):=λh=>h.elim (λh=>(n b h).elim (λh=>f (.inl h)) λh=>by omega) λh=>f (.inr h)
 refine⟨d,?_,g⟩
 rcases m.block b q λh=>g (.inl h)with e|⟨-,t,a,i⟩
 ·exact e.trans c
 rw[c]at a;injection a with a;rw[<-a,d]at i;cases i
def EAx(a:jg CP)(E:jc->Prop)(c:jc->CK->jq jl)(x:CK)(d:Act)(Ψ:jc->Prop)(W:jj):Prop:=∃b,d={tmps:=c b x,defers:=[]}/\W.heap[b]?=T (ja (aL x).toArray VK.t (0,0))/\¬Ψ b/\GK a Ψ W x/\∀e,E e->¬gb x e
theorem EAx.stable(g:jg CP)(E:jc->Prop)(i:jc->CK->jq jl)(B0:jc):bY B0 (fun(s:CK×Act) Ψ W=>EAx g E i s.1 s.2 Ψ W):=by
 rintro⟨x,n⟩ Ψ j o B ⟨b,e,a,k,l,m⟩ c p d;have f:¬j b:=λh=>by
  rcases d b h with h|h
  ·exact k h
  have:=(jA.1 a).1;omega
 exact⟨b,e,c.cells a f,f,l.turns c d,m⟩
theorem BxI.step{l:jg CP}{g B:jj}{V:jg CK->jc->jG Obj}{i:jg CK}{x:CK}{n:jc}(h:BxI l w V i Ψ g)(r:GK l Ψ g x)(s:∀e,E e->¬gb x e)(m:∀b o,V (i++[x]) b=T o->E b/\o.isCells=ji/\B.heap[b]?=T o)
 (u:∀b,E b->∃o,V i b=T o) (v:∀k,Ψ k->k<g.heap.size) (y:jk n g B) (z:w.heap.size<=n) (p:∀k,k<g.heap.size->¬E k->B.heap[k]?=g.heap[k]?):BxI l w V (i++[x]) Ψ B/\∀k,Ψ k->B.heap[k]?=g.heap[k]?:=by
 have he:∀e,E e->¬(Ψ e\/gbs i e):=λe a=>by obtain⟨o,j⟩:=u e a;exact(h.2.1 e o j).2.2
 have C:∀k∈i++[x],GK l Ψ g k:=λk a=>by
  rcases n0.1 a with a|a
  ·exact h.1 k a
  rw[jO]at a;rw[a];exact r
 have q:∀e,E e->¬(Ψ e\/gbs (i++[x]) e):=λe a d=>d.elim (λd=>he e a (.inl d)) λd=>(tX d).elim (λd=>he e a (.inr d)) (s e a)
 refine⟨⟨λk a=>(C k a).keep λb d D ⟨c,t,f,F⟩=>⟨p b (jA.1 F).1 λH=>q b H (.inr ⟨k,a,d⟩),D⟩,λb o j=>⟨(m b o j).2.1,(m b o j).2.2,q b (m b o j).1⟩,h.2.2.1.trans (y.mono z),h.2.2.2⟩,λk a=>p k (v k a) λd=>he k d (.inl a)⟩
noncomputable def kO:jG CK->jq jl
 |none=>VG.Z
 |some k=>(aD k.g k.vm k.vt).toArray
theorem TE{P:oj}{fn:Func}{p q:Tmp}{c i:jM}(h:fn.results= #[.cell p c,.cell q i])(tmps:jq jl)(w:jj)(g j:jc)(t:jM)(f:jq jl)(x:jl)(k:jc×jc)(d:TypeDesc)
 (l:tmps.getD p jm=jt (T ⟨g,0,jf⟩)) (m:tmps.getD q jm=jt (T ⟨j,0,jf⟩)) (n:w.heap[g]?=T (ja f t k)) (o:(loadVar i ⟨j,0,jf⟩).run P w=.ok x w)
 (r:P.underlying c=T d) (s:(match d with| .struct _ | .array _ _=>ji|_=>jn)=ji) (u:(P.info? c).map (·.size)=T f.size):
 (results fn tmps).run P w=.ok (jI #[jh f,x]) w:=by
 have e:(results fn tmps).run P w=((asAddr (tmps.getD p jm)).run P w).andThen λa y=>((loadVar c a).run P y).andThen λv z=>((asAddr (tmps.getD q jm)).run P z).andThen λb B=>((loadVar i b).run P B).andThen λC D=>.ok (jI #[v,C]) D:=by
  simp only[results,h];simp[Sem.run_bind,Result.andThen]
 rw[e,l];simp only[asAddr,Sem.run_pure,Result.andThen_ok,run_loadVar_row w g t c f k d n r s u,m,o]
theorem PK{n:jC}{f:jc×jc}(h:w.heap[b]?=T (ja #[.bool n] p f)):(loadVar 4 ⟨b,0,jf⟩).run jo w=.ok (.bool n) w:=by
 have c:=ah (i:=0) h I;go_simp
noncomputable def cuV(M:jc)(ys:jg CK)(b:jc):jG Obj:=if b=M+1 then T (ja (kO ys.getLast?) VG.t (0,0))else if b=M+2 then T (ja #[.bool ys.getLast?.isSome] 4 (0,0))else jf
def cuE(M b:jc):Prop:=b=M+1\/b=M+2
theorem uj(M:jc)(ys:jg CK):cuV M ys (M+1)=T (ja (kO ys.getLast?) VG.t (0,0)):=jr I
theorem va(M:jc)(ys:jg CK):cuV M ys (M+2)=T (ja #[.bool ys.getLast?.isSome] 4 (0,0)):=(jD Y).trans (jr I)
theorem D2{F:jg CK}{o:Obj}(h:cuV b F M=T o):(M=b+1/\o=ja (kO F.getLast?) VG.t (0,0))\/(M=b+2/\o=ja #[.bool F.getLast?.isSome] 4 (0,0)):=by
 unfold cuV at h
 split at h
 ·rename_i e;injection h with h;exact .inl ⟨e,h.symm⟩
 split at h
 ·rename_i e;injection h with h;exact .inr ⟨e,h.symm⟩
 cases h
theorem Hz{a:jg CP}{v:jl}{k:jG CK}(h:∀x,k=T x->GK a Ψ W x)(c:cC W v a):(kO k).size=VG.n/\(kO k).all (·.oneCell')=ji:=by
 rcases k with _|k
 ·exact⟨VG.hZ,by kernel_rfl⟩
 have b:=KD.kin (h k I) c;refine⟨by unfold kO;rw[jv];exact eX b.leads.llen,?_⟩;unfold kO;rw[jR];exact λd e=>mQ b.leads d (ak e)
attribute [local go_sem] Oper.semAt_some
theorem BN(d:jg CP)(v:jl)(aa:jb)(Ur:LBy)(r:Ur.length=32)(w:jj)(t:cC w v d)(u:∀p∈d,da (aR p.1))(y:bP w)(B:d.length<=1000)(C:∀p∈d,p.1.chg.length<=1000000):
 jB jo 15 #[jh (cZ aa Ur).toArray,v] w λe w'=>∃k:jG CK,e=jz (jI #[jh (kO k),.bool k.isSome])/\k.map CK.cand=(dU aa Ur (d.map (·.1))).getLast?/\(∀x,k=T x->KD (λb=>b<w'.heap.size) d w' x)/\jk w w w':=by
 obtain⟨p1,k1,rfl⟩:=t.form;obtain⟨j,l⟩:=J ((cZ aa Ur).toArray);have Y9:N (j.size=VF.n):=O (by rw[l,jv];unfold cZ;rw[jZ,jw,r];rfl);rw[<-l];obtain⟨M,f⟩:=J w.heap.size;obtain⟨z,a⟩:=J (((w.alloc (ja j 25)).alloc (ja VG.Z VG.t)).alloc (ja #[.bool jn] 4));have H:=ao w (ja j 25);have Up:=H.trans ((ao (w.alloc (ja j 25)) (ja VG.Z VG.t)).mono H.size);have o:=ao ((w.alloc (ja j 25)).alloc (ja VG.Z VG.t)) (ja #[.bool jn] 4);have c:N (z.heap[M]?=T (ja j VF.t (0,0))):=O (by rw[a,f];exact av (av (jy w _) (ao _ _)) o);have s:N (z.heap[M+1]?=T (ja VG.Z VG.t (0,0))):=O (by
  have h:=jy (w.alloc (ja j 25)) (ja VG.Z VG.t);rw[jp]at h;rw[a,f];exact av h o)
 have P:N (z.heap[M+2]?=T (ja #[.bool jn] 4 (0,0))):=O (by
  have h:=jy ((w.alloc (ja j 25)).alloc (ja VG.Z VG.t)) (ja #[.bool jn] 4);rw[jp,jp]at h;rw[a,f];exact h)
 have m:N (jk w w z):=O (by rw[a];exact Up.trans (o.mono Up.size));have a5:N (z.heap.size=M+3):=O (by rw[a,f,jp,jp,jp]);obtain⟨Q,g⟩:=J (w.alloc (ja j 25));have ac:N (Q.heap.size=M+1):=O (by rw[g,f,jp]);have ax:N (jk w w Q):=O (by rw[g];exact H);have q:N (jk (M+1) Q z):=O (by
  have h:=(ao Q (ja VG.Z VG.t)).trans ((ao (Q.alloc (ja VG.Z VG.t)) (ja #[.bool jn] 4)).mono (ao Q _).size);rw[ac,g,<-a]at h;rw[g];exact h)
 have HL:=O t;have HE:=O u;have HT:=O y;have HN:=O B;have Vo:=O C;have HM:=O f;have D:=O a;have a6:=O l;have ba:=O r;clear g H Up o l f a t u y B C r;refine(qL (n:=0)).1 ?_;refine r5 func15 I trivial ?_ I;refine wpIn_wide.2 ?_;simp only[ntmps15,jv,jZ,qv,qw,qx,qy,qz,qA,qB,qe,qC]
 go_upto_region 1 with(first|(refine VG.made I I (L ?_)))
 rw[<-D]
 try simp only[jp]
 try rw[show w.heap.size+1+1=w.heap.size+2 from I]
 rw[<-HM];clear D;refine jL ?_;refine fM (λR=>R.heap[M]?=T (ja j VF.t (0,0))) 4 (.take 0 (.take 2 (.one 1 (.one 3 .done)))) af af af af G (λ_ _ _ _ h=>h) c ?_;have a:=bX z;obtain⟨x1,S⟩:=J z.drew;rw[<-S]at a⊢;have ay:N (M+3<=x1.heap.size):=O (by rw[<-a5];exact a.size);replace m:=ai m a;replace c:=ae c a;replace s:=ae s a;replace q:=O (q.trans (a.mono (by have:=q.size;have:=ac.out;omega)));replace P:=ae P a;clear S a;refine co ?_
 (refine cJ (v:=jh j) I aj (λR C=>dh VF.hu VF.hd (by rw[Y9];exact VF.hi) I I C) ?_;refine L ?_)
 refine cV I (λK' f=>?_);go_simp;refine(pS d _ x1 (HL.below m) HE (HT.below m) HN).mono ?_;rintro e x2 ⟨v2,v3,rfl,l,a⟩;have r:=O (l.mono (E:=λb=>M+3<=b/\b<x2.heap.size) λb g=>⟨jE ay g.1,g.2⟩);have YZ:N (M+3<=x2.heap.size):=O (jE ay a.size);replace m:=ai m a;replace c:=ae c a;replace s:=ae s a;replace q:=O (q.trans (a.mono (by have:=q.size;have:=ac.out;omega)));replace P:=ae P a;refine f _ _ c.out λ_=>?_
 clear f l a;refine L ?_;refine cV I (λK' f=>?_);go_simp;refine(zK _ j x2).mono ?_;rintro e l ⟨rfl,o⟩;have a:jk x2 x2 l:=by rw[o];exact(ao _ _).trans ((ao _ _).mono (ao _ _).size)
 have YR:N (l.heap[x2.heap.size]?=T (ja #[A p1 d.length k1,v2,v3] VP.t (0,0))):=O (by rw[o];exact av (jy x2 _) (ao _ _));have a1:N (l.heap[x2.heap.size+1]?=T (ja j VF.t (0,0))):=O (by
  have h:=jy (x2.alloc (ja #[A p1 d.length k1,v2,v3] 75)) (ja j 25);rw[jp]at h;rw[o];exact h)
 have Zp:N (l.heap.size=x2.heap.size+2):=O (by rw[o,jp,jp]);replace m:=ai m a;replace s:=ae s a;replace q:=O (q.trans (a.mono (by have:=q.size;have:=ac.out;omega)));replace P:=ae P a;have t:N (aH (λb=>M+3<=b/\b<l.heap.size) l v2 32 (bU (d.map (·.1)) d.length).length (eJ (d.map (·.1)) (bU (d.map (·.1)) d.length))):=O ((r.ids.keep λb g=>a.block b g.2).mono λb g=>⟨g.1,by have:=Zp.out;omega⟩);have u:N (aH (λb=>M+3<=b/\b<l.heap.size) l v3 1 (bU (d.map (·.1)) d.length).length (fQ (bU (d.map (·.1)) d.length))):=O ((r.at_.keep λb g=>a.block b g.2).mono λb g=>⟨g.1,by have:=Zp.out;omega⟩);refine f _ _ (av c a) λ_=>?_
 clear f o a c r;refine L ?_;refine fb ?_
 go_wp2_with fail
 obtain⟨bp,c⟩:=J x2.heap.size;rw[<-c]at YR a1 YZ Zp⊢;have o:=yh d (A p1 d.length k1) v2 v3 aa Ur ba Q l (M+1) (M+3) bp (bp+1) (j5 ac) q Y (ee Zp YZ) (HL.below ax) t u YR.out (by rw[<-a6];exact a1) YZ (aI YZ) HE (HT.below ax) HN Vo;have bb:=O o;clear o c t u;refine(wpIn_wide (n:=0)).1 ?_;refine rD (n:=0) (gf:=36) (lb:=#[jt (T ⟨bp,0,jf⟩),jt (T ⟨bp+1,0,jf⟩)]) I (enters_of func36 af I) bb (ee Zp YZ) (λ_=>rfl) (λk r=>r.2)
  (BxI d w (cuV M)) (λ_ _ _ _=>False) ?hI (λys Ψ B h=>h.1) (λ_=>fk _ _) ?h0
  (EAx d (cuE M) λb x=>#[jh j,A p1 d.length k1,jt (T ⟨M,0,jf⟩),jm,jt (T ⟨M+1,0,jf⟩),jt (T ⟨M+2,0,jf⟩),jt (T ⟨b,0,jf⟩),A p1 d.length k1,jh #[A p1 d.length k1,v2,v3],jh j,.func (.func 36) #[] #[jt (T ⟨bp,0,jf⟩),jt (T ⟨bp+1,0,jf⟩)],jh (aL x).toArray,jm,jm,jm,jm]) ?hAx ?assign ?body ?done ?stop
 case hI=>exact BxI.stable _ _ _ _ m.size
 case h0=>
  refine⟨(λx S=>by cases S),λb o g=>?_,m,λk r=>by have:=HM.out;have:=r.1;omega⟩
  rcases D2 g with⟨rfl,rfl⟩|⟨rfl,rfl⟩
  ·exact⟨I,s,λh=>h.elim (λh=>by have h:=h.1;omega) fun⟨_,r,_⟩=>(by cases r)⟩
  exact⟨I,P,λh=>h.elim (λh=>by have h:=h.1;omega) fun⟨_,r,_⟩=>(by cases r)⟩
 case stop=>
  intro D c u Ψ W _ _ h;exact h.elim
 case hAx=>exact EAx.stable _ _ _ _
 case assign=>
  intro l' u x Ψ t K hI y hV V f;have U:GK d Ψ t x:=by
   obtain⟨⟨B,F,e,h⟩,-⟩:=hV;have e2:=(qW e I).2;injection e2 with e2
   rw[e2];exact h
  have B:=KD.kin U (HL.below hI.2.2.1);obtain⟨X,F⟩:=J ((aL x).toArray);have Z4:N (X.size=VK.n):=O (by rw[F,jv];exact B.len);have s:N (X.all (·.oneCell')=ji):=O (by rw[F,jR];exact λad hu=>B.ones ad (ak hu));have au:=O F;have HK:=O f;have HI:=O hI;have HO:N (∀e,cuE M e->¬gb x e):=O (by
   rintro e (rfl|rfl) h
   ·exact(y.2.1 _ _ (uj M u)).2.2 (.inl (.inr h))
   exact(y.2.1 _ _ (va M u)).2.2 (.inl (.inr h)))
  have a2:=O U;have HΨ:=O V;rw[<-F];clear F f hI y U hV B V;rw[zE];simp only[qX,qY,qZ]
  gi_wp2_with (first|(refine VK.madeI I I (L ?_))|(refine VK.firstI I I I X I Z4 s (L ?_)))
  have y:=ao t (ja X VK.t);have U:∀B0,bL B0 Ψ t (t.alloc (ja X VK.t)):=λB0=>bL.ofBelow y λ_ h _=>h
  refine HK _ _ y (BxI.stable d w _ w.heap.size (jF _) _ _ _ _ _ HI.out (U _) (λ_ h=>h) λ_ h=>.inl h) ?_;exact⟨t.heap.size,by rw[au],by rw[<-au];exact jy _ _,λh=>by have:=HΨ _ h;omega,a2.turns (U 0) (λ_ h=>.inl h),HO⟩
 case body=>
  rintro l' u x Ψ bh K hI ⟨b,rfl,a4,bi,a2,bc⟩ hV Ye bk hl bl bm;have B:=KD.kin a2 (HL.below hI.2.2.1);have H:=(hI.2.1 _ _ (uj M u)).2.1;have Up:=(hI.2.1 _ _ (va M u)).2.1;have a3:=(Hz (k:=u.getLast?) (λy U=>hI.1 y (q8 U)) (HL.below hI.2.2.1)).1;obtain⟨X,F⟩:=J ((aL x).toArray);have bd:N (K.rangeAt b 107 (aD x.g x.vm x.vt)):=O λt ad ht=>ah a4 (by
   rw[lw];have h:=nB B (1+t);rw[<-qn,qt 1 t,qE]at h;exact h.trans ht)
  have VW:N ((aD x.g x.vm x.vt).length=VG.n):=O (eX B.leads.llen);obtain⟨V,au⟩:=J ((aD x.g x.vm x.vt).toArray);have bf:N (V.size=VG.n):=O (by rw[au,jv];exact VW);have Vl:N (V.all (·.oneCell')=ji):=O (by rw[au,jR];exact λad hu=>mQ B.leads ad (ak hu));have Y5:=O au;have k2:(K.setRow (M+1) V).heap[M+2]?=T (ja #[.bool u.getLast?.isSome] 4 (0,0)):=(js _ _ _ _ Y).trans Up;have c2:=ah (i:=0) k2 I;have f2:=fR (o:=0) k2;have Uf:=O H;have bg:=O a3;dsimp only;rw[<-F];clear F au H a3 B Up
  gi_wp2_with (first|(refine VG.loadI aj I I (aD x.g x.vm x.vt) VW bd ?_;rw[<-Y5];refine L ?_)|(refine VG.storeI I I I V I bf Vl Uf bg (L ?_)))
  have B:∀k,k≠M+1->k≠M+2->((K.setRow (M+1) V).setCell ⟨M+2,0,jf⟩ (.bool ji)).heap[k]?=K.heap[k]?:=λk h1 h2=>(dB _ h2).trans (js _ _ _ _ h1)
  have F:jk (M+1) K ((K.setRow (M+1) V).setCell ⟨M+2,0,jf⟩ (.bool ji)):=(iP (qa _ K) (jF _) V).setCell (p:=⟨M+2,0,jf⟩) (j6 _) _;have au:(u++[x]).getLast?=T x:=List.getLast?_concat;obtain⟨s1,s2⟩:=BxI.step (E:=cuE M) hI a2 bc (λb o ho=>by
   rcases D2 ho with⟨rfl,rfl⟩|⟨rfl,rfl⟩
   ·rw[au]
    exact⟨.inl I,I,(dB _ Y).trans (by rw[jT _ _ _ _ _ _ Uf.out,Y5];rfl)⟩
   rw[au];exact⟨.inr I,I,fa _ k2⟩) (by rintro b (rfl|rfl);exact⟨_,uj _ _⟩;exact⟨_,va _ _⟩) Ye F (by rw[<-HM];exact j6 _) (λk _ r=>B k (λe=>r (.inl e)) λe=>r (.inr e))
  have r:=Zp.out;have a3:=YZ.out;refine⟨⟨⟨B _ Y Y,B _ Y Y⟩,F,s2⟩,s1⟩
 rintro D xs Ψ W rfl C hI a2;have X:=(hI.2.1 _ _ (uj M xs)).2.1;have VX:=(hI.2.1 _ _ (va M xs)).2.1;have x:=Hz (k:=xs.getLast?) (λy U=>hI.1 y (q8 U)) (HL.below hI.2.2.1);obtain⟨u,K⟩:=J (xs.getLast?);have bc:∀y,u=T y->GK d Ψ W y:=λy U=>hI.1 y (q8 (K.symm.trans U))
 have bd:u.map CK.cand=(dU aa Ur (d.map (·.1))).getLast?:=by rw[K,<-C,List.getLast?_map]
 have a3:=hI.2.2.1;rw[<-K]at X VX x;obtain⟨r,hG⟩:=J (kO u);obtain⟨ok,Wb⟩:=J u.isSome;rw[<-hG]at X x;rw[<-Wb]at VX;have ad:=O x;clear hI K x
 go_upto_region 4 with fail
 refine jL ?_;refine fM (λR=>R.heap[M+1]?=T (ja r VG.t (0,0))/\R.heap[M+2]?=T (ja #[.bool ok] 4 (0,0))) 4 (.take 0 (.take 1 (.one 2 (.one 3 .done)))) af af af af G (λ_ _ _ _ h=>h) ⟨X,VX⟩ ?_;have a:=bX W;obtain⟨x,S⟩:=J W.drew;rw[<-S]at a⊢;have v1:=av X a;have K:=av VX a;have e2:=ah (i:=0) K I;have V:=fR (o:=0) K;clear S
 (refine cJ (v:=jh r) I aj (λR C=>dh VG.hu VG.hd (by rw[ad.1];exact VG.hi) I I C.1) ?_;refine L ?_)
 (refine cJ (v:=?_) I aj (λR C=>?_) ?_;rotate_left;(have R:=ah (i:=0) C.2 I;clear C;go_simp;with_reducible rfl);refine L ?_)
 refine cV I (λK' f=>?_);rw[jr aj];refine jQ VG.t _ _ I (M+1) r I I VG.t r v1 (by rw[ad.1];exact VG.hi) I ad.2 ?_;rw[setRow_self _ _ _ _ _ v1];refine f _ _ ⟨v1,K⟩ λ_=>?_
 clear f;refine L ?_;refine cV I (λK' f=>?_);go_simp;have R:(x.setCell ⟨M+2,0,jf⟩ (.bool ok)).heap[M+2]?=T (ja #[.bool ok] 4 (0,0)):=fa (i:=0) (.bool ok) K;have au:∀k,(x.setCell ⟨M+2,0,jf⟩ (.bool ok)).heap[k]?=x.heap[k]?:=λk=>by
  by_cases e:k=M+2
  ·rw[e,R,K]
  exact dB _ e
 have F:jk w w (x.setCell ⟨M+2,0,jf⟩ (.bool ok)):=(a3.trans (a.mono a3.size)).setCell (p:=⟨M+2,0,jf⟩) (by rw[<-HM];exact q7 _ _) _;rw[<-Wb];generalize x.setCell ⟨M+2,0,jf⟩ (.bool ok)=W3 at R au F⊢;have B:=(au _).trans v1;refine f _ _ ⟨B,R⟩ λ_=>?_
 clear f e2 V;refine L ?_;refine fb ?_
 go_wp2_with fail
 have V:W3.heap[l.heap.size]?=T (.deferred (T [])):=(au _).trans (av a2 a);have bf:M+1≠l.heap.size:=λe=>by rw[<-e,B]at V;cases V
 have bg:M+2≠l.heap.size:=λe=>by rw[<-e,R]at V;cases V
 have z1:=(ms (w:=W3) (o:=.deferred jf) bf).trans B;have z2:=(ms (w:=W3) (o:=.deferred jf) bg).trans R;have bh:w.heap.size<=l.heap.size:=m.size;refine⟨by simp,.inl ⟨_,_,I,qM (b:=l.heap.size) (ds:=[]) V,?_⟩⟩;refine⟨jI #[jh r,.bool ok],TE I _ _ (M+1) (M+2) VG.t r _ (0,0) _ I I z1 (PK z2) VG.hu I (by rw[ad.1];exact VG.hi),u,by rw[hG,Wb],bd,λy U=>?_,F.trans (iA bh)⟩;have h:=bc y U;have a4:∀b,(gb y b/\¬Ψ b/\∃c t f,W.heap[b]?=T (ja c t f))->(W3.putObj l.heap.size (.deferred jf)).heap[b]?=W.heap[b]?:=λb g=>by
  obtain⟨-,-,c,t,f,g⟩:=g;refine(ms (λe=>by rw[e,a2]at g;cases g)).trans ((au b).trans (a.block b (jA.1 g).1))
 refine(KD.keep h a4).mono λb g=>?_
 obtain⟨h0,h1,c,t,f,h2⟩:=g;exact(jA.1 ((a4 b ⟨h0,h1,c,t,f,h2⟩).trans h2)).1
end
theorem Ci{P:aN->Prop}(h:∀c,(∀w,dY c.leads d=T w->P w)->P c):∀(n:jc) (c:aN),iE d c.leads<=n->P c
 |0,c,b=>h c λw a=>ju (sM (ov (rC a)).1) Y
 |n+1,c,b=>h c λw a=>Ci h n w (by have:=sM (ov (rC a)).1;omega)
theorem Rq{l:jg Cmt}{P:aN->Prop}(h:∀c,(∀w,dY c.leads l=T w->P w)->P c)(c:aN):P c:=Ci h _ c (jF _)
theorem QP{l:jg Cmt}(c:aN):∀(g:Grp),gB g l c->∀(k:jc) (x:aN),(gW l c)[k]?=T x->gB (mJ g (gW l c) k) l x/\(0<k->dY (mJ g (gW l c) k) l=T x):=by
 refine Rq (l:=l) (P:=λc=>∀(g:Grp),gB g l c->∀(k:jc) (x:aN),(gW l c)[k]?=T x->gB (mJ g (gW l c) k) l x/\(0<k->dY (mJ g (gW l c) k) l=T x)) (λc d g b k x a=>?_) c;rw[rA]at a⊢
 rcases k with _|k
 ·simp at a
  rw[mJ,<-a];exact⟨b,λh=>ju h (q9 _)⟩
 rw[mJ]
 cases hw:dY c.leads l with
 |none=>rw[hw]at a;simp at a
 |some w=>
  rw[hw]at a;dsimp only at a⊢;rw[qE]at a;have f:=(ov (rC hw)).1;have b:=d w hw c.leads f k x a;refine⟨b.1,λ_=>?_⟩
  rcases k with _|k
  ·rw[rA]at a
   simp at a;have e:mJ c.leads (gW l w) 0=c.leads:=by rw[mJ]
   rw[e,hw,a]
  exact b.2 (qU k)
def dx(b:LBy)(a d:jb):jC->jg aN->jC
 |ok,[]=>ok
 |true,c::e=>match c.com.chg.find? λx=>x.d==a&&x.k !=1 with|some x=>decide (d<=x.c)|none=>dx b a d ji e
 |false,c::e=>if c.id=b then(if cA c.leads.mem a=ji then dx b a d ji e else jn)else dx b a d jn e
theorem vP{f:LBy}{e g ctr':jb}(h:ctr'<=g):∀(d:jg aN) (b:jC),dx f e g b d=ji->dx f e ctr' b d=ji
 |[],b,a=>by rw[dx]at a⊢;exact a
 |c::d,ji,a=>by
  rw[dx]at a⊢
  cases hf:c.com.chg.find? λx=>x.d==e&&x.k !=1 with
  |none=>rw[hf]at a;exact vP h d ji a
  |some x=>
   rw[hf]at a;dsimp only at a⊢;rw[decide_eq_true_eq]at a⊢;omega
 |c::d,jn,a=>by
  rw[dx]at a⊢
  by_cases i:c.id=f
  ·rw[jr i]at a⊢
   by_cases j:cA c.leads.mem e=ji
   ·rw[jr j]at a⊢;exact vP h d ji a
   rw[jD j]at a;cases a
  rw[jD i]at a⊢;exact vP h d jn a
theorem Ip:∀(d:jg aN),dx o a u jn d=ji->∃c∈d,c.id=o/\cA c.leads.mem a=ji
 |[],h=>by rw[dx]at h;cases h
 |c::d,h=>by
  rw[dx]at h
  by_cases e:c.id=o
  ·rw[jr e]at h
   by_cases f:cA c.leads.mem a=ji
   ·exact⟨c,qb ..,e,f⟩
   rw[jD f]at h;cases h
  rw[jD e]at h;obtain⟨x,f,i⟩:=Ip d h;exact⟨x,qc _ f,i⟩
section
def okS(id:LBy)(ys:jg CK):jC:=ys.any λk=>decide (k.id=id)
def AccP(id:LBy)(dev ctr:jb)(ys:jg CK):Prop:=∀a,dx id dev ctr jn (ys.map CK.cand++a)=dx id dev ctr (okS id ys) a
theorem rB(id:LBy)(ys:jg CK)(x:CK):okS id (ys++[x])=(okS id ys||decide (x.id=id)):=by unfold okS;simp
section
variable {id:LBy} {dev ctr:jb} {ys:jg CK} {x:CK} (h:AccP id dev ctr ys)
include h
theorem AccP.at(a:jg aN):dx id dev ctr jn ((ys++[x]).map CK.cand++a)=dx id dev ctr (okS id ys) (x.cand::a):=by
 rw[mb,qT];exact h _
theorem AccP.on(a:okS id ys=ji)(b:x.p.1.chg.find? (λy=>y.d==dev&&y.k !=1)=jf):AccP id dev ctr (ys++[x]):=λc=>by
 rw[h.at,rB,a,dx,show x.cand.com=x.p.1 from I,b];rfl
theorem AccP.off{y:ap}(a:okS id ys=ji)(b:x.p.1.chg.find? (λy=>y.d==dev&&y.k !=1)=T y)(c:jg aN):dx id dev ctr jn ((ys++[x]).map CK.cand++c)=decide (ctr<=y.c):=by
 rw[h.at,a,dx,show x.cand.com=x.p.1 from I,b]
theorem AccP.ne(b:okS id ys=jn)(a:x.id≠id):AccP id dev ctr (ys++[x]):=λc=>by
 rw[h.at,rB,b,dx,jD (show ¬x.cand.id=id from a),decide_eq_false a];rfl
theorem AccP.met(b:okS id ys=jn)(a:x.id=id)(c:cA x.g.mem dev=ji):AccP id dev ctr (ys++[x]):=λd=>by
 rw[h.at,rB,b,dx,jr (show x.cand.id=id from a),jr (show cA x.cand.leads.mem dev=ji from c),qN a];rfl
theorem AccP.gone(a:okS id ys=jn)(b:x.id=id)(c:cA x.g.mem dev=jn)(d:jg aN):dx id dev ctr jn ((ys++[x]).map CK.cand++d)=jn:=by
 rw[h.at,a,dx,jr (show x.cand.id=id from b),jD (show ¬cA x.cand.leads.mem dev=ji by show ¬cA x.g.mem dev=ji;rw[c];decide)]
end
theorem NI{α:Type}{q:α->jC}{l:jg α}{j:jc}{y:α}(h:∀z∈l.take j,q z=jn)(a:l[j]?=T y)(b:q y=ji):l.find? q=T y:=by
 rw[<-r9 j l,sh,qs.2 (λz c=>by rw[h z c];decide),Option.none_or,List.drop_eq_getElem_cons (jU.1 a).1,(jU.1 a).2,List.find?_cons,b]
theorem ND{α:Type}{q:α->jC}{l:jg α}(h:∀z∈l.take l.length,q z=jn):l.find? q=jf:=qs.2 λz a=>by
 rw[h z (by rw[List.take_length];exact a)];decide
theorem TJ(d:jb)(c:jq jl)(b:jc)(x:aJ)(w:jj)(f:w.heap[b]?=T (ja c 34 (0,0)))(g:c[33]?=T (jd je d)):
 jB jo 23 #[jh x.cells.toArray,jt (T ⟨b,0,jf⟩)] w λe w'=>e=jz (.bool (x.dev==d))/\jk w w w':=by
 have a:=ao w (ja x.cells.toArray 82);have j:=ah (i:=33) (av f a) g;have h:=O a;clear a f g;obtain⟨x1,x2,g⟩:=x;unfold aJ.cells at*;obtain⟨r,a⟩:=J ((x1==d));show jB _ _ _ _ λe w'=>e=jz (.bool (x1==d))/\_
 rw[<-a];have f:=O a;clear a
 go_enter func23,ntmps23
 go_wp2_with fail
 go_ret;exact⟨iy f.symm,h⟩
theorem NZ(d:jb)(a:jq jl)(b c:jc)(e:b<c)(f:a[33]?=T (jd je d)):fT EM 23 #[jt (T ⟨b,0,jf⟩)] c (λW=>W.heap[b]?=T (ja a 34 (0,0))) (λm=>m.dev==d) where
 enter _ _:=I
 keep w w' hn h hB:=(hB.block b e).trans h
 call x w hn h:=TJ d a b x w h f
def chZ:ap:=⟨0,0,0,0,0⟩
noncomputable def VH:VarT jo:=⟨61,5,chZ.cells.toArray,_,r6,I,by kernel_rfl,rfl,λ_=>by kernel_rfl⟩
def acV(M:jc)(a:jq jl)(id:LBy)(ys:jg CK)(b:jc):jG Obj:=if b=M+1 then T (ja a 34 (0,0))else if b=M+2 then T (ja #[.bool (okS id ys)] 4 (0,0))else jf
theorem zk(M:jc)(a:jq jl)(id:LBy)(ys:jg CK):acV M a id ys (M+1)=T (ja a 34 (0,0)):=jr I
theorem tT(M:jc)(a:jq jl)(id:LBy)(ys:jg CK):acV M a id ys (M+2)=T (ja #[.bool (okS id ys)] 4 (0,0)):=(jD Y).trans (jr I)
theorem EH{M b:jc}{a:jq jl}{id:LBy}{ys:jg CK}{o:Obj}(h:acV M a id ys b=T o):(b=M+1/\o=ja a 34 (0,0))\/(b=M+2/\o=ja #[.bool (okS id ys)] 4 (0,0)):=by
 unfold acV at h
 split at h
 ·rename_i e;injection h with h;exact .inl ⟨e,h.symm⟩
 split at h
 ·rename_i e;injection h with h;exact .inr ⟨e,h.symm⟩
 cases h
def AcX(w:jj)(M:jc)(id:LBy)(dev ctr:jb)(c:Code)(ys:jg CK)(Ψ:jc->Prop)(W:jj):Prop:=(∃r,c=.ret/\(Boxed W (M+2) 4 (.bool r)/\¬Ψ (M+2))/\∀a,dx id dev ctr jn (ys.map CK.cand++a)=r)/\(jk w w W/\∀k,Ψ k->w.heap.size<=k)
theorem AcX.stable(w:jj)(M:jc)(id:LBy)(dev ctr:jb)(c:Code)(B0:jc)(h:w.heap.size<=B0):bY B0 (AcX w M id dev ctr c):=by
 refine bY.and ?_ (kH _ _ w (jF _) h);rintro ys Ψ a b B ⟨r,d,e,f⟩ g i j;exact⟨r,d,iQ B0 (M+2) 4 (λ_:Unit=>.bool r) () Ψ a b B e g i j,f⟩
attribute [local go_sem] Oper.semAt_some
theorem yO(d:jg CP)(v:jl)(ac:jb)(Ur:LBy)(m:Ur.length=32)(u:jq jl)(f:LBy)(dev ctr:jb)(q:f.length=32)(r:∀t R,(f.map v8)[t]?=T R->u[1+t]?=T R)(s:u[33]?=T (jd je dev))(x:u[34]?=T (jd je ctr))
 (w:jj) (n:cC w v d) (y:∀p∈d,da (aR p.1)) (z:bP w) (B:d.length<=1000) (D:∀p∈d,p.1.chg.length<=1000000) (F:∀k,k∈dU ac Ur (d.map (·.1))->k.leads.mem.length<=1000000):
 jB jo 6 #[jh (cZ ac Ur).toArray,v,jh u] w λe w'=>e=jz (.bool (dx f dev ctr jn (dU ac Ur (d.map (·.1)))))/\jk w w w':=by
 obtain⟨p1,k1,rfl⟩:=n.form;obtain⟨C,i⟩:=J ((cZ ac Ur).toArray);have Y9:N (C.size=VF.n):=O (by rw[i,jv];unfold cZ;rw[jZ,jw,m];rfl);rw[<-i];obtain⟨M,b⟩:=J w.heap.size;obtain⟨x0,a⟩:=J (((w.alloc (ja C 25)).alloc (ja u 34)).alloc (ja #[.bool jn] 4));have S:=ao w (ja C 25);have U:=S.trans ((ao (w.alloc (ja C 25)) (ja u 34)).mono S.size);have j:=ao ((w.alloc (ja C 25)).alloc (ja u 34)) (ja #[.bool jn] 4);have c:N (x0.heap[M]?=T (ja C VF.t (0,0))):=O (by rw[a,b];exact av (av (jy w _) (ao _ _)) j);have UT:N (x0.heap[M+1]?=T (ja u 34 (0,0))):=O (by
  have h:=jy (w.alloc (ja C 25)) (ja u 34);rw[jp]at h;rw[a,b];exact av h j)
 have U8:N (x0.heap[M+2]?=T (ja #[.bool jn] 4 (0,0))):=O (by
  have h:=jy ((w.alloc (ja C 25)).alloc (ja u 34)) (ja #[.bool jn] 4);rw[jp,jp]at h;rw[a,b];exact h)
 have P:N (jk w w x0):=O (by rw[a];exact U.trans (j.mono U.size));have bI:N (x0.heap.size=M+3):=O (by rw[a,b,jp,jp,jp]);obtain⟨xF,g⟩:=J (w.alloc (ja C 25));have au:N (xF.heap.size=M+1):=O (by rw[g,b,jp]);have bl:N (jk w w xF):=O (by rw[g];exact S);have UD:N (jk (M+1) xF x0):=O (by
  have h:=(ao xF (ja u 34)).trans ((ao (xF.alloc (ja u 34)) (ja #[.bool jn] 4)).mono (ao xF _).size);rw[au,g,<-a]at h;rw[g];exact h)
 have HL:=O n;have HE:=O y;have HT:=O z;have HN:=O B;have Vo:=O D;have HM:=O b;have H:=O a;have bK:=O i;have bM:=O m;have Ww:=O r;have WH:=O s;have bm:=O x;have bn:=O q;have YL:=O F;obtain⟨bo,o⟩:=J (dx f dev ctr jn (dU ac Ur (d.map (·.1))));rw[<-o];have Zj:=O o;clear g S U j i b a n y z B D m r s x q F o;refine(qL (n:=0)).1 ?_;refine r5 func6 I trivial ?_ I;refine wpIn_wide.2 ?_;simp only[ntmps6,jv,jZ,qv,qw,qx,qy,qz,qA,qB,qe,qC]
 go_upto_region 1 with fail
 rw[<-H]
 try simp only[jp]
 try rw[show w.heap.size+1+1=w.heap.size+2 from I]
 rw[<-HM];clear H;refine jL ?_;refine fM (λb=>b.heap[M]?=T (ja C VF.t (0,0))) 4 (.take 0 (.take 2 (.one 1 (.one 3 .done)))) af af af af G (λ_ _ _ _ h=>h) c ?_;have a:=bX x0;obtain⟨x1,hx⟩:=J x0.drew;rw[<-hx]at a⊢;have bq:N (M+3<=x1.heap.size):=O (by rw[<-bI];exact a.size);replace P:=ai P a;replace c:=ae c a;replace UT:=ae UT a;replace UD:=O (UD.trans (a.mono (by have:=UD.size;have:=au.out;omega)));replace U8:=ae U8 a;clear hx a;refine co ?_
 (refine cJ (v:=jh C) I aj (λb hS=>dh VF.hu VF.hd (by rw[Y9];exact VF.hi) I I hS) ?_;refine L ?_)
 refine cV I (λj hK=>?_);go_simp;refine(pS d _ x1 (HL.below P) HE (HT.below P) HN).mono ?_;rintro e x2 ⟨v2,v3,rfl,g,a⟩;have i:=O (g.mono (E:=λb=>M+3<=b/\b<x2.heap.size) λb m=>⟨jE bq m.1,m.2⟩);have YZ:N (M+3<=x2.heap.size):=O (jE bq a.size);replace P:=ai P a;replace c:=ae c a;replace UT:=ae UT a;replace UD:=O (UD.trans (a.mono (by have:=UD.size;have:=au.out;omega)));replace U8:=ae U8 a;refine hK _ _ c.out λ_=>?_
 clear hK g a;refine L ?_;refine cV I (λj hK=>?_);go_simp;refine(zK _ C x2).mono ?_;rintro e q ⟨rfl,g⟩;have a:jk x2 x2 q:=by rw[g];exact(ao _ _).trans ((ao _ _).mono (ao _ _).size)
 have YR:N (q.heap[x2.heap.size]?=T (ja #[A p1 d.length k1,v2,v3] VP.t (0,0))):=O (by rw[g];exact av (jy x2 _) (ao _ _));have br:N (q.heap[x2.heap.size+1]?=T (ja C VF.t (0,0))):=O (by
  have h:=jy (x2.alloc (ja #[A p1 d.length k1,v2,v3] 75)) (ja C 25);rw[jp]at h;rw[g];exact h)
 have Zp:N (q.heap.size=x2.heap.size+2):=O (by rw[g,jp,jp]);replace P:=ai P a;replace UT:=ae UT a;replace UD:=O (UD.trans (a.mono (by have:=UD.size;have:=au.out;omega)));replace U8:=ae U8 a;have j:N (aH (λb=>M+3<=b/\b<q.heap.size) q v2 32 (bU (d.map (·.1)) d.length).length (eJ (d.map (·.1)) (bU (d.map (·.1)) d.length))):=O ((i.ids.keep λb m=>a.block b m.2).mono λb m=>⟨m.1,by have:=Zp.out;omega⟩);have o:N (aH (λb=>M+3<=b/\b<q.heap.size) q v3 1 (bU (d.map (·.1)) d.length).length (fQ (bU (d.map (·.1)) d.length))):=O ((i.at_.keep λb m=>a.block b m.2).mono λb m=>⟨m.1,by have:=Zp.out;omega⟩);refine hK _ _ (av c a) λ_=>?_
 clear hK g a c i;refine L ?_;refine fb ?_
 go_wp2_with fail
 obtain⟨bp,a⟩:=J x2.heap.size;rw[<-a]at YR br YZ Zp⊢;have c:=yh d (A p1 d.length k1) v2 v3 ac Ur bM xF q (M+1) (M+3) bp (bp+1) (j5 au) UD Y (ee Zp YZ) (HL.below bl) j o YR.out (by rw[<-bK];exact br) YZ (aI YZ) HE (HT.below bl) HN Vo;have bN:=O c;clear c a j o;refine(wpIn_wide (n:=0)).1 ?_;refine rD (n:=0) (gf:=36) (lb:=#[jt (T ⟨bp,0,jf⟩),jt (T ⟨bp+1,0,jf⟩)]) I (enters_of func36 af I) bN (ee Zp YZ) (λ_=>rfl) (λk s=>s.2)
  (λys Ψ W=>BxI d w (acV M u f) ys Ψ W/\AccP f dev ctr ys) (AcX w M f dev ctr) ?hI (λys Ψ B h=>h.1.1) (λc=>AcX.stable _ _ _ _ _ _ _ P.size) ?h0
  (EAx d (cuE M) λb x=>#[jh C,A p1 d.length k1,jh u,jt (T ⟨M,0,jf⟩),jm,jt (T ⟨M+1,0,jf⟩),jt (T ⟨M+2,0,jf⟩),jt (T ⟨b,0,jf⟩),jm,jm,A p1 d.length k1,jh #[A p1 d.length k1,v2,v3],jh C,.func (.func 36) #[] #[jt (T ⟨bp,0,jf⟩),jt (T ⟨bp+1,0,jf⟩)],jh (aL x).toArray,jm,jm,jm,jm,jm,jm,jm,jm,jm,jm,jm,jm,jm,jm,jm,jm,jm,jm,jm,jm,jm,jm,jm,jm,jm,jm,jm,jm,jm,jm,jm,jm,jm,jm,jm,jm,jm]) ?hAx ?assign ?body ?done ?stop
 case hI=>exact(BxI.stable _ _ _ _ P.size).and (fk _ _)
 case h0=>
  refine⟨⟨(λx hx=>by cases hx),λb o m=>?_,P,λk s=>by have:=HM.out;have:=s.1;omega⟩,λay=>rfl⟩
  rcases EH m with⟨rfl,rfl⟩|⟨rfl,rfl⟩
  ·exact⟨I,UT,λh=>h.elim (λh=>by have h:=h.1;omega) fun⟨_,s,_⟩=>(by cases s)⟩
  exact⟨I,U8,λh=>h.elim (λh=>by have h:=h.1;omega) fun⟨_,s,_⟩=>(by cases s)⟩
 case stop=>
  rintro D c H Ψ W rfl ⟨V,a⟩ ⟨⟨r,rfl,⟨U,Q⟩,g⟩,bb,z⟩ ax;have HR:N (r=bo):=O (by rw[Zj,<-a];exact(g V).symm);have bc:M+2≠q.heap.size:=λe=>by rw[<-e,U]at ax;cases ax
  have z2:=(ms (w:=W) (o:=.deferred jf) bc).trans U;have bd:w.heap.size<=q.heap.size:=P.size;refine wpIn_wide.2 ?_
  go_wp2_with fail
  refine⟨by simp,.inl ⟨_,_,I,qM (b:=q.heap.size) (ds:=[]) ax,?_⟩⟩;have zc:=ah (i:=0) z2 I;exact⟨.bool r,by simp[results,results6,go_sem,zc],by rw[HR],bb.trans (iA bd)⟩
 case hAx=>exact EAx.stable _ _ _ _
 case assign=>
  intro l' H x Ψ a K hI y hV z hK;have F:GK d Ψ a x:=by
   obtain⟨⟨g,j,e,h⟩,-⟩:=hV;have e2:=(qW e I).2;injection e2 with e2
   rw[e2];exact h
  have g:=KD.kin F (HL.below hI.1.2.2.1);obtain⟨X,j⟩:=J ((aL x).toArray);have Z4:N (X.size=VK.n):=O (by rw[j,jv];exact g.len);have UT:N (X.all (·.oneCell')=ji):=O (by rw[j,jR];exact λR hu=>g.ones R (ak hu));have aa:=O j;have HK:=O hK;have HI:=O hI;have HO:N (∀e,cuE M e->¬gb x e):=O (by
   rintro e (rfl|rfl) h
   ·exact(y.1.2.1 _ _ (zk M u f H)).2.2 (.inl (.inr h))
   exact(y.1.2.1 _ _ (tT M u f H)).2.2 (.inl (.inr h)))
  have a1:=O F;have HΨ:=O z;rw[<-j];clear j hK hI y F hV g z;rw[zE];simp only[qX,qY,qZ]
  gi_wp2_with (first|(refine VK.madeI I I (L ?_))|(refine VK.firstI I I I X I Z4 UT (L ?_)))
  have y:=ao a (ja X VK.t);have ad:∀B0,bL B0 Ψ a (a.alloc (ja X VK.t)):=λB0=>bL.ofBelow y λ_ h _=>h
  refine HK _ _ y ⟨BxI.stable d w _ w.heap.size (jF _) _ _ _ _ _ HI.1 (ad _) (λ_ h=>h) λ_ h=>.inl h,HI.2⟩ ?_;exact⟨a.heap.size,by rw[aa],by rw[<-aa];exact jy _ _,λh=>by have:=HΨ _ h;omega,a1.turns (ad 0) (λ_ h=>.inl h),HO⟩
 case body=>
  rintro l' H x Ψ b2 a ⟨hI,hP⟩ ⟨b,rfl,K,bs,z,aa⟩ hV Ye a3 hl a6 ba;have g:=KD.kin z (HL.below hI.2.2.1);have S:=(hI.2.1 _ _ (zk M u f H)).2.1;have U:=(hI.2.1 _ _ (tT M u f H)).2.1;have a1:x.cand∈dU ac Ur (d.map (·.1)):=by
   obtain⟨-,-,-,V,hV⟩:=hV;rw[<-hV,mb];exact sx _ (sy _ (jO.2 I))
  have a4:x.g.mem.length<=1000000:=YL _ a1;have a5:x.p.1.chg.length<=1000000:=Vo _ (j3 z.at_);have bf:=Zp.out;have bg:=YZ.out;have a2:∀B,(∀k,k<a.heap.size->k≠M+2->B.heap[k]?=a.heap[k]?)->jk (M+1) a B->B.heap[M+2]?=T (ja #[.bool (okS f (H++[x]))] 4 (0,0))->AccP f dev ctr (H++[x])->
   ((B.heap[q.heap.size]?=a.heap[q.heap.size]?/\B.heap[q.heap.size+1]?=a.heap[q.heap.size+1]?)/\jk (M+1) a B/\∀k,Ψ k->B.heap[k]?=a.heap[k]?)/\(BxI d w (acV M u f) (H++[x]) Ψ B/\AccP f dev ctr (H++[x])):=λB s y F hA=>by
   obtain⟨s1,s2⟩:=BxI.step (E:=cuE M) (B:=B) hI z aa (λc o V=>by
    rcases EH V with⟨rfl,rfl⟩|⟨rfl,rfl⟩
    ·exact⟨.inl I,I,(s _ (jA.1 S).1 Y).trans S⟩
    exact⟨.inr I,I,F⟩) (by rintro c (rfl|rfl);exact⟨_,zk _ _ _ _⟩;exact⟨_,tT _ _ _ _⟩) Ye y (by rw[<-HM];exact j6 _) (λk V c=>s k V λe=>c (.inr e))
   exact⟨⟨⟨s _ Y Y,s _ Y Y⟩,y,s2⟩,s1,hA⟩
  have c:∀B r,(∀k,k<a.heap.size->k≠M+2->B.heap[k]?=a.heap[k]?)->jk (M+1) a B->B.heap[M+2]?=T (ja #[.bool r] 4 (0,0))->(∀ay,dx f dev ctr jn ((H++[x]).map CK.cand++ay)=r)->
   ((B.heap[q.heap.size]?=a.heap[q.heap.size]?/\B.heap[q.heap.size+1]?=a.heap[q.heap.size+1]?)/\jk (M+1) a B/\∀k,Ψ k->B.heap[k]?=a.heap[k]?)/\AcX w M f dev ctr .ret (H++[x]) Ψ B:=λB r s y F hA=>by
   have Q:=(hI.2.1 _ _ (tT M u f H)).2.2;exact⟨⟨⟨s _ Y Y,s _ Y Y⟩,y,λk V=>s k (Ye k V) λe=>Q (.inl (e▸V))⟩,⟨r,I,⟨F,λh=>Q (.inl h)⟩,hA⟩,hI.2.2.1.trans (y.mono (by rw[<-HM];exact j6 _)),hI.2.2.2⟩
  have VR:=O a2;have bu:=O c;have HP:=O hP;have Uf:=O S;have YA:N (jk w w a):=O hI.2.2.1;have UX:N (M+3<=a.heap.size):=O Y;clear a2 c hI hV Ye a3 hl a6 ba aa bs a1 bg bf z;obtain⟨X,j⟩:=J ((aL x).toArray);have c:=O (mG g);have Q:N (∀i:jc,X[i]?=(aL x)[i]?):=O λi=>by rw[j,lw]
  have UG:N (a.rangeAt b 74 (x.id.map v8)):=O λt R ht=>ah K (by rw[lw];exact(Bz g (by have h:=(jU.1 ht).1;rwa [jw,g.idl]at h)).trans ht)
  have UF:N (a.rangeAt (M+1) 1 (f.map v8)):=O λt R ht=>ah S (Ww t R ht)
  have bv:N ((x.id.map v8).length=VD.n):=O (by rw[jw,g.idl];rfl);have bw:N ((f.map v8).length=VD.n):=O (by rw[jw,bn];rfl);have bA:∀z,(Op.equalIn 10000 23 (jh (x.id.map v8).toArray) (jh (f.map v8).toArray)).run jo z=.ok (decide (x.id=f)) z:=λz=>nQ x.id f g.idl bn z
  obtain⟨T1,y⟩:=J ((x.id.map v8).toArray);obtain⟨T2,ad⟩:=J ((f.map v8).toArray);rw[<-y,<-ad]at bA;have Vf:=O y;have YB:=O ad;have a1:a.cell? ⟨b,36,jf⟩=T x.p.2.vc:=ah K (by rw[lw];exact c.2.2.1);have bf:a.cell? ⟨b,141,jf⟩=T x.vm:=ah K (by rw[lw];exact c.2.2.2.2.1);have bg:a.cell? ⟨M+1,33,jf⟩=T (jd je dev):=ah S WH;have bh:a.cell? ⟨M+1,34,jf⟩=T (jd je ctr):=ah S bm;have a2:=ah (i:=0) U I;have bi:=fR (o:=0) U;have a3:N (EC.At a x.p.2.vc x.p.1.chg):=O (EK.At.of_sl g.com.chg);have bk:N (EM.At a x.vm x.g.mem):=O g.leads.mem;obtain⟨pc,cc,e1,-⟩:=a3.form;obtain⟨pm,cm,e2,-⟩:=bk.form;rw[e1]at a1 a3;rw[e2]at bf bk;have Ug:=O U;have bO:=O a5;have VW:=O a4;dsimp only;rw[<-j];clear j g K S e1 e2 y ad c Q U hP a5 a4;obtain⟨bT,Wb⟩:=J (okS f H);rw[<-Wb]at a2 Ug;have aa:=O Wb;clear Wb
  cases bT with
  |true=>
   as_aux_lemma=>
    obtain⟨n,c⟩:=J x.p.1.chg.length;have Zo:=O c;rw[<-c]at a1 a3;have bs:n<=1000000:=by rw[c];exact bO
    clear c bf
    gi_wp2_with fail
    gi_loopw [20] (λi wr=>∃j:jc,i=jd je j/\j<=n/\N (∀y∈x.p.1.chg.take j,(y.d==dev&&y.k !=1)=jn)/\N (jk a a wr)) (λi _=>n-(jV i).toNat)
    case atStart=>exact⟨0,I,jN _,O ar,O (qa _ _)⟩
    obtain⟨j,rfl,hj,HG,Q⟩:=hrel;clear a1 a2 bi bg bh
    by_cases b0:j<n
    case neg=>
     have hd:=aw ((j:jb)<(n:jb));have UC:=aw (j<n);obtain rfl:j=n:=Y
     gi_wp2_with fail
     exact VR wr (λk s _=>Q.block k s) (Q.mono (aI UX)) (by rw[rB,<-aa];exact av Ug Q) (HP.on aa.symm (ND (by rw[<-Zo];exact HG)))
    have hd:=az ((j:jb)<(n:jb));have UC:=az (j<n);obtain⟨⟨K,c,xp,xv,xc⟩,he,U0⟩:=dL (l:=x.p.1.chg) (j:=j) (by rw[<-Zo];exact b0);obtain⟨g,o,rfl,a6⟩:=(a3.below Q).cells.2.2 Y;have UZ:N (wr.rangeAt g (o+j*5) (ap.cells ⟨K,c,xp,xv,xc⟩)):=O λt R ht=>a6 j _ he t R ht
    have HE:=O he;have bB:=O U0;obtain⟨X5,a4⟩:=J ((ap.cells ⟨K,c,xp,xv,xc⟩).toArray);have a5:=O a4;have Z1:N (X5.size=VH.n):=O (by rw[a4];rfl);have b1:N (X5.all (·.oneCell')=ji):=O (by rw[a4,jR];exact λR hu=>EC.one ⟨K,c,xp,xv,xc⟩ R (show R∈ap.cells _ by simpa using hu));clear a6 he U0 a4
    gi_upto_region 7 with(first|(refine VH.loadI aj I I (ap.cells ⟨K,c,xp,xv,xc⟩) I UZ ?_;rw[<-a5];refine L ?_)|(refine VH.madeI I I (L ?_))|(refine VH.firstI I I I X5 I Z1 b1 (L ?_)))
    obtain⟨x4,b3,hx,m,a4,bC⟩:=dt wr X5 VH.t;rw[<-hx,<-m];have Uq:N (jk a a x4):=ai Q bC;have cd:=ah (i:=1) (v:=jd je c) a4.out (by rw[a5];rfl);have ck:=ah (i:=0) (v:=jd je K) a4.out (by rw[a5];rfl);have b4:=ah (i:=4) (v:=jd je xc) a4.out (by rw[a5];rfl);have bg:=ah (av Uf Uq) WH;have bh:=ah (av Uf Uq) bm;have a6:=av Ug Uq;have a2:=ah (i:=0) a6 I;have bi:=fR (o:=0) a6;have ba:=O a6;clear hx m bC a4 Q UZ a6
    by_cases V:c=dev
    case neg=>
     have e1:(c==dev)=jn:=ak V;have a4:decide (c=dev)=jn:=ak V;have Vz:N (∀y∈x.p.1.chg.take (j+1),(y.d==dev&&y.k !=1)=jn):=O (by
      rw[bB];intro y Q
      rcases n0.1 Q with Q|Q
      ·exact HG y Q
      rw[jO]at Q;rw[Q];show(c==dev&&_)=jn;rw[e1];rfl)
     clear V
     gi_wp2_with fail
     exact⟨⟨j+1,by go_num,by omega,Vz,Uq⟩,by simp only[jV];omega⟩
    have e1:(c==dev)=ji:=ak V;have a4:decide (c=dev)=ji:=ak V;clear V
    by_cases F:K=1
    case pos=>
     have e2:(K !=1)=jn:=by simp[F]
     have a6:decide (K≠1)=jn:=by simp[F]
     have Vz:N (∀y∈x.p.1.chg.take (j+1),(y.d==dev&&y.k !=1)=jn):=O (by
      rw[bB];intro y Q
      rcases n0.1 Q with Q|Q
      ·exact HG y Q
      rw[jO]at Q;rw[Q];show(c==dev&&(K !=1))=jn;rw[e2,Bool.and_false])
     clear F
     gi_wp2_with fail
     exact⟨⟨j+1,by go_num,by omega,Vz,Uq⟩,by simp only[jV];omega⟩
    have e2:(K !=1)=ji:=by simp[F]
    have a6:decide (K≠1)=ji:=by simp[F]
    have Q:N (x.p.1.chg.find? (λy=>y.d==dev&&y.k !=1)=T ⟨K,c,xp,xv,xc⟩):=O (NI HG HE (by show(c==dev&&(K !=1))=ji;rw[e1,e2];rfl));clear F;obtain⟨r,y⟩:=J (decide (ctr<=xc));have HR:=O y;have bC:decide (ctr<=xc)=r:=y.symm;clear y
    gi_wp2_with fail
    refine bu _ r (λk s F=>(dB _ F).trans (Uq.block k s)) ((Uq.mono (aI UX)).setCell (p:=⟨M+2,0,jf⟩) (j6 _) _) (fa _ ba.out) (λay=>?_);rw[HR];exact HP.off aa.symm Q.out ay
  |false=>
   as_aux_lemma=>
    obtain⟨Q,g⟩:=J (decide (x.id=f));rw[<-g]at bA;have c:=O g;clear g
    rcases Q with _|_
    ·gi_wp2_with (first|(refine VD.loadI aj I I (x.id.map v8) bv UG ?_;rw[<-Vf];refine L ?_)|(refine VD.loadI aj I I (f.map v8) bw UF ?_;rw[<-YB];refine L ?_))
     exact VR a (λ_ _ _=>rfl) (qa _ _) (by rw[rB,<-aa,<-c];exact Ug) (HP.ne aa.symm (of_decide_eq_false c.symm))
    have y:=O (Al (NZ dev u (M+1) a.heap.size (aI UX) WH) x.g.mem _ a bk Uf (jF _) VW);obtain⟨V,g⟩:=J (x.g.mem.any λm=>m.dev==dev);rw[<-g]at y;have K:=O g;clear g
    gi_wp2_with (first|(refine VD.loadI aj I I (x.id.map v8) bv UG ?_;rw[<-Vf];refine L ?_)|(refine VD.loadI aj I I (f.map v8) bw UF ?_;rw[<-YB];refine L ?_))
    refine⟨trivial,I,(callsIn_wide.2 y).mono ?_⟩;rintro e x5 ⟨rfl,m⟩;have g:=av Ug m;have ay:=ah (i:=0) g I;have a4:=fR (o:=0) g;have j:=O m;have ba:=O g;clear m g a1 bf bg bh a2 bi y
    cases V with
    |true=>
     gi_wp2_with fail
     exact VR _ (λk s F=>(dB _ F).trans (j.block k s)) ((j.mono (aI UX)).setCell (p:=⟨M+2,0,jf⟩) (j6 _) _) (by rw[rB,<-aa,<-c];exact fa _ ba.out) (HP.met aa.symm (qK c.symm) K.symm)
    |false=>
     gi_wp2_with fail
     exact bu _ jn (λk s F=>(dB _ F).trans (j.block k s)) ((j.mono (aI UX)).setCell (p:=⟨M+2,0,jf⟩) (j6 _) _) (fa _ ba.out) (HP.gone aa.symm (qK c.symm) K.symm)
 rintro D xs Ψ W rfl hS ⟨hI,hP⟩ ax;have a:=(hI.2.1 _ _ (tT M u f xs)).2.1;have bb:=hI.2.2.1;obtain⟨ok,Wb⟩:=J (okS f xs);have HR:N (ok=bo):=O (by
  have h:=hP [];rw[qD,hS,dx,<-Wb]at h;rw[Zj];exact h.symm)
 rw[<-Wb]at a;have m:=ah (i:=0) a I;have r:=fR (o:=0) a;clear hI hP hS Wb
 go_wp2_with fail
 have c:(W.setCell ⟨M+2,0,jf⟩ (.bool ok)).heap[M+2]?=T (ja #[.bool ok] 4 (0,0)):=fa (i:=0) (.bool ok) a;have h:∀k,(W.setCell ⟨M+2,0,jf⟩ (.bool ok)).heap[k]?=W.heap[k]?:=λk=>by
  by_cases e:k=M+2
  ·rw[e,c,a]
  exact dB _ e
 have j:jk w w (W.setCell ⟨M+2,0,jf⟩ (.bool ok)):=bb.setCell (p:=⟨M+2,0,jf⟩) (by rw[<-HM];exact q7 _ _) _;have g:(W.setCell ⟨M+2,0,jf⟩ (.bool ok)).heap[q.heap.size]?=T (.deferred (T [])):=(h _).trans ax;have bc:M+2≠q.heap.size:=λe=>by rw[<-e,c]at g;cases g
 have z2:=(ms (w:=W.setCell ⟨M+2,0,jf⟩ (.bool ok)) (o:=.deferred jf) bc).trans c;have bd:w.heap.size<=q.heap.size:=P.size;refine⟨by simp,.inl ⟨_,_,I,qM (b:=q.heap.size) (ds:=[]) g,?_⟩⟩;have zc:=ah (i:=0) z2 I;exact⟨.bool ok,by simp[results,results6,go_sem,zc],by rw[HR],j.trans (iA bd)⟩
end
def vv(g:Grp)(a:jb)(b:jg ap)(c init:LBy)(d:jg Bx)(e:jg Wl):Cmt:=⟨g.folder,g.epoch+1,g.last,a,b,dA c,d,e,cG,0,0⟩
def pG(g:Grp)(a:jb)(c:jg ap)(b init:LBy)(d:jg Bx)(e:jg Wl):Cmt:=
 {vv g a c b init d e with confirm:=iY (dM g b init) (cW kL ((aR (vv g a c b init d e)).take 8))}
def mkX(g:Grp)(a:jb)(x:jc)(b:jg ap)(c init:LBy)(d:jg Bx)(e:jg Wl):Cmt:=
 {pG g a b c init d e with r:=(kj x (dp (pG g a b c init d e)):jc),s:=(kD x (dp (pG g a b c init d e)):jc)}
def kz(b:nn 8):LBy:=b::vi 31 0#8
def cP(d:jc):ap:=⟨1,(d:jb),((aX 4 (d+2):jc):jb),((aX 4 (d+2):jc):jb),0⟩
def dK(d a:jc):ap:=⟨2,(d:jb),0,0,(a:jb)⟩
def uA(g:Grp)(a:jb)(c:jg ap)(b seed:LBy)(x:jb×jb)(p:jc):Bx:=
 ⟨x.2,x.1,(aX 4 (gh (dZ seed gO [x.1,x.2])):jc),gq p (dZ seed gO [x.1,x.2]) (iV (bV g a c b) gO [x.1,x.2]) (aA b x.1.toNat)⟩
theorem L2{g:Grp}{b:jg ap}{c:LBy}{x:jb×jb}{p:jc}(h:tB (aW g.tree b) x.2=p):eA g a b c seed x=uA g a b c seed x p:=by
 unfold eA uA;rw[h]
def pwN:jc->jc->jc->jc
 |0,_,_=>1%PN
 |f+1,a,n=>if n%2=1 then a*pwN f (a*a%PN) (n/2)%PN else pwN f (a*a%PN) (n/2)
theorem Ch:∀(f a n:jc),n<2^f->pwN f a n=a^n%PN
 |0,a,n,h=>by
  obtain rfl:n=0:=ak h;rw[pwN,Nat.pow_zero]
 |f+1,a,n,h=>by
  have c:n/2<2^f:=by rw[Nat.pow_succ]at h;omega
  have e:a^n=(a*a)^(n/2)*a^(n%2):=by
   rw[<-Nat.pow_two,<-Nat.pow_mul,<-Nat.pow_add,Nat.div_add_mod]
  rw[pwN,Ch f _ _ c]
  split
  ·rename_i b
   rw[e,b,Nat.pow_one,Nat.mul_comm _ a,Nat.mul_mod a,<-Nat.pow_mod,Nat.mod_mod,<-Nat.mul_mod,Nat.mul_comm]
  have b:n%2=0:=Y;rw[e,b,Nat.pow_zero,Nat.mul_one,<-Nat.pow_mod]
def pw(a n:jc):jc:=if n<2^64 then pwN 64 a n else aX a n
theorem m5(a n:jc):aX a n=pw a n:=by
 unfold pw
 split
 ·rename_i h
  rw[Ch 64 a n h]
  rfl
 rfl
def lZ(a:LBy):jg jb:=(List.range 10).map λi=>((pw 4 (aS (aA a i)):jc):jb)
def m7(x:jc)(msg:LBy):jc:=(iS x msg+rF (pw 4 (iS x msg)) (pw 4 x) msg*x%QN)%QN
def rq(a:jc)(seed b body:LBy):LBy:=oL (nW a (pw 4 (gh seed)) (pw a (gh seed))) sj b body
def iX(g:Grp)(a:jb)(b:jg ap)(c:LBy):Cmt:=⟨g.folder,g.epoch+1,g.last,a,b,lZ c,[],[],cG,0,0⟩
def pf(g:Grp)(a:jb)(c:jg ap)(b seed:LBy)(x:jb×jb)(p:jc):Bx:=
 ⟨x.2,x.1,(pw 4 (gh (dZ seed gO [x.1,x.2])):jc),rq p (dZ seed gO [x.1,x.2]) (iV (iX g a c b) gO [x.1,x.2]) (aA b x.1.toNat)⟩
def oQ(g:Grp)(a:jb)(c:jg ap)(b init seed:LBy)(y:ap):Wl:=
 ⟨y.d,(pw 4 (gh (dZ seed kq [y.d])):jc),rq y.p.toNat (dZ seed kq [y.d]) (iV (iX g a c b) kq [y.d]) (dM g b init)⟩
def nh(g:Grp)(a:jb)(b:jg ap)(c init:LBy)(d:jg Bx)(e:jg Wl):Cmt:=⟨g.folder,g.epoch+1,g.last,a,b,lZ c,d,e,cG,0,0⟩
def lE(g:Grp)(a:jb)(c:jg ap)(b init:LBy)(d:jg Bx)(e:jg Wl):Cmt:=
 {nh g a c b init d e with confirm:=iY (dM g b init) (cW kL ((aR (nh g a c b init d e)).take 8))}
def mkF(g:Grp)(a:jb)(x:jc)(b:jg ap)(c init:LBy)(d:jg Bx)(e:jg Wl):Cmt:=
 {lE g a b c init d e with r:=(pw 4 (iS x (dp (lE g a b c init d e))):jc),s:=(m7 x (dp (lE g a b c init d e)):jc)}
theorem GW(a:LBy):dA a=lZ a:=by unfold dA lZ;simp only[m5]
theorem IJ(x:jc)(msg:LBy):kD x msg=m7 x msg:=by unfold kD m7 kj;simp only[m5]
theorem FM(a:jc)(seed b body:LBy):gq a seed b body=rq a seed b body:=by unfold gq rq;simp only[m5]
theorem Dj(g:Grp)(a:jb)(b:jg ap)(c:LBy):bV g a b c=iX g a b c:=by unfold bV iX;rw[GW]
theorem Kg(g:Grp)(a:jb)(b:jg ap)(c seed:LBy)(x:jb×jb)(p:jc):uA g a b c seed x p=pf g a b c seed x p:=by unfold uA pf;simp only[m5,FM,Dj]
theorem Tl(g:Grp)(a:jb)(b:jg ap)(c init seed:LBy)(y:ap):fA g a b c init seed y=oQ g a b c init seed y:=by unfold fA oQ;simp only[m5,FM,Dj]
theorem LH(g:Grp)(a:jb)(b:jg ap)(c init:LBy)(d:jg Bx)(e:jg Wl):pG g a b c init d e=lE g a b c init d e:=by unfold pG lE vv nh;simp only[GW]
theorem M9(g:Grp)(a:jb)(x:jc)(b:jg ap)(c init:LBy)(d:jg Bx)(e:jg Wl):mkX g a x b c init d e=mkF g a x b c init d e:=by
 unfold mkX mkF;simp only[LH,IJ,kj,m5]
theorem FC{P:oj}{S:jj->Prop}{t:bE}(r:bE){F:jc->jc->Act}{d:jc->jc->jj->Prop}(e:∀x y w,d x y w->eD P U i S r (F x y) w)(h:(∀x y w,d x y w->eD P U i S r (F x y) w)->eD P U i S t m w):eD P U i S t m w:=h e
theorem CC{a:Act}{o:jK}{x:j0}{c:jM}{d:TypeDesc}{f:jc}{e:jg jl}{g:jj}(h:jo.underlying c=T d)(i:d.isRow=ji)(j:(jo.info? c).map (·.size)=T e.length)(k:o.op=.load c x)(l:a.eval x=jt (T ⟨b,f,jf⟩))(m:g.rangeAt b f e):
 (jP a.eval o).run jo g=.ok (.value (jh e.toArray)) g:=fx o a c x k b f l e d m h i j
theorem LI{a:Act}{o:jK}{parts:jq (jc×j0)}{f e au:jb}{b:jq jl}{p:jG Addr}{n c:jc}(d:b.size=32)(g:o.op=.build 57 parts)(h:(parts.map fun(i,x)=>(i,a.eval x))= #[(0,jd je f),(1,jd je e),(2,jh b),(3,jd je au),(4,A p n c)])(W:jj):
 (jP a.eval o).run jo W=.ok (.value (jh (#[jd je f,jd je e]++b++ #[jd je au,A p n c,A jf 0 0,A jf 0 0,A jf 0 0]++(cG.map v8).toArray++ #[jd je 0,jd je 0]))) W:=by
 simp only[jP,g,h,Sem.run_bind,Lv f e au b d p n c,Result.andThen_ok,Sem.run_pure]
theorem N7{m:Act}(b:C.op=.build 27 #[])(W:jj):
 (jP m.eval C).run jo W=.ok (.value (jh (cG.map v8).toArray)) W:=by
 simp only[jP,b,o8,jY,Sem.run_bind,Ov,Result.andThen_ok,Sem.run_pure]
theorem Ro{R i:jc}{X:jl->jq jl}{g k:jl}{y:jg Bx}(n:e.last.length=32)(l:w.ownsRow b 61 5 j f.length (f.flatMap ap.cells))(m:w.ownsRow M 3 1 g 10 ((dA o).map (jH .i64)))(q:eB B R 57 105 4 Bx.cells Bx.body X W w i k y r)(p:i=y.length):aZ (·<w.heap.size) w {bV e a f o with box:=y} ⟨j,g,k,A jf 0 0⟩:=by
 refine⟨aH.of_own l (λe n=>(l.lt e n).2),?_,q.slice p (λe _ n=>n),⟨[],⟨I,jf,0,I,jF _,λ_=>rfl,λh=>ju h (q9 0)⟩,I⟩,n,eG⟩;have h:=aH.of_own (D:=(·<w.heap.size)) m (λe n=>(m.lt e n).2);show aH _ w g 1 (dA o).length _;rw[lK];exact h
def lg(D:jc->Prop)(W:jj)(v:jl)(l:jg Bx):Prop:=∃a,aH D W v 4 l.length (dR Bx.cells l a)/\ey D W (l.map Bx.body) a
theorem lg.keep{D':jc->Prop}{v:jl}{l:jg Bx}(h:lg D w v l)(a:∀g,D g->w'.heap[g]?=w.heap[g]?)(b:∀g,D g->D' g):lg D' w' v l:=by
 obtain⟨c,d,e⟩:=h;exact⟨c,(d.keep a).mono b,(e.keep a).mono b⟩
theorem lg.below{v:jl}{l:jg Bx}(h:lg (·<w.heap.size) w v l)(b:jk w w w'):lg (·<w'.heap.size) w' v l:=h.keep (λg a=>b.block g a) (λg a=>jJ a b.size)
theorem RN{R i:jc}{X:jl->jq jl}{g k l:jl}{y:jg Bx}{c:jg Wl}(p:e.last.length=32)(n:w.ownsRow b 61 5 j f.length (f.flatMap ap.cells))(d:w.ownsRow M 3 1 g 10 ((dA o).map (jH .i64)))(s:lg (·<w.heap.size) w k y)(t:eB B R 57 107 3 Wl.cells Wl.body X W w i l c r)(u:i=c.length):aZ (·<w.heap.size) w {bV e a f o with box:=y,wel:=c} ⟨j,g,k,l⟩:=by
 refine⟨aH.of_own n (λe p=>(n.lt e p).2),?_,s,t.slice u (λe _ p=>p),p,eG⟩;have h:=aH.of_own (D:=(·<w.heap.size)) d (λe p=>(d.lt e p).2);show aH _ w g 1 (dA o).length _;rw[lK];exact h
theorem Ri(h:EC.At w j f)(i:∀(g o:jc) (x:jb),w.cell? ⟨g,o,jf⟩=T (jd je x)->W.cell? ⟨g,o,jf⟩=T (jd je x)):EC.At W j f:=by
 obtain⟨k,p,c,e,m,n,q⟩:=h;refine⟨k,p,c,e,m,n,λr=>?_⟩;obtain⟨g,o,ep,s⟩:=q r;refine⟨g,o,ep,λv a b=>?_⟩;have t:=s v a b;have u:∃x,a=jd je x:=by
  have d:=j3 b;unfold EK.flat at d;obtain⟨y,-,z⟩:=List.mem_flatMap.1 d;have l:a∈ap.cells y:=z;simp only[ap.cells,List.mem_cons,List.mem_nil_iff,or_false]at l
  rcases l with rfl|rfl|rfl|rfl|rfl<;>exact⟨_,I⟩
 obtain⟨x,rfl⟩:=u;exact i _ _ _ t
theorem PG{v:jl}{l:jg ap}{j:jc}{X d:jq jl}{e:jM}(h:EC.At w v l)(f:w.heap[b]?=T (ja X e (0,0)))(g:w'.heap[b]?=T (ja d e (0,0)))(m:∀k,k<w.heap.size->k≠b->w'.heap[k]?=w.heap[k]?)
 (k:∀i,i≠j->d[i]?=X[i]?) (a:∃p n c,X[j]?=T (A p n c)):EC.At w' v l:=by
 obtain⟨p,n,c,a⟩:=a;exact Ri h (uF f g k a m)
theorem Km{a:jb}{z seed:LBy}{D:jc->Prop}{g m n:jl}(d:e.last.length=32)(l:w.ownsRow b 61 5 j f.length (f.flatMap ap.cells))(i:w.ownsRow M 3 1 g 10 ((dA o).map (jH .i64)))
 (c:lg D w m ((eo (aW e.tree f) a).map (eA e a f o seed))) (p:∃h,aH D w n 3 ((du a f).map (fA e a f o z seed)).length (dR Wl.cells ((du a f).map (fA e a f o z seed)) h)/\ey D w (((du a f).map (fA e a f o z seed)).map Wl.body) h)
 (q:∀k,b<=k->k<w.heap.size->D k) (r:∀k,M<=k->k<w.heap.size->D k):aZ D w (mk1 e a f o z seed) ⟨j,g,m,n⟩:=by
 refine⟨aH.of_own l (λe d=>q e (l.lt e d).1 (l.lt e d).2),?_,c,p,d,eG⟩;have h:=aH.of_own (D:=D) i (λe d=>r e (i.lt e d).1 (i.lt e d).2);show aH _ w g 1 (dA o).length _;rw[lK];exact h
theorem aZ.conf(h:aZ D w H R){k:LBy}(a:k.length=32):aZ D w {H with confirm:=k} R:=⟨h.chg,h.path,h.box,h.wel,h.plen,a⟩
theorem aZ.rs(h:aZ D w H R)(r s:jb):aZ D w {H with r:=r,s:=s} R:=⟨h.chg,h.path,h.box,h.wel,h.plen,h.clen⟩
theorem DW{z:LBy}(h:aZ D w (mk1 e a f o z seed) R):aZ D w (mk2 e a f o z seed) R:=by
 unfold mk2;exact h.conf (sR _ _)
theorem Q2{g:Grp}{x:jc}{b:jg ap}{c init:LBy}{q:CQ}(h:aZ D W (mk1 g a b c init seed) q):aZ D W (mkC g a x b c init seed) q:=by
 unfold mkC;exact(DW h).rs _ _
theorem aZ.later(h:aZ (λk=>b<=k/\k<w.heap.size) w H R)(n:jk w w W):aZ (λk=>b<=k/\k<W.heap.size) W H R:=
 (h.keep λg a=>n.block g a.2).mono λg a=>⟨a.1,jJ a.2 n.size⟩
def mK(a:jq jl):jc->jg jl->jq jl
 |_,[]=>a
 |o,v::b=>mK (a.setIfInBounds o v) (o+1) b
theorem Bw:∀(d a c b:jg jl),c.length=d.length->mK (a++c++b).toArray a.length d=(a++d++b).toArray
 |[],a,c,b,h=>by
  obtain rfl:c=[]:=List.eq_nil_of_length_eq_zero h
  rfl
 |v::d,a,[],b,h=>by simp at h
 |v::d,a,x::c,b,h=>by
  have e:(a++x::c++b).toArray.setIfInBounds a.length v=((a++[v])++c++b).toArray:=by
   apply Array.ext'
   rw[Array.toList_setIfInBounds];show List.set (a++x::c++b) a.length v=_;rw[qT,List.set_append_right _ _ (jF _),Nat.sub_self];simp
  rw[mK,e];have f:=Bw d (a++[v]) c b (ak h);rw[qg]at f;have g:mK ((a++[v])++c++b).toArray (a.length+1) d=(a++[v]++d++b).toArray:=f;rw[g];simp
theorem yP:∀(a:jg jl) (o:jc) (W:jj) (c:jq jl),W.heap[b]?=T (ja c p (0,0))->(W.setCells b o a).heap[b]?=T (ja (mK c o a) p (0,0))
 |[],o,W,c,h=>h
 |v::a,o,W,c,h=>yP a (o+1) _ _ (fa v h)
theorem tS{k:jc}(c:k≠b):∀(a:jg jl) (o:jc) (W:jj),(W.setCells b o a).heap[k]?=W.heap[k]?
 |[],o,W=>rfl
 |v::a,o,W=>(tS c a (o+1) (W.setCell ⟨b,o,jf⟩ v)).trans (dB v c)
theorem yi(b:jc):∀(a:jg jl) (o:jc) (W:jj),(W.setCells b o a).heap.size=W.heap.size
 |[],o,W=>rfl
 |v::a,o,W=>(yi b a (o+1) (W.setCell ⟨b,o,jf⟩ v)).trans (pC _ _ _)
theorem N1(c:Cmt)(q:CQ)(k:LBy)(a:c.parent.length=32)(b:c.confirm.length=32)(d:k.length=32):mK (aF c q).toArray 39 (k.map v8)=(aF {c with confirm:=k} q).toArray:=by
 have e:∀x:LBy,aF {c with confirm:=x} q=(jd je c.folder::jd je c.epoch::(c.parent.map v8++[jd je c.author,q.vc,q.vp,q.vb,q.vw]))++x.map v8++[jd je c.r,jd je c.s]:=λx=>by simp[aF]
 have h:=Bw (k.map v8) (jd je c.folder::jd je c.epoch::(c.parent.map v8++[jd je c.author,q.vc,q.vp,q.vb,q.vw])) (c.confirm.map v8) [jd je c.r,jd je c.s] (by simp[b,d]);have f:(jH .i64 c.folder::jd je c.epoch::(c.parent.map v8++[jd je c.author,q.vc,q.vp,q.vb,q.vw])).length=39:=by simp[a]
 rw[f,<-e,<-e]at h;exact h
theorem TD(c:Cmt)(q:CQ)(r s:jb)(a:c.parent.length=32)(b:c.confirm.length=32):mK (aF c q).toArray 71 [jd je r,jd je s]=(aF {c with r:=r,s:=s} q).toArray:=by
 have e:∀x y:jb,aF {c with r:=x,s:=y} q=(jd je c.folder::jd je c.epoch::(c.parent.map v8++([jd je c.author,q.vc,q.vp,q.vb,q.vw]++c.confirm.map v8)))++[jd je x,jd je y]++[]:=λx y=>by simp[aF]
 have h:=Bw [jd je r,jd je s] (jd je c.folder::jd je c.epoch::(c.parent.map v8++([jd je c.author,q.vc,q.vp,q.vb,q.vw]++c.confirm.map v8))) [jd je c.r,jd je c.s] [] I;have d:(jH .i64 c.folder::jd je c.epoch::(c.parent.map v8++([jd je c.author,q.vc,q.vp,q.vb,q.vw]++c.confirm.map v8))).length=71:=by simp[a,b]
 rw[d,<-e,<-e]at h;exact h
theorem fH.conf(h:fH H){k:LBy}(a:k.length=32):fH {H with confirm:=k}:=⟨h.ints,h.plen,a,h.chg,h.path,h.box,h.wel⟩
theorem fH.rs(h:fH H){r s:jb}(a:IR r)(b:IR s):fH {H with r:=r,s:=s}:=⟨⟨h.ints.1,h.ints.2.1,h.ints.2.2.1,a,b⟩,h.plen,h.clen,h.chg,h.path,h.box,h.wel⟩
theorem O6(c:Cmt)(x y:jb)(l:c.r=0)(m:c.s=0):({({c with r:=x,s:=y}:Cmt)with r:=0,s:=0}:Cmt)=c:=by
 obtain⟨a,b,c,d,e,f,g,h,i,j,k⟩:=c;obtain rfl:j=0:=l;obtain rfl:k=0:=m
 rfl
theorem Kf(c:Cmt)(x:LBy)(l:c.confirm=cG):({({c with confirm:=x}:Cmt)with confirm:=cG}:Cmt)=c:=by
 obtain⟨a,b,c,d,e,f,g,h,i,j,k⟩:=c;obtain rfl:i=cG:=l
 rfl
theorem Tn(g:Grp)(a:jb)(b:jg ap)(c init seed:LBy)(q:CQ):aF (mk1 g a b c init seed) q=aF (bV g a b c) q:=by simp only[aF,mk1,bV]
theorem nZ(g:Grp)(a:jb)(b:jg ap)(c init seed:LBy):(mk1 g a b c init seed).parent=g.last/\(mk1 g a b c init seed).confirm.length=32:=by
 unfold mk1;exact⟨I,eG⟩
theorem Di(g:Grp)(a:jb)(c:jg ap)(b init seed:LBy):mk2 g a c b init seed={mk1 g a c b init seed with confirm:=iY (dM g b init) (cW kL ((aR (mk1 g a c b init seed)).take 8))}:=by unfold mk2;rfl
theorem Gr(g:Grp)(a:jb)(x:jc)(b:jg ap)(c init seed:LBy):mkC g a x b c init seed={mk2 g a b c init seed with r:=((kj x (dp (mk2 g a b c init seed)):jc):jb),s:=((kD x (dp (mk2 g a b c init seed)):jc):jb)}:=by unfold mkC;rfl
theorem BQ(c:Cmt)(k:LBy):({c with confirm:=k}:Cmt).confirm=k/\({c with confirm:=k}:Cmt).parent=c.parent:=⟨I,I⟩
theorem pk(g:Grp)(a:jb)(b:jg ap)(c init seed:LBy):(mk2 g a b c init seed).parent=g.last/\(mk2 g a b c init seed).confirm.length=32:=by
 rw[Di,(BQ _ _).1,(BQ _ _).2];exact⟨(nZ ..).1,sR _ _⟩
theorem FT(c:Cmt)(r s:jb):({c with r:=r,s:=s}:Cmt).confirm=c.confirm/\({c with r:=r,s:=s}:Cmt).parent=c.parent:=⟨I,I⟩
theorem BC(g:Grp)(a:jb)(x:jc)(b:jg ap)(c init seed:LBy):(mkC g a x b c init seed).parent=g.last/\(mkC g a x b c init seed).confirm.length=32:=by
 rw[Gr,(FT _ _ _).1,(FT _ _ _).2];exact pk ..
theorem Mv{z:LBy}(h:fH (mkC e a b f o z seed)):fH (mk1 e a f o z seed)/\fH (mk2 e a f o z seed):=by
 have init:IR 0:=⟨by decide,by decide⟩;have g:fH (mk2 e a f o z seed):=by
  have d:=h.rs init init;unfold mkC at d;rw[O6 _ _ _ I I]at d;exact d
 have d:=g.conf eG;unfold mk2 at d;rw[Kf _ _ I]at d;exact⟨d,g⟩
theorem vE(k:P)(h:P->K:=by intro k;refine aV (v:=?_) rfl aj (λW' hS=>?_) ?_;rotate_left;(have b0:=ah (i:=1) hS.1 rfl;have b1:=ah (i:=2) hS.1 rfl;clear hS;go_simp;with_reducible rfl);refine L ?_;exact k):K:=h k
theorem Ru(g:Grp)(vm vt vl:jl)(a x:jb)(m:jg ap)(u init seed:LBy)(w:jj)(h:bW w g vm vt)(X:aH (·<w.heap.size) w vl 5 m.length (m.flatMap ap.cells))
 (ay:u.length=32) (a1:init.length=32) (g7:seed.length=32) (hT:lq w) (hS:iD w) (bb:g.mem.length<=900000) (bc:g.tree.length<=600000) (D:m.length<=1000000) (Wb:gZ g a x m=0):
 jB jo 24 #[jh (aD g vm vt).toArray,jd je a,jd je x,vl,jh (u.map v8).toArray,jh (init.map v8).toArray,jh (seed.map v8).toArray] w (O3 g a x m u init seed (gZ g a x m) w):=by
 obtain⟨er,M⟩:=J (gZ g a x m);rw[<-M];have hI:=O M;have ev:N (er=0):=O (M.trans Wb);have a2:=rx (vm:=vm) (vt:=vt) h.llen;have VB:=lN (vm:=vm) (vt:=vt) h.llen;have a3:∀(w:jj) (b:jc),w.heap[b]?=T (ja (aD g vm vt).toArray 51 (0,0))->w.rangeAt b 2 (g.last.map v8):=λw b hb=>dF.last ⟨hb,h.llen⟩
 have HN:N (∀W,bW W g vm vt->EC.At W vl m->jB jo 38 #[jh (aD g vm vt).toArray,jd je a,vl] W λe w'=>∃aa,e=jz (jI #[aa,jd je (dq g a m)])/\w'.ownsRow W 105 4 aa (dT g a m).length (EB0.flat (dT g a m))/\jk W W w'):=O (λW hW hL=>Gf g vm vt _ _ _ W hW hL Y Y D);have hh:N (∀W,dC g->eU m->gL g a m->bW W g vm vt->EC.At W vl m->jB jo 39 #[jh (aD g vm vt).toArray,jd je a,vl] W λe w'=>e=jz (jd je (dQ g a m))/\jk W W w'):=O (λW hv hf hp hW hL=>F3 g vm vt _ _ _ W hW (uw hv) Y hL (λhn=>by
  have c:=hp.own;rw[hn]at c;obtain⟨x,r,h1,-⟩:=hp.first (by have:=hv.ep.1;have h2:=of_decide_eq_false c.symm;omega);rw[h1];simp))
 have hJ:N (∀W,eU m->bW W g vm vt->EC.At W vl m->jB jo 44 #[jh (aD g vm vt).toArray,vl] W λe w'=>∃aa,e=jz (jh #[aa])/\bH w' aa (aW g.tree m)/\jk W W w'):=O (λW hf hW hL=>yz g vm vt _ _ W hW hf Y hL);obtain⟨ax,P⟩:=J ((aD g vm vt).toArray);obtain⟨Uc,hL⟩:=J ((u.map v8).toArray);obtain⟨bC,U⟩:=J ((init.map v8).toArray);obtain⟨S,V⟩:=J ((seed.map v8).toArray);have c:∀(l:LBy),l.length=32->(jo.info? 27).map (·.size)=T (l.map v8).toArray.size:=λl D=>by rw[jv,jw,D];kernel_rfl
 have ZI:N ((jo.info? 27).map (·.size)=T Uc.size):=O (by rw[hL];exact c _ ay);have lb:N ((jo.info? 27).map (·.size)=T bC.size):=O (by rw[U];exact c _ a1);have hK:N ((jo.info? 27).map (·.size)=T S.size):=O (by rw[V];exact c _ g7);rw[<-P]at a2 HN hh hJ a3⊢;rw[<-hL,<-U,<-V];clear c;obtain⟨x0,k⟩:=J (((((((w.alloc (ja ax 51)).alloc (ja Uc 27)).alloc (ja bC 27)).alloc (ja S 27)).alloc (ja zeroCells57 57)).alloc (ja a8 27)));obtain⟨t,hG⟩:=J w.heap.size;have i:=jy w (ja ax 51);have c:=ao w (ja ax 51);have bl:=jy (w.alloc (ja ax 51)) (ja Uc 27);have d:=ao (w.alloc (ja ax 51)) (ja Uc 27);have U6:=jy ((w.alloc (ja ax 51)).alloc (ja Uc 27)) (ja bC 27);have j:=ao ((w.alloc (ja ax 51)).alloc (ja Uc 27)) (ja bC 27);have o:=jy (((w.alloc (ja ax 51)).alloc (ja Uc 27)).alloc (ja bC 27)) (ja S 27);have q:=ao (((w.alloc (ja ax 51)).alloc (ja Uc 27)).alloc (ja bC 27)) (ja S 27);have C:=jy ((((w.alloc (ja ax 51)).alloc (ja Uc 27)).alloc (ja bC 27)).alloc (ja S 27)) (ja zeroCells57 57);have s:=ao ((((w.alloc (ja ax 51)).alloc (ja Uc 27)).alloc (ja bC 27)).alloc (ja S 27)) (ja zeroCells57 57);have ew:=jy (((((w.alloc (ja ax 51)).alloc (ja Uc 27)).alloc (ja bC 27)).alloc (ja S 27)).alloc (ja zeroCells57 57)) (ja a8 27);have v:=ao (((((w.alloc (ja ax 51)).alloc (ja Uc 27)).alloc (ja bC 27)).alloc (ja S 27)).alloc (ja zeroCells57 57)) (ja a8 27);replace i:=av i d;replace i:=av i j;replace i:=av i q;replace i:=av i s;replace i:=av i v;rw[jp]at bl;replace bl:=av bl j;replace bl:=av bl q;replace bl:=av bl s;replace bl:=av bl v;rw[jp,jp]at U6;replace U6:=av U6 q;replace U6:=av U6 s;replace U6:=av U6 v;rw[jp,jp,jp]at o;replace o:=av o s;replace o:=av o v;rw[jp,jp,jp,jp]at C;replace C:=av C v;rw[jp,jp,jp,jp,jp]at ew;have hB:=(((((c).trans (d.mono (c).size)).trans (j.mono ((c).trans (d.mono (c).size)).size)).trans (q.mono (((c).trans (d.mono (c).size)).trans (j.mono ((c).trans (d.mono (c).size)).size)).size)).trans (s.mono ((((c).trans (d.mono (c).size)).trans (j.mono ((c).trans (d.mono (c).size)).size)).trans (q.mono (((c).trans (d.mono (c).size)).trans (j.mono ((c).trans (d.mono (c).size)).size)).size)).size)).trans (v.mono (((((c).trans (d.mono (c).size)).trans (j.mono ((c).trans (d.mono (c).size)).size)).trans (q.mono (((c).trans (d.mono (c).size)).trans (j.mono ((c).trans (d.mono (c).size)).size)).size)).trans (s.mono ((((c).trans (d.mono (c).size)).trans (j.mono ((c).trans (d.mono (c).size)).size)).trans (q.mono (((c).trans (d.mono (c).size)).trans (j.mono ((c).trans (d.mono (c).size)).size)).size)).size)).size);rw[<-k]at hB;rw[<-k,<-hG]at i;rw[<-k,<-hG]at bl;rw[<-k,<-hG]at U6;rw[<-k,<-hG]at o;rw[<-k,<-hG]at C;rw[<-k,<-hG]at ew;have Q:=O i;have ac:=O bl;have ad:=O U6;have VQ:=O o;have UK:=O C;have UP:=O ew;have Uh:=O hB;have HW:=O k;have HG:=O hG;have hl:=O h;have Z6:=O X;obtain⟨Z,F⟩:∃y:jq jl,y=zeroCells57:=⟨_,I⟩;obtain⟨K,z⟩:∃y:jq jl,y=a8:=⟨_,I⟩;have ih:N ((aF mI nC).toArray=Z):=O (by rw[F];rfl);have ZC:N ((cG.map v8).toArray=K):=O (by rw[z];rfl);have UX:N ((jo.info? 57).map (·.size)=T Z.size):=O (by rw[F];kernel_rfl);have lc:N ((jo.info? 27).map (·.size)=T K.size):=O (by rw[z];kernel_rfl);have lj:N (Z.all (·.oneCell')=ji):=O (by rw[F];kernel_rfl);have lk:N (K.all (·.oneCell')=ji):=O (by rw[z];kernel_rfl);replace UK:N (x0.heap[(t+1+1+1+1)]?=T (ja Z 57 (0,0))):=O (by rw[F];exact UK);replace UP:N (x0.heap[(t+1+1+1+1+1)]?=T (ja K 27 (0,0))):=O (by rw[z];exact UP);have YC:=O a2;have ii:=O a3;have hM:=O hT;have VR:=O hS;have VW:=O bb;have Wn:=O bc;have g8:=O D;have Vn:=O ay;have hN:=O a1;have hO:=O g7;have WP:=O h.llen;have cy:N (ax[0]?=T (jd je g.folder)/\ax[1]?=T (jd je g.epoch)):=O (by rw[P];have:=VB;exact⟨by simpa using this.1,by simpa using this.2.1⟩);have Yj:=O P;have YW:=O hL;have hP:=O U;have hQ:=O V;obtain⟨R,nc,H,i0⟩:∃p n c',vl=A p n c':=by obtain⟨p,c',h⟩:=X.form;exact⟨p,_,c',h⟩
 subst i0;obtain⟨ep,a4⟩:=J g.epoch;obtain⟨fd,a5⟩:=J g.folder;rw[<-a4,<-a5]at cy;have WO:=O a4;have i1:=O a5;have a6:=O (yA g a m);obtain⟨ne,ba⟩:=J (dq g a m);rw[<-ba]at HN a6;have e0:=O ba;clear h X ay a1 g7 hT hS bb bc D M a2 VB a3 P hL U V F z a4 a5 ba;clear hB k hG i c bl d U6 j o q C s ew v
 go_enter func24,ntmps24
 go_upto_region 1 with fail
 rw[<-HW,<-HG];have e1:N ((t+1+1+1+1+1)<x0.heap.size):=O (jA.1 UP).1;have k:=ah Q cy.2
 by_cases h1:1099511627776<=ep
 case pos=>
  have hR:decide (1099511627776<=ep)=ji:=ak h1;have c:N (er=1):=O (by rw[hI];unfold gZ;rw[jr (by rw[<-WO];exact h1)]);clear h1;exact ju (c.symm.trans ev) G
 have hR:decide (1099511627776<=ep)=jn:=ak h1;have i3:ep<1099511627776:=Y;have i:N (er=if dq g a m≠0 then dq g a m else if x<1\/2305843009213688669<=x then 50 else if((aX 4 x.toNat:jc):jb)≠dQ g a m then 221 else 0):=O (by rw[hI];unfold gZ;rw[jD (by rw[<-WO];exact h1)]);clear h1
 go_upto_region 3 with fail
 clear hR k;refine jX ?_;refine j7 I 51 _ I t I 51 ax (0,0) _ Q.out qO I YC ?_
 go_wp2_with fail
 refine(HN x0 (hl.below Uh) ((EK.At.of_sl (E:=EC) Z6).below Uh)).mono ?_;rintro e x1 ⟨aa,rfl,hu,d⟩;have q:=O hu;clear hu;have s:=ae Q d;have a1:=ae ac d;have V:=ae ad d;have U5:=ae VQ d;have UB:=ae UK d;have UG:=ae UP d;have U:=ai Uh d;clear Q ac ad VQ UK UP Uh;clear d;obtain⟨pu,i4,rfl⟩:=cK q;obtain⟨nu,j⟩:=J ((dT g a m).length);rw[<-j]at q⊢;have hT:=O j;clear j
 rcases a6.out with⟨-,C⟩|⟨-,-,C⟩|⟨hv,hf,hp,C⟩
 case inl=>
  have c:N (er=1):=O (by rw[i,<-e0,C];rfl);subst C;clear q;exact ju (c.symm.trans ev) G
 case inr.inl=>
  have c:N (er=221):=O (by rw[i,<-e0,C];rfl);subst C;clear q;exact ju (c.symm.trans ev) G
 have o:N (er=if x<1\/2305843009213688669<=x then 50 else if((aX 4 x.toNat:jc):jb)≠dQ g a m then 221 else 0):=O (by rw[i,<-e0,C];rfl);subst C;have j:dC g:=by
  by_cases C:dC g
  ·exact C
  rw[kh C]at hv;cases hv
 have b5:=O j;have Ya:=O (oy.1 hf);have hm:=O (tF.1 hp);have ho:N (dT g a m=eo (aW g.tree m) a):=O (wZ e0.symm);have ll:0<=ep:=by rw[WO];exact j.ep.1
 have ed:=O (vO j Ya hm);clear hv hf hp j i a6
 by_cases e2:kY x
 case neg=>
  have c:N (er=50):=O (by rw[o,jr (by unfold kY at e2;omega)]);have i:=O (IV x e2);clear e2 q
  go_wp2_with fail
  refine(i x1).mono ?_;rintro e x2 ⟨rfl,rfl⟩;exact ju (c.symm.trans ev) G
 obtain⟨X,hX⟩:=qF (show 0<=x by have:=e2.1;omega);have lo:=O hX;obtain⟨i,j⟩:=e2;subst hX;have UT:N (1<=X/\X<2305843009213688669):=O ⟨by omega,by omega⟩;have g9:N (er=if((aX 4 X:jc):jb)≠dQ g a m then 221 else 0):=O (by rw[o,jD Y];rfl);clear i j o
 go_wp2_with fail
 refine(zZ X UT.1 UT.2 x1).mono ?_;rintro e x2 ⟨rfl,d⟩;have i:=ae s d;have v:=ae a1 d;have D:=ae V d;have UE:=ae U5 d;have Uy:=ae UB d;have UF:=ae UG d;have Ug:=ai U d;have e3:=bj q d;clear s a1 V U5 UB UG U q;clear d;obtain⟨vk,j⟩:=J (dQ g a m);obtain⟨pb,e4⟩:∃y:jb,y=((aX 4 X:jc):jb):=⟨_,I⟩;rw[<-j]at hh g9;rw[<-e4]at g9⊢;have Zu:=O j;have i5:=O e4;clear j e4
 go_upto_region 9 with fail
 refine jX ?_;refine eh ?_;refine j7 I 51 _ I t I 51 ax (0,0) _ i.out qO I YC (L ?_)
 go_wp2_with fail
 refine(hh x2 b5 Ya hm (hl.below Ug) ((EK.At.of_sl (E:=EC) Z6).below Ug)).mono ?_;rintro e x3 ⟨rfl,d⟩;have WK:=ae i d;have Zl:=ae v d;have o:=ae D d;have VL:=ae UE d;have UQ:=ae Uy d;have U4:=ae UF d;have Uj:=ai Ug d;have Z7:=bj e3 d;clear i v D UE Uy UF Ug e3;clear d
 by_cases h2:pb=vk
 case neg=>
  have hd2:(pb !=vk)=ji:=ak h2;have ha:(pb==vk)=jn:=ak h2;have c:N (er=221):=O (by rw[g9,jr h2]);clear h2 Z7;exact ju (c.symm.trans ev) G
 have hd2:(pb !=vk)=jn:=ak h2;have ha:(pb==vk)=ji:=ak h2;have i6:N (er=0):=O (by rw[g9,jD (λhn=>hn h2)]);have i7:N (dQ g a m=(aX 4 X:jc)):=O (by rw[<-Zu,<-h2,i5]);clear h2;have k:=ah WK cy.2;obtain⟨ix,c⟩:=J (if g.epoch=0 then cG else init);obtain⟨IX,i⟩:=J ((ix.map v8).toArray);have j:ix.length=32:=by rw[c];split;exact eG;exact hN
 have ka:=O j;have bn:=O c;have bq:=O i;have hr:N ((jo.info? 27).map (·.size)=T IX.size):=O (by rw[i,jv,jw,j];kernel_rfl);clear j
 go_upto_if 69 with fail
 go_cut []from 69 (λj=>j=x3.setRow (t+1+1) IX)
 case first=>
  by_cases j:ep=0
  ·have hd3:(ep==0)=ji:=ak j
   have v:IX=(cG.map v8).toArray:=by rw[i,c,jr (by rw[<-WO];exact j)]
   have D:N ((cG.map v8).toArray.all (·.oneCell')=ji):=O (eR _);have F:N (bC.size=(cG.map v8).toArray.size):=O (by rw[hP,jv,jw,jv,jw,hN,eG]);rw[v]at hr;have M:=O v;clear j v i c
   try rw[hd3]
   go_upto_region 12 with fail
   refine jX ?_;refine ez (v:=jh (cG.map v8).toArray) aj (N7 I _) ?_;refine ow I λ_ z=>jQ 27 _ _ I (t+1+1) (cG.map v8).toArray I I 27 _ o.out hr F D (z _ _ ?_)
   refine L ?_
   go_wp2_with fail
   go_meet
   rw[M]
  have hd3:(ep==0)=jn:=ak j;have D:IX=bC:=by rw[i,c,jD (by rw[<-WO];exact j),hP]
  have F:=O D;clear j D i c
  try rw[hd3]
  go_wp2_with fail
  go_meet
  rw[F];exact(ri o).symm
 subst hcut;clear i c hd2 ha k;have c:N ((x3.setRow (t+1+1) IX).heap[t]?=T (ja ax 51 (0,0))):=O ((js _ _ _ _ (by first|omega|(have:=YS.out;omega))).trans WK);have D:N ((x3.setRow (t+1+1) IX).heap[t+1]?=T (ja Uc 27 (0,0))):=O ((js _ _ _ _ (by first|omega|(have:=YS.out;omega))).trans Zl);have F:N ((x3.setRow (t+1+1) IX).heap[t+1+1]?=T (ja IX 27 (0,0))):=O (jT _ _ _ _ _ _ o.out);have M:N ((x3.setRow (t+1+1) IX).heap[t+1+1+1]?=T (ja S 27 (0,0))):=O ((js _ _ _ _ (by first|omega|(have:=YS.out;omega))).trans VL);have a6:N ((x3.setRow (t+1+1) IX).heap[(t+1+1+1+1)]?=T (ja Z 57 (0,0))):=O ((js _ _ _ _ (by first|omega|(have:=YS.out;omega))).trans UQ);have ba:N ((x3.setRow (t+1+1) IX).heap[(t+1+1+1+1+1)]?=T (ja K 27 (0,0))):=O ((js _ _ _ _ (by first|omega|(have:=YS.out;omega))).trans U4);have bc:N (jk w w (x3.setRow (t+1+1) IX)):=O (nv Uj.out (by rw[HG];omega) _);have P:=O (m9 (w':=(x3.setRow (t+1+1) IX)) Z7 (λk hk=>js _ _ _ _ (aI e1)));generalize(x3.setRow (t+1+1) IX)=x4 at c D F M a6 ba bc P⊢;clear WK Zl o VL UQ U4 Uj Z7;have a2:=c;clear c;have o:=D;clear D;have a3:=F;clear F;have WC:=M;clear M;have WX:=a6;clear a6;have Yv:=ba;clear ba;have Uq:=bc;clear bc;have a4:=P;clear P
 go_upto_region 13 with fail
 refine jX ?_;refine j7 I 27 _ I (t+1) I 27 Uc (0,0) _ o.out jW I ZI ?_;have ay:N (∀W,bP W->jB jo 40 #[jh Uc] W λe w'=>∃v,e=jz v/\w'.ownsRow W 27 32 v 10 (ik (gG u 10))/\jk W W w'):=O (by rw[YW];exact λW hW=>Le u Vn W hW)
 go_wp2_with fail
 refine(ay x4 (VR.dig.below Uq)).mono ?_;rintro e x5 ⟨v,rfl,hv,d⟩;obtain⟨gl,cl,LC,rfl,lp,a5,bb,bd⟩:=SO hv G;have e5:=O bb;have YS:N (t+6<=gl):=O (by have h5:=(jA.1 Yv).1;have:=a5;omega);have hg:N (∀i j aa,i<10->((aA u i).map v8)[j]?=T aa->LC[i*32+j]?=T aa):=O (λi j aa hi hj=>bd _ _ (Rp u Vn 10 i j hi aa hj));clear hv bb bd a5 ay;have bf:=ae a2 d;have bg:=ae o d;have ay:=ae a3 d;have Z1:=ae WC d;have eg:=ae WX d;have ej:=ae Yv d;have Uw:=ai Uq d;have bh:=bj a4 d;clear a2 o a3 WC WX Yv Uq a4;clear d;obtain⟨RL,a2⟩:=J (((aA u 9).map v8).toArray);obtain⟨SA,o⟩:=J (((dM g u init).map v8).toArray);have br:N (∀W,iD W->jB jo 41 #[jh IX,jh RL] W λe w'=>e=jz (jh SA)/\jk W W w'):=O (by
  rw[bq,a2,o];unfold dM;rw[<-bn];exact λW hW=>QA ix (aA u 9) ka (fJ u Vn 9) W hW)
 have e6:N ((jo.info? 27).map (·.size)=T SA.size):=O (by rw[o,jv,jw,lD];kernel_rfl);have kb:N (K.size=SA.size):=O (by rw[o,<-ZC,jv,jw,jv,jw,lD,eG]);have hU:N (SA.all (·.oneCell')=ji):=O (by rw[o];exact eR _);have bs:=O a2;have hs:=O o;have bu:N ((jo.info? 27).map (·.size)=T ((aA u 9).map v8).length):=O (by rw[jw,fJ u Vn];kernel_rfl);clear a2 o
 go_upto_region 14 with fail
 refine jL ?_;refine dm (λW'=>W'.heap[t+1+1]?=T (ja IX 27 (0,0))/\W'.heap[gl]?=T (ja LC 27 (0,0))) (.take 0 (.take 1 (.take 2 (.take 3 (.one 4 (.one 5 .done)))))) af af af G (λ_ _ _ _ h=>h) ⟨ay,e5⟩ ?_;obtain⟨y0,UA⟩:=J x5.drew;have d:=bX x5;rw[<-UA]at d⊢;have a4:=ae bf d;have a5:=ae bg d;have bb:=ae ay d;have bO:=ae Z1 d;have cj:=ae eg d;have ck:=ae ej d;have Zn:=ai Uw d;have bd:=bj bh d;have cm:=ae e5 d;clear d UA bf bg ay Z1 eg ej Uw bh e5;have Q:=a4;clear a4;have ac:=a5;clear a5;have ad:=bb;clear bb;have VQ:=bO;clear bO;have UK:=cj;clear cj;have UP:=ck;clear ck;have Uh:=Zn;clear Zn;have bf:=bd;clear bd;have bI:=cm;clear cm
 (refine aV (v:=jh IX) I aj (λW' hS=>mq jW I hr I I hS.1) (L ?_))
 iterate 2 refine aP ?_
 (refine aV (v:=jh RL) I aj (λW' hS=>by rw[bs];exact CC jW I bu I I (GV (o:=288) hS.2 (λj aa hj=>hg 9 j aa G hj))) ?_;refine L ?_)
 refine aE I (λK' z=>?_);go_simp;refine(br y0 (VR.below Uh)).mono ?_;rintro e y1 ⟨rfl,d⟩;have s:=ae Q d;have a1:=ae ac d;have V:=ae ad d;have U5:=ae VQ d;have UB:=ae UK d;have UG:=ae UP d;have U:=ai Uh d;have q:=bj bf d;have ay:=ae bI d;clear Q ac ad VQ UK UP Uh bf bI;clear d;refine z _ _ ⟨V,ay⟩ λ_=>?_
 clear z;refine L ?_;refine aE I (λK' z=>?_);rw[jr aj];refine jQ 27 _ _ I (t+1+1+1+1+1) SA I I 27 _ UG.out e6 kb hU ?_;refine z _ _ ⟨(js _ _ _ _ Y).trans V,(js _ _ _ _ (aI YS)).trans ay⟩ λ_=>?_
 clear z;have c:N ((y1.setRow (t+1+1+1+1+1) SA).heap[t]?=T (ja ax 51 (0,0))):=O ((js _ _ _ _ (by first|omega|(have:=YS.out;omega))).trans s);have D:N ((y1.setRow (t+1+1+1+1+1) SA).heap[t+1]?=T (ja Uc 27 (0,0))):=O ((js _ _ _ _ (by first|omega|(have:=YS.out;omega))).trans a1);have F:N ((y1.setRow (t+1+1+1+1+1) SA).heap[t+1+1]?=T (ja IX 27 (0,0))):=O ((js _ _ _ _ (by first|omega|(have:=YS.out;omega))).trans V);have M:N ((y1.setRow (t+1+1+1+1+1) SA).heap[t+1+1+1]?=T (ja S 27 (0,0))):=O ((js _ _ _ _ (by first|omega|(have:=YS.out;omega))).trans U5);have a6:N ((y1.setRow (t+1+1+1+1+1) SA).heap[(t+1+1+1+1)]?=T (ja Z 57 (0,0))):=O ((js _ _ _ _ (by first|omega|(have:=YS.out;omega))).trans UB);have ba:N ((y1.setRow (t+1+1+1+1+1) SA).heap[(t+1+1+1+1+1)]?=T (ja SA 27 (0,0))):=O (jT _ _ _ _ _ _ UG.out);have bc:N (jk w w (y1.setRow (t+1+1+1+1+1) SA)):=O (nv U.out (by rw[HG];omega) _);have P:=O (m9 (w':=(y1.setRow (t+1+1+1+1+1) SA)) q (λk hk=>js _ _ _ _ (aI e1)));have a2:N ((y1.setRow (t+1+1+1+1+1) SA).heap[gl]?=T (ja LC 27 (0,0))):=O ((js _ _ _ _ (by first|omega|(have:=YS.out;omega))).trans ay);generalize(y1.setRow (t+1+1+1+1+1) SA)=y9 at c D F M a6 ba bc P a2⊢;clear s a1 V U5 UB UG U q ay;have ZH:=c;clear c;have bh:=D;clear D;have bi:=F;clear F;have Zm:=M;clear M;have Y8:=a6;clear a6;have ZQ:=ba;clear ba;have Vv:=bc;clear bc;have bg:=P;clear P;have a3:=a2;clear a2;refine L ?_;refine ob ?_;have bv:N ((jo.info? 23).map (·.size)=T (g.last.map v8).length):=O (by rw[jw,WP];kernel_rfl);obtain⟨DL,bk⟩:=J ((g.last.map v8).toArray);have WF:=O bk;have hV:N (IntKind.i64.wrap (ep+1)=ep+1):=O (by rw[IntKind.wrap_i64];omega);have bw:N (DL.size=32):=O (by rw[bk,jv,jw,WP]);clear bk
 go_upto_region 15 with fail
 refine jL ?_;refine dm (λW'=>W'.heap[t]?=T (ja ax 51 (0,0))) (.take 0 (.take 1 (.take 2 (.take 3 (.take 4 (.take 5 (.take 6 (.take 7 (.take 8 (.one 9 (.take 10 (.one 11 .done)))))))))))) af af af G (λ_ _ _ _ h=>h) ZH ?_;obtain⟨z0,UA⟩:=J y9.drew;have d:=bX y9;rw[<-UA]at d⊢;have a4:=ae ZH d;have a5:=ae bh d;have bb:=ae bi d;have bO:=ae Zm d;have cj:=ae Y8 d;have ck:=ae ZQ d;have Zn:=ai Vv d;have bd:=bj bg d;have cm:=ae a3 d;clear d UA ZH bh bi Zm Y8 ZQ Vv bg a3;have Q:=a4;clear a4;have ac:=a5;clear a5;have ad:=bb;clear bb;have VQ:=bO;clear bO;have UK:=cj;clear cj;have UP:=ck;clear ck;have Uh:=Zn;clear Zn;have bf:=bd;clear bd;have bI:=cm;clear cm;iterate 6 (refine aV (v:=?_) I aj (λW' hS=>?_) ?_;rotate_left;(have b0:=ah hS cy.1;have b1:=ah hS cy.2;go_simp;with_reducible rfl);refine L ?_)
 (refine aV (v:=jh DL) I aj (λW' hS=>by rw[WF];exact CC underlying23 I bv I I (ii W' t hS)) ?_;refine L ?_)
 iterate 2 (refine aV (v:=?_) I aj (λW' hS=>?_) ?_;rotate_left;(have b0:=ah hS cy.1;have b1:=ah hS cy.2;go_simp;with_reducible rfl);refine L ?_)
 refine aE I (λK' z=>?_);go_simp;refine(Ic m _ z0 ((EK.At.of_sl (E:=EC) Z6).below Uh) g8).mono ?_;rintro e z1 ⟨aa,rfl,hu,d⟩;obtain⟨EE,a4⟩:=J z0.heap.size;rw[<-a4]at hu;have cz:N (t+6<=EE):=O (by have h5:=(jA.1 UP).1;omega);clear a4;have YT:=O hu;clear hu;obtain⟨VN,c1,rfl⟩:=cK YT;obtain⟨X0,a5⟩:∃y:jq jl,y= #[jd je fd,jd je (ep+1)]++DL++ #[jd je a,A VN m.length c1,A jf 0 0,A jf 0 0,A jf 0 0]++(cG.map v8).toArray++ #[jd je 0,jd je 0]:=⟨_,I⟩;have bb:=O a5;have a4:X0=(aF (bV g a m u) ⟨A VN m.length c1,A jf 0 0,A jf 0 0,A jf 0 0⟩).toArray:=by rw[a5,WF,i1,WO];unfold aF bV;simp
 have bd:=O a4;have bk:N ((jo.info? 57).map (·.size)=T X0.size):=O (by rw[a4,jv,dz _ _ WP.out eG];exact mM);have bA:N (X0.all (·.oneCell')=ji):=O (by rw[a4];exact zI _ _ _ _ _ _ _ _ _ _ _ _ _);have bB:N (Z.size=X0.size):=O (by rw[a4,<-ih,jv,jv,dz (bV g a m u) _ WP.out eG,dz mI nC eG eG]);clear a5 a4;have s:=ae Q d;have a1:=ae ac d;have V:=ae ad d;have U5:=ae VQ d;have UB:=ae UK d;have UG:=ae UP d;have U:=ai Uh d;have q:=bj bf d;have ay:=ae bI d;clear Q ac ad VQ UK UP Uh bf bI;clear d;refine z _ _ s.out λ_=>?_
 clear z;refine L ?_
 (refine aV (v:=jh X0) I aj (λW' hS=>by rw[bb];exact LI (f:=fd) (e:=ep+1) (au:=a) bw I (by simp only[o8,j1,jY,Act.eval,Array.getD_eq_getD_getElem?];simp;exact hV) W') ?_;refine L ?_)
 refine aE I (λK' z=>?_);rw[jr aj];refine jQ 57 _ _ I (t+1+1+1+1) X0 I I 57 _ UB.out bk bB bA ?_;refine z _ _ ((js _ _ _ _ Y).trans s) λ_=>?_
 clear z;have Q:N ((z1.setRow (t+1+1+1+1) X0).ownsRow EE 61 5 (A VN m.length c1) m.length (m.flatMap ap.cells)):=O (m9 YT (λk hk=>js _ _ _ _ (aI cz)));have c:N ((z1.setRow (t+1+1+1+1) X0).heap[t]?=T (ja ax 51 (0,0))):=O ((js _ _ _ _ (by first|omega|(have:=YS.out;omega))).trans s);have D:N ((z1.setRow (t+1+1+1+1) X0).heap[t+1]?=T (ja Uc 27 (0,0))):=O ((js _ _ _ _ (by first|omega|(have:=YS.out;omega))).trans a1);have F:N ((z1.setRow (t+1+1+1+1) X0).heap[t+1+1]?=T (ja IX 27 (0,0))):=O ((js _ _ _ _ (by first|omega|(have:=YS.out;omega))).trans V);have M:N ((z1.setRow (t+1+1+1+1) X0).heap[t+1+1+1]?=T (ja S 27 (0,0))):=O ((js _ _ _ _ (by first|omega|(have:=YS.out;omega))).trans U5);have a6:N ((z1.setRow (t+1+1+1+1) X0).heap[(t+1+1+1+1)]?=T (ja X0 57 (0,0))):=O (jT _ _ _ _ _ _ UB.out);have ba:N ((z1.setRow (t+1+1+1+1) X0).heap[(t+1+1+1+1+1)]?=T (ja SA 27 (0,0))):=O ((js _ _ _ _ (by first|omega|(have:=YS.out;omega))).trans UG);have bc:N (jk w w (z1.setRow (t+1+1+1+1) X0)):=O (nv U.out (by rw[HG];omega) _);have P:=O (m9 (w':=(z1.setRow (t+1+1+1+1) X0)) q (λk hk=>js _ _ _ _ (aI e1)));have a2:N ((z1.setRow (t+1+1+1+1) X0).heap[gl]?=T (ja LC 27 (0,0))):=O ((js _ _ _ _ (by first|omega|(have:=YS.out;omega))).trans ay);generalize(z1.setRow (t+1+1+1+1) X0)=z9 at c D F M a6 ba bc P a2 Q⊢;clear s a1 V U5 UB UG U q ay;have ZH:=c;clear c;have bh:=D;clear D;have bi:=F;clear F;have Zm:=M;clear M;have Y8:=a6;clear a6;have ZQ:=ba;clear ba;have Vv:=bc;clear bc;have bg:=P;clear P;have a3:=a2;clear a2;clear YT;have ac:=Q;clear Q;refine L ?_;refine ob ?_;obtain⟨M,c⟩:=J z9.heap.size;have Yb:N ((t+1+1+1+1)<M):=O (by rw[c];exact(jA.1 Y8).1);have e7:N (gl<M):=O (by rw[c];exact(jA.1 a3).1);have hY:=O c;have e8:N ((t+1+1+1+1+1)<M):=O (by rw[c];exact(jA.1 ZQ).1);have a2:N (∀aa v,((λv=>(aF (bV g a m u) ⟨A VN m.length c1,v,A jf 0 0,A jf 0 0⟩).toArray) aa).setIfInBounds 36 v=(λv=>(aF (bV g a m u) ⟨A VN m.length c1,v,A jf 0 0,A jf 0 0⟩).toArray) v):=O (λaa v=>Rx (bV g a m u) _ _ _ _ _ WP.out);have D:N (gt M (t+1+1+1+1) 57 3 1 (λv=>(aF (bV g a m u) ⟨A VN m.length c1,v,A jf 0 0,A jf 0 0⟩).toArray) z9 z9 0 (A jf 0 0) (((dA u).take 0).map (jH .i64))):=O ⟨by have h:=Y8.out;rw[bd]at h;exact h,qV _ _ _ _,dy.refl _ _ _,j5 c⟩;have kg:N (∀w,(Instr.alloc 27 ji (jI #[])).run jo w=.ok (jt (T ⟨w,0,jf⟩)) (w.alloc (ja K 27))):=O (λw=>by rw[<-ZC];kernel_rfl);clear c;rw[hV]
 go_upto_region 16 with fail
 go_wp2_with fail
 go_loopw [91] (λv wr=>∃(i:jc) (pv:jG Addr) (cv:jc),v=jd je i/\i<=10/\N (gt M (t+1+1+1+1) 57 3 1 (λv=>(aF (bV g a m u) ⟨A VN m.length c1,v,A jf 0 0,A jf 0 0⟩).toArray) z9 wr i (A pv i cv) (((dA u).take i).map (jH .i64)))) (λv _=>10-(jV v).toNat)
 case atStart=>exact⟨0,jf,0,I,jN _,D⟩
 clear D;obtain⟨i,pv,cv,rfl,hi,P⟩:=hrel
 by_cases b6:i<10
 ·have hd:=az ((i:jb)<10)
  have UC:=az (i<10);have hZ:(i:jb)<10:=Y;obtain⟨RK,c⟩:=J (((aA u i).map v8).toArray);have a5:=O c;have ad:N ((jo.info? 27).map (·.size)=T RK.size):=O (by rw[c,jv,jw,fJ u Vn];kernel_rfl);have bf:N (K.size=RK.size):=O (by rw[c,<-ZC,jv,jw,jv,jw,fJ u Vn,eG]);have bp:N (RK.all (·.oneCell')=ji):=O (by rw[c];exact eR _);have bK:N ((jo.info? 27).map (·.size)=T ((aA u i).map v8).length):=O (by rw[jw,fJ u Vn];kernel_rfl);have bM:N (∀W,iD W->jB jo 43 #[jh RK] W λe w'=>e=jz (jd je (aS (aA u i):jc))/\jk W W w'):=O (by rw[c];exact λW hW=>SN _ (fJ u Vn i) W hW);have D:N (wr.heap[gl]?=T (ja LC 27 (0,0))):=O ((P.but.block gl e7 (aI YS)).trans a3);have F:N (wr.rangeAt gl (i*32) ((aA u i).map v8)):=O (GV D (λj aa hj=>hg i j aa b6 hj));have WB:N (jk w w wr):=O (Vv.trans (P.but.below (n:=w.heap.size) (by rw[HG];omega) (ee Yb HG)));clear c
  go_upto_region 18 with fail
  refine jX ?_;refine eh ?_;refine uO aj λ_ z=>wp_load_mid 27 _ I _ _ I ((aA u i).map v8) _ (by first|exact F|simpa using F.out) jW I bK (z _ _ ?_)
  rw[<-a5];refine ow I λ_ z=>gK 27 I K kg (z _ _ ?_)
  refine ow I λ_ z=>jQ 27 _ _ I wr.heap.size RK I I 27 K (jy wr _) ad bf bp (z _ _ ?_)
  have bm:((wr.alloc (ja K 27)).setRow wr.heap.size RK).heap[wr.heap.size]?=T (ja RK 27 (0,0)):=jT _ _ _ _ _ _ (jy wr _);have d:jk wr wr ((wr.alloc (ja K 27)).setRow wr.heap.size RK):=iP (ao wr _) (jF _) _;obtain⟨k0,Y6⟩:=J ((wr.alloc (ja K 27)).setRow wr.heap.size RK);obtain⟨bN,c⟩:=J wr.heap.size;rw[<-Y6,<-c]at bm;rw[<-Y6]at d⊢;rw[<-c]at⊢;have V:=O (P.later (aI Yb) d);have Q:=O bm;have Uh:N (jk w w k0):=ai WB d;clear bm d Y6 c P WB D F
  go_upto_region 19 with fail
  refine jX ?_;refine j7 I 27 _ I bN I 27 RK (0,0) _ Q.out jW I ad ?_
  go_wp2_with fail
  refine(bM k0 (VR.below Uh)).mono ?_;rintro e k1 ⟨rfl,d⟩;have a1:=O (V.later Yb d);have a4:=ae Q d;have U:=ai Uh d;clear V Q Uh;clear d
  go_wp2_with fail
  refine(zZ (aS (aA u i)) (DY _).1 (DY _).2 k1).mono ?_;rintro e c ⟨rfl,d⟩;have F:=O (a1.later Yb d);have b0:=ae a4 d;have Ug:=ai U d;clear a1 a4 U;clear d;obtain⟨Q,V⟩:∃y:jb,y=((aX 4 (aS (aA u i)):jc):jb):=⟨_,I⟩;rw[<-V];have a1:=O V;clear V;have a4:=ah F.box (show((λv=>(aF (bV g a m u) ⟨A VN m.length c1,v,A jf 0 0,A jf 0 0⟩).toArray) (A pv i cv))[36]?=T (A pv i cv) by have h:=(ku (bV g a m u) ⟨A VN m.length c1,A pv i cv,A jf 0 0,A jf 0 0⟩ WP eG).2.2.2.2.1;simpa using h);have V:((λv=>(aF (bV g a m u) ⟨A VN m.length c1,v,A jf 0 0,A jf 0 0⟩).toArray) (A pv i cv)).size=73:=by rw[jv,dz _ _ WP.out eG]
  have bT:=O V;clear V
  go_wp2_with (at_builtin;refine Hid.out ?_)
  refine O ?_;refine ow I λ_ z=>Sr _ _ I M (A pv i cv) i _ I (cL F.own (ao c _)) _ 1 [jd je Q] I (lx c [jd je Q] 3 (0,0) 1 1 1 I (jF _)) (by simp[j4]) Y (jE F.sz' (ao c _).size) λv' k9 UO=>z _ _ ?_
  clear z;have bo:gt M (t+1+1+1+1) 57 3 1 (λv=>(aF (bV g a m u) ⟨A VN m.length c1,v,A jf 0 0,A jf 0 0⟩).toArray) z9 (c.alloc (ja #[jd je Q] 3)) i (A pv i cv) (((dA u).take i).map (jH .i64)):=F.later (aI Yb) (ao c _);have cp:=k7 bo.box UO.grown (eV bo.own (.inr Yb));obtain⟨pn,cn,rfl⟩:=cK UO.own;have e9:N (gt M (t+1+1+1+1) 57 3 1 (λv=>(aF (bV g a m u) ⟨A VN m.length c1,v,A jf 0 0,A jf 0 0⟩).toArray) z9 (k9.setCell ⟨(t+1+1+1+1),36,jf⟩ (A pn (i+1) cn)) (i+1) (A pn (i+1) cn) (((dA u).take (i+1)).map (jH .i64))):=O (by
   have h:=bo.push (i:=36) Yb UO (a2 _ _);rw[Pt u i b6,mb,j1,jY,<-a1];exact h)
  obtain⟨⟨vo,c3⟩,f3,-,-⟩:=ko (i:=36) (A pn (i+1) cn) cp (by rw[bT];decide);clear bo UO cp a4
  go_wp2_with fail
  go_roundw
  case rel=>exact⟨i+1,pn,cn,by go_num,by omega,e9⟩
  case measure=>simp only[jV];omega
 obtain rfl:i=10:=Y;have hd:decide ((10:jb)<10)=jn:=by decide
 have UC:decide (10<10)=jn:=by decide
 rename jj=>p1;have cs:(dA u).take 10=dA u:=qo (by rw[lK];exact jF _);rw[cs]at P;have c:(dA u).length=10:=lK u;have s:N (p1.heap[t]?=T (ja ax 51 (0,0))):=O ((P.but.block (t) (by first|(have:=Yb.out;omega)|(have:=e8.out;omega)|(have:=e7.out;omega)) (by first|omega|(have:=YS.out;omega))).trans ZH);have U5:N (p1.heap[t+1+1+1]?=T (ja S 27 (0,0))):=O ((P.but.block (t+1+1+1) (by first|(have:=Yb.out;omega)|(have:=e8.out;omega)|(have:=e7.out;omega)) (by first|omega|(have:=YS.out;omega))).trans Zm);have UG:N (p1.heap[(t+1+1+1+1+1)]?=T (ja SA 27 (0,0))):=O ((P.but.block (t+1+1+1+1+1) (by first|(have:=Yb.out;omega)|(have:=e8.out;omega)|(have:=e7.out;omega)) (by first|omega|(have:=YS.out;omega))).trans ZQ);have ay:N (p1.heap[gl]?=T (ja LC 27 (0,0))):=O ((P.but.block (gl) (by first|(have:=Yb.out;omega)|(have:=e8.out;omega)|(have:=e7.out;omega)) (by first|omega|(have:=YS.out;omega))).trans a3);have UB:N (p1.heap[(t+1+1+1+1)]?=T (ja ((λv=>(aF (bV g a m u) ⟨A VN m.length c1,v,A jf 0 0,A jf 0 0⟩).toArray) (A pv 10 cv)) 57 (0,0))):=O P.box;have U:N (jk w w p1):=O (Vv.trans (P.but.below (n:=w.heap.size) (by rw[HG];omega) (ee Yb HG)));have YT:N (p1.ownsRow EE 61 5 (A VN m.length c1) m.length (m.flatMap ap.cells)):=O (kK ac (λk bp ad=>P.but.block k (by rw[hY];exact ad) (aI cz)));have q:=O (kK bg (λk bp ad=>P.but.block k (by rw[hY];exact ad) (aI e1)));have F:N (M<=p1.heap.size):=O P.sz';have a1:N (p1.ownsRow M 3 1 (A pv 10 cv) 10 ((dA u).map (jH .i64))):=O P.own;clear cs c P b6 hi bg ZH bh bi Zm Y8 ZQ Vv a3 ac a2 bq bn bs br bu WF bv bb bk bA bB bd bw;obtain⟨pq,cq,ki,YK⟩:∃(p:jG Addr) (c:jc),p=pv/\c=cv:=⟨_,_,I,I⟩;subst ki;subst YK
 go_upto_region 22 with fail
 refine jX ?_;refine j7 I 51 _ I t I 51 ax (0,0) _ s.out qO I YC ?_;have Q:N (M<=p1.heap.size):=F;clear s F
 go_wp2_with fail
 refine(hJ p1 Ya (hl.below U) ((EK.At.of_sl (E:=EC) Z6).below U)).mono ?_;rintro e pm ⟨u1,rfl,hu,d⟩;have s:=O hu;clear hu;obtain⟨pt,nt,ct,rfl⟩:=gN s;have V:N (M<=pm.heap.size):=O (jE Q d.size);have ac:=ae U5 d;have a4:=ae UG d;have a5:=ae ay d;have bb:=ae UB d;have bd:=ai U d;have bf:=bj YT d;have bg:=bj a1 d;have bh:=bj q d;clear U5 UG ay UB U YT a1 q;clear d;clear Q
 go_upto_region 23 with fail
 have d:=ao pm (ja #[A pt nt ct] 49);have F:=jy pm (ja #[A pt nt ct] 49);obtain⟨p2,C⟩:=J (pm.alloc (ja #[A pt nt ct] 49));rw[<-C]at d F⊢;obtain⟨bt,Q⟩:=J pm.heap.size;rw[<-Q]at F⊢;have q:=O Q;have UE:=ae ac d;have UF:=ae a4 d;have bK:=ae a5 d;have Uy:=ae bb d;have Ug:=ai bd d;have a2:=bj bf d;have a3:=bj bg d;have e3:=bj bh d;have bT:=O (s.below d);clear ac a4 a5 bb bd bf bg bh s;have s:=O F;clear F C d Q;have kl:N (M<=bt):=O (by rw[q];exact V);have hq:=s;clear s V q;obtain⟨M2,q⟩:=J p2.heap.size;have bq:N ((t+1+1+1+1)<M2):=O (by rw[q];exact(jA.1 Uy).1);have h0:N ((t+1+1+1+1+1)<M2):=O (by rw[q];exact(jA.1 UF).1);have h4:N (gl<M2):=O (by rw[q];exact(jA.1 bK).1);have h5:N (bt<M2):=O (by rw[q];exact(jA.1 hq).1);have h6:N (bt≠(t+1+1+1+1)):=O (ee kl Yb);have Vw:=O q;have h7:N (∀aa v,((λv=>(aF (bV g a m u) ⟨A VN m.length c1,A pq 10 cq,v,A jf 0 0⟩).toArray) aa).setIfInBounds 37 v=(λv=>(aF (bV g a m u) ⟨A VN m.length c1,A pq 10 cq,v,A jf 0 0⟩).toArray) v):=O (λaa v=>Dk (bV g a m u) _ _ _ _ _ WP.out);obtain⟨nl,s⟩:=J (dT g a m);have YN:=O s;have Zo:N (nu=nl.length):=O (by rw[s];exact hT);have h8:N (nu<=511):=O (by rw[hT,ho];exact Cw _ ed.1 ed.2);have km:=O (oS m _ (lM b5.tree) (pZ b5 Ya hm)).1;have V:N (eB M2 (t+1+1+1+1) 57 105 4 Bx.cells Bx.body (λv=>(aF (bV g a m u) ⟨A VN m.length c1,A pq 10 cq,v,A jf 0 0⟩).toArray) p2 p2 0 (A jf 0 0) ((nl.take 0).map (eA g a m u seed)) []):=O (eB.start Uy (j5 q));clear q s
 go_upto_region 23 with fail
 go_wp2_with fail
 go_loopw [113] (λv wr=>∃(i:jc) (pv:jG Addr) (cv:jc) (us:jg jl),v=jd je i/\i<=nu/\N (eB M2 (t+1+1+1+1) 57 105 4 Bx.cells Bx.body (λv=>(aF (bV g a m u) ⟨A VN m.length c1,A pq 10 cq,v,A jf 0 0⟩).toArray) p2 wr i (A pv i cv) ((nl.take i).map (eA g a m u seed)) us)) (λv _=>nu-(jV v).toNat)
 case atStart=>exact⟨0,jf,0,[],I,jN _,V⟩
 clear V;obtain⟨i,pv,cv,us,rfl,hi,P⟩:=hrel;have ew:=h8.out
 by_cases b6:i<nu
 ·have hd:=az ((i:jb)<(nu:jb))
  have UC:=az (i<nu);have hZ:(i:jb)<(nu:jb):=Y;have WB:N (jk w w wr):=O (Ug.trans (P.row.but.below (n:=w.heap.size) (by rw[HG];omega) (ee bq HG)));have ac:=P.row.but;have V:=O (kK e3 (λk bp ad=>ac.block k (by rw[Vw];exact ad) (aI e1)));have fe:=O (kK a2 (λk bp ad=>ac.block k (by rw[Vw];exact ad) (aI cz)));have fm:=O (kK a3 (λk bp ad=>ac.block k (by rw[Vw];exact ad) (aI Yb)));have a4:N (bH wr (A pt nt ct) (aW g.tree m)):=O (Mi bT (j:=37) Uy P.row.box (λk hk hn=>ac.block k (by rw[Vw];exact hk) hn) (λj hj=>L1 (bV g a m u) _ _ _ _ _ WP.out j hj) ⟨_,_,_,(rQ (bV g a m u) _ _ _ _ WP.out eG).2.1⟩);have fo:N (wr.heap[t+1+1+1]?=T (ja S 27 (0,0))):=O ((ac.block (t+1+1+1) (aI bq) Y).trans UE);have D:N (wr.heap[gl]?=T (ja LC 27 (0,0))):=O ((ac.block gl h4 (aI YS)).trans bK);have a5:N (wr.heap[bt]?=T (ja #[A pt nt ct] 49 (0,0))):=O ((ac.block bt h5 h6).trans hq);have VB:EB0.At wr (A pu nu i4) nl:=EK.At.of_own (E:=EB0) (B:=x0.heap.size) (by rw[<-Zo,YN];exact V);obtain⟨-,-,Vr⟩:=VB.cells;obtain⟨g0,o,kn,bM⟩:=Vr Y;subst kn;obtain⟨⟨kk,s⟩,C,fv⟩:=dL (l:=nl) (j:=i) (by rw[<-Zo];exact b6);have d0:wr.cell? ⟨g0,o+i*4,jf⟩=T (jd je s):=bM i _ C 0 _ I;have d1:wr.cell? ⟨g0,o+i*4+1,jf⟩=T (jd je kk):=bM i _ C 1 _ I;have d2:wr.cell? ⟨g0,o+i*4+2,jf⟩=T (jd je 0):=bM i _ C 2 _ I;have d3:wr.cell? ⟨g0,o+i*4+3,jf⟩=T (A jf 0 0):=bM i _ C 3 _ I;have U3:=j3 C;rw[YN,ho]at U3;obtain⟨⟨bp,ad⟩,⟨bl,U6⟩,bb,cu⟩:=FSo km ed.1 ed.2 U3;obtain⟨q,rfl⟩:=qF (show 0<=kk by omega);obtain⟨Vi,ek⟩:=qF (show 0<=(bG (aW g.tree m) s).getD 0 by have:=cu.1;omega);have kv:N (tB (aW g.tree m) s=Vi):=O (by unfold tB;rw[ek];rfl);rw[ek]at cu;have ht:=O cu;have kx:N (∀W,bH W (A pt nt ct) (aW g.tree m)->jB jo 45 #[jh #[A pt nt ct],jd je s] W λe w'=>e=jz (jI #[jd je (Vi:jb),.bool ji])/\jk W W w'):=O (λW hW=>by
   have h:=Jv (aW g.tree m) _ s W hW (by have:=wK g.tree m;have:=Wn.out;have:=Ya.len;omega) (aO.of Y);rw[ek,bb]at h;exact h)
  have hw:N ((nl.take (i+1)).map (eA g a m u seed)=(nl.take i).map (eA g a m u seed)++[eA g a m u seed ((q:jb),s)]):=O (by rw[fv,mb];rfl);have ga:N (q<10/\1<=q):=O ⟨by omega,by omega⟩;have h9:N (1<=s/\s<1024):=O ⟨bl,U6⟩;clear VB Vr bM C fv U3 bp ad bl U6 bb cu ek V ac
  go_upto_region 26 with fail
  obtain⟨bb,b3⟩:=J wr.heap.size;have bm:=jy wr (ja #[jd je s,jd je (q:jb),jd je 0,A jf 0 0] 105);have d:=ao wr (ja #[jd je s,jd je (q:jb),jd je 0,A jf 0 0] 105);have c5:N (M2<=bb):=O (by rw[b3];exact P.row.sz');have ZK:N ((qh pv i cv).ownBlock≠T bb):=O (eV P.row.own (.inl (j5 b3.symm)));rw[<-b3]at bm⊢;obtain⟨k0,Y6⟩:=J (wr.alloc (ja #[jd je s,jd je (q:jb),jd je 0,A jf 0 0] 105));rw[<-Y6]at bm d⊢;have bv:=O d;have br:=O (av P.row.box d);have bs:=O bm;have Uh:=ai WB d;have bw:=bj fe d;have bA:=bj fm d;have cd:=O (a4.below d);have VQ:=ae fo d;have bI:=ae D d;have V:=ae a5 d;have gf:N (wr.heap.size=bb):=O b3.symm;clear bm d Y6 b3 WB fe fm a4 fo D a5 d0 d1 d2 d3;have D:=ah (i:=0) bs I
  go_upto_region 26 with fail
  refine jX ?_;refine j7 I 49 _ I bt I 49 #[A pt nt ct] (0,0) _ V.out underlying49 I rc ?_
  go_wp2_with fail
  refine(kx k0 cd).mono ?_;rintro e k1 ⟨rfl,d⟩;have bf:=ai bv d;have Zq:=ae br d;have a5:=ae bs d;have U:=ai Uh d;have YT:=bj bw d;have a1:=bj bA d;have b4:=O (cd.below d);have U5:=ae VQ d;have ay:=ae bI d;clear bv br bs Uh bw bA cd VQ bI;clear d D V;have bg:N (k1.cell? ⟨bb,0,jf⟩=T (jd je s)/\k1.cell? ⟨bb,1,jf⟩=T (jd je (q:jb))):=O ⟨ah a5 I,ah a5 I⟩;obtain⟨ex,b7⟩:=J (dZ seed gO [(q:jb),s]);have gi:ex.length=32:=by rw[b7];exact pB _ _ _
  obtain⟨EX,c6⟩:=J ((ex.map v8).toArray);obtain⟨b8,b9⟩:=J (iV (bV g a m u) gO [(q:jb),s]);obtain⟨V,c7⟩:∃y:jb,y=((aX 4 (gh ex):jc):jb):=⟨_,I⟩;obtain⟨bn,ca⟩:=J (gq Vi ex b8 (aA u q));have hx:N (bn.length=48):=O (by rw[ca,nG,fJ u Vn]);have cc:N (∀W v,de W v [(q:jb),s]->bP W->jB jo 47 #[jh S,ql ⟨#[98,111,120]⟩,v] W λe w'=>e=jz (jh EX)/\jk W W w'):=O (λW v hv hW=>by
   rw[hQ,c6,b7];exact sB seed hO gO [(q:jb),s] v W hv (Gs G (by have:=h9.out;have:=ga.out;intro x C;simp at C;rcases C with rfl|rfl<;>exact⟨by omega,by omega⟩) ar) hW)
  have gk:N (∀W v WR,aZ (·<W.heap.size) W {bV g a m u with box:=WR} ⟨A VN m.length c1,A pq 10 cq,A pv i cv,A jf 0 0⟩->WR.length<=1000000->de W v [(q:jb),s]->bP W->jB jo 48 #[jh ((λv=>(aF (bV g a m u) ⟨A VN m.length c1,A pq 10 cq,v,A jf 0 0⟩).toArray) (A pv i cv)),ql ⟨#[98,111,120]⟩,v] W λe w'=>∃D,e=jz (A (T ⟨D,0,jf⟩) 32 32)/\bD w' (A (T ⟨D,0,jf⟩) 32 32) b8/\jk W W w'):=O (λW v WR hC hu hv hW=>by
   rw[b9];exact Ek {bV g a m u with box:=WR} _ gO [(q:jb),s] v W G hC hv ar ⟨g8,by show(dA u).length<=_;rw[lK];decide,hu,jN _⟩
    (Du (c:={bV g a m u with box:=WR}) (nums:=[(q:jb),s]) (by have h1:=b5.fol.1;have h2:=b5.fol.2;exact⟨by show _ <=g.folder;omega,by show g.folder<_;omega⟩) (by have h1:=b5.ep;exact⟨by show _ <=g.epoch+1;omega,by show g.epoch+1<_;omega⟩) (by have:=ed.out;exact⟨by show _ <=a;omega,by show a<_;omega⟩) WP (by have:=h9.out;have:=ga.out;intro x C;simp at C;rcases C with rfl|rfl<;>exact⟨by omega,by omega⟩) ar) hW)
  have gn:N (∀W vh vb,bD W vh b8->bD W vb (aA u q)->lq W->jB jo 46 #[jd je (Vi:jb),jh EX,vh,vb] W λe w'=>∃c,e=jz (jI #[jh #[jd je V,c],jd je 0])/\w'.ownsRow W 5 1 c 48 (bn.map v8)/\jk W W w'):=O (λW vh vb h1 h2 h3=>by
   have h:=G9 Vi ht ex b8 (aA u q) gi (by rw[b9];unfold iV;rw[eQ];decide) (by rw[fJ u Vn];decide) vh vb W h1 h2 h3;rw[fJ u Vn]at h;rw[c6,c7,ca];exact h)
  have UD:N (eA g a m u seed ((q:jb),s)=⟨s,(q:jb),V,bn⟩):=O (by rw[ca,c7,b9,b7,<-kv];rfl);have ky:N ((jo.info? 57).map (·.size)=T ((λv=>(aF (bV g a m u) ⟨A VN m.length c1,A pq 10 cq,v,A jf 0 0⟩).toArray) (A pv i cv)).size):=O (by rw[jv,dz _ _ WP.out eG];exact mM);have lr:decide ((q:jb)<10)=ji:=by have:=ga.out;simp;omega
  have lv:(q:jb)<10:=aI ga;have k2:q<10:=aI ga;clear gi c6 b9 c7 ca b7
  go_upto_region 27 with fail
  refine jL ?_;refine dm (λW'=>(W'.cell? ⟨bb,0,jf⟩=T (jd je s)/\W'.cell? ⟨bb,1,jf⟩=T (jd je (q:jb)))/\W'.heap[t+1+1+1]?=T (ja S 27 (0,0))/\W'.heap[(t+1+1+1+1)]?=T (ja ((λv=>(aF (bV g a m u) ⟨A VN m.length c1,A pq 10 cq,v,A jf 0 0⟩).toArray) (A pv i cv)) 57 (0,0))) (.take 0 (.take 1 (.take 2 (.take 3 (.take 4 (.take 5 (.take 8 (.take 9 (.take 10 (.take 11 (.take 12 (.take 15 (.take 16 (.take 17 (.take 18 (.take 19 (.two 6 13 (.two 7 13 (.one 13 (.one 14 (.one 20 (.take 21 (.take 22 (.take 23 (.take 24 (.one 25 .done)))))))) (.one 7 (.one 14 (.one 20 (.take 21 (.take 22 (.take 23 (.take 24 (.one 25 .done))))))))) (.one 6 (.one 7 (.one 14 (.one 20 (.take 21 (.take 22 (.take 23 (.take 24 (.one 25 .done)))))))))))))))))))))))))) af af af G (λ_ _ _ _ h=>h) ⟨bg,U5,Zq⟩ ?_;obtain⟨l0,UA⟩:=J k1.drew;have d:=bX k1;rw[<-UA]at d⊢;have gp:=ai bf d;have gu:=ae Zq d;have gv:=ae a5 d;have Zn:=ai U d;have gw:=bj YT d;have gx:=bj a1 d;have a4:=O (b4.below d);have bO:=ae U5 d;have cm:=ae ay d;have bd:=O (And.intro (aB bg.1 d) (aB bg.2 d));clear d UA bf Zq a5 U YT a1 b4 U5 ay bg;have bv:=gp;clear gp;have br:=gu;clear gu;have bs:=gv;clear gv;have Uh:=Zn;clear Zn;have bw:=gw;clear gw;have bA:=gx;clear gx;have cd:=a4;clear a4;have VQ:=bO;clear bO;have bI:=cm;clear cm;have ce:=bd;clear bd;refine wM ?_
  (refine aV (v:=jh S) I aj (λW' hS=>mq jW I hK I I hS.2.1) (L ?_))
  iterate 4 refine wM ?_
  (refine aV (v:=jh ((λv=>(aF (bV g a m u) ⟨A VN m.length c1,A pq 10 cq,v,A jf 0 0⟩).toArray) (A pv i cv))) I aj (λW' hS=>mq o1 I ky I I hS.2.2) (L ?_))
  iterate 9 refine wM ?_
  apply FC (.one 14 (.one 20 (.take 21 (.take 22 (.take 23 (.take 24 (.one 25 .done)))))))
  rotate_left
  ·intro Yx
   refine iW ?_ ?_
   ·refine aE I (λK' z=>?_)
    go_simp;have d:=ao l0 (ja #[jd je (q:jb),jd je s] 3);have F:=mp l0 (q:jb) s;obtain⟨l1,C⟩:=J (l0.alloc (ja #[jd je (q:jb),jd je s] 3));rw[<-C]at d F⊢;obtain⟨b0,Q⟩:=J l0.heap.size;rw[<-Q]at F⊢;clear Q;have bf:=ai bv d;have Zq:=ae br d;have a5:=ae bs d;have U:=ai Uh d;have YT:=bj bw d;have a1:=bj bA d;have b4:=O (cd.below d);have U5:=ae VQ d;have ay:=ae bI d;have bg:=O (And.intro (aB ce.1 d) (aB ce.2 d));have b1:=O F;clear F C d;refine z _ _ ⟨bg,U5,Zq⟩ λ_=>?_
    clear z;refine L ?_;refine iW ?_ ?_
    ·refine aE I (λK' z=>?_)
     go_simp;refine(cc l1 _ b1.out (VR.dig.below U)).mono ?_;rintro e l2 ⟨rfl,d⟩;have WN:=ai bf d;have YI:=ae Zq d;have bh:=ae a5 d;have Ug:=ai U d;have a2:=bj YT d;have a3:=bj a1 d;have bT:=O (b4.below d);have UE:=ae U5 d;have bK:=ae ay d;have bu:=O (And.intro (aB bg.1 d) (aB bg.2 d));have a4:=O (et b1 d);clear bf Zq a5 U YT a1 b4 U5 ay bg b1;clear d;refine z _ _ ⟨bu,UE,YI⟩ λ_=>?_
     clear z;refine L ?_;refine aE I (λK' z=>?_);go_simp;have d:=ao l2 (ja #[jd je (q:jb),jd je s] 3);have F:=mp l2 (q:jb) s;obtain⟨l3,C⟩:=J (l2.alloc (ja #[jd je (q:jb),jd je s] 3));rw[<-C]at d F⊢;obtain⟨bB,Q⟩:=J l2.heap.size;rw[<-Q]at F⊢;clear Q;have YQ:=ai WN d;have Ws:=ae YI d;have bi:=ae bh d;have Uj:=ai Ug d;have ZU:=bj a2 d;have ZT:=bj a3 d;have cb:=O (bT.below d);have VL:=ae UE d;have cw:=ae bK d;have bN:=O (And.intro (aB bu.1 d) (aB bu.2 d));have bk:=O (et a4 d);clear WN YI bh Ug a2 a3 bT UE bK bu a4;have bd:=O F;clear F C d;refine z _ _ ⟨bN,VL,Ws⟩ λ_=>?_
     clear z;refine L ?_;have hG:=(And.intro YQ (And.intro Ws (And.intro bi (And.intro Uj (And.intro ZU (And.intro ZT (And.intro cb (And.intro VL (And.intro cw (And.intro bN (And.intro bk bd)))))))))));exact Yx b0 bB l3 hG
    refine aE I (λK' z=>?_);go_simp;have d:=ao l1 (ja #[jd je (q:jb),jd je s] 3);have F:=mp l1 (q:jb) s;obtain⟨l2,C⟩:=J (l1.alloc (ja #[jd je (q:jb),jd je s] 3));rw[<-C]at d F⊢;obtain⟨bB,Q⟩:=J l1.heap.size;rw[<-Q]at F⊢;clear Q;have WN:=ai bf d;have YI:=ae Zq d;have bh:=ae a5 d;have Ug:=ai U d;have a2:=bj YT d;have a3:=bj a1 d;have bT:=O (b4.below d);have UE:=ae U5 d;have bK:=ae ay d;have bu:=O (And.intro (aB bg.1 d) (aB bg.2 d));have a4:=O (et b1 d);clear bf Zq a5 U YT a1 b4 U5 ay bg b1;have b2:=O F;clear F C d;refine z _ _ ⟨bu,UE,YI⟩ λ_=>?_
    clear z;refine L ?_;refine aE I (λK' z=>?_);go_simp;refine(cc l2 _ a4.out (VR.dig.below Ug)).mono ?_;rintro e l3 ⟨rfl,d⟩;have YQ:=ai WN d;have Ws:=ae YI d;have bi:=ae bh d;have Uj:=ai Ug d;have ZU:=bj a2 d;have ZT:=bj a3 d;have cb:=O (bT.below d);have VL:=ae UE d;have cw:=ae bK d;have bN:=O (And.intro (aB bu.1 d) (aB bu.2 d));have bk:=O (et a4 d);have bd:=O (et b2 d);clear WN YI bh Ug a2 a3 bT UE bK bu a4 b2;clear d;refine z _ _ ⟨bN,VL,Ws⟩ λ_=>?_
    clear z;refine L ?_;have hG:=(And.intro YQ (And.intro Ws (And.intro bi (And.intro Uj (And.intro ZU (And.intro ZT (And.intro cb (And.intro VL (And.intro cw (And.intro bN (And.intro bk bd)))))))))));exact Yx b0 bB l3 hG
   refine aE I (λK' z=>?_);go_simp;have d:=ao l0 (ja #[jd je (q:jb),jd je s] 3);have F:=mp l0 (q:jb) s;obtain⟨l1,C⟩:=J (l0.alloc (ja #[jd je (q:jb),jd je s] 3));rw[<-C]at d F⊢;obtain⟨bB,Q⟩:=J l0.heap.size;rw[<-Q]at F⊢;clear Q;have bf:=ai bv d;have Zq:=ae br d;have a5:=ae bs d;have U:=ai Uh d;have YT:=bj bw d;have a1:=bj bA d;have b4:=O (cd.below d);have U5:=ae VQ d;have ay:=ae bI d;have bg:=O (And.intro (aB ce.1 d) (aB ce.2 d));have gy:=O F;clear F C d;refine z _ _ ⟨bg,U5,Zq⟩ λ_=>?_
   clear z;refine L ?_;refine aE I (λK' z=>?_);go_simp;have d:=ao l1 (ja #[jd je (q:jb),jd je s] 3);have F:=mp l1 (q:jb) s;obtain⟨l2,C⟩:=J (l1.alloc (ja #[jd je (q:jb),jd je s] 3));rw[<-C]at d F⊢;obtain⟨b0,Q⟩:=J l1.heap.size;rw[<-Q]at F⊢;clear Q;have WN:=ai bf d;have YI:=ae Zq d;have bh:=ae a5 d;have Ug:=ai U d;have a2:=bj YT d;have a3:=bj a1 d;have bT:=O (b4.below d);have UE:=ae U5 d;have bK:=ae ay d;have bu:=O (And.intro (aB bg.1 d) (aB bg.2 d));have b2:=O (et gy d);clear bf Zq a5 U YT a1 b4 U5 ay bg gy;have a4:=O F;clear F C d;refine z _ _ ⟨bu,UE,YI⟩ λ_=>?_
   clear z;refine L ?_;refine aE I (λK' z=>?_);go_simp;refine(cc l2 _ a4.out (VR.dig.below Ug)).mono ?_;rintro e l3 ⟨rfl,d⟩;have YQ:=ai WN d;have Ws:=ae YI d;have bi:=ae bh d;have Uj:=ai Ug d;have ZU:=bj a2 d;have ZT:=bj a3 d;have cb:=O (bT.below d);have VL:=ae UE d;have cw:=ae bK d;have bN:=O (And.intro (aB bu.1 d) (aB bu.2 d));have bd:=O (et b2 d);have bk:=O (et a4 d);clear WN YI bh Ug a2 a3 bT UE bK bu b2 a4;clear d;refine z _ _ ⟨bN,VL,Ws⟩ λ_=>?_
   clear z;refine L ?_;have hG:=(And.intro YQ (And.intro Ws (And.intro bi (And.intro Uj (And.intro ZU (And.intro ZT (And.intro cb (And.intro VL (And.intro cw (And.intro bN (And.intro bk bd)))))))))));exact Yx b0 bB l3 hG
  clear bv br bs Uh bw bA cd VQ bI ce;rintro b0 bB l3 ⟨YQ,Ws,bi,Uj,ZU,ZT,cb,VL,cw,bN,bk,bd⟩;refine aE I (λK' z=>?_);go_simp;refine(gk l3 _ _ (Ro WP ZU ZT (P.later bq YQ) (by rw[jw,qG];have:=Zo.out;omega)) (by rw[jw,qG];omega) bd (VR.dig.below Uj)).mono ?_;rintro e l4 ⟨ic,rfl,cx,d⟩;have c9:=O cx;clear cx;have g1:=ai YQ d;have db:=ae Ws d;have dd:=ae bi d;have Uq:=ai Uj d;have cd:=bj ZU d;have ce:=bj ZT d;have ci:=O (cb.below d);have WC:=ae VL d;have cg:=ae cw d;have bu:=O (And.intro (aB bN.1 d) (aB bN.2 d));have g2:=O (et bk d);have g3:=O (et bd d);clear YQ Ws bi Uj ZU ZT cb VL cw bN bk bd;clear d;refine z _ _ ⟨bu,WC,db⟩ λ_=>?_
  clear z;refine L ?_;refine aE I (λK' z=>?_);go_simp;refine(gn l4 _ _ c9.out (Er cg (λj aa hj=>hg q j aa k2 hj) (fJ u Vn q)) (hM.below Uq)).mono ?_;rintro e l5 ⟨c,rfl,cf,d⟩;have Vu:N (bb<l4.heap.size):=O (jA.1 dd).1;obtain⟨k3,hz⟩:=J l4.heap.size;rw[<-hz]at cf Vu;have g4:=O cf;obtain⟨R,H,rfl⟩:=cK cf;clear cf;have g5:=ai g1 d;have dk:=ae db d;have dr:=ae dd d;have Uw:=ai Uq d;have em:=bj cd d;have eq:=bj ce d;have k4:=O (ci.below d);have Z1:=ae WC d;have e5:=ae cg d;have g6:=O (And.intro (aB bu.1 d) (aB bu.2 d));have hB:=O (et g2 d);have hD:=O (et g3 d);have hE:=O (c9.below d);clear g1 db dd Uq cd ce ci WC cg bu g2 g3 c9;clear d;refine z _ _ ⟨g6,Z1,dk⟩ λ_=>?_
  clear z;refine L ?_;iterate 4 refine wM ?_
  refine aE I (λK' z=>?_);rw[jr aj];refine qP 103 _ _ I bb 2 #[jd je V,A R 48 H] I I (sk (o:=2) (n:=2) dr ar) af (by simp[j4]) ?_;rw[show(#[jd je V,A R 48 H]:jq jl).toList=[jd je V,A R 48 H]from I];obtain⟨s1,s2⟩:=FI (i:=2) (x:=jd je V) (y:=A R 48 H) dr;have s3:jk wr wr (l5.setCells bb 2 [jd je V,A R 48 H]):=Below.cellsFrom g5 bb (j5 gf) _ _;have dv:=m9 (w':=l5.setCells bb 2 [jd je V,A R 48 H]) g4 (λk hk=>s2 k (aI Vu));refine z _ _ ⟨⟨ah s1 I,ah s1 I⟩,(s2 (t+1+1+1) (ee c5 bq)).trans Z1,(s2 (t+1+1+1+1) (ee c5 bq)).trans dk⟩ λ_=>?_
  clear z;have ea:N ((l5.setCells bb 2 [jd je V,A R 48 H]).heap[bb]?=T (ja #[jd je s,jd je (q:jb),jd je V,A R 48 H] 105 (0,0))):=O s1;have eb:N (eB M2 (t+1+1+1+1) 57 105 4 Bx.cells Bx.body (λv=>(aF (bV g a m u) ⟨A VN m.length c1,A pq 10 cq,v,A jf 0 0⟩).toArray) p2 (l5.setCells bb 2 [jd je V,A R 48 H]) i (A pv i cv) ((nl.take i).map (eA g a m u seed)) us):=O (P.later bq s3);have ec:N (aH (λg=>M2<=g/\g<(l5.setCells bb 2 [jd je V,A R 48 H]).heap.size/\(qh pv i cv).ownBlock≠T g) (l5.setCells bb 2 [jd je V,A R 48 H]) (A R 48 H) 1 48 (bn.map v8)):=O (aH.of_own dv (λg Q=>by
   have h1:=dv.lt g Q;have h2:=Vu.out;have h3:=c5.out;have k5:=gf.out;exact⟨by omega,h1.2,eV P.row.own (.inl Y)⟩))
  clear s1 s2 s3 dv;generalize l5.setCells bb 2 [jd je V,A R 48 H]=kc at ea eb ec⊢;have hF:=ea;have cg:=eb;have hH:=ec;clear ea eb ec;refine L ?_;refine ob ?_;clear g5 dk dr Uw em eq k4 Z1 e5 g6 g4 hE hB hD P cc gk gn;have bu:=ah cg.row.box (rQ (bV g a m u) (A VN m.length c1) (A pq 10 cq) (A pv i cv) (A jf 0 0) WP eG).2.1
  go_upto_region 28 with fail
  refine jX ?_;iterate 2 refine eh ?_
  refine j7 I 105 _ I bb I 105 #[jd je s,jd je (q:jb),jd je V,A R 48 H] (0,0) _ hF.out underlying105 I af ?_
  go_wp2_with (at_builtin;refine Hid.out ?_)
  refine O ?_;refine ow I λ_ z=>Mx _ _ I M2 (A pv i cv) i _ I (cL cg.row.own (ao kc _)) _ 1 [jd je s,jd je (q:jb),jd je V,A R 48 H] I (lx kc [jd je s,jd je (q:jb),jd je V,A R 48 H] 105 (0,0) 4 1 1 I (jF _)) (by simp[j4]) Y (jE cg.row.sz' (ao kc _).size) λv' k9 UO=>z _ _ ?_
  clear z;have ci:=ao kc (ja #[jd je s,jd je (q:jb),jd je V,A R 48 H] 105);have bo:=cg.later bq ci;have g6:=(aH.keep hH (w':=kc.alloc (ja #[jd je s,jd je (q:jb),jd je V,A R 48 H] 105)) (λg Q=>ci.block g Q.2.1)).mono (D':=λg=>M2<=g/\g<(kc.alloc (ja #[jd je s,jd je (q:jb),jd je V,A R 48 H] 105)).heap.size/\(qh pv i cv).ownBlock≠T g) (λg Q=>⟨Q.1,jJ Q.2.1 ci.size,Q.2.2⟩);have cp:=k7 bo.row.box UO.grown (eV bo.row.own (.inr bq));obtain⟨pn,cn,rfl⟩:=cK UO.own;have e9:N (eB M2 (t+1+1+1+1) 57 105 4 Bx.cells Bx.body (λv=>(aF (bV g a m u) ⟨A VN m.length c1,A pq 10 cq,v,A jf 0 0⟩).toArray) p2 (k9.setCell ⟨(t+1+1+1+1),37,jf⟩ (A pn (i+1) cn)) (i+1) (A pn (i+1) cn) ((nl.take (i+1)).map (eA g a m u seed)) (us++[A R 48 H])):=O (by
   rw[hw,UD];exact eB.push (x:=(⟨s,(q:jb),V,bn⟩:Bx)) bo bq (by show aH _ _ _ 1 bn.length (bn.map v8);rw[hx];exact g6) UO (h7 _ _))
  obtain⟨⟨vo,c3⟩,f3,-,-⟩:=ko (i:=37) (A pn (i+1) cn) cp (by rw[(rQ (bV g a m u) (A VN m.length c1) (A pq 10 cq) (A pv i cv) (A jf 0 0) WP eG).2.2.2];decide);clear bo g6 UO cp bu ci
  go_wp2_with fail
  go_roundw
  case rel=>exact⟨i+1,pn,cn,us++[A R 48 H],by go_num,by omega,e9⟩
  case measure=>simp only[jV];omega
 obtain rfl:nu=i:=Y;have hd:decide ((nu:jb)<(nu:jb))=jn:=by simp
 have UC:decide (nu<nu)=jn:=by simp
 rename jj=>p3;obtain⟨pb,cb,e4,h9⟩:∃(p:jG Addr) (c:jc),p=pv/\c=cv:=⟨_,_,I,I⟩;subst e4;subst h9;have cs:nl.take nu=nl:=qo (by rw[Zo];exact jF _);rw[cs]at P;have ac:=P.row.but;have UQ:=O P.row.box;have Uj:N (jk w w p3):=O (Ug.trans (P.row.but.below (n:=w.heap.size) (by rw[HG];omega) (ee bq HG)));have ZU:=O (kK a2 (λk bp ad=>ac.block k (by rw[Vw];exact ad) (aI cz)));have ZT:=O (kK a3 (λk bp ad=>ac.block k (by rw[Vw];exact ad) (aI Yb)));have VL:N (p3.heap[t+1+1+1]?=T (ja S 27 (0,0))):=O ((ac.block (t+1+1+1) (aI bq) Y).trans UE);have U4:N (p3.heap[(t+1+1+1+1+1)]?=T (ja SA 27 (0,0))):=O ((ac.block (t+1+1+1+1+1) (aI h0) Y).trans UF);have VZ:=P;clear ac cs P Ug a2 a3 UE UF Uy bK hq bT e3 b6 hi h7 YS hg h4 h5 h6;have s:N (∀W,EC.At W (A R nc H) m->jB jo 49 #[jd je a,A R nc H] W λe w'=>∃aa,e=jz aa/\EC.At w' aa (du a m)/\jk W W w'):=O (λW hW=>zr a m _ W hW Ya.once g8);obtain⟨wl,q⟩:=J (du a m);rw[<-q]at s;have ga:=O q;have hg:N (wl.length<=64):=O (by rw[q];have:=Cv a m;have:=Ya.len;omega);clear q
 go_upto_region 30 with fail
 go_wp2_with fail
 refine(s p3 ((EK.At.of_sl (E:=EC) Z6).below Uj)).mono ?_;rintro e p4 ⟨aa,rfl,hu,d⟩;have cw:=O hu;obtain⟨pw,h4,rfl,-,-⟩:=hu.form;clear hu;have WX:=ae UQ d;have Yv:=ae U4 d;have WC:=ae VL d;have Uq:=ai Uj d;have cd:=bj ZU d;have ce:=bj ZT d;have Vx:=O (VZ.later bq d);clear UQ U4 VL Uj ZU ZT VZ;clear d;obtain⟨nw,q⟩:=J wl.length;rw[<-q]at cw hg⊢;have Ym:=O q;clear q s;obtain⟨M3,q⟩:=J p4.heap.size;have Wp:=O q;have bu:N ((t+1+1+1+1)<M3):=O (by rw[q];exact(jA.1 WX).1);have e3:N ((t+1+1+1+1+1)<M3):=O (by rw[q];exact(jA.1 Yv).1);have YR:N (lg (λk=>M2<=k/\k<M3) p4 (A pb nu cb) (nl.map (eA g a m u seed))):=O (by
  obtain⟨s,h1,h2⟩:=Vx.slice (by rw[jw];exact Zo) (D:=λk=>M2<=k/\k<M3) (λk bp ad=>⟨bp,by rw[q];exact ad⟩);exact⟨s,h1,h2⟩)
 have h5:N (∀aa v,((λv=>(aF (bV g a m u) ⟨A VN m.length c1,A pq 10 cq,A pb nu cb,v⟩).toArray) aa).setIfInBounds 38 v=(λv=>(aF (bV g a m u) ⟨A VN m.length c1,A pq 10 cq,A pb nu cb,v⟩).toArray) v):=O (λaa v=>Ef (bV g a m u) _ _ _ _ _ WP.out);have s:N (eB M3 (t+1+1+1+1) 57 107 3 Wl.cells Wl.body (λv=>(aF (bV g a m u) ⟨A VN m.length c1,A pq 10 cq,A pb nu cb,v⟩).toArray) p4 p4 0 (A jf 0 0) ((wl.take 0).map (fA g a m u init seed)) []):=O (eB.start WX (j5 q));clear q Vx
 go_wp2_with fail
 go_loopw [160] (λv wr=>∃(i:jc) (pv:jG Addr) (cv:jc) (us:jg jl),v=jd je i/\i<=nw/\N (eB M3 (t+1+1+1+1) 57 107 3 Wl.cells Wl.body (λv=>(aF (bV g a m u) ⟨A VN m.length c1,A pq 10 cq,A pb nu cb,v⟩).toArray) p4 wr i (A pv i cv) ((wl.take i).map (fA g a m u init seed)) us)) (λv _=>nw-(jV v).toNat)
 case atStart=>exact⟨0,jf,0,[],I,jN _,s⟩
 clear s;obtain⟨i,pv,cv,us,rfl,hi,P⟩:=hrel;have h7:=hg.out
 by_cases b6:i<nw
 ·have hd2:=az ((i:jb)<(nw:jb))
  have ha:=az (i<nw);have hZ:(i:jb)<(nw:jb):=Y;have WB:N (jk w w wr):=O (Uq.trans (P.row.but.below (n:=w.heap.size) (by rw[HG];omega) (ee bu HG)));have ac:=P.row.but;have fe:=O (kK cd (λk bp ad=>ac.block k (by rw[Wp];exact ad) (aI cz)));have fm:=O (kK ce (λk bp ad=>ac.block k (by rw[Wp];exact ad) (aI Yb)));have bK:N (EC.At wr (A pw nw h4) wl):=O (PG cw (j:=38) WX P.row.box (λk hk hn=>ac.block k (by rw[Wp];exact hk) hn) (λj hj=>Jw (bV g a m u) _ _ _ _ _ WP.out j hj) ⟨_,_,_,(rQ (bV g a m u) _ _ _ _ WP.out eG).2.2.1⟩);have fo:N (wr.heap[t+1+1+1]?=T (ja S 27 (0,0))):=O ((ac.block (t+1+1+1) (aI bu) Y).trans WC);have bT:N (wr.heap[(t+1+1+1+1+1)]?=T (ja SA 27 (0,0))):=O ((ac.block (t+1+1+1+1+1) e3 Y).trans Yv);have hn:N (lg (·<wr.heap.size) wr (A pb nu cb) (nl.map (eA g a m u seed))):=O (YR.keep (λk hk=>ac.block k hk.2 (aI bq)) (λk hk=>by have:=P.row.sz';omega));obtain⟨-,-,Vr⟩:=bK.cells;obtain⟨g0,o,h6,bM⟩:=Vr Y;subst h6;obtain⟨⟨yk,q,yp,yv,yc⟩,C,fv⟩:=dL (l:=wl) (j:=i) (by rw[<-Ym];exact b6);have d0:wr.cell? ⟨g0,o+i*5,jf⟩=T (jd je yk):=bM i _ C 0 _ I;have d1:wr.cell? ⟨g0,o+i*5+1,jf⟩=T (jd je q):=bM i _ C 1 _ I;have d2:wr.cell? ⟨g0,o+i*5+2,jf⟩=T (jd je yp):=bM i _ C 2 _ I;have d3:wr.cell? ⟨g0,o+i*5+3,jf⟩=T (jd je yv):=bM i _ C 3 _ I;have d4:wr.cell? ⟨g0,o+i*5+4,jf⟩=T (jd je yc):=bM i _ C 4 _ I;have U3:=j3 C;rw[ga]at U3;obtain⟨bg,Yy,b4⟩:=Ib.1 U3;have s:=Ya.each _ bg;have cu:bJ yp:=by
   rcases s.2 with⟨_,b,_,_⟩|⟨a,_⟩|⟨_,b,_⟩
   ·exact b
   ·exact ju a Yy
   exact b
  have bN:0<=q/\q<512:=s.1;obtain⟨Vi,ek⟩:=qF (show 0<=yp by have:=cu.1;omega);subst ek;have ht:=O cu;have hq:=O bN;have hw:N ((wl.take (i+1)).map (fA g a m u init seed)=(wl.take i).map (fA g a m u init seed)++[fA g a m u init seed ⟨yk,q,(Vi:jb),yv,yc⟩]):=O (by rw[fv,mb];rfl);clear Vr bM C fv U3 bg Yy b4 s cu bN ac
  go_upto_region 34 with fail
  obtain⟨bb,b3⟩:=J wr.heap.size;have bm:=jy wr (ja #[jd je yk,jd je q,jd je (Vi:jb),jd je yv,jd je yc] 61);have d:=ao wr (ja #[jd je yk,jd je q,jd je (Vi:jb),jd je yv,jd je yc] 61);have s:=jy (wr.alloc (ja #[jd je yk,jd je q,jd je (Vi:jb),jd je yv,jd je yc] 61)) (ja #[jd je q,jd je 0,A jf 0 0] 107);have bg:=ao (wr.alloc (ja #[jd je yk,jd je q,jd je (Vi:jb),jd je yv,jd je yc] 61)) (ja #[jd je q,jd je 0,A jf 0 0] 107);rw[jp]at s;replace bm:=av bm bg;replace d:=d.trans (bg.mono d.size);have c5:N (M3<=bb):=O (by rw[b3];exact P.row.sz');rw[<-b3]at bm s⊢;obtain⟨k0,Y6⟩:=J ((wr.alloc (ja #[jd je yk,jd je q,jd je (Vi:jb),jd je yv,jd je yc] 61)).alloc (ja #[jd je q,jd je 0,A jf 0 0] 107));rw[<-Y6]at bm s d⊢;have bv:=O d;have br:=O (av P.row.box d);have bN:=O bm;have bs:=O s;have Uh:=ai WB d;have bw:=bj fe d;have bA:=bj fm d;have Z9:=O (hn.below d);have VQ:=ae fo d;have b4:=ae bT d;have gf:N (wr.heap.size=bb):=O b3.symm;clear bm s d bg Y6 b3 WB fe fm bK fo bT hn d0 d1 d2 d3 d4;obtain⟨ex,b7⟩:=J (dZ seed kq [q]);have gi:ex.length=32:=by rw[b7];exact pB _ _ _
  obtain⟨EX,c6⟩:=J ((ex.map v8).toArray);obtain⟨b8,b9⟩:=J (iV (bV g a m u) kq [q]);obtain⟨V,c7⟩:∃y:jb,y=((aX 4 (gh ex):jc):jb):=⟨_,I⟩;obtain⟨bn,ca⟩:=J (gq Vi ex b8 (dM g u init));have hx:N (bn.length=48):=O (by rw[ca,nG,lD]);have cc:N (∀W v,de W v [q]->bP W->jB jo 47 #[jh S,ql ⟨#[119,101,108,99,111,109,101]⟩,v] W λe w'=>e=jz (jh EX)/\jk W W w'):=O (λW v hv hW=>by
   rw[hQ,c6,b7];exact sB seed hO kq [q] v W hv (Gs G (by have:=hq.out;intro x C;simp at C;rcases C with rfl;exact⟨by omega,by omega⟩) ar) hW)
  have gk:N (∀W v s,aZ (·<W.heap.size) W {bV g a m u with box:=nl.map (eA g a m u seed),wel:=s} ⟨A VN m.length c1,A pq 10 cq,A pb nu cb,A pv i cv⟩->s.length<=1000000->de W v [q]->bP W->jB jo 48 #[jh ((λv=>(aF (bV g a m u) ⟨A VN m.length c1,A pq 10 cq,A pb nu cb,v⟩).toArray) (A pv i cv)),ql ⟨#[119,101,108,99,111,109,101]⟩,v] W λe w'=>∃D,e=jz (A (T ⟨D,0,jf⟩) 32 32)/\bD w' (A (T ⟨D,0,jf⟩) 32 32) b8/\jk W W w'):=O (λW v s hC hu hv hW=>by
   rw[b9];exact Ek {bV g a m u with box:=nl.map (eA g a m u seed),wel:=s} _ kq [q] v W G hC hv ar ⟨g8,by show(dA u).length<=_;rw[lK];decide,by show(nl.map (eA g a m u seed)).length<=_;rw[jw,<-Zo];have:=h8.out;omega,hu⟩
    (Du (c:={bV g a m u with box:=nl.map (eA g a m u seed),wel:=s}) (nums:=[q]) (by have h1:=b5.fol.1;have h2:=b5.fol.2;exact⟨by show _ <=g.folder;omega,by show g.folder<_;omega⟩) (by have h1:=b5.ep;exact⟨by show _ <=g.epoch+1;omega,by show g.epoch+1<_;omega⟩) (by have:=ed.out;exact⟨by show _ <=a;omega,by show a<_;omega⟩) WP (by have:=hq.out;intro x C;simp at C;rcases C with rfl;exact⟨by omega,by omega⟩) ar) hW)
  have gn:N (∀W vh vb,bD W vh b8->bD W vb (dM g u init)->lq W->jB jo 46 #[jd je (Vi:jb),jh EX,vh,vb] W λe w'=>∃c,e=jz (jI #[jh #[jd je V,c],jd je 0])/\w'.ownsRow W 5 1 c 48 (bn.map v8)/\jk W W w'):=O (λW vh vb h1 h2 h3=>by
   have h:=G9 Vi ht ex b8 (dM g u init) gi (by rw[b9];unfold iV;rw[eQ];decide) (by rw[lD];decide) vh vb W h1 h2 h3;rw[lD]at h;rw[c6,c7,ca];exact h)
  have cu:N (fA g a m u init seed ⟨yk,q,(Vi:jb),yv,yc⟩=⟨q,V,bn⟩):=O (by rw[ca,c7,b9,b7];rfl);have fe:N ((jo.info? 57).map (·.size)=T ((λv=>(aF (bV g a m u) ⟨A VN m.length c1,A pq 10 cq,A pb nu cb,v⟩).toArray) (A pv i cv)).size):=O (by rw[jv,dz _ _ WP.out eG];exact mM);clear gi c6 b9 c7 ca b7
  go_upto_region 34 with fail
  refine jL ?_;refine dm (λW'=>W'.heap[bb]?=T (ja #[jd je yk,jd je q,jd je (Vi:jb),jd je yv,jd je yc] 61 (0,0))/\W'.heap[t+1+1+1]?=T (ja S 27 (0,0))/\W'.heap[(t+1+1+1+1)]?=T (ja ((λv=>(aF (bV g a m u) ⟨A VN m.length c1,A pq 10 cq,A pb nu cb,v⟩).toArray) (A pv i cv)) 57 (0,0))) (.take 0 (.take 1 (.take 2 (.take 3 (.take 4 (.take 7 (.take 8 (.take 9 (.take 12 (.two 5 10 (.two 6 10 (.one 10 (.one 11 (.one 13 (.take 14 (.take 15 (.take 16 (.take 17 (.one 18 .done)))))))) (.one 6 (.one 11 (.one 13 (.take 14 (.take 15 (.take 16 (.take 17 (.one 18 .done))))))))) (.one 5 (.one 6 (.one 11 (.one 13 (.take 14 (.take 15 (.take 16 (.take 17 (.one 18 .done))))))))))))))))))) af af af G (λ_ _ _ _ h=>h) ⟨bN,VQ,br⟩ ?_;obtain⟨l0,UA⟩:=J k0.drew;have d:=bX k0;rw[<-UA]at d⊢;have gp:=ai bv d;have gu:=ae br d;have s:=ae bN d;have gv:=ae bs d;have Zn:=ai Uh d;have gw:=bj bw d;have gx:=bj bA d;have bg:=O (Z9.below d);have bO:=ae VQ d;have bm:=ae b4 d;clear d UA bv br bN bs Uh bw bA Z9 VQ b4;have bv:=gp;clear gp;have br:=gu;clear gu;have bN:=s;clear s;have bs:=gv;clear gv;have Uh:=Zn;clear Zn;have bw:=gw;clear gw;have bA:=gx;clear gx;have Z9:=bg;clear bg;have VQ:=bO;clear bO;have b4:=bm;clear bm;iterate 2 refine vE ?_
  (refine aV (v:=jh S) I aj (λW' hS=>mq jW I hK I I hS.2.1) (L ?_))
  iterate 2 refine vE ?_
  (refine aV (v:=jh ((λv=>(aF (bV g a m u) ⟨A VN m.length c1,A pq 10 cq,A pb nu cb,v⟩).toArray) (A pv i cv))) I aj (λW' hS=>mq o1 I fe I I hS.2.2) (L ?_))
  iterate 3 refine vE ?_
  apply FC (.one 11 (.one 13 (.take 14 (.take 15 (.take 16 (.take 17 (.one 18 .done)))))))
  rotate_left
  ·intro Yx
   refine iW ?_ ?_
   ·refine aE I (λK' z=>?_)
    go_simp;have d:=ao l0 (ja #[jd je q] 3);have F:=oe l0 q;obtain⟨l1,C⟩:=J (l0.alloc (ja #[jd je q] 3));rw[<-C]at d F⊢;obtain⟨b0,Q⟩:=J l0.heap.size;rw[<-Q]at F⊢;clear Q;have bf:=ai bv d;have Zq:=ae br d;have bm:=ae bN d;have a5:=ae bs d;have U:=ai Uh d;have YT:=bj bw d;have a1:=bj bA d;have bT:=O (Z9.below d);have U5:=ae VQ d;have b3:=ae b4 d;have b1:=O F;clear F C d;refine z _ _ ⟨bm,U5,Zq⟩ λ_=>?_
    clear z;refine L ?_;refine iW ?_ ?_
    ·refine aE I (λK' z=>?_)
     go_simp;refine(cc l1 _ b1.out (VR.dig.below U)).mono ?_;rintro e l2 ⟨rfl,d⟩;have WN:=ai bf d;have YI:=ae Zq d;have s:=ae bm d;have bh:=ae a5 d;have Ug:=ai U d;have a2:=bj YT d;have a3:=bj a1 d;have Wg:=O (bT.below d);have UE:=ae U5 d;have bK:=ae b3 d;have a4:=O (et b1 d);clear bf Zq bm a5 U YT a1 bT U5 b3 b1;clear d;refine z _ _ ⟨s,UE,YI⟩ λ_=>?_
     clear z;refine L ?_;refine aE I (λK' z=>?_);go_simp;have d:=ao l2 (ja #[jd je q] 3);have F:=oe l2 q;obtain⟨l3,C⟩:=J (l2.alloc (ja #[jd je q] 3));rw[<-C]at d F⊢;obtain⟨bB,Q⟩:=J l2.heap.size;rw[<-Q]at F⊢;clear Q;have YQ:=ai WN d;have Ws:=ae YI d;have bg:=ae s d;have bi:=ae bh d;have Uj:=ai Ug d;have ZU:=bj a2 d;have ZT:=bj a3 d;have VZ:=O (Wg.below d);have VL:=ae UE d;have bM:=ae bK d;have bk:=O (et a4 d);clear WN YI s bh Ug a2 a3 Wg UE bK a4;have bd:=O F;clear F C d;refine z _ _ ⟨bg,VL,Ws⟩ λ_=>?_
     clear z;refine L ?_;have hG:=(And.intro YQ (And.intro Ws (And.intro bg (And.intro bi (And.intro Uj (And.intro ZU (And.intro ZT (And.intro VZ (And.intro VL (And.intro bM (And.intro bk bd)))))))))));exact Yx b0 bB l3 hG
    refine aE I (λK' z=>?_);go_simp;have d:=ao l1 (ja #[jd je q] 3);have F:=oe l1 q;obtain⟨l2,C⟩:=J (l1.alloc (ja #[jd je q] 3));rw[<-C]at d F⊢;obtain⟨bB,Q⟩:=J l1.heap.size;rw[<-Q]at F⊢;clear Q;have WN:=ai bf d;have YI:=ae Zq d;have s:=ae bm d;have bh:=ae a5 d;have Ug:=ai U d;have a2:=bj YT d;have a3:=bj a1 d;have Wg:=O (bT.below d);have UE:=ae U5 d;have bK:=ae b3 d;have a4:=O (et b1 d);clear bf Zq bm a5 U YT a1 bT U5 b3 b1;have b2:=O F;clear F C d;refine z _ _ ⟨s,UE,YI⟩ λ_=>?_
    clear z;refine L ?_;refine aE I (λK' z=>?_);go_simp;refine(cc l2 _ a4.out (VR.dig.below Ug)).mono ?_;rintro e l3 ⟨rfl,d⟩;have YQ:=ai WN d;have Ws:=ae YI d;have bg:=ae s d;have bi:=ae bh d;have Uj:=ai Ug d;have ZU:=bj a2 d;have ZT:=bj a3 d;have VZ:=O (Wg.below d);have VL:=ae UE d;have bM:=ae bK d;have bk:=O (et a4 d);have bd:=O (et b2 d);clear WN YI s bh Ug a2 a3 Wg UE bK a4 b2;clear d;refine z _ _ ⟨bg,VL,Ws⟩ λ_=>?_
    clear z;refine L ?_;have hG:=(And.intro YQ (And.intro Ws (And.intro bg (And.intro bi (And.intro Uj (And.intro ZU (And.intro ZT (And.intro VZ (And.intro VL (And.intro bM (And.intro bk bd)))))))))));exact Yx b0 bB l3 hG
   refine aE I (λK' z=>?_);go_simp;have d:=ao l0 (ja #[jd je q] 3);have F:=oe l0 q;obtain⟨l1,C⟩:=J (l0.alloc (ja #[jd je q] 3));rw[<-C]at d F⊢;obtain⟨bB,Q⟩:=J l0.heap.size;rw[<-Q]at F⊢;clear Q;have bf:=ai bv d;have Zq:=ae br d;have bm:=ae bN d;have a5:=ae bs d;have U:=ai Uh d;have YT:=bj bw d;have a1:=bj bA d;have bT:=O (Z9.below d);have U5:=ae VQ d;have b3:=ae b4 d;have gy:=O F;clear F C d;refine z _ _ ⟨bm,U5,Zq⟩ λ_=>?_
   clear z;refine L ?_;refine aE I (λK' z=>?_);go_simp;have d:=ao l1 (ja #[jd je q] 3);have F:=oe l1 q;obtain⟨l2,C⟩:=J (l1.alloc (ja #[jd je q] 3));rw[<-C]at d F⊢;obtain⟨b0,Q⟩:=J l1.heap.size;rw[<-Q]at F⊢;clear Q;have WN:=ai bf d;have YI:=ae Zq d;have s:=ae bm d;have bh:=ae a5 d;have Ug:=ai U d;have a2:=bj YT d;have a3:=bj a1 d;have Wg:=O (bT.below d);have UE:=ae U5 d;have bK:=ae b3 d;have b2:=O (et gy d);clear bf Zq bm a5 U YT a1 bT U5 b3 gy;have a4:=O F;clear F C d;refine z _ _ ⟨s,UE,YI⟩ λ_=>?_
   clear z;refine L ?_;refine aE I (λK' z=>?_);go_simp;refine(cc l2 _ a4.out (VR.dig.below Ug)).mono ?_;rintro e l3 ⟨rfl,d⟩;have YQ:=ai WN d;have Ws:=ae YI d;have bg:=ae s d;have bi:=ae bh d;have Uj:=ai Ug d;have ZU:=bj a2 d;have ZT:=bj a3 d;have VZ:=O (Wg.below d);have VL:=ae UE d;have bM:=ae bK d;have bd:=O (et b2 d);have bk:=O (et a4 d);clear WN YI s bh Ug a2 a3 Wg UE bK b2 a4;clear d;refine z _ _ ⟨bg,VL,Ws⟩ λ_=>?_
   clear z;refine L ?_;have hG:=(And.intro YQ (And.intro Ws (And.intro bg (And.intro bi (And.intro Uj (And.intro ZU (And.intro ZT (And.intro VZ (And.intro VL (And.intro bM (And.intro bk bd)))))))))));exact Yx b0 bB l3 hG
  clear bv br bN bs Uh bw bA Z9 VQ b4;rintro b0 bB l3 ⟨YQ,Ws,bg,bi,Uj,ZU,ZT,VZ,VL,bM,bk,bd⟩;refine aE I (λK' z=>?_);go_simp;refine(gk l3 _ _ (RN WP ZU ZT VZ (P.later bu YQ) (by rw[jw,qG];have:=Ym.out;omega)) (by rw[jw,qG];omega) bd (VR.dig.below Uj)).mono ?_;rintro e l4 ⟨ic,rfl,cx,d⟩;have c9:=O cx;clear cx;have g1:=ai YQ d;have db:=ae Ws d;have s:=ae bg d;have dd:=ae bi d;have Uq:=ai Uj d;have cd:=bj ZU d;have ce:=bj ZT d;have Vx:=O (VZ.below d);have WC:=ae VL d;have a4:=ae bM d;have g2:=O (et bk d);have g3:=O (et bd d);clear YQ Ws bg bi Uj ZU ZT VZ VL bM bk bd;clear d;refine z _ _ ⟨s,WC,db⟩ λ_=>?_
  clear z;refine L ?_;refine aE I (λK' z=>?_);go_simp;refine(gn l4 _ _ c9.out (Er a4 (λj aa hj=>by rw[hs,Nat.zero_add];simpa using hj) (lD _ _ _)) (hM.below Uq)).mono ?_;rintro e l5 ⟨c,rfl,cf,d⟩;have Vu:N (bb+1<l4.heap.size):=O (jA.1 dd).1;obtain⟨k3,hz⟩:=J l4.heap.size;rw[<-hz]at cf Vu;have g4:=O cf;obtain⟨R,H,rfl⟩:=cK cf;clear cf;have g5:=ai g1 d;have dk:=ae db d;have a5:=ae s d;have dr:=ae dd d;have Uw:=ai Uq d;have em:=bj cd d;have eq:=bj ce d;have Yo:=O (Vx.below d);have Z1:=ae WC d;have bf:=ae a4 d;have hB:=O (et g2 d);have hD:=O (et g3 d);have hE:=O (c9.below d);clear g1 db s dd Uq cd ce Vx WC a4 g2 g3 c9;clear d;refine z _ _ ⟨a5,Z1,dk⟩ λ_=>?_
  clear z;refine L ?_;iterate 4 refine vE ?_
  refine aE I (λK' z=>?_);rw[jr aj];refine qP 103 _ _ I (bb+1) 1 #[jd je V,A R 48 H] I I (sk (o:=1) (n:=2) dr ar) af (by simp[j4]) ?_;rw[show(#[jd je V,A R 48 H]:jq jl).toList=[jd je V,A R 48 H]from I];obtain⟨s1,s2⟩:=FI (i:=1) (x:=jd je V) (y:=A R 48 H) dr;have s3:jk wr wr (l5.setCells (bb+1) 1 [jd je V,A R 48 H]):=Below.cellsFrom g5 (bb+1) (by rw[gf];omega) _ _;have dv:=m9 (w':=l5.setCells (bb+1) 1 [jd je V,A R 48 H]) g4 (λk hk=>s2 k (aI Vu));refine z _ _ ⟨(s2 bb Y).trans a5,(s2 (t+1+1+1) (ee c5 bu)).trans Z1,(s2 (t+1+1+1+1) (ee c5 bu)).trans dk⟩ λ_=>?_
  clear z;have ea:N ((l5.setCells (bb+1) 1 [jd je V,A R 48 H]).heap[bb+1]?=T (ja #[jd je q,jd je V,A R 48 H] 107 (0,0))):=O s1;have eb:N (eB M3 (t+1+1+1+1) 57 107 3 Wl.cells Wl.body (λv=>(aF (bV g a m u) ⟨A VN m.length c1,A pq 10 cq,A pb nu cb,v⟩).toArray) p4 (l5.setCells (bb+1) 1 [jd je V,A R 48 H]) i (A pv i cv) ((wl.take i).map (fA g a m u init seed)) us):=O (P.later bu s3);have ec:N (aH (λg=>M3<=g/\g<(l5.setCells (bb+1) 1 [jd je V,A R 48 H]).heap.size/\(qh pv i cv).ownBlock≠T g) (l5.setCells (bb+1) 1 [jd je V,A R 48 H]) (A R 48 H) 1 48 (bn.map v8)):=O (aH.of_own dv (λg Q=>by
   have h1:=dv.lt g Q;have h2:=Vu.out;have h3:=c5.out;have k5:=gf.out;exact⟨by omega,h1.2,eV P.row.own (.inl Y)⟩))
  clear s1 s2 s3 dv;generalize l5.setCells (bb+1) 1 [jd je V,A R 48 H]=kc at ea eb ec⊢;have hF:=ea;have cg:=eb;have hH:=ec;clear ea eb ec;refine L ?_;refine ob ?_;clear g5 dk a5 dr Uw em eq Yo Z1 bf g4 hE hB hD P cc gk gn;have s:=ah cg.row.box (rQ (bV g a m u) (A VN m.length c1) (A pq 10 cq) (A pb nu cb) (A pv i cv) WP eG).2.2.1
  go_upto_region 35 with fail
  refine jX ?_;iterate 2 refine eh ?_
  refine j7 I 107 _ I (bb+1) I 107 #[jd je q,jd je V,A R 48 H] (0,0) _ hF.out underlying107 I af ?_
  go_wp2_with (at_builtin;refine Hid.out ?_)
  refine O ?_;refine ow I λ_ z=>K9 _ _ I M3 (A pv i cv) i _ I (cL cg.row.own (ao kc _)) _ 1 [jd je q,jd je V,A R 48 H] I (lx kc [jd je q,jd je V,A R 48 H] 107 (0,0) 3 1 1 I (jF _)) (by simp[j4]) Y (jE cg.row.sz' (ao kc _).size) λv' k9 UO=>z _ _ ?_
  clear z;have ci:=ao kc (ja #[jd je q,jd je V,A R 48 H] 107);have bo:=cg.later bu ci;have g6:=(aH.keep hH (w':=kc.alloc (ja #[jd je q,jd je V,A R 48 H] 107)) (λg Q=>ci.block g Q.2.1)).mono (D':=λg=>M3<=g/\g<(kc.alloc (ja #[jd je q,jd je V,A R 48 H] 107)).heap.size/\(qh pv i cv).ownBlock≠T g) (λg Q=>⟨Q.1,jJ Q.2.1 ci.size,Q.2.2⟩);have cp:=k7 bo.row.box UO.grown (eV bo.row.own (.inr bu));obtain⟨pn,cn,rfl⟩:=cK UO.own;have e9:N (eB M3 (t+1+1+1+1) 57 107 3 Wl.cells Wl.body (λv=>(aF (bV g a m u) ⟨A VN m.length c1,A pq 10 cq,A pb nu cb,v⟩).toArray) p4 (k9.setCell ⟨(t+1+1+1+1),38,jf⟩ (A pn (i+1) cn)) (i+1) (A pn (i+1) cn) ((wl.take (i+1)).map (fA g a m u init seed)) (us++[A R 48 H])):=O (by
   rw[hw,cu];exact eB.push (x:=(⟨q,V,bn⟩:Wl)) bo bu (by show aH _ _ _ 1 bn.length (bn.map v8);rw[hx];exact g6) UO (h5 _ _))
  obtain⟨⟨vo,c3⟩,f3,-,-⟩:=ko (i:=38) (A pn (i+1) cn) cp (by rw[(rQ (bV g a m u) (A VN m.length c1) (A pq 10 cq) (A pb nu cb) (A pv i cv) WP eG).2.2.2];decide);clear bo g6 UO cp s ci
  go_wp2_with fail
  go_roundw
  case rel=>exact⟨i+1,pn,cn,us++[A R 48 H],by go_num,by omega,e9⟩
  case measure=>simp only[jV];omega
 obtain rfl:nw=i:=Y;have hd2:decide ((nw:jb)<(nw:jb))=jn:=by simp
 have ha:decide (nw<nw)=jn:=by simp
 rename jj=>p5;obtain⟨pe,bB,bK,bM⟩:∃(p:jG Addr) (c:jc),p=pv/\c=cv:=⟨_,_,I,I⟩;subst bK;subst bM;have cs:wl.take nw=wl:=qo (by rw[Ym];exact jF _);rw[cs]at P;have ac:=P.row.but;have Uw:N (jk w w p5):=O (Uq.trans (P.row.but.below (n:=w.heap.size) (by rw[HG];omega) (ee bu HG)));have em:=kK cd (λk bp ad=>ac.block k (by rw[Wp];exact ad) (aI cz));have eq:=kK ce (λk bp ad=>ac.block k (by rw[Wp];exact ad) (aI Yb));have ej:N (p5.heap[(t+1+1+1+1+1)]?=T (ja SA 27 (0,0))):=O ((ac.block (t+1+1+1+1+1) e3 Y).trans Yv);have bg:lg (λk=>t+6<=k/\k<p5.heap.size) p5 (A pb nu cb) (nl.map (eA g a m u seed)):=YR.keep (λk hk=>ac.block k hk.2 (aI bq)) (λk hk=>⟨by have:=h0.out;omega,by have:=P.row.sz';omega⟩);have bh:=P.slice (by rw[jw];exact Ym) (D:=λk=>t+6<=k/\k<p5.heap.size) (λk h1 h2=>⟨by have:=e3.out;omega,h2⟩);obtain⟨q,hq⟩:∃y:CQ,y=⟨A VN m.length c1,A pq 10 cq,A pb nu cb,A pe nw bB⟩:=⟨_,I⟩;have bo:N (aZ (λk=>t+6<=k/\k<p5.heap.size) p5 (mk1 g a m u init seed) q):=O (by
  rw[YN,ho]at bg;rw[ga]at bh;rw[hq];exact Km WP em eq bg bh (λk h1 h2=>⟨by have:=cz.out;omega,h2⟩) (λk h1 h2=>⟨by have:=e8.out;omega,h2⟩))
 obtain⟨Y1,ad⟩:=J ((aF (mk1 g a m u init seed) q).toArray);have eg:N (p5.heap[(t+1+1+1+1)]?=T (ja Y1 57 (0,0))):=O (by rw[ad,hq,Tn];exact P.row.box);have bp:=Re (x:=X) (init:=init) (seed:=seed) e0.symm (by rw[<-WO];exact i3) i7 Vn WP;obtain⟨br,bs⟩:=Mv bp;have bv:=O br.encOk;have bN:=O bs.encOk;have bT:=O ad;have Yc:∀c:Cmt,c.parent.length=32->c.confirm.length=32->(jo.info? 57).map (·.size)=T (aF c q).toArray.size:=λc h1 h2=>by rw[jv,dz c q h1 h2];exact mM
 have U5:N ((jo.info? 57).map (·.size)=T Y1.size):=O (by rw[ad];exact Yc _ (by rw[(nZ ..).1];exact WP) (nZ ..).2);have b0:N (∀W,aZ (·<W.heap.size) W (mk1 g a m u init seed) q->jB jo 29 #[jh Y1] W λe w'=>∃v,e=jz v/\vz W w' (mk1 g a m u init seed) v/\jk W W w'):=O (λW hW=>by
  obtain⟨l1,l2,l3,l4⟩:=bv.lens;rw[ad];exact tl _ q W hW l1 l2 l3 l4)
 obtain⟨bw,bd⟩:=J (cW kL ((aR (mk1 g a m u init seed)).take 8));obtain⟨YA,bi⟩:=J ((bw.map v8).toArray);obtain⟨cf,bf⟩:=J (iY (dM g u init) bw);obtain⟨j,a5⟩:=J ((cf.map v8).toArray);have bk:cf.length=32:=by rw[bf];exact sR _ _
 have b1:N (mk2 g a m u init seed={mk1 g a m u init seed with confirm:=cf}):=O (by rw[bf,bd];exact Di ..);have b2:N (∀W p H,aU (·<W.heap.size) W (vL ((aR (mk1 g a m u init seed)).take 8)) (A p 8 H)->bP W->jB jo 28 #[ql ⟨#[99,111,109,109,105,116,32,98,111,100,121]⟩,A p 8 H] W λe w'=>e=jz (jh YA)/\jk W W w'):=O (λW p H hv hW=>by
  rw[bi,bd];exact mF kL G _ _ W hv (bv.take (by rw[zw];decide) 8) hW.num hW.start)
 have b3:N (∀W,iD W->jB jo 50 #[jh SA,jh YA] W λe w'=>e=jz (jh j)/\jk W W w'):=O (λW hW=>by
  rw[a5,bf,hs,bi];exact Pi _ _ (lD _ _ _) (by rw[bd];exact eQ _ _) W hW)
 have bA:N (j.size=32):=O (by rw[a5,jv,jw,bk]);have b4:N (j.all (·.oneCell')=ji):=O (by rw[a5];exact eR _);have b7:N ((jo.info? 23).map (·.size)=T j.size):=O (by rw[bA];kernel_rfl);obtain⟨Y2,a4⟩:=J ((aF (mk2 g a m u init seed) q).toArray);have b8:N (mK Y1 39 j.toList=Y2):=O (by
  rw[a4,b1,a5,ad];exact N1 _ q cf (by rw[(nZ ..).1];exact WP) (nZ ..).2 bk)
 have UE:N ((jo.info? 57).map (·.size)=T Y2.size):=O (by rw[a4];exact Yc _ (by rw[(pk ..).1];exact WP) (pk ..).2);have b9:N (Y1.size=73):=O (by rw[ad,jv,dz _ _ (by rw[(nZ ..).1];exact WP) (nZ ..).2]);have ca:N (Y2.size=73):=O (by rw[a4,jv,dz _ _ (by rw[(pk ..).1];exact WP) (pk ..).2]);have cc:N (∀W,aZ (·<W.heap.size) W (mk1 g a m u init seed) q->bP W->jB jo 52 #[jh Y2] W λe w'=>∃D,e=jz (A (T ⟨D,0,jf⟩) 32 32)/\bD w' (A (T ⟨D,0,jf⟩) 32 32) (dp (mk2 g a m u init seed))/\jk W W w'):=O (λW hC hW=>by
  rw[a4];exact Hb _ q W (DW hC) bN hW)
 obtain⟨sr,bm⟩:∃y:jb,y=((kj X (dp (mk2 g a m u init seed)):jc):jb):=⟨_,I⟩;obtain⟨ss,bn⟩:∃y:jb,y=((kD X (dp (mk2 g a m u init seed)):jc):jb):=⟨_,I⟩;have cg:N (∀W v,bD W v (dp (mk2 g a m u init seed))->bP W->jB jo 51 #[jd je (X:jb),v] W λe w'=>e=jz (jI #[jh #[jd je sr,jd je ss],jd je 0])/\jk W W w'):=O (λW v hv hW=>by
  rw[bm,bn];exact RH X UT.1 UT.2 _ v (by unfold dp;rw[eQ];decide) W hv hW)
 obtain⟨Y3,bb⟩:=J ((aF (mkC g a X m u init seed) q).toArray);have ci:N (mkC g a X m u init seed={mk2 g a m u init seed with r:=sr,s:=ss}):=O (by rw[bm,bn];exact Gr ..);have cn:N (mK Y2 71 [jd je sr,jd je ss]=Y3):=O (by
  rw[bb,ci,a4];exact TD _ q sr ss (by rw[(pk ..).1];exact WP) (pk ..).2)
 have VL:N ((jo.info? 57).map (·.size)=T Y3.size):=O (by rw[bb];exact Yc _ (by rw[(BC ..).1];exact WP) (BC ..).2);have cp:N (Y3.all (·.oneCell')=ji):=O (by rw[bb,hq];exact zI _ _ _ _ _ _ _ _ _ _ _ _ _);have cu:=O bb;clear bh bg eq em ac cs P Yc bp br bs hq ad a4 bb bm bn bk a5 bf bi bd YR WX Yv WC Uq cd ce cw bT b6 hi
 go_upto_region 37 with fail
 refine jL ?_;refine lH (λW'=>W'.heap[(t+1+1+1+1)]?=T (ja Y1 57 (0,0))/\W'.heap[(t+1+1+1+1+1)]?=T (ja SA 27 (0,0))) 7 [(0,ji),(1,ji),(2,jn),(3,ji),(4,jn),(5,jn),(6,ji),(7,jn)] af af af G (λ_ _ _ _ h=>h) ⟨eg,ej⟩ ?_;obtain⟨q0,UA⟩:=J p5.drew;have d:=bX p5;rw[<-UA]at d⊢;have UK:=ae eg d;have UP:=ae ej d;have Uh:=ai Uw d;have P:=O (bo.later d);clear d UA eg ej Uw bo
 (refine fX (v:=jh SA) I aj (λW' hS=>mq jW I e6 I I hS.2) (L ?_))
 (refine fX (v:=jh Y1) I aj (λW' hS=>mq o1 I U5 I I hS.1) (L ?_))
 refine dn I (λK' z=>?_);go_simp;refine(b0 q0 (P.mono (λk hk=>hk.2))).mono ?_;rintro e q1 ⟨v,rfl,ac,d⟩;obtain⟨gc,a5,rfl,Vr⟩:∃g H,v=A (T ⟨g,0,jf⟩) 11 H/\11<=H:=by
  obtain⟨us,ad,-⟩:=ac;obtain⟨g,c,h1,h2,-⟩:=vf ad G;exact⟨g,c,h1,h2⟩
 have bb:=O (ac.val 8 G).2;have g7:∀W,(Instr.sliceAt 93 (A (T ⟨gc,0,jf⟩) 11 a5) jf (T (jd je 8)) jf).run jo W=.ok (A (T ⟨gc,0,jf⟩) 8 a5) W:=λW=>wj 93 152 4 underlying93 wQ gc 0 11 a5 8 Y W
 clear ac;have UB:=ae UK d;have UG:=ae UP d;have U:=ai Uh d;have ad:=O (P.later d);clear UK UP Uh P;clear d;refine z _ _ ⟨UB,UG⟩ λ_=>?_
 clear z;refine L ?_;refine Et ?_;refine dn I (λK' z=>?_);go_simp;refine(b2 q1 _ _ bb.out (VR.dig.below U)).mono ?_;rintro e q2 ⟨rfl,d⟩;have Uy:=ae UB d;have UF:=ae UG d;have Ug:=ai U d;have a4:=O (ad.later d);clear UB UG U ad bb;clear d;refine z _ _ ⟨Uy,UF⟩ λ_=>?_
 clear z;refine L ?_;refine dn I (λK' z=>?_);go_simp;refine(b3 q2 (VR.below Ug)).mono ?_;rintro e q3 ⟨rfl,d⟩;have UQ:=ae Uy d;have U4:=ae UF d;have Uj:=ai Ug d;have bb:=O (a4.later d);clear Uy UF Ug a4;clear d;refine z _ _ ⟨UQ,U4⟩ λ_=>?_
 clear z;refine L ?_;refine Et ?_;refine pA I (λK' z=>?_);rw[jr aj];refine qP 23 _ _ I (t+1+1+1+1) 39 j I I (sk (o:=39) UQ.out (by rw[b9,bA];decide)) b7 b4 ?_;have s1:=yP j.toList 39 q3 Y1 UQ;rw[b8]at s1;have a6:=O s1;have ba:=O ((tS (k:=(t+1+1+1+1+1)) (b:=(t+1+1+1+1)) Y j.toList 39 q3).trans U4);have bc:=O (Below.cellsFrom Uj (t+1+1+1+1) (by rw[HG];omega) j.toList 39);have ac:N (aZ (λk=>t+6<=k/\k<(q3.setCells (t+1+1+1+1) 39 j.toList).heap.size) (q3.setCells (t+1+1+1+1) 39 j.toList) (mk1 g a m u init seed) q):=O ((bb.keep (λk hk=>tS Y _ _ _)).mono (λk hk=>by rw[yi];exact hk));clear s1;generalize q3.setCells (t+1+1+1+1) 39 j.toList=r0 at a6 ba bc ac⊢;clear UQ U4 Uj bb;refine z _ _ ?_;clear z;have UK:=a6;have UP:=ba;have Uh:=bc;have P:=ac;clear a6 ba bc ac;refine ob ?_
 go_upto_region 38 with fail
 refine jX ?_;refine eh ?_;refine j7 I 57 _ I (t+1+1+1+1) I 57 Y2 (0,0) _ UK.out o1 I UE ?_
 go_wp2_with fail
 refine(cc r0 (P.mono (λk hk=>hk.2)) (VR.dig.below Uh)).mono ?_;rintro e r1 ⟨ic,rfl,cx,d⟩;have bb:=O cx;clear cx;have UB:=ae UK d;have UG:=ae UP d;have U:=ai Uh d;have ad:=O (P.later d);clear UK UP Uh P;clear d
 go_wp2_with fail
 refine(cg r1 _ bb.out (VR.dig.below U)).mono ?_;rintro e r2 ⟨rfl,d⟩;have Uy:=ae UB d;have UF:=ae UG d;have Ug:=ai U d;have a4:=O (ad.later d);clear UB UG U ad bb;clear d
 go_wp2_with (refine ow I λ_ z=>qP 32 _ _ I (t+1+1+1+1) 71 #[jd je sr,jd je ss] I I (sk (o:=71) (n:=2) Uy.out (by rw[ca];decide)) af (by simp[j4]) (z _ _ ?_))
 have s1:=yP [jd je sr,jd je ss] 71 r2 Y2 Uy;rw[cn]at s1;have a6:=O s1;have ba:=O ((tS (k:=(t+1+1+1+1+1)) (b:=(t+1+1+1+1)) Y [jd je sr,jd je ss] 71 r2).trans UF);have bc:=O (Below.cellsFrom Ug (t+1+1+1+1) (by rw[HG];omega) [jd je sr,jd je ss] 71);have ac:N (aZ (λk=>t+6<=k/\k<(r2.setCells (t+1+1+1+1) 71 [jd je sr,jd je ss]).heap.size) (r2.setCells (t+1+1+1+1) 71 [jd je sr,jd je ss]) (mk1 g a m u init seed) q):=O ((a4.keep (λk hk=>tS Y _ _ _)).mono (λk hk=>by rw[yi];exact hk));clear s1;generalize r2.setCells (t+1+1+1+1) 71 [jd je sr,jd je ss]=U at a6 ba bc ac⊢;clear Uy UF Ug a4;have Y8:=a6;have ZQ:=ba;have Vv:=bc;have ad:=ac;clear a6 ba bc ac
 go_upto_region 41 with fail
 refine jL ?_;refine dm (λW'=>W'.heap[(t+1+1+1+1)]?=T (ja Y3 57 (0,0))/\W'.heap[(t+1+1+1+1+1)]?=T (ja SA 27 (0,0))) (.take 0 (.take 1 (.one 2 (.one 3 (.take 4 .done))))) af af af G (λ_ _ _ _ h=>h) ⟨Y8,ZQ⟩ ?_;obtain⟨V,UA⟩:=J U.drew;have d:=bX U;rw[<-UA]at d⊢;have cj:=ae Y8 d;have ck:=ae ZQ d;have Zn:=ai Vv d;have ac:=O (ad.later d);clear d UA Y8 ZQ Vv ad;have UK:=cj;clear cj;have UP:=ck;clear ck;have Uh:=Zn;clear Zn;have P:=ac;clear ac
 (refine aV (v:=jh Y3) I aj (λW' hS=>mq o1 I VL I I hS.1) (L ?_))
 (refine aV (v:=jh SA) I aj (λW' hS=>mq jW I e6 I I hS.2) (L ?_))
 refine aE I (λK' z=>?_);rw[jr aj];refine jQ 57 _ _ I (t+1+1+1+1) Y3 I I 57 _ UK.out VL I cp ?_;rw[ri UK];refine z _ _ ⟨UK,UP⟩ λ_=>?_
 clear z;refine L ?_;refine aE I (λK' z=>?_);rw[jr aj];refine jQ 27 _ _ I (t+1+1+1+1+1) SA I I 27 _ UP.out e6 I hU ?_;rw[ri UP];refine z _ _ ⟨UK,UP⟩ λ_=>?_
 clear z;refine L ?_;refine aP ?_;refine ob ?_
 go_wp2_with fail
 refine qj (FO I _ _ (t+1+1+1+1) (t+1+1+1+1+1) 57 27 Y3 SA (0,0) (0,0) _ _ I I UK UP o1 I VL jW I e6) I ⟨λ_=>⟨q,?_,?_⟩,λh=>ju i6 h,Uh⟩
 ·rw[cu,hs,qH]
  rfl
 rw[qH];exact(Q2 (x:=X) P).mono (λk hk=>⟨by have h1:=HG.out;have h2:=hk.1;omega,hk.2⟩)
noncomputable def VY:VarT jo:=⟨27,32,(cG.map v8).toArray,_,jW,I,by kernel_rfl,by rfl,λ_=>by kernel_rfl⟩
def kzA(b:nn 8):jq jl:=((kz b).map v8).toArray
def kzN(n:jb):jq jl:=(jH .u8 n::vi 31 (jH .u8 0)).toArray
theorem LP(b:nn 8):kzA b=kzN b.toNat:=by unfold kzA kzN kz;rw[j1,List.map_replicate];rfl
theorem Jy(b:nn 8)(c:C.op=.build 27 #[(0,Q)])(d:m.eval Q=v8 b)(W:jj):(jP m.eval C).run jo W=.ok (.value (jh (kzA b))) W:=by
 have h:∀n:jb,(Instr.build 27 #[(0,jd .u8 n)]).run jo W=.ok (jh (kzN n)) W:=λn=>by kernel_rfl
 rw[LP];have e:m.eval Q=jd .u8 (b.toNat:jb):=d;simp only[jP,c,o8,j1,jY,e,Sem.run_bind,h,Result.andThen_ok,Sem.run_pure]
theorem C0(b:nn 8)(w:jj):jB jo 25 #[v8 b] w λe w'=>e=jz (jh (kzA b))/\jk w w w':=by
 obtain⟨K,a⟩:=J (kzA b);have c:N (K.size=VY.n):=O (by rw[a];rfl);have f:N (K.all (·.oneCell')=ji):=O (by rw[a,jR];exact λg d=>gS (kz b) g (by unfold kzA at d;simpa using d));have d:=O a;rw[<-a];clear a
 go_enter func25,ntmps25
 go_upto_region 1 with(first|(refine VY.made I I (L ?_)))
 go_wp2_with (first|(refine ez (v:=jh K) aj (by rw[d];exact Jy b I I _) ?_;refine L ?_)|(refine VY.first I I I K I c f (L ?_)))
 obtain⟨x1,g,a,h,i,j⟩:=dt w K VY.t;rw[<-a];exact r7 (v:=jh K) (r8 I _ _ w.heap.size VY.t _ (0,0) _ I (h▸i.out) jW I (by rw[c];exact VY.hi)) I ⟨I,j⟩
theorem OY{y:j0}(b:C.op=.build 61 #[(0,.const (jd je 2)),(1,Q),(4,y)])(f:m.eval Q=jd je a)(g:m.eval y=jd je u)(W:jj):
 (jP m.eval C).run jo W=.ok (.value (jh (ap.cells ⟨2,a,0,0,u⟩).toArray)) W:=by
 have h:∀a u:jb,(Instr.build 61 #[(0,jd je 2),(1,jd je a),(4,jd je u)]).run jo W=.ok (jh (ap.cells ⟨2,a,0,0,u⟩).toArray) W:=λa u=>by kernel_rfl
 have e:m.eval (.const (jd je 2))=jd je 2:=I;simp only[jP,b,o8,j1,jY,f,g,e,Sem.run_bind,h,Result.andThen_ok,Sem.run_pure]
theorem Eg(x:ap):x.cells.toArray.size=VH.n/\x.cells.toArray.all (·.oneCell')=ji:=⟨I,by
 rw[jR];exact λa b=>EC.one x a (show a∈ap.cells _ by simpa using b)⟩
theorem Gg(d c:jb)(w:jj):jB jo 12 #[jd je d,jd je c] w λe w'=>e=jz (jh (ap.cells ⟨2,d,0,0,c⟩).toArray)/\jk w w w':=by
 obtain⟨K,b⟩:=J ((ap.cells ⟨2,d,0,0,c⟩).toArray);have a:=O (Eg ⟨2,d,0,0,c⟩);have f:=O b;rw[<-b]at a⊢;clear b
 go_enter func12,ntmps12
 go_upto_region 1 with(first|(refine VH.made I I (L ?_)))
 go_wp2_with (first|(refine ez (v:=jh K) aj (by rw[f];exact OY I I I _) ?_;refine L ?_)|(refine VH.first I I I K I a.1 a.2 (L ?_)))
 obtain⟨x1,g,b,h,i,j⟩:=dt w K VH.t;rw[<-b];exact r7 (v:=jh K) (r8 I _ _ w.heap.size VH.t _ (0,0) _ I (h▸i.out) r6 I (by rw[a.1];exact VH.hi)) I ⟨I,j⟩
theorem LX{y z:j0}{q:jb}(b:C.op=.build 61 #[(0,.const (jd je 1)),(1,Q),(2,y),(3,z)])(c:m.eval Q=jd je a)(f:m.eval y=jd je u)(g:m.eval z=jd je q)(W:jj):
 (jP m.eval C).run jo W=.ok (.value (jh (ap.cells ⟨1,a,u,q,0⟩).toArray)) W:=by
 have h:∀a u q:jb,(Instr.build 61 #[(0,jd je 1),(1,jd je a),(2,jd je u),(3,jd je q)]).run jo W=.ok (jh (ap.cells ⟨1,a,u,q,0⟩).toArray) W:=λa u q=>by kernel_rfl
 have e:m.eval (.const (jd je 1))=jd je 1:=I;simp only[jP,b,o8,j1,jY,c,f,g,e,Sem.run_bind,h,Result.andThen_ok,Sem.run_pure]
theorem Fx(d:jc)(q:d<512)(w:jj):jB jo 11 #[jd je d] w λe w'=>e=jz (jh (cP d).cells.toArray)/\jk w w w':=by
 obtain⟨x1,c,j,k,a,l⟩:=dt w chZ.cells.toArray VH.t;have f:N (∀W,jB jo 27 #[jd je ((d:jb)+2)] W λe w'=>e=jz (jI #[jd je (aX 4 (d+2):jc),jd je 0])/\jk W W w'):=O (λW=>by
  rw[show(d:jb)+2=((d+2:jc):jb) by omega];exact zZ (d+2) Y Y W)
 obtain⟨p,g⟩:∃y:jb,y=((aX 4 (d+2):jc):jb):=⟨_,I⟩;obtain⟨K,h⟩:=J ((cP d).cells.toArray);have n:N (K=(ap.cells ⟨1,d,p,p,0⟩).toArray):=O (by rw[h,g];rfl);have b:=O (Eg (cP d));rw[<-g]at f;rw[<-h]at b⊢;have o:=O j;have m:=O k;have i:=O l;clear g h j k l
 go_enter func11,ntmps11
 go_upto_region 1 with(first|(refine VH.made I I (L ?_)))
 change Code.wp _ _ _ _ (w.alloc (ja chZ.cells.toArray VH.t));rw[<-o,<-m]
 go_wp2_with fail
 refine(f _).mono ?_;rintro e h ⟨rfl,g⟩;replace a:=ae a g;replace i:=ai i g;clear g f;have f:=O (jT h c _ K _ _ a.out);have g:=O (nv i (j5 m.symm) K)
 go_wp2_with (first|(refine ez (v:=jh K) aj (by rw[n];exact LX I I I I _) ?_;refine L ?_)|(refine VH.store I I I K I b.1 b.2 a I (L ?_)))
 generalize h.setRow c K=j at f g⊢;exact r7 (v:=jh K) (r8 I _ _ c VH.t _ (0,0) _ I f r6 I (by rw[b.1];exact VH.hi)) I ⟨I,g⟩
section
section
variable {P:oj} {ops:jq jK} {Q:Exit->Act->jj->Prop} {md:Region.Mode} {S:jj->Prop}
def ta(P:oj)(ops:jq jK)(S:jj->Prop):jg jc->(Act->jj->Prop)->Act->jj->Prop
 |[],K,a,w=>K a w
 |i::r,K,a,w=>∃o v,ops[i]?=T o/\fP P ops S o v a/\ta P ops S r K (a.put o.dst v) w
def vB(md:Region.Mode)(ops:jq jK):jg jc->jq jC->jC
 |[],_=>ji
 |i::r,a=>Region.free md ops a i&&(Region.ready md ops a).contains i&&vB md ops r (a.setIfInBounds i ji)
def nY:jg jc->jq jC->jq jC
 |[],a=>a
 |i::r,a=>nY r (a.setIfInBounds i ji)
theorem Hr(k:Region.noSelect ops=ji)(m:∀c a b w,Q (.panic c) a w->Q (.panic c) b w){K:Act->jj->Prop}{n:jc}{g:jq jC}(p:∀a w,K a w->im P md ops Q S ops.size n g a w):
 ∀(l:jg jc) (b:jq jC) (a:Act) (w:jj),vB md ops l b=ji->nY l b=g->S w->ta P ops S l K a w->im P md ops Q S ops.size (n+l.length) b a w
 |[],b,a,w,_,e,_,h=>by
  have d:b=g:=e;rw[d];exact p a w h
 |i::r,b,a,w,f,e,q,⟨o,v,s,t,h⟩=>by
  simp only[vB,mz]at f;refine vV s (Region.noSelect_spec k) (λc a d v w=>m c _ a w) (n+r.length) b a w (Region.free_spec s f.1.1) (λj c d u _=>(D5 j c d u).elim) (ak f.1.2) t q (Hr k m p r _ _ _ f.2 e q h)
def kU(md:Region.Mode)(ops:jq jK)(e f:jc)(g:jq jC):jc->jg (jc×jC)->jC->jC->jq jC->jC
 |0,b,c,d,a=>b.isEmpty&&c&&d&&(a==g)
 |n+1,b,c,d,a=>match b.head? with
  |some (k,ji)=>Region.free md ops a k&&(Region.ready md ops a).contains k&&kU md ops e f g n b.tail c d (a.setIfInBounds k ji)
  |_=> !(Region.ready md ops a).isEmpty&&(Region.ready md ops a).all λi=>
   (b.head?==T (i,jn)&&kU md ops e f g n b.tail c d (a.setIfInBounds i ji))||(i==e&& !c&&kU md ops e f g n b ji d (a.setIfInBounds i ji))||(i==f&& !d&&kU md ops e f g n b c ji (a.setIfInBounds i ji))
theorem tK{s t:jc}{u:jq jC}{l:jg (jc×jC)}{fe:jc}(x:Region.noSelect ops=ji)(y:∀c a r w,Q (.panic c) a w->Q (.panic c) r w)(g:jc->jC->jC->Act->jj->Prop)(q:∀j b f a w,g j b f a w->S w)
 (z:∀j i,l[j]?=T (i,ji)->∀b f a w,g j b f a w->∃o v,ops[i]?=T o/\fP P ops S o v a/\g (j+1) b f (a.put o.dst v) w) (B:∀j i,l[j]?=T (i,jn)->∀b f a w,g j b f a w->wpOp P ops Q i (g (j+1) b f) a w) (C:∀j f a w,g j jn f a w->wpOp P ops Q s (g j ji f) a w) (D:∀j b a w,g j b jn a w->wpOp P ops Q t (g j b ji) a w)
 (E:∀a w,g l.length ji ji a w->im P md ops Q S ops.size fe u a w):
 ∀(n j:jc) (b f:jC) (p:jq jC) (a:Act) (w:jj),j<=l.length->kU md ops s t u n (l.drop j) b f p=ji->g j b f a w->im P md ops Q S ops.size (fe+n) p a w
 |0,j,b,f,p,a,w,F,m,h=>by
  simp only[kU,mz,beq_iff_eq,List.isEmpty_iff,List.drop_eq_nil_iff]at m;obtain⟨⟨⟨d,rfl⟩,rfl⟩,rfl⟩:=m;obtain rfl:j=l.length:=Y;exact E a w h
 |n+1,j,b,f,p,a,w,F,m,h=>by
  rw[kU,List.head?_drop]at m
  by_cases K:∃k,l[j]?=T (k,ji)
  ·obtain⟨k,e⟩:=K
   rw[e]at m;simp only[mz]at m;have H:j<l.length:=(jU.1 e).1;obtain⟨o,v,M,R,U⟩:=z j k e b f a w h;rw[wi]at m;refine vV M (Region.noSelect_spec x) (λc a d v w=>y c _ a w) (fe+n) p a w (Region.free_spec M m.1.1) (λj c F d _=>(D5 j c F d).elim) (ak m.1.2) R (q _ _ _ _ _ h) (tK x y g q z B C D E n (j+1) b f _ _ w H m.2 U)
  have d:(!(Region.ready md ops p).isEmpty&&(Region.ready md ops p).all λi=>
   (l[j]?==T (i,jn)&&kU md ops s t u n (l.drop j).tail b f (p.setIfInBounds i ji))||(i==s&& !b&&kU md ops s t u n (l.drop j) ji f (p.setIfInBounds i ji))||(i==t&& !f&&kU md ops s t u n (l.drop j) b ji (p.setIfInBounds i ji)))=ji:=by
   split at m
   ·rename_i k e
    exact ju ⟨k,e⟩ K
   exact m
  simp only[mz,wq]at d;refine λ_=>⟨λv=>(by rw[v]at d;simp at d),λi M=>?_⟩
  have o:=d.2 i M;simp only[wt,mz,beq_iff_eq,Bool.not_eq_true']at o
  rcases o with(⟨e,k⟩|⟨⟨rfl,rfl⟩,k⟩)|⟨⟨rfl,rfl⟩,k⟩
  ·rw[wi]at k
   have H:j<l.length:=(jU.1 e).1;exact wpOp_mono (λr w' c=>⟨.inr (q _ _ _ _ _ c),tK x y g q z B C D E n (j+1) b f _ r w' H k c⟩) (B j i e b f a w h)
  ·exact wpOp_mono (λr w' c=>⟨.inr (q _ _ _ _ _ c),tK x y g q z B C D E n j ji f _ r w' F k c⟩) (C j f a w h)
  exact wpOp_mono (λr w' c=>⟨.inr (q _ _ _ _ _ c),tK x y g q z B C D E n j b ji _ r w' F k c⟩) (D j b a w h)
theorem uk{r:jc}{a:Act}{w:jj}(S:jj->Prop)(g:jg jc)(b:jg (jc×jC))(h k:jc)(t:bE)(d:jc->jC->jC->Act->jj->Prop)(s:P.follows .mixedOrders=ji)(l:Region.noSelect ops=ji)
 (u:vB .any ops g (qf ops.size jn)=ji) (x:kU .any ops h k (nY (b.map Prod.fst++[h,k]) (nY g (qf ops.size jn))) (b.length+2) b jn jn (nY g (qf ops.size jn))=ji)
 (y:gz .any ops t (nY (b.map Prod.fst++[h,k]) (nY g (qf ops.size jn)))=ji) (H:g.length+(b.length+2)+t.len<=ops.size) (m:∀c a p w,Q (.panic c) a w->Q (.panic c) p w)
 (z:S w.drew) (q:∀j c e a w,d j c e a w->S w)
 (B:∀j i,b[j]?=T (i,ji)->∀c e a w,d j c e a w->∃o v,ops[i]?=T o/\fP P ops S o v a/\d (j+1) c e (a.put o.dst v) w) (o:∀j i,b[j]?=T (i,jn)->∀c e a w,d j c e a w->wpOp P ops Q i (d (j+1) c e) a w) (i:∀j e a w,d j jn e a w->wpOp P ops Q h (d j ji e) a w) (v:∀j c a w,d j c jn a w->wpOp P ops Q k (d j c ji) a w)
 (j:∀a w,d b.length ji ji a w->eD P ops Q S t a w) (C:ta P ops S g (d 0 jn jn) a w.drew):(Code.region r ops ji).wp P Q a w:=by
 refine wp_region_any s (rK (S:=S) (f:=ops.size) _ _ _ _ (iM.zero _) ?_);have e:ops.size=(ops.size-g.length-(b.length+2))+(b.length+2)+g.length:=Y;have key:=Hr (md:=.any) (S:=S) l m (K:=d 0 jn jn) (n:=ops.size-g.length-(b.length+2)+(b.length+2)) (λp w' D=>tK (md:=.any) (fe:=ops.size-g.length-(b.length+2)) l m d q B o i v (λE F c=>kC l m t _ _ _ _ Y y (bE.waits_size t) (.inr (q _ _ _ _ _ c)) (eK.toF t _ _ (j E F c))) (b.length+2) 0 jn jn _ p w' (jN _) x D) g _ a w.drew u I z C;rw[<-e]at key;exact key
theorem nD{i:jc}{o:jK}{v:jl}{r:jg jc}{K:Act->jj->Prop}{a:Act}{w:jj}(b:ops[i]?=T o)(c:Region.wanted o (yielded ops a.tmps)=ji)
 (d:∀w,S w->(jP a.eval o).run P w=.ok (.value v) w) (h:ta P ops S r K (a.put o.dst v) w):ta P ops S (i::r) K a w:=
 ⟨o,v,b,.inl ⟨c,λw e=>.inl (d w e)⟩,h⟩
end
end
theorem kzl(b:nn 8):(kz b).length=32:=by unfold kz;simp
structure gH(w:jj):Prop where
 t:lq w
 s:iD w
theorem gH.below(h:gH w)(a:jk w w w'):gH w':=⟨h.t.below a,h.s.below a⟩
abbrev ptr(g:jc):jl:=jt (T ⟨g,0,jf⟩)
def iw(c:jM)(Z:jq jl)(d:jj)(b:jC)(a:jl)(W:jj):Prop:=
 (b=ji->∃g,a=ptr g/\W.heap[g]?=T (ja Z c (0,0))/\d.heap.size<=g)/\(b=jn->a=jm)
theorem iw.keep{a:jM}{Z:jq jl}{c d:jj}{b:jC}{f:jl}(h:iw a Z c b f W)(i:jk W W d):iw a Z c b f d:=
 ⟨λe=>let⟨g,j,k,l⟩:=h.1 e;⟨g,j,av k i,l⟩,h.2⟩
theorem iw.ne{X:jq jl}{b:jC}(h:iw p X w b j W){g:jc}(i:W.heap.size<=g):j≠ptr g:=by
 cases b with
 |true=>
  obtain⟨k,rfl,f,-⟩:=h.1 I;intro e;injection e with e
  injection e with e
  injection e with e
  have:=(jA.1 f).1;omega
 |false=>rw[h.2 I];intro e;cases e
def Pq(b:jj)(M:jc)(e:jq jl)(d:jc)(V:jl)(f:jG Addr)(h cl:jc)(i l:jq jl)(c:Cmt)(k:jq jl)(j:jc)(m n:jC)(a:Act)(W:jj):Prop:=
 ∃Wt T12 T16 T23 T24 T26 T27 T28 T29 T30,a={tmps:=#[jh e,jd je (d:jb),V,A f h cl,ptr M,jm,jm,jm,ptr (M+1),ptr (M+2),.bool jn,Wt,T12,jm,jm,jm,T16,jh e,jd je (d:jb),jd je (d:jb),jd je ((d:jb)+2),A f h cl,V,T23,T24,V,T26,T27,T28,T29,T30,jm,jm,jm,jm,jm,jm,jm,jm,jm,jm,jm,jm,jm,jm],defers:=[]}/\jk b b W/\(1<=j->T23=jh i)/\(2<=j->T24=jh l)/\(3<=j->T26=jh i)/\
  (4<=j->∃(q:CQ) (D:jc->Prop),(T27=jI #[jh (aF c q).toArray,jh k,jd je 0]/\(5<=j->T16=T27)/\(6<=j->T28=jh (aF c q).toArray)/\(7<=j->T29=jh k)/\(8<=j->T30=jd je 0))/\aZ D W c q/\∀g,D g->b.heap.size<=g/\g<W.heap.size/\Wt≠ptr g/\T12≠ptr g)/\
  iw VC.t VC.Z b m Wt W/\iw VY.t VY.Z b n T12 W
theorem Rn(g:Grp)(vm vt:jl)(d:jc)(m:d<512)(b:nn 8)(vl:jl)(ch:jg ap)(w:jj)(j:bW w g vm vt)(p:aH (·<w.heap.size) w vl 5 ch.length (ch.flatMap ap.cells))(hT:gH w)(t:gZ g (d:jb) ((d+2:jc):jb) ch=0)
 (c:Cmt) (V:c=mkC g (d:jb) (d+2) ch (kz b) (kz 1) (kz b)) (X:cQ g c=0) (hE:da (aR c)) (u:g.mem.length<=900000) (z:g.tree.length<=600000) (a6:ch.length<=1000000):
 jB jo 10 #[jh (aD g vm vt).toArray,jd je (d:jb),v8 b,vl] w λe w'=>∃q x y,e=jz (jI #[jh (aF c q).toArray,jh (aD (aC g c) x y).toArray,.bool ji])/\
  aZ (λk=>w.heap.size<=k/\k<w'.heap.size) w' c q/\bW w' (aC g c) x y/\Fr w.heap.size x/\Fr w.heap.size y/\jk w w w':=by
 obtain⟨pl,cl,rfl⟩:=p.form;obtain⟨nl,B⟩:=J ch.length;obtain⟨S,i⟩:=J ((aD g vm vt).toArray);obtain⟨KA,C⟩:=J (kzA b);obtain⟨K1,D⟩:=J (kzA 1);obtain⟨s,l⟩:=J (((dM g (kz b) (kz 1)).map v8).toArray);obtain⟨NG,E⟩:=J (aC g c);have bl:N (S.size=VG.n):=O (by rw[i,jv];exact eX j.llen);have bm:N (∀W,jk w w W->jB jo 24 #[jh S,jd je (d:jb),jd je ((d:jb)+2),A pl nl cl,jh KA,jh K1,jh KA] W λe w'=>(∃q,e=jz (jI #[jh (aF c q).toArray,jh s,jd je 0])/\aZ (λk=>W.heap.size<=k/\k<w'.heap.size) w' c q)/\jk W W w'):=O (λW a=>by
  have h:=Ru g vm vt (A pl ch.length cl) (d:jb) ((d+2:jc):jb) ch (kz b) (kz 1) (kz b) W (j.below a) ((p.keep λk n=>a.block k n).mono λk (n:k<w.heap.size)=>jJ n a.size) (kzl _) (kzl _) (kzl _) (hT.t.below a) (hT.s.below a) u z a6 t;rw[t]at h;rw[i,C,D,l,B,show(d:jb)+2=((d+2:jc):jb) by omega];refine h.mono ?_;rintro e w' ⟨h1,-,f⟩;have r:=h1 I;rw[qH,<-V]at r;exact⟨r,f⟩)
 have bv:N (∀W q,jk w w W->aZ (·<W.heap.size) W c q->jB jo 26 #[jh S,jh (aF c q).toArray] W λe w'=>(∃vm vt,e=jz (jI #[jh (aD NG vm vt).toArray,jd je 0])/\bW w' NG vm vt/\Fr W.heap.size vm/\Fr W.heap.size vt)/\jk W W w'):=O (λW q a r=>by
  rw[i,E];refine(Dr g vm vt c q W (j.below a) r hE (hT.s.dig.below a) u z).mono ?_;rintro e w' ⟨h1,-,f⟩;exact⟨h1 X,f⟩)
 have ad:N (∀W,jB jo 25 #[v8 b] W λe w'=>e=jz (jh KA)/\jk W W w'):=O (λW=>by rw[C];exact C0 b W);have bn:N (∀W,jB jo 25 #[jd .u8 1] W λe w'=>e=jz (jh K1)/\jk W W w'):=O (λW=>by rw[D];exact C0 1 W);have a5:N (s.size=VY.n/\s.all (·.oneCell')=ji):=O ⟨by rw[l,jv,jw,lD];rfl,by rw[l,jR];exact λa1 hu=>gS _ a1 (ak hu)⟩;rw[<-i];rw[<-B];obtain⟨P,F⟩:∃P:Ending->jj->Prop,P=λe w'=>∃q x y,e=jz (jI #[jh (aF c q).toArray,jh (aD (aC g c) x y).toArray,.bool ji])/\
  aZ (λk=>w.heap.size<=k/\k<w'.heap.size) w' c q/\bW w' (aC g c) x y/\Fr w.heap.size x/\Fr w.heap.size y/\jk w w w':=⟨_,I⟩
 have HP:N (∀e w',(∃q x y,e=jz (jI #[jh (aF c q).toArray,jh (aD NG x y).toArray,.bool ji])/\aZ (λk=>w.heap.size<=k/\k<w'.heap.size) w' c q/\bW w' NG x y/\Fr w.heap.size x/\Fr w.heap.size y/\jk w w w')->P e w'):=O (by
  rw[F,E];exact λe w' h=>h)
 rw[<-F];obtain⟨x1,M,H,K,UT,f⟩:=dt w S VG.t;obtain⟨x2,M1,au,Q,U8,aa⟩:=dt x1 VC.Z VC.t;obtain⟨x3,M2,Za,R,ba,a⟩:=dt x2 VG.Z VG.t;have e1:M1=M+1:=by rw[Q,H,jp,K]
 have e2:M2=M+2:=by rw[R,au,jp,<-Q,e1]
 subst e1;subst e2;have U:=f.trans (aa.mono f.size);replace UT:=O (av (av UT aa) a);replace U8:=ae U8 a;have HB:N (jk w w x3):=O (U.trans (a.mono U.size));have HW:N (x3=((w.alloc (ja S VG.t)).alloc (ja VC.Z VC.t)).alloc (ja VG.Z VG.t)):=O (by rw[Za,au,H]);have HM:=O K;have Zp:N (x3.heap.size=M+3):=O (by rw[Za,jp,<-R]);clear H au Za K Q R f aa a U i C D l E F j p hT t V X hE u z a6 B
 go_enter func10,ntmps10
 go_upto_region 1 with(first|(refine VC.made I I (L ?_))|(refine VG.made I I (L ?_)))
 rw[show((w.alloc (ja S 51)).alloc (ja VC.Z VC.t)).alloc (ja VG.Z VG.t)=x3 from HW.symm]
 try simp only[jp]
 try rw[show w.heap.size+1+1=w.heap.size+2 from I]
 rw[<-HM];clear HW;obtain⟨V,a⟩:=J (v8 b);rw[<-a]at ad⊢;clear a;have f:=bX x3;obtain⟨x4,hx⟩:=J x3.drew;rw[<-hx]at f;have bo:=O hx;replace UT:=ae UT f;replace U8:=ae U8 f;replace ba:=ae ba f;replace HB:=ai HB f;have bp:N (M+3<=x4.heap.size):=O (by rw[<-Zp];exact f.size);clear hx f Zp;refine jL ?_;refine uk (λt=>t.heap[M]?=T (ja S VG.t (0,0))) [0,1,2,3,4,5,8] [(6,jn),(7,jn),(9,jn),(10,jn),(11,ji),(12,ji),(13,ji),(14,ji)] 15 16 (.one 17 (.one 18 (.take 19 .done))) (Pq x4 M S d V pl nl cl KA K1 c s) af af af af af G (λ_ _ _ _ h=>h) (by rw[<-bo];exact UT) ?hI ?hT ?hC ?h1 ?h2 ?hE ?h0
 case hI=>
  rintro j U b2 a W ⟨Wt,T12,T16,T23,T24,T26,T27,T28,T29,T30,rfl,l,-⟩;exact av UT l
 case h1=>
  rintro j b2 a W ⟨Wt,T12,T16,T23,T24,T26,T27,T28,T29,T30,rfl,l,E,F,H,R,z,B⟩;refine p6 (o:=_) I (λX u=>?_);rw[jr aj];refine gK VC.t I VC.Z VC.hal ?_;have f:=ao W (ja VC.Z VC.t);refine u _ _ ⟨ptr W.heap.size,T12,T16,T23,T24,T26,T27,T28,T29,T30,I,l.trans (f.mono l.size),E,F,H,λe=>?_,⟨λ_=>⟨_,I,jy _ _,l.size⟩,λh=>(by cases h)⟩,B.keep f⟩;obtain⟨q,D,K,r,m⟩:=R e;exact⟨q,D,K,r.keep λg p=>f.block g (m g p).2.1,λg p=>⟨(m g p).1,jJ (m g p).2.1 f.size,(λe=>by injection e with e;injection e with e;injection e with e;have:=(m g p).2.1;omega),(m g p).2.2.2⟩⟩
 case h2=>
  rintro j U a W ⟨Wt,T12,T16,T23,T24,T26,T27,T28,T29,T30,rfl,l,E,F,H,R,z,B⟩;refine p6 (o:=_) I (λX u=>?_);rw[jr aj];refine gK VY.t I VY.Z VY.hal ?_;have f:=ao W (ja VY.Z VY.t);refine u _ _ ⟨Wt,ptr W.heap.size,T16,T23,T24,T26,T27,T28,T29,T30,I,l.trans (f.mono l.size),E,F,H,λe=>?_,z.keep f,⟨λ_=>⟨_,I,jy _ _,l.size⟩,λh=>(by cases h)⟩⟩;obtain⟨q,D,K,r,m⟩:=R e;exact⟨q,D,K,r.keep λg p=>f.block g (m g p).2.1,λg p=>⟨(m g p).1,jJ (m g p).2.1 f.size,(m g p).2.2.1,(λe=>by injection e with e;injection e with e;injection e with e;have:=(m g p).2.1;omega)⟩⟩
 case h0=>
  rw[<-bo]
  (refine nD (v:=jh S) I aj (λt Q=>dh VG.hu VG.hd (by rw[bl];exact VG.hi) I I Q) ?_;refine L ?_)
  iterate 2 (refine nD (v:=jd je (d:jb)) I aj (λt Q=>by go_simp;try with_reducible rfl) ?_;refine L ?_)
  (refine nD (v:=jd je ((d:jb)+2)) I aj (λt Q=>by have e:=wrap_small ((d:jb)+2) Y Y;go_simp;try rw[e];try with_reducible rfl) ?_;refine L ?_)
  (refine nD (v:=A pl nl cl) I aj (λt Q=>by go_simp;try with_reducible rfl) ?_;refine L ?_)
  iterate 2 (refine nD (v:=V) I aj (λt Q=>by go_simp;try with_reducible rfl) ?_;refine L ?_)
  exact⟨jm,jm,jm,jm,jm,jm,jm,jm,jm,jm,I,qa _ _,λh=>ju h G,λh=>ju h G,λh=>ju h G,λh=>ju h G,⟨λh=>(by cases h),λ_=>rfl⟩,⟨λh=>(by cases h),λ_=>rfl⟩⟩
 case hT=>
  rintro j i C U b2 a W ⟨Wt,T12,T16,T23,T24,T26,T27,T28,T29,T30,rfl,l,E,F,H,R,z,B⟩
  rcases j with _ |_ |_ |_ |_ |_ |_ |_ |j
  iterate 4 (·simp at C)
  ·obtain rfl:i=11:=ak C.symm
   obtain⟨q,D,K,r,m⟩:=R Y;refine⟨_,T27,I,.inl ⟨by rfl,λt Q=>.inl (by go_simp;try with_reducible rfl)⟩,?_⟩;exact⟨Wt,T12,T27,T23,T24,T26,T27,T28,T29,T30,I,l,λ_=>E Y,λ_=>F Y,λ_=>H Y,λ_=>⟨q,D,⟨K.1,λ_=>rfl,(λh=>ju h Y),(λh=>ju h Y),(λh=>ju h Y)⟩,r,m⟩,z,B⟩
  ·obtain rfl:i=12:=ak C.symm
   obtain⟨q,D,⟨rfl,ac,ax,ay,a2⟩,r,m⟩:=R Y;obtain rfl:=ac Y;refine⟨_,jh (aF c q).toArray,I,.inl ⟨by rfl,λt Q=>.inl (by go_simp;try with_reducible rfl)⟩,?_⟩;exact⟨Wt,T12,_,T23,T24,T26,_,_,T29,T30,I,l,λ_=>E Y,λ_=>F Y,λ_=>H Y,λ_=>⟨q,D,⟨I,λ_=>rfl,λ_=>rfl,(λh=>ju h Y),(λh=>ju h Y)⟩,r,m⟩,z,B⟩
  ·obtain rfl:i=13:=ak C.symm
   obtain⟨q,D,⟨rfl,ac,ax,ay,a2⟩,r,m⟩:=R Y;obtain rfl:=ac Y;refine⟨_,jh s,I,.inl ⟨by rfl,λt Q=>.inl (by go_simp;try with_reducible rfl)⟩,?_⟩;exact⟨Wt,T12,_,T23,T24,T26,_,T28,_,T30,I,l,λ_=>E Y,λ_=>F Y,λ_=>H Y,λ_=>⟨q,D,⟨I,λ_=>rfl,λ_=>ax Y,λ_=>rfl,(λh=>ju h Y)⟩,r,m⟩,z,B⟩
  ·obtain rfl:i=14:=ak C.symm
   obtain⟨q,D,⟨rfl,ac,ax,ay,a2⟩,r,m⟩:=R Y;obtain rfl:=ac Y;refine⟨_,jd je 0,I,.inl ⟨by rfl,λt Q=>.inl (by go_simp;try with_reducible rfl)⟩,?_⟩;exact⟨Wt,T12,_,T23,T24,T26,_,T28,T29,_,I,l,λ_=>E Y,λ_=>F Y,λ_=>H Y,λ_=>⟨q,D,⟨I,λ_=>rfl,λ_=>ax Y,λ_=>ay Y,λ_=>rfl⟩,r,m⟩,z,B⟩
  simp at C
 case hC=>
  rintro j i C U b2 a W ⟨Wt,T12,T16,T23,T24,T26,T27,T28,T29,T30,rfl,l,E,F,H,R,z,B⟩
  rcases j with _ |_ |_ |_ |_ |_ |_ |_ |j
  ·obtain rfl:i=6:=ak C.symm
   refine p6 (o:=_) I (λX u=>?_);go_simp;refine(ad W).mono ?_;rintro e t ⟨rfl,f⟩;exact u _ _ ⟨Wt,T12,T16,_,T24,T26,T27,T28,T29,T30,I,l.trans (f.mono l.size),λ_=>rfl,(λh=>ju h Y),(λh=>ju h Y),λe=>ju e Y,z.keep f,B.keep f⟩
  ·obtain rfl:i=7:=ak C.symm
   refine p6 (o:=_) I (λX u=>?_);go_simp;refine(bn W).mono ?_;rintro e t ⟨rfl,f⟩;exact u _ _ ⟨Wt,T12,T16,_,_,T26,T27,T28,T29,T30,I,l.trans (f.mono l.size),λ_=>rfl,λ_=>rfl,(λh=>ju h Y),λe=>ju e Y,z.keep f,B.keep f⟩
  ·obtain rfl:i=9:=ak C.symm
   refine p6 (o:=_) I (λX u=>?_);go_simp;refine(ad W).mono ?_;rintro e t ⟨rfl,f⟩;exact u _ _ ⟨Wt,T12,T16,_,_,_,T27,T28,T29,T30,I,l.trans (f.mono l.size),λ_=>rfl,λ_=>rfl,λ_=>rfl,λe=>ju e Y,z.keep f,B.keep f⟩
  ·obtain rfl:i=10:=ak C.symm
   obtain rfl:=E Y;obtain rfl:=F Y;obtain rfl:=H Y;refine p6 (o:=_) I (λX u=>?_);go_simp;refine(bm W (HB.trans (l.mono HB.size))).mono ?_;rintro e t ⟨⟨q,rfl,r⟩,f⟩;exact u _ _ ⟨Wt,T12,T16,_,_,_,_,T28,T29,T30,I,l.trans (f.mono l.size),λ_=>rfl,λ_=>rfl,λ_=>rfl,λ_=>⟨q,_,⟨I,(λh=>ju h Y),(λh=>ju h Y),(λh=>ju h Y),(λh=>ju h Y)⟩,r,λg p=>⟨jE l.size p.1,p.2,z.ne p.1,B.ne p.1⟩⟩,z.keep f,B.keep f⟩
  iterate 5 (·simp at C)
 rintro a W ⟨Wt,T12,T16,T23,T24,T26,T27,T28,T29,T30,rfl,l,E,F,H,R,z,B⟩;obtain⟨q,D,⟨rfl,ac,ax,ay,a2⟩,r,m⟩:=R G;obtain rfl:=ac G;obtain rfl:=ax G;obtain rfl:=ay G;obtain rfl:=a2 G;obtain rfl:=E G;obtain rfl:=F G;obtain rfl:=H G;obtain⟨C,rfl,hC,bg⟩:=z.1 I;obtain⟨K,rfl,u,bq⟩:=B.1 I;have bh:C≠K:=by
  rintro rfl;rw[hC]at u;simp[VC,VY]at u
 have bb:w.heap.size<=x4.heap.size:=HB.size;have bi:=bp.out;obtain⟨i,j⟩:=J ((aF c q).toArray);have Z3:N (i.size=VC.n):=O (by rw[j,jv];exact dz _ _ r.plen r.clen);have br:N (i.all (·.oneCell')=ji):=O (by
  rw[j,jR];exact λa1 hu=>nj r a1 (ak hu))
 have UB:=O (jT W C _ i _ _ hC);have bs:=(js W C K i (Ne.symm bh)).trans u;have Uy:=O ((js (W.setRow C i) K C s bh).trans UB);have bc:∀k,k<x4.heap.size->((W.setRow C i).setRow K s).heap[k]?=x4.heap[k]?:=λk n=>(js _ K k s Y).trans ((js W C k i Y).trans (l.block k n))
 have bd:N (((W.setRow C i).setRow K s).heap[M]?=T (ja S VG.t (0,0))):=O ((bc M Y).trans UT);have a3:N (((W.setRow C i).setRow K s).heap[M+1]?=T (ja VC.Z VC.t (0,0))):=O ((bc (M+1) Y).trans U8);have a4:N (((W.setRow C i).setRow K s).heap[M+2]?=T (ja VG.Z VG.t (0,0))):=O ((bc (M+2) Y).trans ba);have Ug:N (jk w w ((W.setRow C i).setRow K s)):=O (nv (nv (HB.trans (l.mono bb)) (jE bb bg) i) (jE bb bq) s);have bk:((W.setRow C i).setRow K s).heap.size=W.heap.size:=by rw[setRow_size,setRow_size]
 have bf:N (aZ (λk=>x4.heap.size<=k/\k<((W.setRow C i).setRow K s).heap.size) ((W.setRow C i).setRow K s) c q):=O ((r.keep λg p=>(js _ K g s (λe=>(m g p).2.2.2 (by rw[e]))).trans (js W C g i (λe=>(m g p).2.2.1 (by rw[e])))).mono λg p=>⟨(m g p).1,by rw[bk];exact(m g p).2.1⟩);have Vh:N (C<((W.setRow C i).setRow K s).heap.size):=O (by rw[bk];exact(jA.1 hC).1);have bu:=O j;rw[<-j];refine aE I (λX U=>?_);rw[jr aj];refine jQ VC.t _ _ I C i I I VC.t VC.Z hC (by rw[Z3];exact VC.hi) (VC.hZ.trans Z3.symm) br ?_;refine U _ _ ((js W C M i Y).trans ((l.block M Y).trans UT)) λ_=>?_
 clear U;refine L ?_;refine aE I (λX U=>?_);rw[jr aj];refine jQ VY.t _ _ I K s I I VY.t VY.Z bs (by rw[a5.1];exact VY.hi) (VY.hZ.trans a5.1.symm) a5.2 ?_;refine U _ _ bd.out λ_=>?_
 clear U;refine L ?_;have UK:=O bg;generalize(W.setRow C i).setRow K s=y1 at Uy bd a3 a4 Ug bf Vh⊢;clear hC u bg bq l E F H R ac ax ay a2 z B r m bh j bs bc bk UB UT U8 ba bm ad bn a5 bb bi;refine aP ?_;refine ob ?_
 go_wp2_with (first|(refine VG.loadA aj I I S bl bd (L ?_))|(refine VC.loadA aj I I i Z3 Uy (L ?_)))
 have ad:=bv y1 q Ug (bf.mono λk n=>n.2);rw[<-bu]at ad;refine ad.mono ?_;rintro e y2 ⟨⟨x,y,rfl,ZP,ba,bb⟩,f⟩;obtain⟨j,p⟩:=J ((aD NG x y).toArray);have a5:N (j.size=VG.n):=O (by rw[p,jv];exact eX ZP.llen);have Vl:N (j.all (·.oneCell')=ji):=O (by rw[p,jR];exact λa1 hu=>mQ ZP a1 (ak hu));have bk:=O p;have bg:=O (dO.of ZP ba bb);have bh:N (aZ (λk=>x4.heap.size<=k/\k<y2.heap.size) y2 c q):=O ((bf.keep λk n=>f.block k n.2).mono λk n=>⟨n.1,jJ n.2 f.size⟩);have HF:N (Fr y1.heap.size x/\Fr y1.heap.size y):=O ⟨ba,bb⟩;replace Uy:=ae Uy f;replace a3:=ae a3 f;replace a4:=ae a4 f;have Uj:=ai Ug f;have bc:N (x4.heap.size<=y1.heap.size/\y1.heap.size<=y2.heap.size):=O ⟨by have:=Vh.out;have:=UK.out;omega,f.size⟩;rw[<-p];clear ad ZP ba bb p f bd Ug bf
 go_upto_region 3 with(first|(refine VG.made I I (L ?_))|(refine VG.first I I I j I a5 Vl (L ?_)))
 obtain⟨y3,bx,hx,hb,bf,f⟩:=dt y2 j VG.t;rw[<-hx,<-hb];have aa:=bX y3;obtain⟨p,ba⟩:=J y3.drew;rw[<-ba]at aa;have ad:jk y2 y2 p:=f.trans (aa.mono f.size);have bb:=av bf aa;have bd:=av Uy ad;have au:=av a3 ad;have Za:=av a4 ad;refine jL ?_;refine fM (λt=>t.heap[C]?=T (ja i VC.t (0,0))/\t.heap[bx]?=T (ja j VG.t (0,0))) 10 (.take 0 (.take 1 (.take 2 (.take 3 (.take 4 (.take 5 (.take 6 (.take 7 (.one 8 (.one 9 (.one 10 .done))))))))))) af af af af G (λ_ _ _ _ h=>h) (by rw[<-ba];exact⟨bd,bb⟩) ?_;rw[<-ba];have bm:bx=y2.heap.size:=hb;have bn:N (aZ (λk=>x4.heap.size<=k/\k<y2.heap.size) p c q):=O (bh.keep λk n=>ad.block k n.2);have bq:N (dO (λk=>y1.heap.size<=k/\k<y2.heap.size) p NG x y):=O (bg.keep λk n=>ad.block k n.2);have Uq:=ai Uj ad;have WC:=O ad.size;clear hx hb f aa ba ad bf bh bg Uj Uy a3 a4
 (refine cJ (v:=jh i) I aj (λt Q=>dh VC.hu VC.hd (by rw[Z3];exact VC.hi) I I Q.1) ?_;refine L ?_)
 (refine cJ (v:=jh j) I aj (λt Q=>dh VG.hu VG.hd (by rw[a5];exact VG.hi) I I Q.2) ?_;refine L ?_)
 iterate 6 refine co ?_
 have bi:=bp.out;have Vr:=UK.out;have a6:=Vh.out;have a4:=bc.1;have Q:C≠M+1:=Y;have n2:C≠M+2:=Y;have n3:bx≠M+1:=by have:=bc.2;omega
 have n4:bx≠M+2:=by have:=bc.2;omega
 have r1:=(js p (M+1) C i Q).trans bd;have r2:=(js p (M+1) bx i n3).trans bb;have r3:=jT p (M+1) _ i _ _ au;have h:=(js p (M+1) (M+2) i Y).trans Za;refine cV I (λX U=>?_);rw[jr aj];refine jQ VC.t _ _ I (M+1) i I I VC.t VC.Z au (by rw[Z3];exact VC.hi) (VC.hZ.trans Z3.symm) br ?_;refine U _ _ ⟨r1,r2⟩ λ_=>?_
 clear U;refine L ?_;have s1:=(js (p.setRow (M+1) i) (M+2) C j n2).trans r1;have s2:=(js (p.setRow (M+1) i) (M+2) bx j n4).trans r2;have U5:=O ((js (p.setRow (M+1) i) (M+2) (M+1) j Y).trans r3);have UE:=O (jT (p.setRow (M+1) i) (M+2) _ j _ _ h);refine cV I (λX U=>?_);rw[jr aj];refine jQ VG.t _ _ I (M+2) j I I VG.t VG.Z h (by rw[a5];exact VG.hi) (VG.hZ.trans a5.symm) Vl ?_;refine U _ _ ⟨s1,s2⟩ λ_=>?_
 clear U;refine L ?_;refine nA I G af (λX u=>?_);go_simp;refine u _ _ ?_;clear u;refine L ?_;refine fb ?_;have t:∀k,M+3<=k->((p.setRow (M+1) i).setRow (M+2) j).heap[k]?=p.heap[k]?:=λk n=>(js _ _ k _ Y).trans (js _ _ k _ Y)
 have ba:w.heap.size=M:=HM.symm;have U:N (jk w w ((p.setRow (M+1) i).setRow (M+2) j)):=O (nv (nv Uq Y i) Y j);have X:((p.setRow (M+1) i).setRow (M+2) j).heap.size=p.heap.size:=by rw[setRow_size,setRow_size]
 have aa:N (aZ (λk=>w.heap.size<=k/\k<((p.setRow (M+1) i).setRow (M+2) j).heap.size) ((p.setRow (M+1) i).setRow (M+2) j) c q):=O ((bn.keep λk n=>t k (cT n.1)).mono λk n=>⟨by have:=n.1;omega,by rw[X];exact jJ n.2 WC⟩);have ad:N (bW ((p.setRow (M+1) i).setRow (M+2) j) NG x y):=O (bq.keep λk n=>t k (cT n.1)).grp;have a3:N (Fr w.heap.size x/\Fr w.heap.size y):=O ⟨HF.1.mono Y,HF.2.mono Y⟩;clear t ba X s1 s2 r1 r2 r3 h Q n2 n3 n4 bd bb au Za bi Vr a6 a4 bm;generalize(p.setRow (M+1) i).setRow (M+2) j=h at U5 UE U aa ad⊢;refine‹∀(a:Act) (w:jj),Code.wp jo Code.ret (bodyPost jo _ P) a w->_› _ _ ?_;refine wp_ret ?_;show bodyPost _ _ P .ret _ _;refine qj (FO I _ _ (M+1) (M+2) VC.t VG.t i j (0,0) (0,0) _ _ I I U5 UE o1 I (by rw[Z3];exact VC.hi) qO I (by rw[a5];exact VG.hi)) I (HP _ _ ⟨q,x,y,by rw[bu,bk];rfl,aa,ad,a3.1,a3.2,U⟩)
theorem CN(x y:jb):cD x y<0↔x<y:=by
 unfold cD
 split
 ·constructor<;>intro<;>first|assumption|decide
 split
 ·constructor
  ·intro h;exact ju h G
  intro h;omega
 constructor
 ·intro h;exact ju h G
 intro h;omega
theorem Bi(x y:jb):cD x y=0↔x=y:=by
 unfold cD
 split
 ·constructor
  ·intro h;exact ju h G
  intro h;omega
 split
 ·constructor
  ·intro h;exact ju h G
  intro h;omega
 constructor
 ·intro h;omega
 intro h;rfl
theorem Kr{b:aN}(h:x.com.author≠b.com.author):(kP x b<0↔x.since<b.since\/x.since=b.since/\x.com.author<b.com.author):=by
 unfold kP
 by_cases d:x.since=b.since
 ·rw[jD (by rw[(Bi _ _).2 d];exact λh=>h I),jr (λe=>h ((Bi _ _).1 e)),CN]
  constructor
  ·exact λc=>.inr ⟨d,c⟩
  rintro(c|c)
  ·omega
  exact c.2
 rw[jr (λe=>d ((Bi _ _).1 e)),CN]
 constructor
 ·exact .inl
 rintro(c|c)
 ·exact c
 exact ju c.1 d
def wL(g:Grp)(a b:Cmt):Prop:=eS g a.author<eS g b.author\/eS g a.author=eS g b.author/\a.author<b.author
noncomputable def cN(g:Grp)(c:Cmt)(i:jc):aN:=⟨i,c,aG c,eS g c.author,aC g c⟩
theorem MU(x y:aN):[x,y].mergeSort leC=if leC x y=ji then [x,y]else [y,x]:=by
 cases h:leC x y with
 |true=>simp[wv,List.MergeSort.Internal.splitInTwo,List.merge,h]
 |false=>simp[wv,List.MergeSort.Internal.splitInTwo,List.merge,h]
theorem Jz{y:aN}(h:x.com.author≠y.com.author)(a:oX x.com y.com.author=ji):([x,y].foldl gr ([],jf)).2=T x:=by
 have b:gr ([],jf) x=([x],T x):=by
  unfold gr;rw[jD (by unfold rL;rw[List.any_nil];decide)];unfold wg;rw[jr I];rfl
 have c:gr ([x],T x) y=([x],T x):=by
  unfold gr;rw[jr];unfold rL;rw[List.any_cons,a,bne_iff_ne.2 h];rfl
 rw[rk,rk,rn,b,c]
noncomputable def tM(l:jg Cmt)(S:jg aN)(k:jc):jg aN:=match S[k]? with|none=>S|some c=>S++ff c.leads l
noncomputable def eC(l:jg Cmt)(c:aN):jc->jg aN
 |0=>[c]
 |k+1=>tM l (eC l c k) k
noncomputable def sH(l:jg Cmt)(c:aN):jg aN:=eC l c l.length
theorem Gw(h:S.length<=b):tM d S b=S:=by
 unfold tM;rw[List.getElem?_eq_none h]
theorem pW{l:jg Cmt}{k:jc}{c:aN}(h:S[k]?=T c):tM l S k=S++ff c.leads l:=by
 unfold tM;rw[h]
structure fg(l:jg Cmt)(g:Grp)(c:aN):Prop where
 ok:gB g l c
 par:c.com.parent=g.last
 least:∀j,j<c.ix->aG (aQ l j)≠c.id
theorem fg.ofU(h:x∈eP e d):fg d e x:=by
 obtain⟨a,b,-,l⟩:=ov h;exact⟨a,b,l⟩
theorem fg.com{g':Grp}{l:aN}(h:fg d e x)(b:fg d g' l)(g:x.id=l.id):x.com=l.com:=by
 have f:x.ix=l.ix:=by
  rcases wx x.ix l.ix with a|a|a
  ·exact ju (by rw[<-h.ok.com,<-h.ok.id];exact g) (b.least _ a)
  ·exact a
  exact ju (by rw[<-b.ok.com,<-b.ok.id];exact g.symm) (h.least _ a)
 rw[h.ok.com,b.ok.com,f]
theorem fg.last{l:jg Cmt}{g:Grp}{c:aN}(h:fg l g c):c.leads.last=c.id:=by rw[h.ok.leads,AB,h.ok.id]
theorem fg.epoch(h:fg d e x):x.leads.epoch=e.epoch+1/\x.com.epoch=e.epoch+1:=by
 have a:=(rP h.ok).ep;exact⟨by rw[h.ok.leads,iC];exact a,a⟩
theorem KH(g:Grp)(l:jg Cmt):((eP g l).map aN.id).Nodup:=by
 unfold eP;have n:(bU l l.length).Nodup:=by
  unfold bU;exact(List.nodup_range).filter _
 have key:∀(a:jg jc),a.Nodup->(∀i∈a,i∈bU l l.length)->((a.filterMap (eT g l)).map aN.id).Nodup:=by
  intro a
  induction a with
  |nil=>intro _ _;rw[qI,jY];exact List.nodup_nil
  |cons i a o=>
   intro f h;rw[xa]at f;have k:=o f.2 λj e=>h j (qc _ e)
   rw[jS]
   cases hc:eT g l i with
   |none=>exact k
   |some c=>
    dsimp only;rw[j1,xa];refine⟨λp=>?_,k⟩;obtain⟨d,q,he⟩:=qd.1 p;obtain⟨j,e,r⟩:=List.mem_filterMap.1 q;obtain⟨y,s,t,-⟩:=tO hc;obtain⟨z,u,v,-⟩:=tO r;have w:=(oR.1 (h i (qb ..))).2;have x:=(oR.1 (h j (qc _ e))).2;have m:aG (aQ l j)=aG (aQ l i):=by rw[<-u,<-v,<-s,<-t];exact he
    rcases wx i j with b|b|b
    ·exact x i b m.symm
    ·exact f.1 (b▸e)
    exact w j b m
 exact key _ n λi b=>b
theorem PZ(g:Grp)(l:jg Cmt):((ff g l).map aN.id).Nodup:=((List.mergeSort_perm (eP g l) leC).map aN.id).nodup_iff.2 (KH g l)
structure tE(l:jg Cmt)(a:Grp)(b:aN)(S:jg aN)(k:jc):Prop where
 head:S[0]?=T b
 par:∀i c,S[i]?=T c->0<i->∃n x,n<k/\n<i/\S[n]?=T x/\fg l x.leads c
 all:∀n x,n<k->S[n]?=T x->∀c∈eP x.leads l,c∈S
 ids:(S.map aN.id).Nodup
 ep:∀c∈S,a.epoch+1<=c.leads.epoch
theorem tE.at{l:jg Cmt}{b:Grp}{d:aN}{k:jc}(h:tE l b d S k)(e:fg l b d){i:jc}{c:aN}(a:S[i]?=T c):∃g,fg l g c/\(i=0->g=b):=by
 rcases i with _|i
 ·rw[h.head]at a
  injection a with a
  exact⟨b,by rw[<-a];exact e,λ_=>rfl⟩
 obtain⟨n,x,-,-,-,f⟩:=h.par _ c a (qU i);exact⟨_,f,λh=>ju h (Nat.succ_ne_zero i)⟩
theorem Qf(h:(S.map aN.id).Nodup){i j:jc}{c d:aN}(a:S[i]?=T c)(b:S[j]?=T d)(e:c.id=d.id):i=j:=by
 have f:(S.map aN.id)[i]?=T c.id:=by rw[qQ,a];rfl
 have g:(S.map aN.id)[j]?=T c.id:=by rw[qQ,b,Option.map_some,e]
 obtain⟨m,k⟩:=jU.1 f;obtain⟨n,l⟩:=jU.1 g;exact(List.getElem_inj h).1 (k.trans l.symm)
theorem BA(p:fg d e x):∀k,tE d e x (eC d x k) k
 |0=>by
  rw[eC];refine⟨by simp,?_,λn s t=>ju t (xd n),by simp,?_⟩
  ·intro i c h f
   cases i with
   |zero=>exact ju f (q9 0)
   |succ i=>simp at h
  intro c h;rw[jO]at h;rw[h,(p.epoch).1];omega
 |k+1=>by
  have h:=BA p k;rw[eC];generalize eC d x k=S at h⊢
  cases hx:S[k]? with
  |none=>
   have a:=List.getElem?_eq_none_iff.1 hx;rw[Gw a];refine⟨h.head,?_,?_,h.ids,h.ep⟩
   ·intro i c f q
    obtain⟨n,s,j,r⟩:=h.par i c f q;exact⟨n,s,by omega,r⟩
   intro n s t b c o;have:=(jU.1 b).1;exact h.all n s Y b c o
  |some s=>
   rw[pW hx];have w:=(jU.1 hx).1;obtain⟨R,D,-⟩:=h.at p hx;refine⟨by rw[pz Y];exact h.head,?_,?_,?_,?_⟩
   ·intro i c f q
    by_cases a:i<S.length
    ·rw[pz a]at f
     obtain⟨n,y,j,r,z,b⟩:=h.par i c f q;exact⟨n,y,by omega,r,by rw[pz Y];exact z,b⟩
    rw[List.getElem?_append_right Y]at f;exact⟨k,s,Nat.lt_succ_self k,by omega,by rw[pz w];exact hx,fg.ofU (sC.1 (j3 f))⟩
   ·intro n y t m c o
    by_cases a:n=k
    ·rw[a,pz w,hx]at m
     injection m with m
     rw[<-m]at o;exact sy _ (sC.2 o)
    have b:n<k:=Y;rw[pz Y]at m;exact sx _ (h.all n y b m c o)
   ·rw[mb,List.nodup_append]
    refine⟨h.ids,PZ _ _,?_⟩;intro a E b F v;obtain⟨c,H,rfl⟩:=qd.1 E;obtain⟨l,K,rfl⟩:=qd.1 F;have u:=fg.ofU (sC.1 K);obtain⟨i,f⟩:=xe.1 H;obtain⟨g,B,M⟩:=h.at p f;have C:=B.com u v
    by_cases q:i=0
    ·have P:=M q
     subst P;have j:=B.epoch.2;rw[C,u.epoch.2]at j;have r:=h.ep s (j3 hx);omega
    obtain⟨n,y,t,-,m,P⟩:=h.par i c f Y;obtain⟨U,Q,-⟩:=h.at p m;have j:y.id=s.id:=by rw[<-Q.last,<-D.last,<-P.par,<-u.par,C]
    have:=Qf h.ids m hx j;omega
   intro c o
   rcases n0.1 o with j|j
   ·exact h.ep c j
   have r:=(fg.ofU (sC.1 j)).epoch.1;have z:=h.ep s (j3 hx);omega
theorem QK(h:(S.map aN.id).Nodup)(f:∀c∈S,∃g,fg d g c):S.length<=d.length:=by
 have j:(S.map aN.ix).Nodup:=by
  refine xf.2 ?_;refine List.Pairwise.imp_of_mem ?_ (xf.1 h);intro a b k m n e;obtain⟨o,l⟩:=f a k;obtain⟨gb,i⟩:=f b m;exact n (by rw[l.ok.id,i.ok.id,l.ok.com,i.ok.com,e])
 have b:S.map aN.ix⊆List.range d.length:=by
  intro i a;obtain⟨c,e,rfl⟩:=qd.1 a;obtain⟨g,l⟩:=f c e;exact List.mem_range.2 l.ok.lt
 have a:=List.Nodup.length_le_of_subset j b;rw[jw,List.length_range]at a;exact a
theorem tE.len(h:tE d e x S b)(l:fg d e x):S.length<=d.length:=by
 refine QK h.ids λc a=>?_
 obtain⟨i,f⟩:=xe.1 a;obtain⟨g,j,-⟩:=h.at l f;exact⟨g,j⟩
theorem Ge(h:(eC d x b).length<=b):∀m,b<=m->eC d x m=eC d x b
 |0,k=>by
  obtain rfl:b=0:=Y
  rfl
 |m+1,k=>by
  by_cases e:b=m+1
  ·rw[e]
  have c:=Ge h m Y;rw[eC,c,Gw Y]
theorem MY(l:fg d e x){k:jc}(h:(eC d x k).length<=k)(c:k<=d.length):sH d x=eC d x k:=Ge h _ c
section
theorem l8{g:Grp}{l:jg Cmt}{i:jc}(h:cQ g (aQ l i)≠0):eT g l i=jf:=by
 unfold eT;rw[jD λe=>h e.2]
theorem zL{g:Grp}{l:jg Cmt}{i:jc}{c:Cmt}(e:aQ l i=c)(h:cQ g c=0):eT g l i=T (cN g c i):=by
 unfold eT cN;rw[e,jr ⟨(iR.1 h).par,h⟩]
theorem mf{g:Grp}{c:Cmt}(h:c.epoch≠g.epoch+1):cQ g c≠0:=λe=>h (iR.1 e).ep
theorem wC{a b c d:Cmt}(k:aG a≠aG b)(l:aG a≠aG c)(m:aG a≠aG d)(n:aG b≠aG c)(o:aG b≠aG d)(p:aG c≠aG d):bU [a,b,c,d] 4=[0,1,2,3]:=by
 have q:bU [a,b,c,d] 0=[]:=I;have f:aQ [a,b,c,d] 0=a:=I;have g:aQ [a,b,c,d] 1=b:=I;have h:aQ [a,b,c,d] 2=c:=I;have i:aQ [a,b,c,d] 3=d:=I;have r:∀j,j<1->aG (aQ [a,b,c,d] j)≠aG (aQ [a,b,c,d] 1):=λj e=>by
  obtain rfl:j=0:=Y;rw[f,g];exact k
 have s:∀j,j<2->aG (aQ [a,b,c,d] j)≠aG (aQ [a,b,c,d] 2):=λj e=>by
  rcases(by omega:j=0\/j=1)with rfl|rfl
  ·rw[f,h];exact l
  rw[g,h];exact n
 have t:∀j,j<3->aG (aQ [a,b,c,d] j)≠aG (aQ [a,b,c,d] 3):=λj e=>by
  rcases(by omega:j=0\/j=1\/j=2)with rfl|rfl|rfl
  ·rw[f,i];exact m
  ·rw[g,i];exact o
  rw[h,i];exact p
 rw[oW,jr t,oW,jr s,oW,jr r,oW,jr (λj e=>ju e (xd j)),q]
 rfl
structure dW(fol:jb)(y s o f:Cmt):Prop where
 ys:aG y≠aG s
 yo:aG y≠aG o
 yf:aG y≠aG f
 so:aG s≠aG o
 sf:aG s≠aG f
 of:aG o≠aG f
 hf:cQ (aK fol) f=0
 hs:cQ (aC (aK fol) f) s=0
 hy:cQ (aC (aC (aK fol) f) s) y=0
 ho:cQ (aC (aC (aK fol) f) s) o=0
 auth:o.author≠y.author
 ahead:wL (aC (aC (aK fol) f) s) o y
 ro:oX o y.author=ji
section
variable {fol:jb} {y s o f:Cmt}
theorem dW.eps(h:dW fol y s o f):f.epoch=1/\s.epoch=2/\y.epoch=3/\o.epoch=3:=by
 have d:f.epoch=(aK fol).epoch+1:=(iR.1 h.hf).ep;have a:=(iR.1 h.hs).ep;have b:=(iR.1 h.hy).ep;have c:=(iR.1 h.ho).ep;rw[iC]at a b c;have e:(aK fol).epoch=0:=I;exact⟨by omega,by omega,by omega,by omega⟩
theorem dW.first(h:dW fol y s o f):ft fol (aG f) [y,s,o,f]=T ⟨3,f,aG f,0,aC (aK fol) f⟩:=by
 have b:aQ [y,s,o,f] 0=y:=I;have c:aQ [y,s,o,f] 1=s:=I;have d:aQ [y,s,o,f] 2=o:=I;have a:aQ [y,s,o,f] 3=f:=I;unfold ft;rw[show [y,s,o,f].length=4 from I,wC h.ys h.yo h.yf h.so h.sf h.of,
  rv (by rw[b,decide_eq_true_eq];exact h.yf),rv (by rw[c,decide_eq_true_eq];exact h.sf),
  rv (by rw[d,decide_eq_true_eq];exact h.of),List.find?_cons_of_pos (by rw[a,decide_eq_true_eq]),Option.bind_some,a,jr h.hf]
theorem dW.cand1(h:dW fol y s o f):eP (aC (aK fol) f) [y,s,o,f]=[cN (aC (aK fol) f) s 1]:=by
 obtain⟨e,g,i,j⟩:=h.eps;have a:cQ (aC (aK fol) f) (aQ [y,s,o,f] 0)≠0:=mf (c:=y) (by rw[iC];omega);have b:cQ (aC (aK fol) f) (aQ [y,s,o,f] 2)≠0:=mf (c:=o) (by rw[iC];omega);have d:cQ (aC (aK fol) f) (aQ [y,s,o,f] 3)≠0:=mf (c:=f) (by rw[iC];omega);unfold eP;rw[show [y,s,o,f].length=4 from I,wC h.ys h.yo h.yf h.so h.sf h.of,jS,l8 a,jS,zL (c:=s) I h.hs,jS,l8 b,
  jS,l8 d,qI]
theorem dW.cand2(h:dW fol y s o f):eP (aC (aC (aK fol) f) s) [y,s,o,f]=[cN (aC (aC (aK fol) f) s) y 0,cN (aC (aC (aK fol) f) s) o 2]:=by
 obtain⟨d,e,g,i⟩:=h.eps;have a:cQ (aC (aC (aK fol) f) s) (aQ [y,s,o,f] 1)≠0:=mf (c:=s) (by rw[iC];omega);have b:cQ (aC (aC (aK fol) f) s) (aQ [y,s,o,f] 3)≠0:=mf (c:=f) (by rw[iC];omega);unfold eP;rw[show [y,s,o,f].length=4 from I,wC h.ys h.yo h.yf h.so h.sf h.of,jS,zL (c:=y) I h.hy,jS,l8 a,jS,zL (c:=o) I h.ho,
  jS,l8 b,qI]
theorem dW.cand3(h:dW fol y s o f){g:Grp}(i:g.epoch=3):eP g [y,s,o,f]=[]:=by
 obtain⟨j,k,l,m⟩:=h.eps;have a:cQ g (aQ [y,s,o,f] 0)≠0:=mf (c:=y) Y;have b:cQ g (aQ [y,s,o,f] 1)≠0:=mf (c:=s) Y;have d:cQ g (aQ [y,s,o,f] 2)≠0:=mf (c:=o) Y;have e:cQ g (aQ [y,s,o,f] 3)≠0:=mf (c:=f) Y;unfold eP;rw[show [y,s,o,f].length=4 from I,wC h.ys h.yo h.yf h.so h.sf h.of,jS,l8 a,jS,l8 b,jS,l8 d,
  jS,l8 e,qI]
theorem dW.list2(h:dW fol y s o f):ff (aC (aC (aK fol) f) s) [y,s,o,f]=[cN (aC (aC (aK fol) f) s) o 2,cN (aC (aC (aK fol) f) s) y 0]:=by
 have a:(kP (cN (aC (aC (aK fol) f) s) o 2) (cN (aC (aC (aK fol) f) s) y 0)<0)↔wL (aC (aC (aK fol) f) s) o y:=by
  rw[Kr (by unfold cN;exact h.auth)];unfold cN wL;exact Iff.rfl
 unfold ff;rw[h.cand2,MU,jD];unfold leC;rw[qN (a.2 h.ahead)]
 decide
theorem dW.win1(h:dW fol y s o f):dY (aC (aK fol) f) [y,s,o,f]=T (cN (aC (aK fol) f) s 1):=by
 unfold dY ff;rw[h.cand1,xg,rk,rn];unfold gr;rw[jD (by unfold rL;rw[List.any_nil];decide)];unfold wg;rw[jr I]
theorem dW.win2(h:dW fol y s o f):dY (aC (aC (aK fol) f) s) [y,s,o,f]=T (cN (aC (aC (aK fol) f) s) o 2):=by
 unfold dY;rw[h.list2];exact Jz (x:=cN (aC (aC (aK fol) f) s) o 2) (y:=cN (aC (aC (aK fol) f) s) y 0) h.auth h.ro
theorem dW.win3(h:dW fol y s o f){g:Grp}(a:g.epoch=3):dY g [y,s,o,f]=jf:=by
 unfold dY ff;rw[h.cand3 a,xh,rn]
theorem rG(g:Grp)(c:Cmt)(i:jc):(cN g c i).leads=aC g c:=by unfold cN;dsimp only
theorem dW.chain(h:dW fol y s o f):dU fol (aG f) [y,s,o,f]=[⟨3,f,aG f,0,aC (aK fol) f⟩,cN (aC (aK fol) f) s 1,cN (aC (aC (aK fol) f) s) o 2]:=by
 obtain⟨c,d,e,a⟩:=h.eps;have b:(cN (aC (aC (aK fol) f) s) o 2).leads.epoch=3:=by rw[rG,iC];exact a
 rw[uK,h.first];dsimp only;rw[rA];dsimp only;rw[h.win1];dsimp only;rw[rA,rG,h.win2];dsimp only;rw[rA,h.win3 b]
theorem dW.all(h:dW fol y s o f):sH [y,s,o,f] ⟨3,f,aG f,0,aC (aK fol) f⟩=[⟨3,f,aG f,0,aC (aK fol) f⟩,cN (aC (aK fol) f) s 1,cN (aC (aC (aK fol) f) s) o 2,cN (aC (aC (aK fol) f) s) y 0]:=by
 obtain⟨j,l,b,d⟩:=h.eps;have e:ff (aC (aK fol) f) [y,s,o,f]=[cN (aC (aK fol) f) s 1]:=by unfold ff;rw[h.cand1,xg]
 have a:∀g:Grp,g.epoch=3->ff g [y,s,o,f]=[]:=λg i=>by unfold ff;rw[h.cand3 i,xh]
 have s1:eC [y,s,o,f] ⟨3,f,aG f,0,aC (aK fol) f⟩ 1=[⟨3,f,aG f,0,aC (aK fol) f⟩,cN (aC (aK fol) f) s 1]:=by
  rw[eC,eC,pW (c:=⟨3,f,aG f,0,aC (aK fol) f⟩) I];dsimp only;rw[e];rfl
 have s2:eC [y,s,o,f] ⟨3,f,aG f,0,aC (aK fol) f⟩ 2=[⟨3,f,aG f,0,aC (aK fol) f⟩,cN (aC (aK fol) f) s 1,cN (aC (aC (aK fol) f) s) o 2,cN (aC (aC (aK fol) f) s) y 0]:=by
  rw[eC,s1,pW (c:=cN (aC (aK fol) f) s 1) I,rG,h.list2];rfl
 unfold sH;show eC _ _ 4=_;rw[eC,eC,s2,pW (k:=2) (c:=cN (aC (aC (aK fol) f) s) o 2) I,a _ (by rw[rG,iC];exact d),qD,
  pW (k:=3) (c:=cN (aC (aC (aK fol) f) s) y 0) rfl,a _ (by rw[rG,iC];exact b),qD]
end
end
theorem Oc:bJ 4:=by
 refine⟨by decide,by decide,?_⟩;rw[<-wm _ QN 62 G]
 decide+kernel
theorem SE:bJ 16:=by
 refine⟨by decide,by decide,?_⟩;rw[<-wm _ QN 62 G]
 decide+kernel
theorem Nf(d:0<=a)(b:a<512)(x:jb):lB (512+a) x=decide (x∈(512+a)::bS a):=by
 by_cases h:x∈(512+a)::bS a
 ·rw[qN h,uc ((o7 a d b x).1 h)]
 rw[decide_eq_false h,Eh (λc=>h ((o7 a d b x).2 c))]
def kV(t:jg (jb×jb))(d:jb):jg (jb×jb):=t.filter λe=> !decide (e.1∈(512+d)::bS d)
theorem yX(d:0<=a)(b:a<512)(t:jg (jb×jb)):dJ t a=kV t a:=by
 unfold dJ kV;refine List.filter_congr λe _=>?_
 rw[Nf d b]
def uX(b:jg (jb×jb))(d:jb)(l:jg jb):jc->jg (jb×jb)
 |0=>b
 |k+1=>en ((512+d)/2^k,l.getD k 0) (uX b d l k)
theorem D3(t:jg (jb×jb))(d:jb)(l:jg jb):∀k,eF t d l k=uX (dJ t d) d l k
 |0=>rfl
 |k+1=>by unfold eF uX;rw[D3 t d l k]
def pP:jg (jb×jb)->jC
 |[]=>ji
 |[_]=>ji
 |x::y::r=>decide (x.1<y.1)&&pP (y::r)
theorem Hm:∀{t:jg (jb×jb)} {x:jb×jb},pP (x::t)=ji->∀e∈t,x.1<e.1
 |[],x,_,e,he=>by cases he
 |y::r,x,h,e,he=>by
  simp only[pP,mz,decide_eq_true_eq]at h
  rcases List.mem_cons.1 he with rfl|he
  ·exact h.1
  have:=Hm h.2 e he;omega
theorem Gz:∀{t:jg (jb×jb)},pP t=ji->Str t
 |[],_=>List.Pairwise.nil
 |[x],_=>List.pairwise_singleton _ _
 |x::y::r,h=>by
  refine sq.2 ⟨Hm h,Gz ?_⟩;simp only[pP,mz]at h;exact h.2
def Em(t:jg (jb×jb)):jC:=
 pP t&&t.all λe=>decide (1<=e.1)&&decide (e.1<=1023)&&(decide (e.2=4)||decide (e.2=16))&&t.any λf=>decide (512<=f.1)&&decide (f.1<=1023)&&decide (e.1∈f.1::bS (f.1-512))
theorem P7(h:Em t=ji):fV t:=by
 unfold Em at h;simp only[mz,wq,List.any_eq_true,decide_eq_true_eq,wt]at h;refine⟨Gz h.1,λe he=>?_⟩;obtain⟨⟨⟨b,c⟩,a⟩,f,d,⟨g,j⟩,i⟩:=h.2 e he;refine⟨b,c,?_,f,d,g,?_⟩
 ·rcases a with a|a
  ·rw[a];exact Oc
  rw[a];exact SE
 have:=(o7 (f.1-512) Y Y e.1).1;rw[show 512+(f.1-512)=f.1 by omega]at this;exact this i
theorem FQ:dc []=0:=tu (P7 (by decide+kernel))
theorem vW(n:jc):bJ ((aX 4 n:jc):jb):=o6 (a:=4) mS n
theorem EI(h:b<512):oN (cP b):=⟨⟨by show(0:jb)<=(b:jb);omega,by show(b:jb)<512;omega⟩,.inl ⟨I,vW _,vW _,I⟩⟩
theorem DI(h:b<512)(a:M<=1048576):oN (dK b M):=⟨⟨by show(0:jb)<=(b:jb);omega,by show(b:jb)<512;omega⟩,.inr (.inl ⟨I,I,I,by show(0:jb)<=(M:jb);omega,by show(M:jb)<=1048576;omega⟩)⟩
theorem ue{x:ap}(h:oN x):eU [x]:=⟨λy a=>by
 rw[jO]at a;rw[a];exact h,by simp,by simp⟩
theorem SD:cr []=[]:=by decide+kernel
theorem Jc(f:iZ a):dC (aK a) where
 fol:=f
 ep:=⟨Int.le_refl _,by show(0:jb)<=1099511627776;omega⟩
 tree:=FQ
 zero:=λ_=>⟨I,I⟩
 dev:=SD.symm
 ok:=λm b=>by cases b
theorem oG{l:jg aJ}{o:jG aJ}(h:dj l a=o):cA l a=o.isSome:=by rw[<-yM,h]
theorem rz{m:aJ}(h:dj e.mem a=T m):dQ e a f=m.ver:=by
 unfold dQ;have g:(e.mem.find? λm=>m.dev==a)=T m:=h;rw[g]
theorem Ce{m:aJ}(h:dj e.mem a=T m):eS e a=m.since:=by
 unfold eS;rw[h];rfl
theorem zA{x:ap}:mX [x] x.d=T x:=by unfold mX;simp
theorem zo{x:ap}(h:x.d≠a):mX [x] a=jf:=by unfold mX;simp[h]
theorem AU{x:ap}(c:cA e.mem a=ji)(d:0<e.epoch)(g:cA e.mem x.d=decide (x.k≠1))(f:x.d≠a):gL e a [x]:=
 ⟨by rw[c,qN d],λh=>by omega,λy b=>by
  rw[jO]at b;rw[b];exact⟨g,λ_=>f⟩⟩
theorem wJ(g:e.epoch<1099511627776)(c:dq e a f=0)(x:1<=b)(i:b<2305843009213688669)(d:dQ e a f=((aX 4 b:jc):jb)):gZ e a (b:jb) f=0:=by
 unfold gZ;rw[jD Y,jD (λh=>h c),jD Y,jD (λh=>h (by rw[d,qH]))]
theorem uC{g g':Grp}{x:jc}{c:jg ap}{b init:LBy}{d:jg Bx}{e:jg Wl}(h:g.folder=g'.folder)(f:g.epoch=g'.epoch)(i:g.last=g'.last):mkF g a x c b init d e=mkF g' a x c b init d e:=by
 have j:nh g a c b init d e=nh g' a c b init d e:=by unfold nh;rw[h,f,i]
 have k:dM g b init=dM g' b init:=by unfold dM;rw[f]
 have l:lE g a c b init d e=lE g' a c b init d e:=by unfold lE;rw[j,k]
 unfold mkF;rw[l]
noncomputable def bF:Cmt:=mkC (aK 3) 1 3 [cP 1] (kz 1) (kz 1) (kz 1)
noncomputable def gS1:Grp:=aC (aK 3) bF
noncomputable def bR:Cmt:=mkC gS1 1 3 [cP 0] (kz 2) (kz 1) (kz 2)
noncomputable def cU:Grp:=aC gS1 bR
noncomputable def cS3:Cmt:=mkC cU 0 2 [dK 1 5] (kz 3) (kz 1) (kz 3)
noncomputable def cM:Cmt:=mkC cU 1 3 [dK 0 5] (kz 4) (kz 1) (kz 4)
theorem uq(b:nn 8):(kz b).length=32:=by unfold kz;simp
theorem AS:dq (aK 3) 1 [cP 1]=0:=lz.2 ⟨Jc G,ue (EI G),⟨I,λ_=>⟨_,_,I,I⟩,λy a=>by
 rw[jO]at a;rw[a];exact⟨I,λh=>by cases h⟩⟩⟩
theorem lQ:gQ (aK 3) bF:=rY AS (by show(0:jb)<1099511627776;omega) I (uq _)
theorem mm:bF.chg=[cP 1]/\bF.author=1/\bF.epoch=1:=by
 refine⟨?_,?_,lQ.ep.trans I⟩<;>rfl
theorem lW:dj gS1.mem 1=T ⟨1,1,((aX 4 3:jc):jb)⟩/\dj gS1.mem 0=jf/\gS1.epoch=1:=by
 have a:=EW lQ (d:=1) (y:=cP 1) (by rw[mm.1];exact zA) G;have b:=zG lQ (d:=0) (by rw[mm.1];exact zo G);rw[mm.2.2]at a;exact⟨a.1,b.trans I,(iC _ _).trans mm.2.2⟩
theorem AT:dq gS1 1 [cP 0]=0:=lz.2 ⟨iz lQ,ue (EI G),
 AU (oG lW.1) (by rw[lW.2.2];decide) (by rw[show(cP 0).d=0 from I,oG lW.2.1];rfl) G⟩
theorem lf:gQ gS1 bR:=rY AT (by rw[lW.2.2];decide) (rz lW.1) (uq _)
theorem nK:bR.chg=[cP 0]/\bR.author=1/\bR.epoch=2:=by
 refine⟨I,I,?_⟩;rw[lf.ep,lW.2.2];rfl
theorem fu:dj cU.mem 1=T ⟨1,1,((aX 4 3:jc):jb)⟩/\dj cU.mem 0=T ⟨0,2,((aX 4 2:jc):jb)⟩/\cU.epoch=2:=by
 have a:=EW lf (d:=0) (y:=cP 0) (by rw[nK.1];exact zA) G;have b:=zG lf (d:=1) (by rw[nK.1];exact zo G);rw[nK.2.2]at a;exact⟨b.trans lW.1,a.1,(iC _ _).trans nK.2.2⟩
theorem yD:dq cU 0 [dK 1 5]=0:=lz.2 ⟨iz lf,ue (DI G G),
 AU (oG fu.2.1) (by rw[fu.2.2];decide) (by rw[show(dK 1 5).d=1 from I,oG fu.1];rfl) G⟩
theorem DT:gQ cU cS3:=rY yD (by rw[fu.2.2];decide) (rz fu.2.1) (uq _)
theorem zv:dq cU 1 [dK 0 5]=0:=lz.2 ⟨iz lf,ue (DI G G),
 AU (oG fu.1) (by rw[fu.2.2];decide) (by rw[show(dK 0 5).d=0 from I,oG fu.2.1];rfl) G⟩
theorem mN:gQ cU cM:=rY zv (by rw[fu.2.2];decide) (rz fu.1) (uq _)
theorem iL:cS3.chg=[dK 1 5]/\cS3.author=0/\cM.chg=[dK 0 5]/\cM.author=1:=⟨I,I,I,I⟩
theorem Su:wL cU cM cS3:=by
 left
 rw[iL.2.2.2,iL.2.1,Ce fu.1,Ce fu.2.1]
 decide
theorem vZ:gZ (aK 3) 1 (3:jc) [cP 1]=0/\gZ gS1 1 (3:jc) [cP 0]=0/\gZ cU 0 (2:jc) [dK 1 5]=0/\gZ cU 1 (3:jc) [dK 0 5]=0:=
 ⟨wJ (by show(0:jb)<1099511627776;omega) AS G G rfl,wJ (by rw[lW.2.2];decide) AT G G (rz lW.1),
  wJ (by rw[fu.2.2];decide) yD G G (rz fu.2.1),wJ (by rw[fu.2.2];decide) zv G G (rz fu.1)⟩
theorem IZ(a:aG cS3≠aG bR)(b:aG cS3≠aG cM)(c:aG cS3≠aG bF)(d:aG bR≠aG cM)(e:aG bR≠aG bF)(f:aG cM≠aG bF):dW 3 cS3 bR cM bF where
 ys:=a
 yo:=b
 yf:=c
 so:=d
 sf:=e
 of:=f
 hf:=iR.2 lQ
 hs:=iR.2 lf
 hy:=iR.2 DT
 ho:=iR.2 mN
 auth:=by rw[iL.2.2.2,iL.2.1];decide
 ahead:=Su
 ro:=by unfold oX;rw[iL.2.2.1,iL.2.1];decide
theorem I8(g:Grp)(c:Cmt)(i:jc):(cN g c i).id=aG c:=by unfold cN;dsimp only
theorem IT(g:Grp)(c:Cmt)(i:jc):(cN g c i).com=c:=by unfold cN;dsimp only
theorem Ms(h:dW 3 cS3 bR cM bF)(a:jb):dx (aG bR) 0 a jn (dU 3 (aG bF) [cS3,bR,cM,bF])=decide (a<=5):=by
 have b:cA (aC (aC (aK 3) bF) bR).mem 0=ji:=oG fu.2.1;have c:¬aG bF=aG bR:=λe=>h.sf e.symm
 have d:(cM.chg.find? λx=>x.d==0&&x.k !=1)=T (dK 0 5):=by rw[iL.2.2.1];rfl
 rw[h.chain,dx];dsimp only;rw[jD c,dx,jr (I8 _ _ _),rG,jr b,dx,IT,d]
 rfl
theorem Te(h:dW 3 cS3 bR cM bF):(aC cU cM).mem.length=1:=by
 have n:=iz mN;have o:=Sd mN (d:=0) (y:=dK 0 5) (by rw[iL.2.2.1];exact zA) I;have g:=zG mN (d:=1) (by rw[iL.2.2.1];exact zo G);rw[fu.1]at g;have c:∀m∈(aC cU cM).mem,m=⟨1,1,((aX 4 3:jc):jb)⟩:=λm j=>by
  rcases(pF mN m).1 j with⟨f,i⟩|⟨x,a,b,rfl⟩
  ·rcases(pF lf m).1 f with⟨k,p⟩|⟨x,a,b,rfl⟩
   ·rcases(pF lQ m).1 k with⟨l,-⟩|⟨x,a,b,rfl⟩
    ·cases l
    rw[mm.1,jO]at a;subst a;rw[mm.2.2];rfl
   rw[nK.1,jO]at a;subst a;exact ju I (i (dK 0 5) (by rw[iL.2.2.1];exact jO.2 I))
  rw[iL.2.2.1,jO]at a;subst a;exact ju I b
 have i:=((sQ (rX mN) _ _).1 g).1;have f:=rX mN
 cases e:(aC cU cM).mem with
 |nil=>rw[e]at i;cases i
 |cons m l=>
  rcases l with _|⟨k,p⟩
  ·rfl
  rw[e]at c f;have a:=c m (qb ..);have b:=c k (qc _ (qb ..));rw[a,b]at f;simp at f
theorem LV(d:dc t=0)(b:0<=a)(c:a<512):dG t a jn=0:=by
 unfold dG;rw[jr d,jD];rintro(h|h|⟨h,-⟩)
 ·omega
 ·omega
 cases h
theorem Mk(d:dc t=0)(b:0<=a)(c:a<512)(e:bJ u):gI t a u=0:=by
 unfold gI;rw[jr (LV d b c),jr (gD e)]
theorem CM(c:dc t=0)(d:0<=a)(b:a<512)(e:bJ u):kR t a u=en (512+a,u) (kV t a):=by
 unfold kR;rw[jr (Mk c d b e),yX d b]
theorem Q6(d:dc t=0)(c:0<=a)(e:a<512)(b:bG t (512+a)≠jf):dG t a ji=0:=by
 unfold dG;rw[jr d,jD];rintro(h|h|⟨-,h⟩)
 ·omega
 ·omega
 exact b h
theorem Ga(c:dc t=0)(d:0<=a)(b:a<512)(e:bG t (512+a)≠jf):kG t a=kV t a:=by
 unfold kG;rw[jr (Q6 c d b e),yX d b]
theorem Fg{l:jg jb}(h:eZ t a l=0)(d:0<=a)(b:a<512):gm t a l=uX (kV t a) a l 10:=by
 unfold gm;rw[jr h,D3,yX d b]
theorem Cu(a:LBy):∃b c d e f g h i j k:jb,dA a=[b,c,d,e,f,g,h,i,j,k]:=by
 unfold dA;exact⟨_,_,_,_,_,_,_,_,_,_,I⟩
theorem Fc(g:Grp)(c:Cmt):(aC g c).tree=gm (aW g.tree c.chg) c.author c.path:=by unfold aC;dsimp only
theorem Gm:aW (aK 3).tree [cP 1]=[(513,((aX 4 3:jc):jb))]:=by
 show kR [] 1 ((aX 4 3:jc):jb)=_;rw[CM FQ G G (vW _)]
 rfl
theorem MH:∃a b c d f g i j k l:jb,gS1.tree=[(1,l),(2,k),(4,j),(8,i),(16,g),(32,f),(64,d),(128,c),(256,b),(513,a)]:=by
 obtain⟨a,b,c,d,f,g,i,j,k,l,m⟩:=Cu (kz 1);refine⟨a,b,c,d,f,g,i,j,k,l,?_⟩;have h:=lQ.ren;have e:gS1.tree=gm (aW (aK 3).tree bF.chg) bF.author bF.path:=Fc _ _;have n:bF.path=dA (kz 1):=(yB (aK 3) 1 3 [cP 1] (kz 1) (kz 1) (kz 1)).2.2.2.2.2;rw[mm.1,mm.2.1,n]at h e;rw[e,Fg h G G,Gm,m];generalize((aX 4 3:jc):jb)=q;have:kV [(513,q)] 1=[]:=by
  unfold kV;rw[qJ (by show ¬(!decide ((513:jb)∈(512+1)::bS 1))=ji;decide+kernel),qi]
 rw[this]
 rfl
theorem pz0:bS 0=[256,128,64,32,16,8,4,2,1]:=by decide+kernel
theorem pz1:bS 1=[256,128,64,32,16,8,4,2,1]:=by decide+kernel
theorem A8:∃a:jb,aW gS1.tree [cP 0]=[(512,((aX 4 2:jc):jb)),(513,a)]:=by
 obtain⟨a,c,d,f,g,h,i,j,k,l,e⟩:=MH;have b:dc gS1.tree=0:=(iz lQ).tree;refine⟨a,?_⟩;show kR gS1.tree 0 ((aX 4 2:jc):jb)=_;rw[CM b G G (vW _),e];generalize((aX 4 2:jc):jb)=q;unfold kV;rw[pz0]
 rfl
theorem Si:∃a r1 r2 r3 b c d f g i:jb,cU.tree=[(1,i),(2,g),(4,f),(8,d),(16,c),(32,b),(64,r3),(128,r2),(256,r1),(512,((aX 4 2:jc):jb)),(513,a)]:=by
 obtain⟨m,j⟩:=A8;obtain⟨a,r1,r2,r3,b,c,d,f,g,i,k⟩:=Cu (kz 2);refine⟨a,r1,r2,r3,b,c,d,f,g,i,?_⟩;have h:=lf.ren;have e:cU.tree=gm (aW gS1.tree bR.chg) bR.author bR.path:=Fc _ _;have l:bR.path=dA (kz 2):=(yB gS1 1 3 [cP 0] (kz 2) (kz 1) (kz 2)).2.2.2.2.2;rw[nK.1,nK.2.1,l]at h e;rw[e,Fg h G G,j,k];generalize((aX 4 2:jc):jb)=q;unfold kV;rw[pz1]
 rfl
theorem MZ:aW cU.tree [dK 1 5]=[(512,((aX 4 2:jc):jb))]/\∃a:jb,aW cU.tree [dK 0 5]=[(513,a)]:=by
 obtain⟨a,r1,r2,r3,c,d,f,g,i,j,e⟩:=Si;have b:dc cU.tree=0:=(iz lf).tree;refine⟨?_,a,?_⟩
 ·show kG cU.tree 1=_
  rw[Ga b G G (by rw[e];exact λh=>by cases h),e];generalize((aX 4 2:jc):jb)=q;unfold kV;rw[pz1]
  rfl
 show kG cU.tree 0=_;rw[Ga b G G (by rw[e];exact λh=>by cases h),e];generalize((aX 4 2:jc):jb)=q;unfold kV;rw[pz0]
 rfl
theorem mD(h:fV t){x:jb}(a:1<=x)(b:x<=1023):fc t x=df (bG t) (hgt x.toNat) x.toNat:=by
 have e:lP t x=0:=by unfold lP;rw[jr (tu h),jD Y]
 unfold fc;rw[jr e]
theorem RP:ia 0=[513,257,129,65,33,17,9,5,3]:=by decide+kernel
theorem zS:ia 1=[512,257,129,65,33,17,9,5,3]:=by decide+kernel
theorem wH(h:fV t)(c:ia a=[u,257,129,65,33,17,9,5,3])(d:1<=u)(e:u<=1023){r:jg (jg jb)}(f:(([u,257,129,65,33,17,9,5,3]:jg jb).map λx=>df (bG t) (hgt x.toNat) x.toNat)=r):
 eo t a=(r.zipIdx 1).flatMap λx=>x.1.map λn=>((x.2:jb),n):=by
 unfold eo fw;rw[c,<-f];simp only[j1,jY,List.zipIdx_cons,List.zipIdx_nil,List.flatMap_cons,List.flatMap_nil];rw[mD h d e,mD h (x:=257) G G,mD h (x:=129) G G,mD h (x:=65) G G,mD h (x:=33) G G,
  mD h (x:=17) G G,mD h (x:=9) G G,mD h (x:=5) G G,mD h (x:=3) G G]
theorem uP(h:dq e a f=0):fV (aW e.tree f):=by
 obtain⟨b,c,d⟩:=lz.1 h;exact(oS f _ (lM b.tree) (pZ b c d)).1
theorem Fl:∀p:jb,(([512,257,129,65,33,17,9,5,3]:jg jb).map λx=>df (bG [(513,p)]) (hgt x.toNat) x.toNat)=[[],[],[],[],[],[],[],[],[]]:=by intro p;kernel_rfl
theorem Ti:∀p:jb,(([513,257,129,65,33,17,9,5,3]:jg jb).map λx=>df (bG [(512,p)]) (hgt x.toNat) x.toNat)=[[],[],[],[],[],[],[],[],[]]:=by intro p;kernel_rfl
theorem TV:∀p q:jb,(([512,257,129,65,33,17,9,5,3]:jg jb).map λx=>df (bG [(512,p),(513,q)]) (hgt x.toNat) x.toNat)=[[512],[],[],[],[],[],[],[],[]]:=by intro p q;kernel_rfl
theorem wN:eo (aW (aK 3).tree [cP 1]) 1=[]/\eo (aW gS1.tree [cP 0]) 1=[(1,512)]/\eo (aW cU.tree [dK 1 5]) 0=[]/\eo (aW cU.tree [dK 0 5]) 1=[]:=by
 obtain⟨e,b⟩:=A8;obtain⟨c,f,d⟩:=MZ;refine⟨?_,?_,?_,?_⟩
 ·have a:(([512,257,129,65,33,17,9,5,3]:jg jb).map λx=>df (bG (aW (aK 3).tree [cP 1])) (hgt x.toNat) x.toNat)=[[],[],[],[],[],[],[],[],[]]:=by rw[Gm];exact Fl _
  rw[wH (uP AS) zS G G a]
  rfl
 ·have a:(([512,257,129,65,33,17,9,5,3]:jg jb).map λx=>df (bG (aW gS1.tree [cP 0])) (hgt x.toNat) x.toNat)=[[512],[],[],[],[],[],[],[],[]]:=by rw[b];exact TV _ _
  rw[wH (uP AT) zS G G a]
  rfl
 ·have a:(([513,257,129,65,33,17,9,5,3]:jg jb).map λx=>df (bG (aW cU.tree [dK 1 5])) (hgt x.toNat) x.toNat)=[[],[],[],[],[],[],[],[],[]]:=by rw[c];exact Ti _
  rw[wH (uP yD) RP G G a]
  rfl
 have a:(([512,257,129,65,33,17,9,5,3]:jg jb).map λx=>df (bG (aW cU.tree [dK 0 5])) (hgt x.toNat) x.toNat)=[[],[],[],[],[],[],[],[],[]]:=by rw[d];exact Fl _
 rw[wH (uP zv) zS G G a]
 rfl
theorem wD:du 1 [cP 1]=[]/\du 1 [cP 0]=[cP 0]/\du 0 [dK 1 5]=[]/\du 1 [dK 0 5]=[]:=by
 refine⟨?_,?_,?_,?_⟩
 ·unfold du kW
  rw[qJ G,qi];simp[fi]
 ·unfold du kW
  rw[List.filter_cons_of_pos G,qi];simp[fi]
 ·unfold du kW
  rw[qJ G,qi];simp[fi]
 unfold du kW;rw[qJ G,qi];simp[fi]
end Go.Proofs.YthonckffmkefdaaGreatDoor
