/- Texts of the proof, part 6 of 7 (Sy Sl Sz Ri Pp Xa Od Xb Oa Hd Xe Rv Xf Oe Of Sf Lo Sg Sj Sh Ob Ov Ow Si Xj Na). -/
import Derived.Test.YthonckffmkefdaaGreatDoorZJ5
namespace Go.Proofs.YthonckffmkefdaaGreatDoor
set_option maxHeartbeats 64000000
set_option maxRecDepth 100000
set_option linter.unusedVariables false
set_option linter.unusedSimpArgs false
set_option linter.unusedSectionVars false
open Go.RowKit
open Go.Proofs.Tryz
open _root_ renaming rfl->I,Int->N,Nat->ja,List->jg,Array->jp,if_pos->jr,absurd->jt,Bool->jC,if_neg->jD,Option->jG,BitVec->j8,decide_eq_true->qa,congrArg->qs,of_decide_eq_true->qO
open Go.RowKit renaming Hid->T,Below->jl
open _root_.Option renaming some->A,none->jf
open Go.Value renaming slice->jb,agg->jh,pointer->ju,tuple->jH,string->qt
open Go.Obj renaming cells->jc
open Go.Value renaming int->jd
open Go.IntKind renaming i64->je
open _root_.Bool renaming true->ji,false->jm,and_eq_true->n0,or_eq_true->xe
open Go renaming World->jj,Value->jk,undef->jn,setRow_other->js,Calls->jz,TypeId->jJ,Oper->jK,wp_region_noPanic->jO,execOp->jP,wp_store_row->jR,setRow_heap->jU,wp_region_lit->jZ,Operand->j1,wpList_load_row->j9,below_setRow->ob,Program->ow,wpList_plain->o1,wpOp_step->qb,bodyPost_ret_by->qo,callsIn_wide->qP,run_takeDeferred->qQ,wp_store_mid->qT,callsIn_of_wp_marks->r9,bodyPost_ret->sn,results_cell_row->sq
open Go.Proofs.Tryz renaming prog->jo
open Go.World renaming size_alloc->jq,alloc_heap_new->jA,putObj_heap_other->nv,cell?_of_block->qy,ownsRow_nil->qY
open _root_.List renaming size_toArray->jv,length_map->jy,mem_singleton->jN,filterMap_cons->jT,map_nil->jV,getElem?_eq_some_iff->jW,map_cons->jY,length_cons->j0,mem_append->j3,mem_of_getElem?->j4,getElem?_toArray->mz,map_append->nn,map_toArray->pz,getElem?_append_left->p6,getElem?_map->qc,mem_cons_self->qd,mem_cons_of_mem->qe,mem_map->qf,nil_append->qg,append_nil->qh,length_append->qj,mem_cons->qk,filter_nil->qn,take_of_length_le->qv,find?_eq_none->qw,length_nil->qz,push_toArray->qE,append_toArray->qF,cons_append->qG,getElem?_cons_succ->qH,length_take->qK,filterMap_nil->qM,filter_cons_of_neg->qN,append_assoc->qW,append_inj'->qZ,setIfInBounds_toArray->q7,set_cons_zero->q8,set_cons_succ->q9,mem_of_getLast?->rn,take_length->rv,range->r4,foldl_cons->r5,foldl_nil->r6,find?_cons_of_neg->r7,take_append_drop->sv,find?_append->sx,getElem?_eq_getElem->sy,pairwise_cons->vi,mem_append_left->wt,mem_append_right->wv,replicate->wx,tail_drop->xa,all_eq_true->xd,mergeSort->xf,nodup_cons->xh,mem_iff_getElem?->xj,pairwise_map->xk,mergeSort_singleton->xl,mergeSort_nil->xm,flatMap_cons->xn,flatMap_nil->xo
open Go.Ending renaming returned->jw
open _root_.Array renaming getElem?_eq_some_iff->jB,all_eq_true_iff_forall_mem->jS,size_append->mb,all_append->ms,replicate->qi,replicate_succ->qC,replicate_zero->qD,toArray_toList->qU,length_toList->wi
open _root_.Nat renaming le_refl->jE,le_trans->jF,lt_of_lt_of_le->jL,zero_le->jM,le_of_eq->j6,le_succ->j7,add_assoc->qu,add_comm->qx,reduceAdd->qA,reduceSub->qB,lt_irrefl->qI,zero_add->qV,succ_pos->qX,le_add_right->rk,lt_trichotomy->xg,not_lt_zero->xi
open Go.Value renaming int->jI,oneCell'->j5,slice->ql,ownBlock->wq
open Go.Proofs renaming intOf->jQ
open Go.Proofs.Tryz renaming underlying27->jX,underlying57->o8,underlying51->qS,underlying79->r8,underlying61->sh
open Go.RowKit.Below renaming refl->lw
open Go.NoPanic renaming normal->oj
open _root_.Int renaming eq_ofNat_of_zero_le->qJ,toNat_natCast->qL
variable{m:Act}{U:CQ}{K:Cmt}{i:Exit->Act->jj->Prop}{a g':Grp}{h o u:LBy}{F d:N}{P Q:Prop}{x:aN}{V:ap}{R:j1}{r:jJ}{B:jK}{M b y:ja}{D E Ψ:ja->Prop}{t:jg (N×N)}{p:jg Bx}{f:jg Cmt}{S:jg aN}{e:jg ap}{z:jg jk}{W w w':jj}{j:jk}
theorem MG(l:jg Cmt)(P:jg ja)(d:LBy)(k:d.length=32)(v:jk)(w:jj)(h:cF w v 32 P.length (eJ l P))(F:P.length<=1000000):
 jz jo 77 #[v,jh (d.map v8).toArray] w λe w'=>∃r,e=jw (jd je r)/\mU (λi=>decide (aG (aQ l i)=d)) P r/\jl w w w':=by
 obtain⟨-,q,c,rfl,H,-,p⟩:=h;have u:=O p;obtain⟨n,o⟩:=J P.length;have x:=O o;rw[<-o]at F H u⊢;obtain⟨a,f⟩:=J ((d.map v8).toArray);have K:=O f;have M:T (a.size=VD.n):=O (by rw[f,jv,jy,k];rfl);obtain⟨m,g⟩:=J (w.alloc (jc a 23));have b:T (jl w w m):=O (by rw[g];exact ao _ _);have Q:T (m.heap[w.heap.size]?=A (jc a VD.t (0,0))):=O (by rw[g];exact jA _ _);have s:=O g;have R:=O k;rw[<-f];clear o p f g k
 go_enter func77,ntmps77
 go_upto_region 1 with fail
 rw[<-s];clear s
 go_wp2_with fail
 go_loopw [8] (λi wr=>∃k:ja,i=jd je k/\k<=n/\T (∀y∈P.take k,decide (aG (aQ l y)=d)=jm)/\T (jl m m wr)) (λi _=>n-(jQ i).toNat)
 case atStart=>exact⟨0,I,jM _,O ar,O (lw _ _)⟩
 obtain⟨k,rfl,hk,p,i⟩:=hrel
 by_cases S:k<n
 ·have V:=az ((k:N)<(n:N))
  have W:=az (k<n);obtain⟨e,he,B⟩:=dL (l:=P) (j:=k) (by rw[<-x];exact S);obtain⟨g,o,rfl,C⟩:=u Y;have D:T (wr.rangeAt g (o+k*32) ((aG (aQ l e)).map v8)):=O λt X ht=>by
   rw[qu];exact aB (C _ X (Bs he ht)) (b.trans (i.mono b.size))
  have VT:=O (av Q i);obtain⟨r,f⟩:=J (decide (aG (aQ l e)=d));obtain⟨U,s⟩:=J (((aG (aQ l e)).map v8).toArray);have ac:∀z,(Op.equalIn 10000 23 (jh a) (jh U)).run jo z=.ok r z:=by
   rw[K,s,f,show decide (aG (aQ l e)=d)=decide (d=aG (aQ l e))from decide_eq_decide.2 ⟨Eq.symm,Eq.symm⟩];exact λz=>nQ _ _ R.out (dS _) z
  have E:=O f;have HU:=O s;have Vf:=O B;have HE:=O he;have aa:T (((aG (aQ l e)).map v8).length=VD.n):=O (by rw[jy,dS];rfl);clear C he B f s
  go_upto_region 4 with fail
  refine jO ?_;refine fM (λf=>f.heap[w.heap.size]?=A (jc a VD.t (0,0))/\f.rangeAt g (o+k*32) ((aG (aQ l e)).map v8)) 6 (.take 0 (.take 1 (.take 2 (.take 3 (.take 4 (.take 5 .done)))))) af af af af G (λ_ _ _ _ h=>h) ⟨VT,D⟩ ?_
  (refine cJ (v:=jh a) I aj (λf s=>dh VD.hu VD.hd (by rw[M];exact VD.hi) I I s.1) ?_;refine L ?_)
  iterate 3 refine co ?_
  (refine cJ (v:=jh U) I aj (λf s=>by rw[HU];exact fx _ _ VD.t _ I _ _ I _ VD.d s.2 VD.hu VD.hd (by rw[aa];exact VD.hi)) ?_;refine L ?_)
  refine co ?_;refine fb ?_;have f:=bX wr;obtain⟨C,s⟩:=J wr.drew;rw[<-s]at f⊢;have B:=ai i f;clear f s D
  rcases r with _|_
  ·go_wp2_with fail
   exact⟨⟨k+1,by go_num,by omega,O (by
    rw[Vf];intro y f
    rcases j3.1 f with f|f
    ·exact p y f
    rw[jN]at f;rw[f];exact E.symm),B⟩,by simp only[jQ];omega⟩
  go_wp2_with fail
  go_ret;exact⟨_,I,.inr ⟨k,_,I,HE,E.symm,p⟩,b.trans (B.mono b.size)⟩
 have V:=aw ((k:N)<(n:N));have W:=aw (k<n);obtain rfl:k=n:=Y
 go_wp2_with fail
 go_ret;exact⟨_,I,.inl ⟨I,by have h:=p.out;rw[qv (by rw[<-x];exact jE _)]at h;exact h⟩,b.trans (i.mono b.size)⟩
def cZ(a:N)(b:LBy):jg jk:=jd je a::b.map v8
noncomputable def VF:VarT jo:=⟨25,33,(cZ 0 cG).toArray,_,underlying25,I,by kernel_rfl,rfl,λ_=>by kernel_rfl⟩
theorem A9{P:ow}{f:jp jK}{S:jj->Prop}{x j:bE}(d:cX P f i S b (.one M x) m w)(e:cX P f i S b (.one y j) m w):cX P f i S b (.two M y x j) m w:=⟨d,e⟩
theorem MI(b:B.op=.build 51 #[(0,R)])(c:m.eval R=jd je d)(W:jj):
 (jP m.eval B).run jo W=.ok (.value (jh (aD (aK d) (jb jf 0 0) (jb jf 0 0)).toArray)) W:=by
 have f:=uy (P:=jo) (t:=51) (zero:=jh VG.Z) (places:=#[(0,1),(1,1),(2,32),(34,1),(35,1)]) (λw=>by kernel_rfl) VG.hu (λw=>by kernel_rfl) (parts:=#[(0,jd je d)]) (X:=(aD (aK d) (jb jf 0 0) (jb jf 0 0)).toArray) af W;simp only[jP,b,pz,jY,jV,c,Sem.run_bind,f,Result.andThen_ok,Sem.run_pure]
theorem mU.find{α:Type}{p:α->jC}{l:jg α}(h:mU p l d):(d= -1/\l.find? p=jf)\/∃(k:ja) (x:α),d=k/\l[k]?=A x/\l.find? p=A x:=by
 rcases h with⟨b,a⟩|⟨k,x,b,a,c,r⟩
 ·exact .inl ⟨b,qw.2 λx e=>by rw[a x e];decide⟩
 refine .inr ⟨k,x,b,a,?_⟩;have g:=(jW.1 a).1;have e:l=l.take k++x::l.drop (k+1):=by
  rw[<-(jW.1 a).2,List.getElem_cons_drop,sv]
 rw[e,sx,qw.2 λy f=>by rw[r y f];decide];simp[c]
theorem GM(a:N)(w:jj):bW w (aK a) (jb jf 0 0) (jb jf 0 0):=⟨EK.At.nil,oE w,I⟩
theorem yj(k:Q)(h:Q->P:=by intro k;refine cJ (v:=?_) rfl aj (λW' hS=>?_) ?_;rotate_left;(have b1:=ah (i:=0) hS.1 rfl;clear hS;go_simp;with_reducible rfl);refine L ?_;exact k):P:=h k
theorem tQ(k:Q)(h:Q->P:=by intro k;refine cJ (v:=?_) rfl aj (λW' hS=>?_) ?_;rotate_left;(have b1:=ah (i:=2) hS.1 rfl;clear hS;go_simp;with_reducible rfl);refine L ?_;exact k):P:=h k
theorem tW(k:Q)(h:Q->P:=by intro k;refine cJ (v:=?_) rfl aj (λW' hS=>?_) ?_;rotate_left;(have b1:=hS.2.2.2.1;clear hS;go_simp;with_reducible rfl);refine L ?_;exact k):P:=h k
theorem Fi(Uc:jg CP)(v1 v2 v3:jk)(x:N)(Ur:LBy)(i:Ur.length=32)(w:jj)(r:iq (·<w.heap.size) w v1 v2 v3 Uc)(V:∀p∈Uc,da (aR p.1))(W:bP w)(hn:Uc.length<=1000):
 jz jo 30 #[jh #[v1,v2,v3],jh (cZ x Ur).toArray] w λe w'=>∃m o,e=jw (jH #[jh m,.bool o])/\m.size=VK.n/\m.all (·.oneCell')=ji/\
  (o=ji->∃k,m=(aL k).toArray/\KD (λb=>w.heap.size<=b/\b<w'.heap.size) Uc w' k/\ft x Ur (Uc.map (·.1))=A k.cand)/\(o=jm->ft x Ur (Uc.map (·.1))=jf)/\jl w w w':=by
 obtain⟨l,u⟩:∃l:jg Cmt,l=Uc.map (·.1):=⟨_,I⟩;obtain⟨PL,z⟩:=J (bU l l.length);have K:l.length=Uc.length:=by rw[u,jy]
 have bk:PL.length<=1000:=by rw[z];have:=rU l l.length;omega
 have R:=r.ids;have B:=r.at_;rw[<-u,<-K,<-z]at R B;obtain⟨p1,k1,rfl⟩:=r.list.form;obtain⟨p2,k2,rfl⟩:=R.form;obtain⟨p3,k3,rfl⟩:=B.form;have HL:=O r.list;have HI:=O R;have HA:=O B;have HE:=O V;have HT:=O W;have YW:=O u;have We:=O z;have bf:=O i;obtain⟨n,C⟩:=J Uc.length;obtain⟨F,D⟩:=J PL.length;have Zo:=O C;have bl:=O D;have Vn:T (l.length=n):=O (K.trans C.symm);rw[<-C]at hn⊢;rw[<-D]at bk HI HA⊢;rw[<-u];obtain⟨FA,y⟩:=J ((cZ x Ur).toArray);have Y9:T (FA.size=VF.n):=O (by rw[y,jv];unfold cZ;rw[j0,jy,i];rfl);have bm:T (FA[0]?=A (jd je x)):=O (by rw[y];rfl);have a4:T (∀(j:ja) d,(Ur.map v8)[j]?=A d->FA[1+j]?=A d):=O λj d hj=>by
  rw[y,qx]
  simpa [cZ]using hj
 have Ya:T ((Ur.map v8).length=VD.n):=O (by rw[jy,i];rfl);rw[<-y];obtain⟨M,f⟩:=J w.heap.size;have HM:=O f;obtain⟨W0,c⟩:=J (((w.alloc (jc #[jb p1 n k1,jb p2 F k2,jb p3 F k3] 75)).alloc (jc FA 25)).alloc (jc VK.Z VK.t));have P:=ao w (jc #[jb p1 n k1,jb p2 F k2,jb p3 F k3] 75);have Q:=P.trans ((ao (w.alloc (jc #[jb p1 n k1,jb p2 F k2,jb p3 F k3] 75)) (jc FA 25)).mono P.size);have E:=ao ((w.alloc (jc #[jb p1 n k1,jb p2 F k2,jb p3 F k3] 75)).alloc (jc FA 25)) (jc VK.Z VK.t);have S:T (W0.heap[M]?=A (jc #[jb p1 n k1,jb p2 F k2,jb p3 F k3] 75 (0,0))):=O (by rw[c,f];exact av (av (jA w _) (ao _ _)) E);have U:T (W0.heap[M+1]?=A (jc FA VF.t (0,0))):=O (by
  have h:=jA (w.alloc (jc #[jb p1 n k1,jb p2 F k2,jb p3 F k3] 75)) (jc FA 25);rw[jq]at h;rw[c,f];exact av h E)
 have X:T (W0.heap[M+2]?=A (jc VK.Z VK.t (0,0))):=O (by
  have h:=jA ((w.alloc (jc #[jb p1 n k1,jb p2 F k2,jb p3 F k3] 75)).alloc (jc FA 25)) (jc VK.Z VK.t);rw[jq,jq]at h;rw[c,f];exact h)
 have Uh:T (jl w w W0):=O (by rw[c];exact Q.trans (E.mono Q.size));have bn:T (W0.heap.size=M+3):=O (by rw[c,f,jq,jq,jq]);have HW:=O c;have aa:T (W0.rangeAt (M+1) 1 (Ur.map v8)):=O λt d q=>ah U (a4 t d q)
 have H:=MG l PL Ur i (jb p2 PL.length k2) W0 ((R.keep λg hg=>Uh.block g hg).row) Y;rw[<-D]at H;obtain⟨TF,g⟩:=J ((Ur.map v8).toArray);rw[<-g]at H;have ad:=O g;have ac:=O H;clear g;clear H P Q E c f y C D u K z R B r V W i
 go_enter func30,ntmps30
 go_upto_region 1 with(first|(refine VK.made I I (L ?_)))
 rw[<-HW];simp only[jq];rw[show w.heap.size+1+1=w.heap.size+2 from I,<-HM];clear HW;have g:=ah (i:=1) S I
 go_upto_region 2 with(first|(refine VD.load aj I I (Ur.map v8) Ya aa ?_;rw[<-ad];refine L ?_))
 refine ac.mono ?_;rintro e x1 ⟨r,rfl,f,c⟩;have HB:=O c;have V:T (jl w w x1):=ai Uh c;have H:=ae S c;have K:=ae U c;have y:=ae X c;have bo:=f.find;clear f c ac aa S U X g
 rcases bo with⟨rfl,c⟩|⟨kk,i,rfl,g,c⟩
 ·have HF:T (ft x Ur l=jf):=O (by unfold ft;rw[<-We,c];rfl)
  clear c
  go_wp2_with (first|(refine VK.loadA aj I I VK.Z VK.hZ y (L ?_))|(refine VK.store I I I VK.Z I VK.hZ af y VK.hZ ?_;rw[setRow_self _ _ _ _ _ y.out];refine L ?_))
  refine qo (fO I _ _ (M+2) VK.t VK.Z (0,0) _ I y r8 I (by rw[VK.hZ];exact VK.hi)) I ?_;exact⟨_,_,I,VK.hZ,by kernel_rfl,(λh=>by cases h),(λ_=>HF),V⟩
 have HF:T (ft x Ur l=if cQ (aK x) (aQ l i)=0 then A ⟨i,aQ l i,Ur,0,aC (aK x) (aQ l i)⟩else jf):=O (by unfold ft;rw[<-We,c];rfl);have bu:kk<F:=by rw[bl];exact(jW.1 g).1
 have bp:i<n:=by
  have h:=j4 g;rw[We]at h;have R:=(oR.1 h).1;rw[Vn]at R;exact R
 have hd:decide ((kk:N)<0)=jm:=by simp<;>omega
 have bv:=az (kk<F);have hd2:=az (i<n);obtain⟨ga,oa,ka,e3,D,-,E⟩:=HA.at1 Y;injection e3 with e1 z e2
 subst e1;subst e2;clear z;obtain⟨⟨u,qm⟩,f⟩:∃p,Uc[i]?=A p:=⟨_,sy (by rw[<-Zo];exact bp)⟩;obtain⟨W,ol,kl,e5,S,-,-,U⟩:=HL.elem f;injection e5 with e1 z e2
 subst e1;subst e2;clear z;have z:=j4 f;have P:T (x1.cell? ⟨ga,oa+kk,jf⟩=A (jd je (i:ja))):=O (aB (E kk _ (by unfold fQ;rw[qc,g];rfl)) V);have Q:T (x1.rangeAt W (ol+i*73) (aF u qm)):=O λj d hj=>aB (U j d hj) V
 have HQ:=O (HL.all _ z);have bg:=O (HE _ z);have bh:=O f;have ZR:T (aQ l i=u):=O (by unfold aQ;rw[YW];simp[List.getD,f]);have Vh:T ((aF u qm).length=VC.n):=O (dz u qm HQ.plen HQ.clen);obtain⟨C,B⟩:=J ((aF u qm).toArray);have WS:=O B;have Wo:T (C.size=VC.n):=O (by rw[B,jv];exact Vh);obtain⟨G0,X⟩:=J ((aD (aK x) (jb jf 0 0) (jb jf 0 0)).toArray);have a5:=O X;have ax:T (cQ (aK x) (aQ l i)=cQ (aK x) u/\aC (aK x) (aQ l i)=aC (aK x) u):=O (by rw[ZR];exact⟨I,I⟩);have Y5:T (ga<M/\W<M):=O ⟨by rw[HM];exact D,by rw[HM];exact S⟩;clear B X z f U E D S c g
 go_upto_region 4 with fail
 refine jO ?_;refine fM (λg=>g.heap[M]?=A (jc #[jb (A ⟨W,ol,jf⟩) n k1,jb p2 F k2,jb (A ⟨ga,oa,jf⟩) F k3] 75 (0,0))/\g.heap[M+1]?=A (jc FA VF.t (0,0))/\g.heap[M+2]?=A (jc VK.Z VK.t (0,0))/\g.cell? ⟨ga,oa+kk,jf⟩=A (jd je (i:ja))/\g.rangeAt W (ol+i*73) (aF u qm)) 19
  (.take 0 (.take 1 (.take 2 (.take 3 (.take 4 (.take 5 (.take 6 (.take 7 (.take 8 (.take 9 (.take 10 (.take 11 (.two 12 16 (.take 13 (.take 14 (.take 15 (.one 16 (.one 17 (.take 18 .done)))))) (.one 12 (.take 13 (.take 14 (.take 15 (.one 17 (.take 18 .done))))))))))))))))))) af af af af G (λ_ _ _ _ h=>h) ⟨H,K,y,P,Q⟩ ?_
 have c:=bX x1;obtain⟨x2,hx⟩:=J x1.drew;rw[<-hx]at c⊢;replace HB:=ai HB c;replace V:=ai V c;replace H:=ae H c;replace K:=ae K c;replace y:=ae y c;replace P:=O (aB P c);replace Q:T (x2.rangeAt W (ol+i*73) (aF u qm)):=O (λt d q=>aB (Q t d q) c);have a3:T (M+3<=x2.heap.size):=O (by rw[<-bn];exact HB.size);clear hx c;refine co ?_
 (refine cJ (v:=?_) I aj (λg S=>?_) ?_;rotate_left;(have f:=ah (i:=0) S.2.1 bm;clear S;go_simp;with_reducible rfl);refine L ?_)
 (refine cJ (v:=jh G0) I aj (λg S=>by rw[a5];exact MI I I g) ?_;refine L ?_)
 refine co ?_;refine yj ?_;refine co ?_;refine tQ ?_;iterate 2 refine co ?_
 refine tW ?_;refine co ?_
 (refine cJ (v:=jh C) I aj (λg S=>by rw[WS];exact fx _ _ VC.t _ I _ _ I _ VC.d S.2.2.2.2 VC.hu VC.hd (by rw[Vh];exact VC.hi)) ?_;refine L ?_)
 refine A9 ?_ ?_
 ·refine cV I (λK' B=>?_)
  go_simp;have hN:=AQ (aK x) (jb jf 0 0) (jb jf 0 0) u qm x2 (GM x _) (HQ.below V) bg (HT.below V) (jM _) (jM _);rw[<-a5,<-WS]at hN;refine hN.mono ?_;clear hN;rintro e x3 ⟨X,er,rfl,hN⟩;have z:=O hN;clear hN;have U:=O z.bel;refine B _ _ ⟨av H (U),av K (U),av y (U),aB P (U),λt d q=>aB (Q t d q) (U)⟩ λ_=>?_
  clear B;refine L ?_;iterate 3 refine co ?_
  refine cV I (λK' B=>?_);rw[jr aj];refine gK VG.t I VG.Z VG.hal ?_;have f:=U.trans ((ao x3 (jc VG.Z VG.t)).mono U.size);refine B _ _ ⟨av H (f),av K (f),av y (f),aB P (f),λt d q=>aB (Q t d q) (f)⟩ λ_=>?_
  clear B f;refine L ?_;refine cV I (λK' B=>?_);rw[jr aj];refine jR VG.t _ _ I x3.heap.size X I I VG.t VG.Z (jA x3 _) (by rw[z.sz];exact VG.hi) (VG.hZ.trans z.sz.symm) z.one ?_;rw[ya];obtain⟨x5,b7,hx,f,V8,aa⟩:=dt x3 X VG.t;rw[<-hx,<-f];have ZJ:T (M+3<=b7):=O (by rw[f];exact jF a3 U.size);have Vj:T (er=0->∃D E,X=(aD (aC (aK x) u) D E).toArray/\dO (λk=>M+3<=k/\k<x5.heap.size) x5 (aC (aK x) u) D E):=O λh=>by
   obtain⟨D,E,e1,R⟩:=z.new h;exact⟨D,E,e1,(R.below aa).mono λb f=>⟨jF a3 f.1,f.2⟩⟩
  have c:=U.trans (aa.mono U.size);refine B _ _ ⟨av H (c),av K (c),av y (c),aB P (c),λt d q=>aB (Q t d q) (c)⟩ λ_=>?_
  replace HB:=ai HB c;replace V:=ai V c;replace H:=ae H c;replace K:=ae K c;replace y:=ae y c;replace P:=O (aB P c);replace Q:T (x5.rangeAt W (ol+i*73) (aF u qm)):=O (λt d q=>aB (Q t d q) c);clear c;clear B hx f aa;refine L ?_;refine co ?_;refine fb ?_;obtain⟨o,ho⟩:=J (decide (er=0));have ay:=O ho;have bq:(er==0)=o:=by rw[ho];by_cases h:er=0<;>simp[h]
  have br:decide (er=0)=o:=ho.symm;clear ho
  go_upto_region 5 with fail
  refine jO ?_;refine fM (λg=>g.heap[M]?=A (jc #[jb (A ⟨W,ol,jf⟩) n k1,jb p2 F k2,jb (A ⟨ga,oa,jf⟩) F k3] 75 (0,0))/\g.heap[M+1]?=A (jc FA VF.t (0,0))/\g.heap[b7]?=A (jc X VG.t (0,0))/\g.cell? ⟨ga,oa+kk,jf⟩=A (jd je (i:ja))/\g.rangeAt W (ol+i*73) (aF u qm)) 22
   (.take 0 (.take 1 (.take 2 (.take 3 (.take 4 (.take 5 (.take 6 (.take 7 (.take 8 (.take 9 (.take 10 (.take 11 (.take 12 (.take 13 (.take 14 (.take 15 (.take 16 (.take 17 (.take 18 (.take 19 (.one 20 (.take 21 .done)))))))))))))))))))))) af af af af G (λ_ _ _ _ h=>h) ⟨H,K,V8,P,Q⟩ ?_
  have c:=bX x5;obtain⟨x6,hx⟩:=J x5.drew;rw[<-hx]at c⊢;replace V:=ai V c;replace H:=ae H c;replace K:=ae K c;replace y:=ae y c;replace V8:=ae V8 c;replace P:=O (aB P c);replace Q:T (x6.rangeAt W (ol+i*73) (aF u qm)):=O (λt d q=>aB (Q t d q) c);have a6:=O c;clear hx c;refine co ?_;refine tQ ?_;iterate 2 refine co ?_
  refine tW ?_;refine co ?_;refine yj ?_;refine co ?_;refine tQ ?_;iterate 2 refine co ?_
  refine tW ?_;refine co ?_
  (refine cJ (v:=jh C) I aj (λg S=>by rw[WS];exact fx _ _ VC.t _ I _ _ I _ VC.d S.2.2.2.2 VC.hu VC.hd (by rw[Vh];exact VC.hi)) ?_;refine L ?_)
  refine co ?_
  (refine cJ (v:=jh TF) I aj (λg S=>by rw[ad];exact fx _ _ VD.t _ I (M+1) 1 I _ VD.d (λt d q=>ah S.2.1 (a4 t d q)) VD.hu VD.hd (by rw[Ya];exact VD.hi)) ?_;refine L ?_)
  (refine cJ (v:=jh X) I aj (λg S=>dh VG.hu VG.hd (by rw[z.sz];exact VG.hi) I I S.2.2.1) ?_;refine L ?_)
  have YD:T (TF.size=32):=O (by rw[ad,jv];exact Ya);obtain⟨m,hY⟩:=J ((#[jI .i64 (i:ja)]++C++TF++ #[jI .i64 (0:N)]++X))
  (refine cJ (v:=jh m) I aj (λg S=>by rw[hY];exact zt (i:=(i:ja)) (s:=0) (C:=C) (I0:=TF) (G0:=X) Wo YD z.sz I af g) ?_;refine L ?_)
  have Yc:T (m.size=VK.n):=O (by rw[hY,mb,mb,mb,mb,Wo,YD,z.sz];rfl);have a1:T (m.all (·.oneCell')=ji):=O (by
   have VU:C.all (·.oneCell')=ji:=by rw[WS,jS];exact λd hu=>nj HQ d (ak hu)
   have U0:TF.all (·.oneCell')=ji:=by rw[ad];exact eR _
   rw[hY,ms,ms,ms,ms,z.one,VU,U0];simp[j5])
  have ba:=O hY;clear hY;iterate 2 refine co ?_
  refine cV I (λK' B=>?_);rw[jr aj];refine jR VK.t _ _ I (M+2) m I I VK.t VK.Z y.out (by rw[Yc];exact VK.hi) (VK.hZ.trans Yc.symm) a1 ?_;have aa:∀b,b≠M+2->(x6.setRow (M+2) m).heap[b]?=x6.heap[b]?:=λb f=>js _ _ _ _ f
  have au:jl w w (x6.setRow (M+2) m):=iP V.out (by rw[<-HM];omega) m;have ac:(x6.setRow (M+2) m).heap.size=x6.heap.size:=setRow_size _ _ _;have a2:T ((x6.setRow (M+2) m).heap[M+2]?=A (jc m VK.t (0,0))):=O (jU _ _ _ _ _ _ y.out);generalize x6.setRow (M+2) m=x7 at aa au ac a2⊢;refine B _ _ ⟨(aa M Y).trans H,(aa (M+1) Y).trans K,(aa b7 (aI ZJ)).trans V8,(qy (a:=⟨ga,oa+kk,jf⟩) (aa ga (cT Y5.1))).trans P,λt d q=>(qy (a:=⟨W,ol+i*73+t,jf⟩) (aa W (cT Y5.2))).trans (Q t d q)⟩ λ_=>?_
  have bb:T (er=0->∃D E,X=(aD (aC (aK x) u) D E).toArray/\dO (λk=>M+3<=k/\k<x7.heap.size) x7 (aC (aK x) u) D E):=O λh=>by
   obtain⟨D,E,e1,R⟩:=Vj h;exact⟨D,E,e1,((R.below a6).keep λb f=>aa b Y).mono λb f=>⟨f.1,by rw[ac];exact f.2⟩⟩
  have bc:=O au;clear B aa ac au Vj;refine L ?_;refine co ?_;refine fb ?_
  go_wp2_with fail
  refine qo (fO I _ _ (M+2) VK.t m (0,0) _ I a2 r8 I (by rw[Yc];exact VK.hi)) I ?_;refine⟨m,o,I,Yc,a1,λh=>?_,λh=>?_,bc⟩
  ·have h0:er=0:=qO (ay.out▸h)
   obtain⟨D,E,e1,R⟩:=bb h0;refine⟨⟨i,(u,qm),Ur,0,aC (aK x) u,D,E⟩,?_,KD.of bh (R.mono λb f=>⟨by rw[<-HM];omega,f.2⟩) bf,?_⟩
   ·rw[ba,WS,ad,e1,<-Aj,qU]
   rw[HF,ax.1,ax.2,jr (z.eq.symm.trans h0),ZR];exact qs A CK.cand_of.symm
  have h0:¬er=0:=of_decide_eq_false (ay.out▸h);rw[HF,ax.1,jD (λe=>h0 (z.eq.trans e))]
 refine cV I (λK' B=>?_);rw[jr aj];refine gK VG.t I VG.Z VG.hal ?_;obtain⟨x3,b7,hx,f,bs,bd⟩:=dt x2 VG.Z VG.t;rw[<-hx,<-f];have UD:T (b7=x2.heap.size/\x3.heap.size=b7+1):=O ⟨f,by rw[hx,f,jq]⟩;have U:=O bd;have bi:=ai V bd;refine B _ _ ⟨av H (U),av K (U),av y (U),aB P (U),λt d q=>aB (Q t d q) (U)⟩ λ_=>?_
 clear B hx f bd;refine L ?_;refine cV I (λK' B=>?_);go_simp;have hN:=AQ (aK x) (jb jf 0 0) (jb jf 0 0) u qm x3 (GM x _) (HQ.below bi) bg (HT.below bi) (jM _) (jM _);rw[<-a5,<-WS]at hN;refine hN.mono ?_;clear hN;rintro e x4 ⟨X,er,rfl,hN⟩;have z:=O hN;clear hN;have Uq:=O (U.trans (z.bel.mono U.size));have bd:=O (av bs z.bel);refine B _ _ ⟨av H (Uq),av K (Uq),av y (Uq),aB P (Uq),λt d q=>aB (Q t d q) (Uq)⟩ λ_=>?_
 clear B;refine L ?_;iterate 3 refine co ?_
 refine cV I (λK' B=>?_);rw[jr aj];refine jR VG.t _ _ I b7 X I I VG.t VG.Z bd.out (by rw[z.sz];exact VG.hi) (VG.hZ.trans z.sz.symm) z.one ?_;have V8:T ((x4.setRow b7 X).heap[b7]?=A (jc X VG.t (0,0))):=O (jU _ _ _ _ _ _ bd.out);have c:jl x2 x2 (x4.setRow b7 X):=iP Uq.out (by rw[UD.1];exact jE _) X;have Ys:∀b,x3.heap.size<=b->(x4.setRow b7 X).heap[b]?=x4.heap[b]?:=λb f=>js _ _ _ _ (cT UD.2)
 have ac:(x4.setRow b7 X).heap.size=x4.heap.size:=setRow_size _ _ _;generalize x4.setRow b7 X=x5 at V8 c Ys ac⊢;have ZJ:T (M+3<=b7):=O (by rw[UD.1];exact a3);have Vj:T (er=0->∃D E,X=(aD (aC (aK x) u) D E).toArray/\dO (λk=>M+3<=k/\k<x5.heap.size) x5 (aC (aK x) u) D E):=O λh=>by
  obtain⟨D,E,e1,R⟩:=z.new h;exact⟨D,E,e1,(R.keep λb f=>Ys b f.1).mono λb f=>⟨jF a3 (jF U.size f.1),by rw[ac];exact f.2⟩⟩
 refine B _ _ ⟨av H (c),av K (c),av y (c),aB P (c),λt d q=>aB (Q t d q) (c)⟩ λ_=>?_
 replace HB:=ai HB c;replace V:=ai V c;replace H:=ae H c;replace K:=ae K c;replace y:=ae y c;replace P:=O (aB P c);replace Q:T (x5.rangeAt W (ol+i*73) (aF u qm)):=O (λt d q=>aB (Q t d q) c);clear c;clear B Ys ac;refine L ?_;refine co ?_;refine fb ?_;obtain⟨o,ho⟩:=J (decide (er=0));have ay:=O ho;have bq:(er==0)=o:=by rw[ho];by_cases h:er=0<;>simp[h]
 have br:decide (er=0)=o:=ho.symm;clear ho
 go_upto_region 5 with fail
 refine jO ?_;refine fM (λg=>g.heap[M]?=A (jc #[jb (A ⟨W,ol,jf⟩) n k1,jb p2 F k2,jb (A ⟨ga,oa,jf⟩) F k3] 75 (0,0))/\g.heap[M+1]?=A (jc FA VF.t (0,0))/\g.heap[b7]?=A (jc X VG.t (0,0))/\g.cell? ⟨ga,oa+kk,jf⟩=A (jd je (i:ja))/\g.rangeAt W (ol+i*73) (aF u qm)) 22
  (.take 0 (.take 1 (.take 2 (.take 3 (.take 4 (.take 5 (.take 6 (.take 7 (.take 8 (.take 9 (.take 10 (.take 11 (.take 12 (.take 13 (.take 14 (.take 15 (.take 16 (.take 17 (.take 18 (.take 19 (.one 20 (.take 21 .done)))))))))))))))))))))) af af af af G (λ_ _ _ _ h=>h) ⟨H,K,V8,P,Q⟩ ?_
 have c:=bX x5;obtain⟨x6,hx⟩:=J x5.drew;rw[<-hx]at c⊢;replace V:=ai V c;replace H:=ae H c;replace K:=ae K c;replace y:=ae y c;replace V8:=ae V8 c;replace P:=O (aB P c);replace Q:T (x6.rangeAt W (ol+i*73) (aF u qm)):=O (λt d q=>aB (Q t d q) c);have a6:=O c;clear hx c;refine co ?_;refine tQ ?_;iterate 2 refine co ?_
 refine tW ?_;refine co ?_;refine yj ?_;refine co ?_;refine tQ ?_;iterate 2 refine co ?_
 refine tW ?_;refine co ?_
 (refine cJ (v:=jh C) I aj (λg S=>by rw[WS];exact fx _ _ VC.t _ I _ _ I _ VC.d S.2.2.2.2 VC.hu VC.hd (by rw[Vh];exact VC.hi)) ?_;refine L ?_)
 refine co ?_
 (refine cJ (v:=jh TF) I aj (λg S=>by rw[ad];exact fx _ _ VD.t _ I (M+1) 1 I _ VD.d (λt d q=>ah S.2.1 (a4 t d q)) VD.hu VD.hd (by rw[Ya];exact VD.hi)) ?_;refine L ?_)
 (refine cJ (v:=jh X) I aj (λg S=>dh VG.hu VG.hd (by rw[z.sz];exact VG.hi) I I S.2.2.1) ?_;refine L ?_)
 have YD:T (TF.size=32):=O (by rw[ad,jv];exact Ya);obtain⟨m,hY⟩:=J ((#[jI .i64 (i:ja)]++C++TF++ #[jI .i64 (0:N)]++X))
 (refine cJ (v:=jh m) I aj (λg S=>by rw[hY];exact zt (i:=(i:ja)) (s:=0) (C:=C) (I0:=TF) (G0:=X) Wo YD z.sz I af g) ?_;refine L ?_)
 have Yc:T (m.size=VK.n):=O (by rw[hY,mb,mb,mb,mb,Wo,YD,z.sz];rfl);have a1:T (m.all (·.oneCell')=ji):=O (by
  have VU:C.all (·.oneCell')=ji:=by rw[WS,jS];exact λd hu=>nj HQ d (ak hu)
  have U0:TF.all (·.oneCell')=ji:=by rw[ad];exact eR _
  rw[hY,ms,ms,ms,ms,z.one,VU,U0];simp[j5])
 have ba:=O hY;clear hY;iterate 2 refine co ?_
 refine cV I (λK' B=>?_);rw[jr aj];refine jR VK.t _ _ I (M+2) m I I VK.t VK.Z y.out (by rw[Yc];exact VK.hi) (VK.hZ.trans Yc.symm) a1 ?_;have aa:∀b,b≠M+2->(x6.setRow (M+2) m).heap[b]?=x6.heap[b]?:=λb f=>js _ _ _ _ f
 have au:jl w w (x6.setRow (M+2) m):=iP V.out (by rw[<-HM];omega) m;have ac:(x6.setRow (M+2) m).heap.size=x6.heap.size:=setRow_size _ _ _;have a2:T ((x6.setRow (M+2) m).heap[M+2]?=A (jc m VK.t (0,0))):=O (jU _ _ _ _ _ _ y.out);generalize x6.setRow (M+2) m=x7 at aa au ac a2⊢;refine B _ _ ⟨(aa M Y).trans H,(aa (M+1) Y).trans K,(aa b7 (aI ZJ)).trans V8,(qy (a:=⟨ga,oa+kk,jf⟩) (aa ga (cT Y5.1))).trans P,λt d q=>(qy (a:=⟨W,ol+i*73+t,jf⟩) (aa W (cT Y5.2))).trans (Q t d q)⟩ λ_=>?_
 have bb:T (er=0->∃D E,X=(aD (aC (aK x) u) D E).toArray/\dO (λk=>M+3<=k/\k<x7.heap.size) x7 (aC (aK x) u) D E):=O λh=>by
  obtain⟨D,E,e1,R⟩:=Vj h;exact⟨D,E,e1,((R.below a6).keep λb f=>aa b Y).mono λb f=>⟨f.1,by rw[ac];exact f.2⟩⟩
 have bc:=O au;clear B aa ac au Vj;refine L ?_;refine co ?_;refine fb ?_
 go_wp2_with fail
 refine qo (fO I _ _ (M+2) VK.t m (0,0) _ I a2 r8 I (by rw[Yc];exact VK.hi)) I ?_;refine⟨m,o,I,Yc,a1,λh=>?_,λh=>?_,bc⟩
 ·have h0:er=0:=qO (ay.out▸h)
  obtain⟨D,E,e1,R⟩:=bb h0;refine⟨⟨i,(u,qm),Ur,0,aC (aK x) u,D,E⟩,?_,KD.of bh (R.mono λb f=>⟨by rw[<-HM];omega,f.2⟩) bf,?_⟩
  ·rw[ba,WS,ad,e1,<-Aj,qU]
  rw[HF,ax.1,ax.2,jr (z.eq.symm.trans h0),ZR];exact qs A CK.cand_of.symm
 have h0:¬er=0:=of_decide_eq_false (ay.out▸h);rw[HF,ax.1,jD (λe=>h0 (z.eq.trans e))]
theorem B3:∀(l:jg N) (a b:N),l.Pairwise (·<·)->(∀x∈l,a<=x/\x<=b)->(l.length:N)<=max 0 (b-a+1)
 |[],a,b,_,_=>by simp;omega
 |x::l,a,b,h,c=>by
  rw[vi]at h;have e:=c x (qd ..);have f:=B3 l (x+1) b h.2 λy d=>⟨by have:=h.1 y d;omega,(c y (qe _ d)).2⟩
  rw[j0];omega
theorem oM(h:dC a):a.mem.length<=512/\a.tree.length<=1023:=by
 constructor
 ·have g:=qs List.length h.dev
  rw[jy]at g;have:=F9 a.tree;omega
 have b:=lM h.tree;have g:=B3 (a.tree.map (·.1)) 1 1023 b.1.keys λx c=>by
  obtain⟨e,he,rfl⟩:=qf.1 c;exact⟨(b.2 e he).1,(b.2 e he).2.1⟩
 rw[jy]at g;omega
section
variable{b:CK}{e:jk}
section
variable {P:ow} {F:Fence} {nF:ja} {ops:jp jK} {rest:jg jK} {o:jK} {a:Act} {w:jj} {Q:Exit->Act->jj->Prop} (V:VarT P)
theorem VarT.madeI(d:o.guard=jf)(b:o.op=.alloc V.t)(h:wpListIn F nF P ops Q rest (a.put o.dst (ju (A ⟨w,0,jf⟩))) (w.alloc (jc V.Z V.t))):wpListIn F nF P ops Q (o::rest) a w:=by
 refine wpListIn_plain d λg e=>?_
 unfold Oper.wpIn;refine⟨by simp[Oper.about,b],?_⟩;rw[Oper.semAt_plain F _ _ (by rw[b];intro c f;cases f)];simp only[jP,b,Sem.run_bind,V.hal,Result.andThen_ok,Sem.run_pure];exact e _ _ h
theorem VarT.storeI(d:o.guard=jf){x y:j1}(e:o.op=.store V.t x y){g:ja}(f:a.eval x=ju (A ⟨g,0,jf⟩))(C:jp jk)(i:a.eval y=jh C)(c:C.size=V.n)(j:C.all (·.oneCell')=ji)
 {b:jp jk} (k:w.heap[g]?=A (jc b V.t (0,0))) (l:b.size=V.n) (h:wpListIn F nF P ops Q rest (a.put o.dst jn) (w.setRow g C)):wpListIn F nF P ops Q (o::rest) a w:=
 Ak d V.t x y e g C f i V.t b k (by rw[c];exact V.hi) (l.trans c.symm) j h
theorem VarT.firstI(b:o.guard=jf){x y:j1}(c:o.op=.store V.t x y)(d:a.eval x=ju (A ⟨w,0,jf⟩))(C:jp jk)(e:a.eval y=jh C)(f:C.size=V.n)(g:C.all (·.oneCell')=ji)
 (h:wpListIn F nF P ops Q rest (a.put o.dst jn) (w.alloc (jc C V.t))):wpListIn F nF P ops Q (o::rest) a (w.alloc (jc V.Z V.t)):=
 V.storeI b c d C e f g (jA w _) V.hZ (by rw[ya];exact h)
theorem VarT.loadI(e:Region.wanted o (yielded ops a.tmps)=ji){x:j1}(d:o.op=.load V.t x){g f:ja}(i:a.eval x=ju (A ⟨g,f,jf⟩))(b:jg jk)(j:b.length=V.n)(k:w.rangeAt g f b)
 (h:wpListIn F nF P ops Q rest (a.put o.dst (jh b.toArray)) w):wpListIn F nF P ops Q (o::rest) a w:=by
 refine wpListIn_step λn l=>?_
 rw[jr e];unfold Oper.wpIn;refine⟨by simp[Oper.about,d],?_⟩;rw[Oper.semAt_plain F _ _ (by rw[d];intro c m;cases m),fx o a V.t x d g f i b V.d k V.hu V.hd (by rw[j];exact V.hi)];exact l _ _ h
theorem VarT.loadAI(b:Region.wanted o (yielded ops a.tmps)=ji){x:j1}(c:o.op=.load V.t x){g:ja}(d:a.eval x=ju (A ⟨g,0,jf⟩))(C:jp jk)(e:C.size=V.n){t:jJ}(f:w.heap[g]?=A (jc C t (0,0)))
 (h:wpListIn F nF P ops Q rest (a.put o.dst (jh C)) w):wpListIn F nF P ops Q (o::rest) a w:=by
 refine V.loadI b c d C.toList (by rw[wi];exact e) (λj v i=>?_) (by rw[qU];exact h);rw[qV];exact ah f (ak i)
end
theorem H8{w:jj}{g o:ja}(h:w.cell? ⟨g,o,jf⟩=A e):∃c t f,w.heap[g]?=A (jc c t f):=by
 unfold World.cell? at h
 cases ho:w.heap[g]? with
 |none=>simp[ho]at h
 |some a=>
  cases a with
  |cells c t f=>exact⟨c,t,f,I⟩
  |_=>simp[ho]at h
theorem cF.cellsB{w:jj}{sz n:ja}{xs:jg jk}(h:cF w e sz n xs)(i:0<sz):kT (λb=>∃c t f,w.heap[b]?=A (jc c t f)) e:=by
 obtain⟨f,p,c,rfl,-,-,j⟩:=h;rintro r k s v d a rfl;injection v with b l t
 subst l;obtain⟨g,o,rfl,m⟩:=j d;injection b with b
 subst b;have q:0<xs.length:=by rw[f];exact Nat.mul_pos d i
 exact H8 (m 0 _ (sy q))
theorem bH.cellsB{w:jj}{t:jg (N×N)}(h:bH w e t):kT (λb=>∃c t f,w.heap[b]?=A (jc c t f)) e:=by
 obtain⟨p,c,rfl,-,-,f,-⟩:=h;rintro l k m v d a rfl;injection v with b i n
 subst i;obtain⟨g,o,rfl,j⟩:=f d;injection b with b
 subst b;exact H8 (j 0 d).1
theorem dO.cellsOnly{D:ja->Prop}{w:jj}{g:Grp}{vt:jk}(h:dO D w g e vt):dO (λb=>D b/\∃c t f,w.heap[b]?=A (jc c t f)) w g e vt:=by
 refine⟨h.grp,λp k c vm b a d=>⟨h.bm p k c vm b a d,?_⟩,λp k c vm b a d=>⟨h.bt p k c vm b a d,?_⟩⟩
 ·exact cF.cellsB h.grp.mem G p k c vm b a d
 exact bH.cellsB h.grp.tree p k c vm b a d
def gb(k:CK)(b:ja):Prop:=(∃a n c,k.vm=jb (A a) n c/\0<n/\a.block=b)\/∃a n c,k.vt=jb (A a) n c/\0<n/\a.block=b
theorem KD.own{D:ja->Prop}{f:jg CP}{w:jj}(h:KD D f w b):KD (λk=>gb b k/\D k) f w b:=
 ⟨h.at_,⟨h.grp.grp,λp n c e k a d=>⟨.inl ⟨a,n,c,by rw[e,d],k,I⟩,h.grp.bm p n c e k a d⟩,λp n c e k a d=>⟨.inr ⟨a,n,c,by rw[e,d],k,I⟩,h.grp.bt p n c e k a d⟩⟩,h.idl⟩
theorem rE{D:ja->Prop}{f:jg CP}{w:jj}(h:KD D f w b){k:ja}(g:gb b k):D k:=by
 rcases g with⟨a,n,c,e,d,rfl⟩|⟨a,n,c,e,d,rfl⟩
 ·exact h.grp.bm _ _ _ e d a I
 exact h.grp.bt _ _ _ e d a I
def GK(a:jg CP)(Ψ:ja->Prop)(W:jj)(k:CK):Prop:=KD (λb=>gb k b/\¬Ψ b/\∃c t f,W.heap[b]?=A (jc c t f)) a W k
theorem GK.of{D:ja->Prop}{a:jg CP}{Ψ:ja->Prop}{W:jj}{k:CK}(h:KD D a W k)(d:∀b,D b->¬Ψ b):GK a Ψ W k:=
 KD.own ⟨h.at_,h.grp.cellsOnly.mono λb c=>⟨d b c.1,c.2⟩,h.idl⟩
theorem GK.keep{g:jg CP}{Ψ i:ja->Prop}{d B:jj}{k:CK}(h:GK g Ψ d k)(e:∀b,gb k b->¬Ψ b->(∃c t f,d.heap[b]?=A (jc c t f))->B.heap[b]?=d.heap[b]?/\¬i b):GK g i B k:=
 (KD.keep h λb a=>(e b a.1 a.2.1 a.2.2).1).mono λb a=>⟨a.1,(e b a.1 a.2.1 a.2.2).2,by obtain⟨c,t,f,j⟩:=a.2.2;exact⟨c,t,f,(e b a.1 a.2.1 a.2.2).1.trans j⟩⟩
theorem GK.turns{B0:ja}{i:jg CP}{Ψ a:ja->Prop}{e B:jj}(h:GK i Ψ e b)(l:bL B0 a e B)(m:∀b,a b->Ψ b\/e.heap.size<=b):GK i a B b:=
 h.keep λk p n o=>by
  obtain⟨c,t,f,g⟩:=o;have d:¬a k:=λd=>by
   rcases m k d with j|j
   ·exact n j
   have:=(jB.1 g).1;omega
  exact⟨(l.cells g d).trans g.symm,d⟩
theorem Dg(B0:ja)(a:jg CP):bY B0 (fun(ys:jg CK) Ψ W=>∀x∈ys,GK a Ψ W x):=
 λs Ψ f g B b c _ d x e=>(b x e).turns c d
structure fh(w0 w:jj)(a m:ja)(Ψ:ja->Prop)(W:jj):Prop where
 lt:∀k,Ψ k->k<W.heap.size
 old:∀k,m<=k->k<w.heap.size->Ψ k
 kept:∀k,m<=k->k<w.heap.size->W.heap[k]?=w.heap[k]?
 bel:jl a w0 W
 low:∀k,Ψ k->m<=k
 sz:w.heap.size<=W.heap.size
theorem fh.below{w0 w W c:jj}{b m:ja}{Ψ:ja->Prop}(h:fh w0 w b m Ψ W)(e:b<=w.heap.size)(a:jl W W c):fh w0 w b m Ψ c:=
 ⟨λk f=>jL (h.lt k f) a.size,h.old,λk g d=>(a.block k (jL d h.sz)).trans (h.kept k g d),h.bel.trans (a.mono (jF e h.sz)),h.low,jF h.sz a.size⟩
theorem fh.yield{w0 w W b:jj}{c m:ja}{Ψ:ja->Prop}(h:fh w0 w c m Ψ W)(d:jl c W b)(f:∀k,Ψ k->b.heap[k]?=W.heap[k]?):fh w0 w c m Ψ b:=
 ⟨λk a=>jL (h.lt k a) d.size,h.old,λk a e=>(f k (h.old k a e)).trans (h.kept k a e),h.bel.trans d,h.low,jF h.sz d.size⟩
theorem fh.more{w0 w W:jj}{c m b:ja}{Ψ:ja->Prop}(h:fh w0 w c m Ψ W)(d:b<W.heap.size)(e:m<=b):fh w0 w c m (λk=>Ψ k\/k=b) W:=
 ⟨λk a=>by rcases a with a|rfl;exact h.lt k a;exact d,λk f g=>.inl (h.old k f g),h.kept,h.bel,λk a=>by rcases a with a|rfl;exact h.low k a;exact e,h.sz⟩
theorem fh.pool{w0 w W:jj}{d m:ja}{Ψ:ja->Prop}{f g:jk}{a:jg CP}(h:fh w0 w d m Ψ W)(i:w0.heap.size<=d)(j:cC w0 e a)(k:aH (λb=>m<=b/\b<w.heap.size) w f 32 (bU (a.map (·.1)) a.length).length (eJ (a.map (·.1)) (bU (a.map (·.1)) a.length)))
 (l:aH (λb=>m<=b/\b<w.heap.size) w g 1 (bU (a.map (·.1)) a.length).length (fQ (bU (a.map (·.1)) a.length))):iq (·<W.heap.size) W e f g a:=
 ⟨j.below (h.bel.mono i),(k.keep λb c=>h.kept b c.1 c.2).mono λb c=>jL c.2 h.sz,(l.keep λb c=>h.kept b c.1 c.2).mono λb c=>jL c.2 h.sz⟩
noncomputable def uv(l:jg Cmt):jG CK->jg aN
 |none=>[]
 |some k=>gW l k.cand
noncomputable def yx(l:jg Cmt)(k:CK):jg aN:=match dY k.g l with|none=>[]|some w=>gW l w
theorem KI(l:jg Cmt)(k:CK):uv l (A k)=k.cand::yx l k:=rA l k.cand
structure CSt(a:jg CP)(e:N)(f:LBy)(w W:jj)(Ψ:ja->Prop)(b:ja)(c:jp jk)(ys:jg CK)(d:jG CK):Prop where
 box:W.heap[b]?=A (jc c VK.t (0,0))
 sz:c.size=VK.n
 one:c.all (·.oneCell')=ji
 mine:Ψ b
 low:w.heap.size<=b
 now:∀k,d=A k->c=(aL k).toArray/\GK a Ψ W k/\∃g,gB g (a.map (·.1)) k.cand
 rest:ys.map CK.cand++uv (a.map (·.1)) d=dU e f (a.map (·.1))
noncomputable def chM(l:jg Cmt)(a ok:jk)(W:jj):ja:=
 match ok,a with
 | .bool ji,ju (A ⟨b,_,_⟩)=>(l.countP λc=>decide (((W.cell? ⟨b,108,jf⟩).map jQ).getD 0<c.epoch))+1
 |_,_=>0
theorem GF{a:jg CP}{d:N}{v:LBy}{w W:jj}{Ψ:ja->Prop}{k:ja}{f:jp jk}{ys:jg CK}(h:CSt a d v w W Ψ k f ys (A b))(g:cC W e a):
 chM (a.map (·.1)) (ju (A ⟨k,0,jf⟩)) (.bool ji) W=iE (a.map (·.1)) b.g+1:=by
 obtain⟨i,j,-⟩:=h.now b I;have c:=KD.kin j g;have l:W.cell? ⟨k,108,jf⟩=A (jd je b.g.epoch):=ah h.box (by
  rw[i,mz];exact(nB c 2).trans (lN (vm:=b.vm) (vt:=b.vt) c.leads.llen).2.1)
 unfold chM;simp only[l]
 rfl
theorem yh(d:jg CP)(H U V:jk)(r:N)(q:LBy)(j:q.length=32)(w0 w:jj)(s m bp bf:ja)(v:w0.heap.size<=s)(F:jl s w0 w)(y:s<=m)(l:m<=w.heap.size)(P:cC w0 H d)
 (Q:aH (λb=>m<=b/\b<w.heap.size) w U 32 (bU (d.map (·.1)) d.length).length (eJ (d.map (·.1)) (bU (d.map (·.1)) d.length))) (R:aH (λb=>m<=b/\b<w.heap.size) w V 1 (bU (d.map (·.1)) d.length).length (fQ (bU (d.map (·.1)) d.length)))
 (o:w.heap[bp]?=A (jc #[H,U,V] VP.t (0,0))) (u:w.heap[bf]?=A (jc (cZ r q).toArray VF.t (0,0))) (S:m<=bp) (X:m<=bf) (C:∀p∈d,da (aR p.1)) (hT:bP w0) (D:d.length<=1000) (aa:∀p∈d,p.1.chg.length<=1000000):
 zV jo 36 #[ju (A ⟨bp,0,jf⟩),ju (A ⟨bf,0,jf⟩)] (λk:CK=>#[jh (aL k).toArray]) (λk=>m<=k/\k<w.heap.size) s (λxs=>xs.map CK.cand=dU r q (d.map (·.1))) (λa=>∃c,a.map CK.cand++c=dU r q (d.map (·.1)))
  (λys Ψ e=>(∃a x,ys=a++[x]/\GK d Ψ e x)/\∃c,ys.map CK.cand++c=dU r q (d.map (·.1))) (λys Ψ B=>∀x∈ys,GK d Ψ B x) gb w:=by
 intro lp K Jx W c p x B hY ac;have e:fh w0 w s m (λk=>m<=k/\k<w.heap.size) W:=⟨λk g=>jL g.2 c.size,λk a b=>⟨a,b⟩,λk _ g=>c.block k g,F.trans (c.mono (jF y l)),λk g=>g.1,c.size⟩;obtain⟨PA,f⟩:=J (#[H,U,V]);obtain⟨FA,i⟩:=J ((cZ r q).toArray);have bk:T (PA.size=VP.n):=O (by rw[f];rfl);have Y9:T (FA.size=VF.n):=O (by rw[i,jv];unfold cZ;rw[j0,jy,j];rfl);rw[<-f]at o;rw[<-i]at u;have YR:T (∀Ψ z,fh w0 w s m Ψ z->z.heap[bp]?=A (jc PA VP.t (0,0))):=O λΨ z h=>(h.kept bp S (jB.1 o).1).trans o
 have bw:T (∀Ψ z,fh w0 w s m Ψ z->z.heap[bf]?=A (jc FA VF.t (0,0))):=O λΨ z h=>(h.kept bf X (jB.1 u).1).trans u
 have Yq:T (∀Ψ z,fh w0 w s m Ψ z->iq (·<z.heap.size) z H U V d):=O λΨ z h=>h.pool v P Q R
 have bl:T (∀Ψ z,fh w0 w s m Ψ z->bP z):=O λΨ z h=>hT.below (h.bel.mono v)
 have bA:=O f;have b5:=O i;have HE:=O C;have HN:=O D;have Vo:=O aa;have Zi:=O e;have M:=O p;have b6:=O x;have HG:=O B;have HY:=O hY;have E:=O ac;have Ym:=O (jF y l);have Z6:=O l;have ba:=O c.size;have b7:=O j;have Wy:=O (YR _ _ e);have U1:=O (bw _ _ e);have t:=Fi d H U V r q j W (Yq _ _ e) C (bl _ _ e) D;rw[<-f,<-i]at t;replace t:=O t;clear c p x B hY ac e f i o u v F y l P Q R S X C hT D aa j;refine(qP (n:=0)).1 ?_;refine callsIn_of_wp func36 I trivial ?_ I;simp only[ntmps36,jv,j0,qz,qA,qB,qC,qD,qE,qF,qg,qG]
 gi_wp2_with (first|(refine VP.loadAI aj I I PA bk Wy (L ?_))|(refine VF.loadAI aj I I FA Y9 U1 (L ?_)))
 refine⟨trivial,I,(callsIn_wide.2 t).mono ?_⟩;rintro e x1 ⟨p,o,rfl,c,ad,f,i,u⟩;obtain⟨l,rfl,x,y⟩:∃l:jG CK,o=l.isSome/\(∀k,l=A k->p=(aL k).toArray/\KD (λb=>W.heap.size<=b/\b<x1.heap.size) d x1 k/\ft r q (d.map (·.1))=A k.cand)/\(l=jf->ft r q (d.map (·.1))=jf):=by
  rcases o with _|_
  ·exact⟨jf,I,(λk g=>by cases g),(λ_=>i I)⟩
  obtain⟨k,C,P,h3⟩:=f I;exact⟨A k,I,λj g=>by injection g with g;subst g;exact⟨C,P,h3⟩,λh=>by cases h⟩
 have D:=O c;have F:=O ad;have v:=O x;have R:=O y;have X:=O u;clear c ad f i x y u Wy U1 t;obtain⟨ok,c⟩:=J l.isSome;rw[<-c];have bB:=O c;clear c
 gi_wp2_with (first|(refine VK.madeI I I (L ?_))|(refine VK.firstI I I I p I D F (L ?_)))
 obtain⟨x2,b4,hx,u,Q,t⟩:=dt x1 p VK.t;rw[<-hx,<-u];have x:=X.trans (t.mono X.size);obtain⟨y,f⟩:∃y:ja->Prop,y=λk=>(m<=k/\k<w.heap.size)\/k=b4:=⟨_,I⟩
 have aa:W.heap.size<=b4:=by rw[u];exact X.size
 have S:∀b,(W.heap.size<=b/\b<x1.heap.size)->¬y b:=λb bm h=>by
  rw[f]at h;have:=ba.out
  rcases h with h|h
  ·omega
  omega
 have ac:T (fh w0 w s m y x2):=O (by rw[f];exact(Zi.below Ym x).more (by rw[u];have h:=(jB.1 Q).1;rw[u]at h;exact h) (ee ba Z6));have UR:T (K [] y x2):=O (M _ _ y _ _ E.out (bL.ofBelow x λk g _=>g) (λk g=>by rw[f];exact .inl g) (λk g=>by
  rw[f]at g
  rcases g with g|g
  ·exact .inl g
  exact .inr (by rw[g];exact aa)))
 have VJ:T (∀k,l=A k->K [] (λi=>y i\/gb k i) x2):=O λk g=>M _ _ (λi=>y i\/gb k i) _ _ E.out (bL.ofBelow x λk g _=>g) (λi c=>by rw[f];exact .inl (.inl c)) (λi c=>by
  rw[f]at c
  rcases c with(c|c)|c
  ·exact .inl c
  ·exact .inr (by rw[c];exact aa)
  exact .inr (rE (v k g).2.1 c).1)
 have B:T (CSt d r q w x2 y b4 p [] l):=O ⟨Q,D,F,by rw[f];exact .inr I,jF ba aa,λk g=>by
  obtain⟨e1,e2,e3⟩:=v k g;refine⟨e1,GK.of (e2.keep λb bm=>t.block b bm.2) S,_,(Ag e3).1⟩,by
  rw[uK,jV,qg]
  rcases l with _|k
  ·rw[R I];rfl
  rw[(v k I).2.2];rfl⟩
 have UX:T (W.heap.size<=x2.heap.size):=O x.size;clear hx u t x aa S f v R X Q D F E Zi
 gi_loopw [4,5] (λf ok wr=>W.heap.size<=wr.heap.size/\∃(b:ja) (p:jp jk) (ys:jg CK) (l:jG CK) (Ψ:ja->Prop),f=ju (A ⟨b,0,jf⟩)/\ok=.bool l.isSome/\T (fh w0 w s m Ψ wr)/\T (K ys Ψ wr)/\T (∀k,l=A k->K ys (λi=>Ψ i\/gb k i) wr)/\T (CSt d r q w wr Ψ b p ys l)) (λf ok wr=>chM (d.map (·.1)) f ok wr)
 case atStart=>exact⟨UX,b4,p,[],l,y,I,by rw[bB],ac,UR,VJ,B⟩
 obtain⟨b8,b,p,ys,l,Ψ,rfl,rfl,ac,UR,VJ,B⟩:=hrel
 rcases l with _|k
 ·have t:T (ys.map CK.cand=dU r q (d.map (·.1))):=O (by have h:=B.rest;unfold uv at h;rw[qh]at h;exact h)
  gi_wp2_with fail
  refine⟨(λf h=>by cases h),?_⟩
  gi_wp2_with fail
  refine bodyPost_end (results_none I _ _ _) I ?_;exact⟨⟨_,I⟩,.inl ⟨_,_,t,UR⟩⟩
 obtain⟨f,t,g0,v⟩:=B.now k I;have bC:=O t;have ZE:=O v;have bI:=O f;have bn:T (cC wr H d):=O (Yq _ _ ac.out).list;have bK:=O (GF B bn);have UV:T ((ys++[k]).map CK.cand++yx (d.map (·.1)) k=dU r q (d.map (·.1))):=O (by
  rw[<-B.rest,nn,qW,KI]
  rfl)
 have UD:=O B.box;have ax:=O B.sz;have X:=O B.one;have bo:=HY ys k Ψ wr UR (VJ k I) ac.lt ⟨⟨ys,k,I,t⟩,_,UV⟩;rw[<-f]at bo;obtain⟨fn,tmps,assign,body,ad,D⟩:=bo;have HR:=O D;clear D f t v
 gi_wp2_with (first|(refine VK.loadAI aj I I p ax UD (L ?_)))
 refine⟨I,HR.mono ?_⟩;rintro e W3 (⟨rfl,YU,x,UY⟩|⟨rfl,ZA,x,UY⟩)
 ·have E:=O (ac.yield x UY)
  have a2:=O (HG _ _ _ YU k ar);have ay:=O YU;have VZ:=O ((UY b B.mine).trans UD);have Wi:=x.size;clear YU x UY HR ad ac bC UR VJ UD bn
  gi_upto_region 2 with(first|(refine VK.loadAI aj I I p ax VZ (L ?_))|(refine VK.madeI I I (L ?_))|(refine VK.firstI I I I p I ax X (L ?_)))
  obtain⟨D,v,hx,u,Q,F⟩:=dt W3 p VK.t;rw[<-hx,<-u];obtain⟨f,t⟩:∃f:ja->Prop,f=λi=>Ψ i\/i=v:=⟨_,I⟩
  have YM:v<D.heap.size:=(jB.1 Q).1;have au:T (fh w0 w s m f D):=O (by rw[t];exact(E.below Ym F).more YM (by rw[u];have:=E.sz;have:=Z6.out;omega));have R:∀i,f i->Ψ i\/W3.heap.size<=i:=λi c=>by
   rw[t]at c
   rcases c with c|c
   ·exact .inl c
   exact .inr (by rw[c,u];exact jE _)
  have S:bL W.heap.size f W3 D:=bL.ofBelow F λi c _=>c
  have bq:T (K (ys++[k]) f D):=O (M _ _ f _ _ ay.out S (λi c=>by rw[t];exact .inl c) R);have bM:T (GK d f D k):=O (a2.turns S R);have a1:T (f v):=O (by rw[t];exact .inr I);have bb:T (w.heap.size<=v):=O (by rw[u];exact E.sz);have WC:T (W.heap.size<=D.heap.size/\W.heap.size<=v):=O ⟨by have:=F.size;omega,by rw[u];omega⟩;clear hx u F t YM R S E a2 ay VZ Wi;have bc:=O (Yq _ _ au.out);have Wy:=O (YR _ _ au.out);have ZM:=O (KD.kin bM bc.list);have br:=O (oM (iz (rP ZE)));have VW:T ((aD k.g k.vm k.vt).length=VG.n):=O (eX ZM.leads.llen);have bN:T (D.rangeAt v 107 (aD k.g k.vm k.vt)):=O λt b9 ht=>ah Q (by
   rw[bI,mz];have h:=nB ZM (1+t);rw[<-qu,qx 1 t,qH]at h;exact h.trans ht)
  have a2:=ud d H U V k.g k.vm k.vt D bc ZM.leads HE (bl _ _ au.out) HN (by have h:=br.1;rw[<-ZE.leads]at h;have P:k.g.mem.length<=512:=h;omega) (by have h:=br.2;rw[<-ZE.leads]at h;have P:k.g.tree.length<=1023:=h;omega) Vo;obtain⟨GA,E⟩:=J ((aD k.g k.vm k.vt).toArray);rw[<-E,<-bA]at a2;have Y5:=O E;replace a2:=O a2;clear E
  gi_wp2_with (first|(refine VP.loadAI aj I I PA bk Wy (L ?_))|(refine VG.loadI aj I I (aD k.g k.vm k.vt) VW bN ?_;rw[<-Y5];refine L ?_))
  refine⟨trivial,I,(callsIn_wide.2 a2).mono ?_⟩;rintro e x5 ⟨wk,rfl,a3,a4,R⟩;obtain⟨E,F⟩:=J (x5.setRow v (di wk));have bd:=au.lt;have aa:=bd v a1;have bg:=av Q R;have a5:=sF (wk:=wk) λj h=>(a3 j h).kin (bc.list.below R)
  have bO:=R.size;have bh:∀i,i≠v->E.heap[i]?=x5.heap[i]?:=λi c=>by rw[F];exact js _ _ _ _ c
  have a6:E.heap.size=x5.heap.size:=by rw[F];exact setRow_size _ _ _
  have S:=au.below Ym R;have bs:T (fh w0 w s m f E):=O ⟨λi c=>by rw[a6];exact S.lt i c,S.old,λi C P=>(bh i (aI bb)).trans (S.kept i C P),by rw[F];exact iP S.bel (jF Ym bb) _,S.low,by rw[a6];exact S.sz⟩;have bT:T (K (ys++[k]) f E):=O (by
   have C:=M.keep bq (bL.ofBelow R λi c _=>c);rw[F];exact M.keep C (bL.setRow _ _ _ a1.out))
  have b0:T (∀j,wk=A j->K (ys++[k]) (λi=>f i\/gb j i) E):=O λj h=>by
   have C:=M _ _ (λi=>f i\/gb j i) _ _ bq.out (bL.ofBelow R λi c _=>c) (λi c=>.inl c) (λi c=>by
    rcases c with c|c
    ·exact .inl c
    exact .inr (rE (a3 j h) c).1)
   rw[F];exact M.keep C (bL.setRow _ _ _ (.inl a1))
  have bi:∀j,wk=A j->gB k.g (d.map (·.1)) j.cand:=λj h=>by
   rw[h]at a4;exact(ov (rC a4.symm)).1
  have bu:T (CSt d r q w E f v (di wk) (ys++[k]) wk):=O ⟨by rw[F];exact jU _ _ _ _ _ _ bg,a5.1,a5.2,a1,bb,λj h=>by
   refine⟨by rw[h];rfl,GK.of ((a3 j h).keep λi c=>bh i Y) (λi c h3=>by have:=bd i h3;omega),_,bi j h⟩,by
   rw[<-UV];refine qs (_ ++·) ?_;unfold uv yx;rw[<-a4]
   cases wk<;>rfl⟩
  have Z5:T (chM (d.map (·.1)) (ju (A ⟨v,0,jf⟩)) (.bool wk.isSome) E<chM (d.map (·.1)) (ju (A ⟨b,0,jf⟩)) (.bool ji) wr):=O (by
   rw[bK]
   cases hwk:wk with
   |none=>exact qX _
   |some j=>
    have C:=GF (hwk▸bu.out) (Yq _ _ bs.out).list;have P:=sM (bi j hwk);have h3:iE (d.map (·.1)) j.g<iE (d.map (·.1)) k.g:=P;show chM _ _ (.bool ji) _ <_;rw[C];omega)
  have b1:=O bg;have bv:=O a5;have b2:=O F;have b3:T (W.heap.size<=E.heap.size):=O (by rw[a6];have:=WC.out;omega);clear bd aa bg a5 bO bh a6 S bi a3 a4 R F
  gi_wp2_with (first|(refine VK.storeI I I I (di wk) I bv.1 bv.2 b1 ax ?_;rw[<-b2];refine L ?_))
  exact⟨⟨b3,v,di wk,ys++[k],wk,f,I,I,bs,bT,b0,bu⟩,Z5⟩
 have ay:=O ZA;clear ZA x UY HR ad
 gi_wp2_with fail
 refine bodyPost_end (results_none I _ _ _) I ?_;exact⟨⟨_,I⟩,.inr ⟨_,_,⟨_,UV⟩,ay⟩⟩
end
theorem RQ{P:ow}{l:jp jK}{i:Exit->Act->jj->Prop}{b M y:ja}{m:Act}{w:jj}(S:jj->Prop)(f:ja)(t:bE)(g:P.follows .mixedOrders=ji)(d:Region.noSelect l=ji)(j:rJ l=ji)
 (k:gz .any l t (qi l.size jm)=ji) (a:t.waits .any l f=ji) (o:t.len<=l.size) (p:∀c m h w,i (.panic c) m w->i (.panic c) h w) (c:¬LetsOut i)
 (q:S w.drew) (h:cX P l i S f t m w.drew):(Code.region y l ji).wpIn (Fence.wide.inRound b) M P i m w:=
 wpIn_region_any g (yt c j _ _ _ _ (rK _ _ _ _ (iM.zero _) (kC d p t _ _ _ _ o k a (.inr q) h)))
theorem zK(a b:jp jk)(w:jj):jz jo 21 #[jh a,jh b] w λe w'=>
 e=jw (.func (.func 36) #[] #[ju (A ⟨w,0,jf⟩),ju (A ⟨w.heap.size+1,0,jf⟩)])/\w'=(w.alloc (jc a 75)).alloc (jc b 25):=by
 go_enter func21,ntmps21
 go_wp2_with fail
 go_ret;exact⟨I,I⟩
theorem zE(t:jp jk)(p:Tmp)(v:jk):(#[p].zip #[v]).foldl (λt (p,v)=>t.setIfInBounds p v) t=t.setIfInBounds p v:=by simp
theorem za(l:jg Cmt):∀(n:ja) (c:jG aN),(kS l n c).length<=n
 |0,_=>jE _
 |_ +1,jf=>jM _
 |n+1,A c=>Nat.succ_le_succ (za l n _)
noncomputable def RG:eI jo:=.of 39 51 36 96 (jh VG.Z) underlying39 af VG.hZ G G G
theorem bL.more(h:bL b D w W):bL b (λB0=>D B0\/E B0) w W:=⟨h.os,h.tape,h.output,h.size,λk B0 d=>h.block k B0 λe=>d (.inl e)⟩
theorem bY.more{β:Type}{c:β->(ja->Prop)->jj->Prop}(h:bY b c)(d:β->ja->Prop):bY b (λs Ψ W=>c s (λB0=>Ψ B0\/d s B0) W):=
 λs Ψ j B0 B e f g i=>h s _ _ B0 B e f.more (λk a=>a.imp (g k) id) λk a=>a.elim (λa=>(i k a).imp .inl id) λa=>.inl (.inr a)
def gbs(ys:jg CK)(b:ja):Prop:=∃k∈ys,gb k b
def ChI(a:jg CP)(M:ja)(w:jj)(ys:jg CK)(Ψ:ja->Prop)(W:jj):Prop:=(∀x∈ys,GK a Ψ W x)/\gP (M+1) 38 (M+1) RI.e RI.k ys.length (ys.map λk=>jI .i64 (k.ix:ja)) (λ_=>True) (λb=>Ψ b\/gbs ys b) W/\gP (M+2) 39 (M+1) RG.e RG.k ys.length (ys.flatMap λk=>aD k.g k.vm k.vt) (λ_=>True) (λb=>Ψ b\/gbs ys b) W/\(jl w w W/\∀k,Ψ k->w.heap.size<=k)
theorem Ff(a:jg CP)(M:ja)(w:jj)(B0:ja)(h:w.heap.size<=B0):bY B0 (ChI a M w):=
 (Dg _ _).and (((mY _ _ _ _ _ _ (λys:jg CK=>ys.length) (λys=>ys.map λk=>jI .i64 (k.ix:ja)) (λ_ _=>True)).more gbs).and (((mY _ _ _ _ _ _ (λys:jg CK=>ys.length) (λys=>ys.flatMap λk=>aD k.g k.vm k.vt) (λ_ _=>True)).more gbs).and (kH _ _ w (jE _) h)))
def Off(B M:ja)(t e:jJ)(k:ja)(x:CK)(Ψ:ja->Prop)(W:jj):Prop:=∃n xs,gP B t M e k n xs (λ_=>True) (λb=>Ψ b\/gb x b) W
theorem Off.stable(B M:ja)(t e:jJ)(k B0:ja):bY B0 (Off B M t e k):=by
 rintro x Ψ a b W ⟨n,xs,h⟩ c d f;exact⟨n,xs,((mY B0 B t M e k (λ_:CK=>n) (λ_=>xs) (λ_ _=>True)).more gb) x Ψ a b W h c d f⟩
theorem Off.sep{e:jJ}{x:CK}(h:Off b M r e y x D w)(c:Boxed w b r j):¬gb x b/\∀v,j.ownBlock=A v->¬gb x v:=by
 obtain⟨n,xs,B,d,f,-,g,-⟩:=h;have e:j=B:=by have a:A (Obj.cells #[j] r (0,0))=A (jc #[B] r (0,0)):=c.symm.trans d;injection a with a;injection a with a;simpa using a
 exact⟨λh=>f (.inr h),λv i h=>g v (by rw[<-e];exact i) (.inr h)⟩
theorem gP.less{e:jJ}{n:ja}{a:jk->Prop}(h:gP b r M e y n z a D w)(d:∀k,E k->D k):gP b r M e y n z a E w:=by
 obtain⟨v,f,g,i,k,l⟩:=h;exact⟨v,f,λh=>g (d _ h),i,λj m h=>k j m (d _ h),l⟩
theorem tX{C:jg CK}{x:CK}(h:gbs (C++[x]) b):gbs C b\/gb x b:=by
 obtain⟨k,a,h⟩:=h
 rcases j3.1 a with a|a
 ·exact .inl ⟨k,a,h⟩
 rw[jN]at a;exact .inr (a▸h)
def Dt(a:jg CP)(M:ja)(c:ja->CK->jp jk)(x:CK)(d:Act)(Ψ:ja->Prop)(W:jj):Prop:=(∃b,d={tmps:=c b x,defers:=[]}/\W.heap[b]?=A (jc (aL x).toArray VK.t (0,0))/\¬Ψ b/\GK a Ψ W x)/\Off (M+1) (M+1) 38 RI.e RI.k x Ψ W/\Off (M+2) (M+1) 39 RG.e RG.k x Ψ W
theorem TH(i:jg CP)(M:ja)(j:ja->CK->jp jk)(B0:ja):bY B0 (fun(s:CK×Act) Ψ W=>Dt i M j s.1 s.2 Ψ W):=by
 rintro⟨x,p⟩ Ψ k q B ⟨⟨b,e,d,l,m⟩,n,o⟩ a f c;have g:¬k b:=λh=>by
  rcases c b h with h|h
  ·exact l h
  have:=(jB.1 d).1;omega
 exact⟨⟨b,e,a.cells d g,g,m.turns a c⟩,Off.stable _ _ _ _ _ B0 _ _ _ _ _ n a f c,Off.stable _ _ _ _ _ B0 _ _ _ _ _ o a f c⟩
theorem vg{k:ja}(h:w.ownsRow b r M j y z){o:Obj}(d:w.heap[k]?=A o)(c:o.isCells=jm):j.ownBlock≠A k:=λa=>by
 rcases h.2 with f|⟨g,v,l,i,-,B,-⟩
 ·rw[f.1]at a;cases a
 rw[i]at a;obtain rfl:g=k:=by injection a
 rw[d]at B;injection B with B
 rw[B]at c
 cases c
theorem ChI.step{F:jg CP}{n:ja}{a H l:jj}{i:jg CK}{x:CK}{u1 u2 m o y1 y2:jk}(K:∀k∈i++[x],GK F Ψ a k)(hB:jl w w a)(q:jl a a H)(hw:w.heap.size<=M+1)
 (hΨ:∀k,Ψ k->w.heap.size<=k) (hl:∀k,Ψ k->k<a.heap.size) (v:Boxed a (M+1) 38 u1) (P:Boxed a (M+2) 39 u2) (Q:¬(Ψ (M+1)\/gbs (i++[x]) (M+1))) (R:¬(Ψ (M+2)\/gbs (i++[x]) (M+2)))
 (S:∀j,u1.ownBlock=A j->¬(Ψ j\/gbs (i++[x]) j)) (U:∀j,u2.ownBlock=A j->¬(Ψ j\/gbs (i++[x]) j)) (ac:∀j,u1.ownBlock=A j->M+1<=j) (Up:∀j,u2.ownBlock=A j->M+1<=j) (V:n=i.length)
 (W:u1.ownBlock≠A (M+1)/\u2.ownBlock≠A (M+1)) (X:u1.ownBlock≠A (M+2)/\u2.ownBlock≠A (M+2)) (Y4:y1.cells.toList=[jd je (x.ix:ja)]) (ad:y2.cells.toList=aD x.g x.vm x.vt)
 (d:zM RI RG (M+1) H l u1 u2 m o (n+1) (n+1) (i.map (λk=>jI .i64 (k.ix:ja))++y1.cells.toList) (i.flatMap (λk=>aD k.g k.vm k.vt)++y2.cells.toList)):
 ChI F M w (i++[x]) Ψ ((l.setCell ⟨M+1,0,jf⟩ m).setCell ⟨M+2,0,jf⟩ o)/\jl (M+1) a ((l.setCell ⟨M+1,0,jf⟩ m).setCell ⟨M+2,0,jf⟩ o)/\
  ∀k,k<a.heap.size->k≠M+1->k≠M+2->u1.ownBlock≠A k->u2.ownBlock≠A k->((l.setCell ⟨M+1,0,jf⟩ m).setCell ⟨M+2,0,jf⟩ o).heap[k]?=a.heap[k]?:=by
 have y:l.heap[M+1]?=A (jc #[u1] 38 (0,0)):=(d.heap _ (jL v.lt q.size) W.1 W.2).trans (av v q);have z:l.heap[M+2]?=A (jc #[u2] 39 (0,0)):=(d.heap _ (jL P.lt q.size) X.1 X.2).trans (av P q);have B:∀k,k≠M+1->k≠M+2->((l.setCell ⟨M+1,0,jf⟩ m).setCell ⟨M+2,0,jf⟩ o).heap[k]?=l.heap[k]?:=λk C r=>(dB _ r).trans (dB _ C)
 have D:∀k,k<a.heap.size->k≠M+1->k≠M+2->u1.ownBlock≠A k->u2.ownBlock≠A k->((l.setCell ⟨M+1,0,jf⟩ m).setCell ⟨M+2,0,jf⟩ o).heap[k]?=a.heap[k]?:=λk h C r s h4=>
  (B k C r).trans ((d.heap k (jL h q.size) s h4).trans (q.block k h))
 have aa:jl (M+1) a ((l.setCell ⟨M+1,0,jf⟩ m).setCell ⟨M+2,0,jf⟩ o):=by
  have h:=(q.mono (jM _)).trans d.bel;have r:=(h.setCell (p:=⟨M+1,0,jf⟩) (jM _) m).setCell (p:=⟨M+2,0,jf⟩) (jM _) o;refine⟨r.os,r.tape,r.output,r.size,λk u=>?_⟩;have s:=v.lt;exact D k Y Y Y (λe=>by have:=ac k e;omega) (λe=>by have:=Up k e;omega)
 have E:∀j,(Ψ j\/gbs (i++[x]) j)->j<a.heap.size:=by
  rintro j (h|⟨k,u,h⟩)
  ·exact hl j h
  obtain⟨-,-,c,t,f,s⟩:=rE (K k u) h;exact(jB.1 s).1
 have hz:=q.size;refine⟨⟨λk u=>(K k u).keep λb hb s h4=>⟨?_,s⟩,⟨m,?_,Q,?_,?_,trivial⟩,⟨o,?_,R,?_,?_,trivial⟩,hB.trans (aa.mono hw),hΨ⟩,aa,D⟩
 ·have c:Ψ b\/gbs (i++[x]) b:=.inr ⟨k,u,hb⟩
  exact D b (E b c) (λe=>Q (e▸c)) (λe=>R (e▸c)) (λe=>S b e c) (λe=>U b e c)
 ·exact(dB _ (show M+1≠M+2 by omega)).trans (fa m y)
 ·have h:=iB d.own1 λg f=>B g (λe=>cO d.own1 y G (e▸f)) (λe=>cO d.own1 z G (e▸f))
  rw[Y4,V]at h;rw[qj,nn];exact h
 ·intro j t c
  rcases d.lie1 with h|h
  ·exact S j (h▸t) c
  have:=h j t;have:=E j c;omega
 ·exact fa o ((dB _ (show M+2≠M+1 by omega)).trans z)
 ·have h:=iB d.own2 λg f=>B g (λe=>cO d.own2 y G (e▸f)) (λe=>cO d.own2 z G (e▸f))
  rw[ad,V]at h;rw[qj,List.flatMap_append,List.flatMap_singleton];exact h
 intro j t c
 rcases d.lie2 with h|h
 ·exact U j (h▸t) c
 have:=h j t;have:=E j c;omega
theorem yE(d:jg CP)(v:jk)(ax:N)(Ur:LBy)(n:Ur.length=32)(w:jj)(q:cC w v d)(t:∀p∈d,da (aR p.1))(u:bP w)(Q:d.length<=1000)(x:∀p∈d,p.1.chg.length<=1000000):
 jz jo 7 #[jh (cZ ax Ur).toArray,v] w λe w'=>∃(u1 u2:jk) (Ks:jg CK),e=jw (jH #[u1,u2])/\Ks.map CK.cand=dU ax Ur (d.map (·.1))/\aH (λb=>w.heap.size<=b/\b<w'.heap.size) w' u1 1 Ks.length (Ks.map λk=>jI .i64 k.ix)/\
  aH (λb=>w.heap.size<=b/\b<w'.heap.size) w' u2 36 Ks.length (Ks.flatMap λk=>aD k.g k.vm k.vt)/\(∀k∈Ks,KD (λb=>b<w'.heap.size) d w' k)/\jl w w w':=by
 obtain⟨p1,k1,rfl⟩:=q.form;obtain⟨r,j⟩:=J ((cZ ax Ur).toArray);have Y9:T (r.size=VF.n):=O (by rw[j,jv];unfold cZ;rw[j0,jy,n];rfl);rw[<-j];obtain⟨M,f⟩:=J w.heap.size;obtain⟨x0,a⟩:=J (((w.alloc (jc r 25)).alloc (jc #[jb jf 0 0] 38)).alloc (jc #[jb jf 0 0] 39));have l:=ao w (jc r 25);have s:=l.trans ((ao (w.alloc (jc r 25)) (jc #[jb jf 0 0] 38)).mono l.size);have m:=ao ((w.alloc (jc r 25)).alloc (jc #[jb jf 0 0] 38)) (jc #[jb jf 0 0] 39);have c:T (x0.heap[M]?=A (jc r VF.t (0,0))):=O (by rw[a,f];exact av (av (jA w _) (ao _ _)) m);have UT:T (x0.heap[M+1]?=A (jc #[jb jf 0 0] 38 (0,0))):=O (by
  have h:=jA (w.alloc (jc r 25)) (jc #[jb jf 0 0] 38);rw[jq]at h;rw[a,f];exact av h m)
 have U8:T (x0.heap[M+2]?=A (jc #[jb jf 0 0] 39 (0,0))):=O (by
  have h:=jA ((w.alloc (jc r 25)).alloc (jc #[jb jf 0 0] 38)) (jc #[jb jf 0 0] 39);rw[jq,jq]at h;rw[a,f];exact h)
 have F:T (jl w w x0):=O (by rw[a];exact s.trans (m.mono s.size));have bk:T (x0.heap.size=M+3):=O (by rw[a,f,jq,jq,jq]);obtain⟨xF,g⟩:=J (w.alloc (jc r 25));have ay:T (xF.heap.size=M+1):=O (by rw[g,f,jq]);have ba:T (jl w w xF):=O (by rw[g];exact l);have S:T (jl (M+1) xF x0):=O (by
  have h:=(ao xF (jc #[jb jf 0 0] 38)).trans ((ao (xF.alloc (jc #[jb jf 0 0] 38)) (jc #[jb jf 0 0] 39)).mono (ao xF _).size);rw[ay,g,<-a]at h;rw[g];exact h)
 have HL:=O q;have HE:=O t;have HT:=O u;have HN:=O Q;have Vo:=O x;have HM:=O f;have y:=O a;have bl:=O j;have bm:=O n;clear g l s m j f a q t u Q x n;refine(qP (n:=0)).1 ?_;refine r9 func7 I trivial ?_ I;refine wpIn_wide.2 ?_;simp only[ntmps7,jv,j0,qz,qA,qB,qC,qD,qE,qF,qg,qG]
 go_upto_region 1 with fail
 rw[<-y]
 try simp only[jq]
 try rw[show w.heap.size+1+1=w.heap.size+2 from I]
 rw[<-HM];clear y;refine jO ?_;refine fM (λg=>g.heap[M]?=A (jc r VF.t (0,0))) 4 (.take 0 (.take 2 (.one 1 (.one 3 .done)))) af af af af G (λ_ _ _ _ h=>h) c ?_;have a:=bX x0;obtain⟨x1,U⟩:=J x0.drew;rw[<-U]at a⊢;have bb:T (M+3<=x1.heap.size):=O (by rw[<-bk];exact a.size);replace F:=ai F a;replace c:=ae c a;replace UT:=ae UT a;replace S:=O (S.trans (a.mono (by have:=S.size;have:=ay.out;omega)));replace U8:=ae U8 a;clear U a;refine co ?_
 (refine cJ (v:=jh r) I aj (λg m=>dh VF.hu VF.hd (by rw[Y9];exact VF.hi) I I m) ?_;refine L ?_)
 refine cV I (λK' f=>?_);go_simp;refine(pS d _ x1 (HL.below F) HE (HT.below F) HN).mono ?_;rintro e x2 ⟨v2,v3,rfl,j,a⟩;have l:=O (j.mono (E:=λb=>M+3<=b/\b<x2.heap.size) λb q=>⟨jF bb q.1,q.2⟩);have YZ:T (M+3<=x2.heap.size):=O (jF bb a.size);replace F:=ai F a;replace c:=ae c a;replace UT:=ae UT a;replace S:=O (S.trans (a.mono (by have:=S.size;have:=ay.out;omega)));replace U8:=ae U8 a;refine f _ _ c.out λ_=>?_
 clear f j a;refine L ?_;refine cV I (λK' f=>?_);go_simp;refine(zK _ r x2).mono ?_;rintro e s ⟨rfl,j⟩;have a:jl x2 x2 s:=by rw[j];exact(ao _ _).trans ((ao _ _).mono (ao _ _).size)
 have YR:T (s.heap[x2.heap.size]?=A (jc #[jb p1 d.length k1,v2,v3] VP.t (0,0))):=O (by rw[j];exact av (jA x2 _) (ao _ _));have bc:T (s.heap[x2.heap.size+1]?=A (jc r VF.t (0,0))):=O (by
  have h:=jA (x2.alloc (jc #[jb p1 d.length k1,v2,v3] 75)) (jc r 25);rw[jq]at h;rw[j];exact h)
 have Zp:T (s.heap.size=x2.heap.size+2):=O (by rw[j,jq,jq]);replace F:=ai F a;replace UT:=ae UT a;replace S:=O (S.trans (a.mono (by have:=S.size;have:=ay.out;omega)));replace U8:=ae U8 a;have t:T (aH (λb=>M+3<=b/\b<s.heap.size) s v2 32 (bU (d.map (·.1)) d.length).length (eJ (d.map (·.1)) (bU (d.map (·.1)) d.length))):=O ((l.ids.keep λb q=>a.block b q.2).mono λb q=>⟨q.1,by have:=Zp.out;omega⟩);have u:T (aH (λb=>M+3<=b/\b<s.heap.size) s v3 1 (bU (d.map (·.1)) d.length).length (fQ (bU (d.map (·.1)) d.length))):=O ((l.at_.keep λb q=>a.block b q.2).mono λb q=>⟨q.1,by have:=Zp.out;omega⟩);refine f _ _ (av c a) λ_=>?_
 clear f j a c l;refine L ?_;refine fb ?_
 go_wp2_with fail
 obtain⟨bp,c⟩:=J x2.heap.size;rw[<-c]at YR bc YZ Zp⊢;have j:=yh d (jb p1 d.length k1) v2 v3 ax Ur bm xF s (M+1) (M+3) bp (bp+1) (j6 ay) S Y (ee Zp YZ) (HL.below ba) t u YR.out (by rw[<-bl];exact bc) YZ (aI YZ) HE (HT.below ba) HN Vo;have bn:=O j;clear j c t u;refine(wpIn_wide (n:=0)).1 ?_;refine rD (n:=0) (gf:=36) (lb:=#[ju (A ⟨bp,0,jf⟩),ju (A ⟨bp+1,0,jf⟩)]) I (enters_of func36 af I) bn (ee Zp YZ) (λ_=>rfl) (λk l=>l.2)
  (ChI d M w)
  (λ_ _ _ _=>False) ?hI (λys Ψ B h=>h.1) (λ_=>fk _ _) ?h0
  (Dt d M λb x=>#[jh r,jb p1 d.length k1,ju (A ⟨M,0,jf⟩),jn,ju (A ⟨M+1,0,jf⟩),ju (A ⟨M+2,0,jf⟩),ju (A ⟨b,0,jf⟩),jb p1 d.length k1,jh #[jb p1 d.length k1,v2,v3],jh r,.func (.func 36) #[] #[ju (A ⟨bp,0,jf⟩),ju (A ⟨bp+1,0,jf⟩)],jh (aL x).toArray,jn,jn,jn,jn,jn,jn,jn,jn,jn,jn,jn,jn]) ?hAx ?assign ?body ?done ?stop
 case hI=>exact Ff _ _ _ _ F.size
 case h0=>exact⟨(λx U=>by cases U),⟨_,UT,λh=>h.elim (λh=>by have h:=h.1;omega) fun⟨_,l,_⟩=>(by cases l),qY _ _ _ _,by simp[wq],trivial⟩,⟨_,U8,λh=>h.elim (λh=>by have h:=h.1;omega) fun⟨_,l,_⟩=>(by cases l),qY _ _ _ _,by simp[wq],trivial⟩,F,λk l=>by have:=HM.out;omega⟩
 case stop=>
  intro D c Ui Ψ W _ _ h;exact h.elim
 case hAx=>exact TH _ _ _ _
 case assign=>
  intro l' Ui x Ψ t K hI u hV hΨ f;have aa:GK d Ψ t x:=by
   obtain⟨⟨j,y,e,h⟩,-⟩:=hV;have e2:=(qZ e I).2;injection e2 with e2
   rw[e2];exact h
  have P:=KD.kin aa (HL.below hI.2.2.2.1);obtain⟨X,j⟩:=J ((aL x).toArray);have y:X.size=VK.n:=by rw[j,jv];exact P.len
  have z:X.all (·.oneCell')=ji:=by rw[j,jS];exact λac hu=>P.ones ac (ak hu)
  have C:=O y;have UT:=O z;have B:=O j;have H:=O f;have R:=O hI;have V:T (Off (M+1) (M+1) 38 RI.e RI.k x Ψ t):=O ⟨_,_,u.2.1.less λk l=>.inl l⟩;have Va:T (Off (M+2) (M+1) 39 RG.e RG.k x Ψ t):=O ⟨_,_,u.2.2.1.less λk l=>.inl l⟩;have ad:=O aa;have HΨ:=O hΨ;rw[<-j];clear j y z f hI u aa hV P hΨ;rw[zE];simp only[q7,q8,q9]
  gi_wp2_with (first|(refine VK.madeI I I (L ?_))|(refine VK.firstI I I I X I C UT (L ?_)))
  have u:=ao t (jc X VK.t);refine H _ _ u (Ff d M w w.heap.size (jE _) _ _ _ _ _ R.out (bL.ofBelow u λ_ h _=>h) (λ_ h=>h) λ_ h=>.inl h) ?_;have y:bL 0 Ψ t (t.alloc (jc X VK.t)):=bL.ofBelow u λ_ h _=>h
  refine⟨⟨t.heap.size,by rw[B],by rw[<-B];exact jA _ _,λh=>by have:=HΨ _ h;omega,ad.turns y λ_ h=>.inl h⟩,Off.stable _ _ _ _ _ 0 _ _ _ _ _ V.out y (λ_ h=>h) λ_ h=>.inl h,Off.stable _ _ _ _ _ 0 _ _ _ _ _ Va.out y (λ_ h=>h) λ_ h=>.inl h⟩
 case body=>
  rintro l' Ui x Ψ bA a5 ⟨aa,⟨u1,u,a3,B,ad,-⟩,⟨u2,y,U6,C,au,-⟩,a1,hΨ⟩ ⟨⟨b,rfl,a6,bB,bd⟩,bo,bq⟩ hV Ye br hl bf bs;obtain⟨H,K,rfl⟩:=cK B;obtain⟨V,c2,rfl⟩:=cK C;obtain⟨n,Q⟩:=J Ui.length;rw[<-Q]at u y B C ad au;have P:=KD.kin bd (HL.below a1);obtain⟨X,j⟩:=J ((aL x).toArray);have bu:T (X[0]?=A (jd je (x.ix:ja))):=O (by rw[j];simpa using(mG P).1);have bv:T (∀z:jj,z.heap[b]?=A (jc X VK.t (0,0))->z.rangeAt b 107 (aD x.g x.vm x.vt)):=O λz hz t ac ht=>ah hz (by
   rw[j,mz];have h:=nB P (1+t);rw[<-qu,qx 1 t,qH]at h;exact h.trans ht)
  have VW:T ((aD x.g x.vm x.vt).length=VG.n):=O (eX P.leads.llen);have Vl:T (∀ac∈aD x.g x.vm x.vt,ac.oneCell'=ji):=O (mQ P.leads);obtain⟨GA,R⟩:=J ((aD x.g x.vm x.vt).toArray);have Y5:=O R;have a2:=O Q;have bg:T (n<=1000000):=O (by
   obtain⟨-,-,-,a4,hV⟩:=hV;have h1:=qs List.length hV;have h2:(dU ax Ur (d.map (·.1))).length<=(d.map (·.1)).length+1:=za _ _ _;have h3:=HN.out;have h4:=a2.out;rw[qj,jy,qj]at h1;rw[jy]at h2
   omega)
  dsimp only;rw[<-j]at a6⊢;clear j R Q P
  gi_upto_region 3 with fail
  refine RQ (λg=>g.heap[M+1]?=A (jc #[jb H n K] 38 (0,0))/\g.heap[M+2]?=A (jc #[jb V n c2] 39 (0,0))/\g.heap[b]?=A (jc X VK.t (0,0))) 10
   (.take 0 (.take 1 (.take 2 (.take 5 (.take 6 (.take 7 (rT id (.one 10 (.one 11 .done))))))))) af af af af af G (λ_ _ _ _ h=>h) (fun⟨_,_,h⟩=>h) ⟨u,y,a6⟩ ?_
  have a:=bX a5;obtain⟨A1,U⟩:=J a5.drew;rw[<-U]at a⊢;have y1:=av u a;have y2:=av y a;have yb:=av a6 a;have R1:=cL B a;have R2:=cL C a;have bC:a5.heap.size<=A1.heap.size:=a.size;clear U
  (refine cJ (v:=?_) I aj (λg m=>?_) ?_;rotate_left;(have b1:=ah (i:=0) m.1 I;clear m;go_simp;with_reducible rfl);refine L ?_)
  refine co ?_
  (refine cJ (v:=?_) I aj (λg m=>?_) ?_;rotate_left;(have b1:=ah (i:=0) m.2.2 bu;clear m;go_simp;with_reducible rfl);refine L ?_)
  (refine cJ (v:=?_) I aj (λg m=>?_) ?_;rotate_left;(have b1:=ah (i:=0) m.2.1 I;clear m;go_simp;with_reducible rfl);refine L ?_)
  refine co ?_
  (refine cJ (v:=jh GA) I aj (λg m=>by rw[Y5];exact fx _ _ VG.t _ I _ _ I _ VG.d (bv g m.2.2) VG.hu VG.hd (by rw[VW];exact VG.hi)) ?_;refine L ?_)
  refine z7 RI RG (T0:=id) (E:=id) (r1:=15) (r2:=16) (rb:=20) (r3:=21) (s1:=14) (s2:=19) (t1:=12) (t2:=17) af (λ_ _ _ _ h=>h) af af
   rfl rfl rfl rfl rfl rfl rfl rfl rfl rfl rfl rfl rfl rfl rfl rfl (show 15<24 by decide) (show 20<24 by decide) G G G G G G
   (λj v=>rfl) (λj=>rfl) (λj=>rfl) (λj=>rfl) (λj w' R h P=>P)
   (x1:=jd je (x.ix:ja)) (x2:=jh GA) (u1:=jb H n K) (u2:=jb V n c2) rfl rfl rfl rfl rfl (by rw[Y5];exact VW) (by simp[Value.cells,j5]) (λac hu=>Vl ac (by rw[Y5]at hu;simpa [Value.cells]using hu)) R1 R2 (AJ R1 R2 G) bg bg (by have:=(jB.1 y1).1;omega) ?_ ?_
  ·intro w' l br
   exact⟨(l _ (jB.1 y1).1 (cO R1 y1 G) (cO R2 y1 G)).trans y1,(l _ (jB.1 y2).1 (cO R1 y2 G) (cO R2 y2 G)).trans y2,
    (l _ (jB.1 yb).1 (cO R1 yb G) (cO R2 yb G)).trans yb⟩
  rintro z1 z2 bI a4 A2 j;obtain⟨bK,d1,rfl⟩:=cK j.own1;obtain⟨bM,d2,rfl⟩:=cK j.own2;have bh:=(j.heap _ (jB.1 y1).1 (cO R1 y1 G) (cO R2 y1 G)).trans y1;have bi:=(j.heap _ (jB.1 y2).1 (cO R1 y2 G) (cO R2 y2 G)).trans y2;have P:=ah (i:=0) bh I;have R:=ah (i:=0) bi I;have f1:=fR (o:=0) bh;have f2:=fR (o:=0) bi;have bw:=O j;clear j;refine L ?_;refine nA I G af (λK' f=>?_);go_simp;refine f _ _ ?_;clear f;refine L ?_;refine nA I G af (λK' f=>?_);go_simp;refine f _ _ ?_;clear f P R f1 f2;refine L ?_;show((_ /\_)/\_ /\_)/\_;have R:=bo.sep u;have g2:=bq.sep y;obtain⟨s1,s2,s3⟩:=ChI.step (y1:=jd je (x.ix:ja)) (y2:=jh GA) (λk l=>by
   rcases j3.1 l with l|l
   ·exact aa k l
   ·rw[jN]at l;rw[l];exact bd) a1 a (by rw[<-HM];exact j7 _) hΨ Ye u y
   (λh=>h.elim (λh=>a3 (.inl h)) λh=>(tX h).elim (λh=>a3 (.inr h)) R.1) (λh=>h.elim (λh=>U6 (.inl h)) λh=>(tX h).elim (λh=>U6 (.inr h)) g2.1)
   (λj P h=>h.elim (λh=>ad j P (.inl h)) λh=>(tX h).elim (λh=>ad j P (.inr h)) (R.2 j P)) (λj P h=>h.elim (λh=>au j P (.inl h)) λh=>(tX h).elim (λh=>au j P (.inr h)) (g2.2 j P))
   (λj P=>(B.lt j P).1) (λj P=>(C.lt j P).1) a2 ⟨cO B u G,cO C u G⟩ ⟨cO B y G,cO C y G⟩ rfl (by rw[Y5];rfl) bw
  have P:=Zp.out;have bN:=YZ.out;obtain⟨rl,j⟩:=bs;refine⟨⟨⟨s3 _ Y Y Y (vg B bf I) (vg C bf I),s3 _ Y Y Y (vg B j I) (vg C j I)⟩,s2,λk l=>s3 k (Ye k l) (λe=>a3 (.inl (e▸l))) (λe=>U6 (.inl (e▸l))) (λe=>ad k e (.inl l)) (λe=>au k e (.inl l))⟩,s1⟩
 rintro D xs Ψ W rfl m ⟨aa,⟨u1,u,a3,B,ad,-⟩,⟨u2,y,U6,C,au,-⟩,a1,hΨ⟩ a5;obtain⟨H,K,rfl⟩:=cK B;obtain⟨V,c2,rfl⟩:=cK C;obtain⟨n,Q⟩:=J xs.length;rw[<-Q]at u y B C ad au;have a2:=O Q;clear Q;have z:=u.cell;have P:=u.frozen;have Q:=y.cell;have X:=y.frozen
 go_upto_region 4 with fail
 refine jO ?_;refine fM (λg=>g.heap[M+1]?=A (jc #[jb H n K] 38 (0,0))/\g.heap[M+2]?=A (jc #[jb V n c2] 39 (0,0))) 4 (.take 0 (.take 1 (.one 2 (.one 3 .done)))) af af af af G (λ_ _ _ _ h=>h) ⟨u,y⟩ ?_;have a:=bX W;obtain⟨x,U⟩:=J W.drew;rw[<-U]at a⊢;have v1:=av u a;have a4:=av y a;have j:=ah (i:=0) v1 I;have e2:=ah (i:=0) a4 I;have R:=fR (o:=0) v1;have g2:=fR (o:=0) a4;clear z P Q X U
 (refine cJ (v:=?_) I aj (λg m=>?_) ?_;rotate_left;(have b1:=ah (i:=0) m.1 I;clear m;go_simp;with_reducible rfl);refine L ?_)
 (refine cJ (v:=?_) I aj (λg m=>?_) ?_;rotate_left;(have b1:=ah (i:=0) m.2 I;clear m;go_simp;with_reducible rfl);refine L ?_)
 have w1:=fa (i:=0) (jb H n K) v1;have z:=(dB (w:=x) (b:=M+1) (i:=0) (jb H n K) (show M+2≠M+1 by omega)).trans a4;refine cV I (λK' f=>?_);go_simp;refine f _ _ ⟨w1,z⟩ λ_=>?_
 clear f j e2 R g2;refine L ?_;have a6:∀k,(x.setCell ⟨M+1,0,jf⟩ (jb H n K)).heap[k]?=x.heap[k]?:=λk=>by
  by_cases e:k=M+1
  ·rw[e,w1,v1];rfl
  exact dB _ e
 have bd:jl w w (x.setCell ⟨M+1,0,jf⟩ (jb H n K)):=(a1.trans (a.mono a1.size)).setCell (p:=⟨M+1,0,jf⟩) (by rw[<-HM];exact j7 _) _;generalize x.setCell ⟨M+1,0,jf⟩ (jb H n K)=P at w1 z a6 bd⊢;have ac:P.heap[M+1]?=A (jc #[jb H n K] 38 (0,0)):=w1;have j:=ah (i:=0) ac I;have e2:=ah (i:=0) z I;have R:=fR (o:=0) ac;have g2:=fR (o:=0) z;have Q:=fa (i:=0) (jb V n c2) z;have w4:=(dB (w:=P) (b:=M+2) (i:=0) (jb V n c2) (show M+1≠M+2 by omega)).trans ac;refine cV I (λK' f=>?_);go_simp;refine f _ _ ⟨w4,Q⟩ λ_=>?_
 clear f j e2 R g2;refine L ?_;have X:∀k,(P.setCell ⟨M+2,0,jf⟩ (jb V n c2)).heap[k]?=x.heap[k]?:=λk=>by
  refine Eq.trans ?_ (a6 k)
  by_cases e:k=M+2
  ·rw[e,Q,z];rfl
  exact dB _ e
 have bf:jl w w (P.setCell ⟨M+2,0,jf⟩ (jb V n c2)):=bd.setCell (p:=⟨M+2,0,jf⟩) (by rw[<-HM];exact rk _ _) _;generalize P.setCell ⟨M+2,0,jf⟩ (jb V n c2)=W3 at Q w4 X bf⊢;refine fb ?_
 go_wp2_with fail
 have j:W3.heap[s.heap.size]?=A (.deferred (A [])):=(X _).trans (av a5 a);have bg:M+1≠s.heap.size:=λe=>by rw[<-e,w4]at j;cases j
 have bh:M+2≠s.heap.size:=λe=>by rw[<-e,Q]at j;cases j
 have z1:=ah (i:=0) ((nv (w:=W3) (o:=.deferred jf) bg).trans w4) I;have z2:=ah (i:=0) ((nv (w:=W3) (o:=.deferred jf) bh).trans Q) I;have r1:=ownsRow_putObj (iB (cL B a) λb _=>X b) (.deferred jf) j I;have r2:=ownsRow_putObj (iB (cL C a) λb _=>X b) (.deferred jf) j I;have bi:w.heap.size<=s.heap.size:=F.size;refine⟨by simp,.inl ⟨_,_,I,qQ (b:=s.heap.size) (ds:=[]) j,?_⟩⟩;refine⟨jH #[jb H n K,jb V n c2],by simp[results,results7,go_sem,z1,z2],_,_,I,xs,m,?_,?_,?_,?_⟩
 ·rw[<-a2];exact aH.of_own r1 λg f=>⟨by have:=(r1.lt g f).1;rw[<-HM];omega,(r1.lt g f).2⟩
 ·rw[<-a2];exact aH.of_own r2 λg f=>⟨by have:=(r2.lt g f).1;rw[<-HM];omega,(r2.lt g f).2⟩
 ·intro k l
  have h:=aa k l;have g:∀b,(gb k b/\¬Ψ b/\∃c t f,W.heap[b]?=A (jc c t f))->(W3.putObj s.heap.size (.deferred jf)).heap[b]?=W.heap[b]?:=λb q=>by
   obtain⟨-,-,c,t,f,q⟩:=q;refine(nv (λe=>by rw[e,a5]at q;cases q)).trans ((X b).trans (a.block b (jB.1 q).1))
  refine(KD.keep h g).mono λb q=>?_
  obtain⟨h0,h1,c,t,f,h2⟩:=q;exact(jB.1 ((g b ⟨h0,h1,c,t,f,h2⟩).trans h2)).1
 exact bf.trans (iA bi)
section
def BxI(a:jg CP)(w:jj)(V:jg CK->ja->jG Obj)(ys:jg CK)(Ψ:ja->Prop)(W:jj):Prop:=(∀x∈ys,GK a Ψ W x)/\(∀b o,V ys b=A o->o.isCells=ji/\W.heap[b]?=A o/\¬(Ψ b\/gbs ys b))/\(jl w w W/\∀k,Ψ k->w.heap.size<=k)
theorem BxI.stable(j:jg CP)(w:jj)(V:jg CK->ja->jG Obj)(B0:ja)(h:w.heap.size<=B0):bY B0 (BxI j w V):=by
 refine(Dg _ _).and (bY.and ?_ (kH _ _ w (jE _) h));intro ys Ψ k r B l m s n b o p;obtain⟨d,c,f⟩:=l b o p;have q:=(jB.1 c).1;have g:¬(k b\/gbs ys b):=λh=>h.elim (λh=>(n b h).elim (λh=>f (.inl h)) λh=>by omega) λh=>f (.inr h)
 refine⟨d,?_,g⟩
 rcases m.block b q λh=>g (.inl h)with e|⟨-,t,a,i⟩
 ·exact e.trans c
 rw[c]at a;injection a with a;rw[<-a,d]at i;cases i
def EAx(a:jg CP)(E:ja->Prop)(c:ja->CK->jp jk)(x:CK)(d:Act)(Ψ:ja->Prop)(W:jj):Prop:=∃b,d={tmps:=c b x,defers:=[]}/\W.heap[b]?=A (jc (aL x).toArray VK.t (0,0))/\¬Ψ b/\GK a Ψ W x/\∀e,E e->¬gb x e
theorem EAx.stable(g:jg CP)(E:ja->Prop)(i:ja->CK->jp jk)(B0:ja):bY B0 (fun(s:CK×Act) Ψ W=>EAx g E i s.1 s.2 Ψ W):=by
 rintro⟨x,n⟩ Ψ j o B ⟨b,e,a,k,l,m⟩ c p d;have f:¬j b:=λh=>by
  rcases d b h with h|h
  ·exact k h
  have:=(jB.1 a).1;omega
 exact⟨b,e,c.cells a f,f,l.turns c d,m⟩
theorem BxI.step{l:jg CP}{g B:jj}{V:jg CK->ja->jG Obj}{i:jg CK}{x:CK}{n:ja}(h:BxI l w V i Ψ g)(r:GK l Ψ g x)(s:∀e,E e->¬gb x e)(m:∀b o,V (i++[x]) b=A o->E b/\o.isCells=ji/\B.heap[b]?=A o)
 (u:∀b,E b->∃o,V i b=A o) (v:∀k,Ψ k->k<g.heap.size) (y:jl n g B) (z:w.heap.size<=n) (p:∀k,k<g.heap.size->¬E k->B.heap[k]?=g.heap[k]?):BxI l w V (i++[x]) Ψ B/\∀k,Ψ k->B.heap[k]?=g.heap[k]?:=by
 have he:∀e,E e->¬(Ψ e\/gbs i e):=λe a=>by obtain⟨o,j⟩:=u e a;exact(h.2.1 e o j).2.2
 have C:∀k∈i++[x],GK l Ψ g k:=λk a=>by
  rcases j3.1 a with a|a
  ·exact h.1 k a
  rw[jN]at a;rw[a];exact r
 have q:∀e,E e->¬(Ψ e\/gbs (i++[x]) e):=λe a d=>d.elim (λd=>he e a (.inl d)) λd=>(tX d).elim (λd=>he e a (.inr d)) (s e a)
 refine⟨⟨λk a=>(C k a).keep λb d D ⟨c,t,f,F⟩=>⟨p b (jB.1 F).1 λH=>q b H (.inr ⟨k,a,d⟩),D⟩,λb o j=>⟨(m b o j).2.1,(m b o j).2.2,q b (m b o j).1⟩,h.2.2.1.trans (y.mono z),h.2.2.2⟩,λk a=>p k (v k a) λd=>he k d (.inl a)⟩
noncomputable def kO:jG CK->jp jk
 |none=>VG.Z
 |some k=>(aD k.g k.vm k.vt).toArray
theorem TE{P:ow}{fn:Func}{p q:Tmp}{c i:jJ}(h:fn.results= #[.cell p c,.cell q i])(tmps:jp jk)(w:jj)(g j:ja)(t:jJ)(f:jp jk)(x:jk)(k:ja×ja)(d:TypeDesc)
 (l:tmps.getD p jn=ju (A ⟨g,0,jf⟩)) (m:tmps.getD q jn=ju (A ⟨j,0,jf⟩)) (n:w.heap[g]?=A (jc f t k)) (o:(loadVar i ⟨j,0,jf⟩).run P w=.ok x w)
 (r:P.underlying c=A d) (s:(match d with| .struct _ | .array _ _=>ji|_=>jm)=ji) (u:(P.info? c).map (·.size)=A f.size):
 (results fn tmps).run P w=.ok (jH #[jh f,x]) w:=by
 have e:(results fn tmps).run P w=((asAddr (tmps.getD p jn)).run P w).andThen λa y=>((loadVar c a).run P y).andThen λv z=>((asAddr (tmps.getD q jn)).run P z).andThen λb B=>((loadVar i b).run P B).andThen λC D=>.ok (jH #[v,C]) D:=by
  simp only[results,h];simp[Sem.run_bind,Result.andThen]
 rw[e,l];simp only[asAddr,Sem.run_pure,Result.andThen_ok,run_loadVar_row w g t c f k d n r s u,m,o]
theorem PK{n:jC}{f:ja×ja}(h:w.heap[b]?=A (jc #[.bool n] r f)):(loadVar 4 ⟨b,0,jf⟩).run jo w=.ok (.bool n) w:=by
 have c:=ah (i:=0) h I;go_simp
noncomputable def cuV(M:ja)(ys:jg CK)(b:ja):jG Obj:=if b=M+1 then A (jc (kO ys.getLast?) VG.t (0,0))else if b=M+2 then A (jc #[.bool ys.getLast?.isSome] 4 (0,0))else jf
def cuE(M b:ja):Prop:=b=M+1\/b=M+2
theorem uj(M:ja)(ys:jg CK):cuV M ys (M+1)=A (jc (kO ys.getLast?) VG.t (0,0)):=jr I
theorem va(M:ja)(ys:jg CK):cuV M ys (M+2)=A (jc #[.bool ys.getLast?.isSome] 4 (0,0)):=(jD Y).trans (jr I)
theorem D2{C:jg CK}{o:Obj}(h:cuV b C M=A o):(M=b+1/\o=jc (kO C.getLast?) VG.t (0,0))\/(M=b+2/\o=jc #[.bool C.getLast?.isSome] 4 (0,0)):=by
 unfold cuV at h
 split at h
 ·rename_i e;injection h with h;exact .inl ⟨e,h.symm⟩
 split at h
 ·rename_i e;injection h with h;exact .inr ⟨e,h.symm⟩
 cases h
theorem Hz{a:jg CP}{v:jk}{k:jG CK}(h:∀x,k=A x->GK a Ψ W x)(c:cC W v a):(kO k).size=VG.n/\(kO k).all (·.oneCell')=ji:=by
 rcases k with _|k
 ·exact⟨VG.hZ,by kernel_rfl⟩
 have b:=KD.kin (h k I) c;refine⟨by unfold kO;rw[jv];exact eX b.leads.llen,?_⟩;unfold kO;rw[jS];exact λd e=>mQ b.leads d (ak e)
attribute [local go_sem] Oper.semAt_some
theorem BN(d:jg CP)(v:jk)(aa:N)(Ur:LBy)(r:Ur.length=32)(w:jj)(t:cC w v d)(u:∀p∈d,da (aR p.1))(y:bP w)(B:d.length<=1000)(C:∀p∈d,p.1.chg.length<=1000000):
 jz jo 15 #[jh (cZ aa Ur).toArray,v] w λe w'=>∃k:jG CK,e=jw (jH #[jh (kO k),.bool k.isSome])/\k.map CK.cand=(dU aa Ur (d.map (·.1))).getLast?/\(∀x,k=A x->KD (λb=>b<w'.heap.size) d w' x)/\jl w w w':=by
 obtain⟨p1,k1,rfl⟩:=t.form;obtain⟨j,l⟩:=J ((cZ aa Ur).toArray);have Y9:T (j.size=VF.n):=O (by rw[l,jv];unfold cZ;rw[j0,jy,r];rfl);rw[<-l];obtain⟨M,f⟩:=J w.heap.size;obtain⟨z,a⟩:=J (((w.alloc (jc j 25)).alloc (jc VG.Z VG.t)).alloc (jc #[.bool jm] 4));have H:=ao w (jc j 25);have Up:=H.trans ((ao (w.alloc (jc j 25)) (jc VG.Z VG.t)).mono H.size);have o:=ao ((w.alloc (jc j 25)).alloc (jc VG.Z VG.t)) (jc #[.bool jm] 4);have c:T (z.heap[M]?=A (jc j VF.t (0,0))):=O (by rw[a,f];exact av (av (jA w _) (ao _ _)) o);have s:T (z.heap[M+1]?=A (jc VG.Z VG.t (0,0))):=O (by
  have h:=jA (w.alloc (jc j 25)) (jc VG.Z VG.t);rw[jq]at h;rw[a,f];exact av h o)
 have P:T (z.heap[M+2]?=A (jc #[.bool jm] 4 (0,0))):=O (by
  have h:=jA ((w.alloc (jc j 25)).alloc (jc VG.Z VG.t)) (jc #[.bool jm] 4);rw[jq,jq]at h;rw[a,f];exact h)
 have m:T (jl w w z):=O (by rw[a];exact Up.trans (o.mono Up.size));have a5:T (z.heap.size=M+3):=O (by rw[a,f,jq,jq,jq]);obtain⟨Q,g⟩:=J (w.alloc (jc j 25));have ac:T (Q.heap.size=M+1):=O (by rw[g,f,jq]);have ax:T (jl w w Q):=O (by rw[g];exact H);have q:T (jl (M+1) Q z):=O (by
  have h:=(ao Q (jc VG.Z VG.t)).trans ((ao (Q.alloc (jc VG.Z VG.t)) (jc #[.bool jm] 4)).mono (ao Q _).size);rw[ac,g,<-a]at h;rw[g];exact h)
 have HL:=O t;have HE:=O u;have HT:=O y;have HN:=O B;have Vo:=O C;have HM:=O f;have D:=O a;have a6:=O l;have ba:=O r;clear g H Up o l f a t u y B C r;refine(qP (n:=0)).1 ?_;refine r9 func15 I trivial ?_ I;refine wpIn_wide.2 ?_;simp only[ntmps15,jv,j0,qz,qA,qB,qC,qD,qE,qF,qg,qG]
 go_upto_region 1 with(first|(refine VG.made I I (L ?_)))
 rw[<-D]
 try simp only[jq]
 try rw[show w.heap.size+1+1=w.heap.size+2 from I]
 rw[<-HM];clear D;refine jO ?_;refine fM (λR=>R.heap[M]?=A (jc j VF.t (0,0))) 4 (.take 0 (.take 2 (.one 1 (.one 3 .done)))) af af af af G (λ_ _ _ _ h=>h) c ?_;have a:=bX z;obtain⟨x1,S⟩:=J z.drew;rw[<-S]at a⊢;have ay:T (M+3<=x1.heap.size):=O (by rw[<-a5];exact a.size);replace m:=ai m a;replace c:=ae c a;replace s:=ae s a;replace q:=O (q.trans (a.mono (by have:=q.size;have:=ac.out;omega)));replace P:=ae P a;clear S a;refine co ?_
 (refine cJ (v:=jh j) I aj (λR C=>dh VF.hu VF.hd (by rw[Y9];exact VF.hi) I I C) ?_;refine L ?_)
 refine cV I (λK' f=>?_);go_simp;refine(pS d _ x1 (HL.below m) HE (HT.below m) HN).mono ?_;rintro e x2 ⟨v2,v3,rfl,l,a⟩;have r:=O (l.mono (E:=λb=>M+3<=b/\b<x2.heap.size) λb g=>⟨jF ay g.1,g.2⟩);have YZ:T (M+3<=x2.heap.size):=O (jF ay a.size);replace m:=ai m a;replace c:=ae c a;replace s:=ae s a;replace q:=O (q.trans (a.mono (by have:=q.size;have:=ac.out;omega)));replace P:=ae P a;refine f _ _ c.out λ_=>?_
 clear f l a;refine L ?_;refine cV I (λK' f=>?_);go_simp;refine(zK _ j x2).mono ?_;rintro e l ⟨rfl,o⟩;have a:jl x2 x2 l:=by rw[o];exact(ao _ _).trans ((ao _ _).mono (ao _ _).size)
 have YR:T (l.heap[x2.heap.size]?=A (jc #[jb p1 d.length k1,v2,v3] VP.t (0,0))):=O (by rw[o];exact av (jA x2 _) (ao _ _));have a1:T (l.heap[x2.heap.size+1]?=A (jc j VF.t (0,0))):=O (by
  have h:=jA (x2.alloc (jc #[jb p1 d.length k1,v2,v3] 75)) (jc j 25);rw[jq]at h;rw[o];exact h)
 have Zp:T (l.heap.size=x2.heap.size+2):=O (by rw[o,jq,jq]);replace m:=ai m a;replace s:=ae s a;replace q:=O (q.trans (a.mono (by have:=q.size;have:=ac.out;omega)));replace P:=ae P a;have t:T (aH (λb=>M+3<=b/\b<l.heap.size) l v2 32 (bU (d.map (·.1)) d.length).length (eJ (d.map (·.1)) (bU (d.map (·.1)) d.length))):=O ((r.ids.keep λb g=>a.block b g.2).mono λb g=>⟨g.1,by have:=Zp.out;omega⟩);have u:T (aH (λb=>M+3<=b/\b<l.heap.size) l v3 1 (bU (d.map (·.1)) d.length).length (fQ (bU (d.map (·.1)) d.length))):=O ((r.at_.keep λb g=>a.block b g.2).mono λb g=>⟨g.1,by have:=Zp.out;omega⟩);refine f _ _ (av c a) λ_=>?_
 clear f o a c r;refine L ?_;refine fb ?_
 go_wp2_with fail
 obtain⟨bp,c⟩:=J x2.heap.size;rw[<-c]at YR a1 YZ Zp⊢;have o:=yh d (jb p1 d.length k1) v2 v3 aa Ur ba Q l (M+1) (M+3) bp (bp+1) (j6 ac) q Y (ee Zp YZ) (HL.below ax) t u YR.out (by rw[<-a6];exact a1) YZ (aI YZ) HE (HT.below ax) HN Vo;have bb:=O o;clear o c t u;refine(wpIn_wide (n:=0)).1 ?_;refine rD (n:=0) (gf:=36) (lb:=#[ju (A ⟨bp,0,jf⟩),ju (A ⟨bp+1,0,jf⟩)]) I (enters_of func36 af I) bb (ee Zp YZ) (λ_=>rfl) (λk r=>r.2)
  (BxI d w (cuV M)) (λ_ _ _ _=>False) ?hI (λys Ψ B h=>h.1) (λ_=>fk _ _) ?h0
  (EAx d (cuE M) λb x=>#[jh j,jb p1 d.length k1,ju (A ⟨M,0,jf⟩),jn,ju (A ⟨M+1,0,jf⟩),ju (A ⟨M+2,0,jf⟩),ju (A ⟨b,0,jf⟩),jb p1 d.length k1,jh #[jb p1 d.length k1,v2,v3],jh j,.func (.func 36) #[] #[ju (A ⟨bp,0,jf⟩),ju (A ⟨bp+1,0,jf⟩)],jh (aL x).toArray,jn,jn,jn,jn]) ?hAx ?assign ?body ?done ?stop
 case hI=>exact BxI.stable _ _ _ _ m.size
 case h0=>
  refine⟨(λx S=>by cases S),λb o g=>?_,m,λk r=>by have:=HM.out;have:=r.1;omega⟩
  rcases D2 g with⟨rfl,rfl⟩|⟨rfl,rfl⟩
  ·exact⟨I,s,λh=>h.elim (λh=>by have h:=h.1;omega) fun⟨_,r,_⟩=>(by cases r)⟩
  exact⟨I,P,λh=>h.elim (λh=>by have h:=h.1;omega) fun⟨_,r,_⟩=>(by cases r)⟩
 case stop=>
  intro D c u Ψ W _ _ h;exact h.elim
 case hAx=>exact EAx.stable _ _ _ _
 case assign=>
  intro l' u x Ψ t K hI y hV V f;have U:GK d Ψ t x:=by
   obtain⟨⟨B,F,e,h⟩,-⟩:=hV;have e2:=(qZ e I).2;injection e2 with e2
   rw[e2];exact h
  have B:=KD.kin U (HL.below hI.2.2.1);obtain⟨X,F⟩:=J ((aL x).toArray);have Z4:T (X.size=VK.n):=O (by rw[F,jv];exact B.len);have s:T (X.all (·.oneCell')=ji):=O (by rw[F,jS];exact λad hu=>B.ones ad (ak hu));have au:=O F;have HK:=O f;have HI:=O hI;have HO:T (∀e,cuE M e->¬gb x e):=O (by
   rintro e (rfl|rfl) h
   ·exact(y.2.1 _ _ (uj M u)).2.2 (.inl (.inr h))
   exact(y.2.1 _ _ (va M u)).2.2 (.inl (.inr h)))
  have a2:=O U;have HΨ:=O V;rw[<-F];clear F f hI y U hV B V;rw[zE];simp only[q7,q8,q9]
  gi_wp2_with (first|(refine VK.madeI I I (L ?_))|(refine VK.firstI I I I X I Z4 s (L ?_)))
  have y:=ao t (jc X VK.t);have U:∀B0,bL B0 Ψ t (t.alloc (jc X VK.t)):=λB0=>bL.ofBelow y λ_ h _=>h
  refine HK _ _ y (BxI.stable d w _ w.heap.size (jE _) _ _ _ _ _ HI.out (U _) (λ_ h=>h) λ_ h=>.inl h) ?_;exact⟨t.heap.size,by rw[au],by rw[<-au];exact jA _ _,λh=>by have:=HΨ _ h;omega,a2.turns (U 0) (λ_ h=>.inl h),HO⟩
 case body=>
  rintro l' u x Ψ bh K hI ⟨b,rfl,a4,bi,a2,bc⟩ hV Ye bk hl bl bm;have B:=KD.kin a2 (HL.below hI.2.2.1);have H:=(hI.2.1 _ _ (uj M u)).2.1;have Up:=(hI.2.1 _ _ (va M u)).2.1;have a3:=(Hz (k:=u.getLast?) (λy U=>hI.1 y (rn U)) (HL.below hI.2.2.1)).1;obtain⟨X,F⟩:=J ((aL x).toArray);have bd:T (K.rangeAt b 107 (aD x.g x.vm x.vt)):=O λt ad ht=>ah a4 (by
   rw[mz];have h:=nB B (1+t);rw[<-qu,qx 1 t,qH]at h;exact h.trans ht)
  have VW:T ((aD x.g x.vm x.vt).length=VG.n):=O (eX B.leads.llen);obtain⟨V,au⟩:=J ((aD x.g x.vm x.vt).toArray);have bf:T (V.size=VG.n):=O (by rw[au,jv];exact VW);have Vl:T (V.all (·.oneCell')=ji):=O (by rw[au,jS];exact λad hu=>mQ B.leads ad (ak hu));have Y5:=O au;have k2:(K.setRow (M+1) V).heap[M+2]?=A (jc #[.bool u.getLast?.isSome] 4 (0,0)):=(js _ _ _ _ Y).trans Up;have c2:=ah (i:=0) k2 I;have f2:=fR (o:=0) k2;have Uf:=O H;have bg:=O a3;dsimp only;rw[<-F];clear F au H a3 B Up
  gi_wp2_with (first|(refine VG.loadI aj I I (aD x.g x.vm x.vt) VW bd ?_;rw[<-Y5];refine L ?_)|(refine VG.storeI I I I V I bf Vl Uf bg (L ?_)))
  have B:∀k,k≠M+1->k≠M+2->((K.setRow (M+1) V).setCell ⟨M+2,0,jf⟩ (.bool ji)).heap[k]?=K.heap[k]?:=λk h1 h2=>(dB _ h2).trans (js _ _ _ _ h1)
  have F:jl (M+1) K ((K.setRow (M+1) V).setCell ⟨M+2,0,jf⟩ (.bool ji)):=(iP (lw _ K) (jE _) V).setCell (p:=⟨M+2,0,jf⟩) (j7 _) _;have au:(u++[x]).getLast?=A x:=List.getLast?_concat;obtain⟨s1,s2⟩:=BxI.step (E:=cuE M) hI a2 bc (λb o ho=>by
   rcases D2 ho with⟨rfl,rfl⟩|⟨rfl,rfl⟩
   ·rw[au]
    exact⟨.inl I,I,(dB _ Y).trans (by rw[jU _ _ _ _ _ _ Uf.out,Y5];rfl)⟩
   rw[au];exact⟨.inr I,I,fa _ k2⟩) (by rintro b (rfl|rfl);exact⟨_,uj _ _⟩;exact⟨_,va _ _⟩) Ye F (by rw[<-HM];exact j7 _) (λk _ r=>B k (λe=>r (.inl e)) λe=>r (.inr e))
  have r:=Zp.out;have a3:=YZ.out;refine⟨⟨⟨B _ Y Y,B _ Y Y⟩,F,s2⟩,s1⟩
 rintro D xs Ψ W rfl C hI a2;have X:=(hI.2.1 _ _ (uj M xs)).2.1;have VX:=(hI.2.1 _ _ (va M xs)).2.1;have x:=Hz (k:=xs.getLast?) (λy U=>hI.1 y (rn U)) (HL.below hI.2.2.1);obtain⟨u,K⟩:=J (xs.getLast?);have bc:∀y,u=A y->GK d Ψ W y:=λy U=>hI.1 y (rn (K.symm.trans U))
 have bd:u.map CK.cand=(dU aa Ur (d.map (·.1))).getLast?:=by rw[K,<-C,List.getLast?_map]
 have a3:=hI.2.2.1;rw[<-K]at X VX x;obtain⟨r,hG⟩:=J (kO u);obtain⟨ok,Wb⟩:=J u.isSome;rw[<-hG]at X x;rw[<-Wb]at VX;have ad:=O x;clear hI K x
 go_upto_region 4 with fail
 refine jO ?_;refine fM (λR=>R.heap[M+1]?=A (jc r VG.t (0,0))/\R.heap[M+2]?=A (jc #[.bool ok] 4 (0,0))) 4 (.take 0 (.take 1 (.one 2 (.one 3 .done)))) af af af af G (λ_ _ _ _ h=>h) ⟨X,VX⟩ ?_;have a:=bX W;obtain⟨x,S⟩:=J W.drew;rw[<-S]at a⊢;have v1:=av X a;have K:=av VX a;have e2:=ah (i:=0) K I;have V:=fR (o:=0) K;clear S
 (refine cJ (v:=jh r) I aj (λR C=>dh VG.hu VG.hd (by rw[ad.1];exact VG.hi) I I C.1) ?_;refine L ?_)
 (refine cJ (v:=?_) I aj (λR C=>?_) ?_;rotate_left;(have R:=ah (i:=0) C.2 I;clear C;go_simp;with_reducible rfl);refine L ?_)
 refine cV I (λK' f=>?_);rw[jr aj];refine jR VG.t _ _ I (M+1) r I I VG.t r v1 (by rw[ad.1];exact VG.hi) I ad.2 ?_;rw[setRow_self _ _ _ _ _ v1];refine f _ _ ⟨v1,K⟩ λ_=>?_
 clear f;refine L ?_;refine cV I (λK' f=>?_);go_simp;have R:(x.setCell ⟨M+2,0,jf⟩ (.bool ok)).heap[M+2]?=A (jc #[.bool ok] 4 (0,0)):=fa (i:=0) (.bool ok) K;have au:∀k,(x.setCell ⟨M+2,0,jf⟩ (.bool ok)).heap[k]?=x.heap[k]?:=λk=>by
  by_cases e:k=M+2
  ·rw[e,R,K]
  exact dB _ e
 have F:jl w w (x.setCell ⟨M+2,0,jf⟩ (.bool ok)):=(a3.trans (a.mono a3.size)).setCell (p:=⟨M+2,0,jf⟩) (by rw[<-HM];exact rk _ _) _;rw[<-Wb];generalize x.setCell ⟨M+2,0,jf⟩ (.bool ok)=W3 at R au F⊢;have B:=(au _).trans v1;refine f _ _ ⟨B,R⟩ λ_=>?_
 clear f e2 V;refine L ?_;refine fb ?_
 go_wp2_with fail
 have V:W3.heap[l.heap.size]?=A (.deferred (A [])):=(au _).trans (av a2 a);have bf:M+1≠l.heap.size:=λe=>by rw[<-e,B]at V;cases V
 have bg:M+2≠l.heap.size:=λe=>by rw[<-e,R]at V;cases V
 have z1:=(nv (w:=W3) (o:=.deferred jf) bf).trans B;have z2:=(nv (w:=W3) (o:=.deferred jf) bg).trans R;have bh:w.heap.size<=l.heap.size:=m.size;refine⟨by simp,.inl ⟨_,_,I,qQ (b:=l.heap.size) (ds:=[]) V,?_⟩⟩;refine⟨jH #[jh r,.bool ok],TE I _ _ (M+1) (M+2) VG.t r _ (0,0) _ I I z1 (PK z2) VG.hu I (by rw[ad.1];exact VG.hi),u,by rw[hG,Wb],bd,λy U=>?_,F.trans (iA bh)⟩;have h:=bc y U;have a4:∀b,(gb y b/\¬Ψ b/\∃c t f,W.heap[b]?=A (jc c t f))->(W3.putObj l.heap.size (.deferred jf)).heap[b]?=W.heap[b]?:=λb g=>by
  obtain⟨-,-,c,t,f,g⟩:=g;refine(nv (λe=>by rw[e,a2]at g;cases g)).trans ((au b).trans (a.block b (jB.1 g).1))
 refine(KD.keep h a4).mono λb g=>?_
 obtain⟨h0,h1,c,t,f,h2⟩:=g;exact(jB.1 ((a4 b ⟨h0,h1,c,t,f,h2⟩).trans h2)).1
end
theorem Ci{P:aN->Prop}(h:∀c,(∀w,dY c.leads f=A w->P w)->P c):∀(n:ja) (c:aN),iE f c.leads<=n->P c
 |0,c,b=>h c λw a=>jt (sM (ov (rC a)).1) Y
 |n+1,c,b=>h c λw a=>Ci h n w (by have:=sM (ov (rC a)).1;omega)
theorem Rq{l:jg Cmt}{P:aN->Prop}(h:∀c,(∀w,dY c.leads l=A w->P w)->P c)(c:aN):P c:=Ci h _ c (jE _)
theorem QP{l:jg Cmt}(c:aN):∀(g:Grp),gB g l c->∀(k:ja) (x:aN),(gW l c)[k]?=A x->gB (mJ g (gW l c) k) l x/\(0<k->dY (mJ g (gW l c) k) l=A x):=by
 refine Rq (l:=l) (P:=λc=>∀(g:Grp),gB g l c->∀(k:ja) (x:aN),(gW l c)[k]?=A x->gB (mJ g (gW l c) k) l x/\(0<k->dY (mJ g (gW l c) k) l=A x)) (λc d g b k x a=>?_) c;rw[rA]at a⊢
 rcases k with _|k
 ·simp at a
  rw[mJ,<-a];exact⟨b,λh=>jt h (qI _)⟩
 rw[mJ]
 cases hw:dY c.leads l with
 |none=>rw[hw]at a;simp at a
 |some w=>
  rw[hw]at a;dsimp only at a⊢;rw[qH]at a;have f:=(ov (rC hw)).1;have b:=d w hw c.leads f k x a;refine⟨b.1,λ_=>?_⟩
  rcases k with _|k
  ·rw[rA]at a
   simp at a;have e:mJ c.leads (gW l w) 0=c.leads:=by rw[mJ]
   rw[e,hw,a]
  exact b.2 (qX k)
def dx(b:LBy)(a d:N):jC->jg aN->jC
 |ok,[]=>ok
 |true,c::e=>match c.com.chg.find? λx=>x.d==a&&x.k !=1 with|some x=>decide (d<=x.c)|none=>dx b a d ji e
 |false,c::e=>if c.id=b then(if cA c.leads.mem a=ji then dx b a d ji e else jm)else dx b a d jm e
theorem vP{f:LBy}{e g ctr':N}(h:ctr'<=g):∀(d:jg aN) (b:jC),dx f e g b d=ji->dx f e ctr' b d=ji
 |[],b,a=>by rw[dx]at a⊢;exact a
 |c::d,ji,a=>by
  rw[dx]at a⊢
  cases hf:c.com.chg.find? λx=>x.d==e&&x.k !=1 with
  |none=>rw[hf]at a;exact vP h d ji a
  |some x=>
   rw[hf]at a;dsimp only at a⊢;rw[decide_eq_true_eq]at a⊢;omega
 |c::d,jm,a=>by
  rw[dx]at a⊢
  by_cases i:c.id=f
  ·rw[jr i]at a⊢
   by_cases j:cA c.leads.mem e=ji
   ·rw[jr j]at a⊢;exact vP h d ji a
   rw[jD j]at a;cases a
  rw[jD i]at a⊢;exact vP h d jm a
theorem Ip:∀(a:jg aN),dx h d F jm a=ji->∃c∈a,c.id=h/\cA c.leads.mem d=ji
 |[],b=>by rw[dx]at b;cases b
 |c::a,b=>by
  rw[dx]at b
  by_cases e:c.id=h
  ·rw[jr e]at b
   by_cases f:cA c.leads.mem d=ji
   ·exact⟨c,qd ..,e,f⟩
   rw[jD f]at b;cases b
  rw[jD e]at b;obtain⟨x,f,i⟩:=Ip a b;exact⟨x,qe _ f,i⟩
section
def okS(id:LBy)(ys:jg CK):jC:=ys.any λk=>decide (k.id=id)
def AccP(id:LBy)(dev ctr:N)(ys:jg CK):Prop:=∀a,dx id dev ctr jm (ys.map CK.cand++a)=dx id dev ctr (okS id ys) a
theorem rB(id:LBy)(ys:jg CK)(x:CK):okS id (ys++[x])=(okS id ys||decide (x.id=id)):=by unfold okS;simp
section
variable {id:LBy} {dev ctr:N} {ys:jg CK} {x:CK} (h:AccP id dev ctr ys)
include h
theorem AccP.at(a:jg aN):dx id dev ctr jm ((ys++[x]).map CK.cand++a)=dx id dev ctr (okS id ys) (x.cand::a):=by
 rw[nn,qW];exact h _
theorem AccP.on(a:okS id ys=ji)(b:x.p.1.chg.find? (λy=>y.d==dev&&y.k !=1)=jf):AccP id dev ctr (ys++[x]):=λc=>by
 rw[h.at,rB,a,dx,show x.cand.com=x.p.1 from I,b];rfl
theorem AccP.off{y:ap}(a:okS id ys=ji)(b:x.p.1.chg.find? (λy=>y.d==dev&&y.k !=1)=A y)(c:jg aN):dx id dev ctr jm ((ys++[x]).map CK.cand++c)=decide (ctr<=y.c):=by
 rw[h.at,a,dx,show x.cand.com=x.p.1 from I,b]
theorem AccP.ne(b:okS id ys=jm)(a:x.id≠id):AccP id dev ctr (ys++[x]):=λc=>by
 rw[h.at,rB,b,dx,jD (show ¬x.cand.id=id from a),decide_eq_false a];rfl
theorem AccP.met(b:okS id ys=jm)(a:x.id=id)(c:cA x.g.mem dev=ji):AccP id dev ctr (ys++[x]):=λd=>by
 rw[h.at,rB,b,dx,jr (show x.cand.id=id from a),jr (show cA x.cand.leads.mem dev=ji from c),qa a];rfl
theorem AccP.gone(a:okS id ys=jm)(b:x.id=id)(c:cA x.g.mem dev=jm)(d:jg aN):dx id dev ctr jm ((ys++[x]).map CK.cand++d)=jm:=by
 rw[h.at,a,dx,jr (show x.cand.id=id from b),jD (show ¬cA x.cand.leads.mem dev=ji by show ¬cA x.g.mem dev=ji;rw[c];decide)]
end
theorem NI{α:Type}{q:α->jC}{l:jg α}{j:ja}{y:α}(h:∀z∈l.take j,q z=jm)(a:l[j]?=A y)(b:q y=ji):l.find? q=A y:=by
 rw[<-sv j l,sx,qw.2 (λz c=>by rw[h z c];decide),Option.none_or,List.drop_eq_getElem_cons (jW.1 a).1,(jW.1 a).2,List.find?_cons,b]
theorem ND{α:Type}{q:α->jC}{l:jg α}(h:∀z∈l.take l.length,q z=jm):l.find? q=jf:=qw.2 λz a=>by
 rw[h z (by rw[rv];exact a)];decide
theorem TJ(d:N)(c:jp jk)(b:ja)(x:aJ)(w:jj)(f:w.heap[b]?=A (jc c 34 (0,0)))(g:c[33]?=A (jd je d)):
 jz jo 23 #[jh x.cells.toArray,ju (A ⟨b,0,jf⟩)] w λe w'=>e=jw (.bool (x.dev==d))/\jl w w w':=by
 have a:=ao w (jc x.cells.toArray 82);have j:=ah (i:=33) (av f a) g;have h:=O a;clear a f g;obtain⟨x1,x2,g⟩:=x;unfold aJ.cells at*;obtain⟨r,a⟩:=J ((x1==d));show jz _ _ _ _ λe w'=>e=jw (.bool (x1==d))/\_
 rw[<-a];have f:=O a;clear a
 go_enter func23,ntmps23
 go_wp2_with fail
 go_ret;exact⟨iy f.symm,h⟩
theorem NZ(d:N)(a:jp jk)(b c:ja)(e:b<c)(f:a[33]?=A (jd je d)):fT EM 23 #[ju (A ⟨b,0,jf⟩)] c (λW=>W.heap[b]?=A (jc a 34 (0,0))) (λm=>m.dev==d) where
 enter _ _:=I
 keep w w' hn h hB:=(hB.block b e).trans h
 call x w hn h:=TJ d a b x w h f
def chZ:ap:=⟨0,0,0,0,0⟩
noncomputable def VH:VarT jo:=⟨61,5,chZ.cells.toArray,_,sh,I,by kernel_rfl,rfl,λ_=>by kernel_rfl⟩
def acV(M:ja)(a:jp jk)(id:LBy)(ys:jg CK)(b:ja):jG Obj:=if b=M+1 then A (jc a 34 (0,0))else if b=M+2 then A (jc #[.bool (okS id ys)] 4 (0,0))else jf
theorem zk(M:ja)(a:jp jk)(id:LBy)(ys:jg CK):acV M a id ys (M+1)=A (jc a 34 (0,0)):=jr I
theorem tT(M:ja)(a:jp jk)(id:LBy)(ys:jg CK):acV M a id ys (M+2)=A (jc #[.bool (okS id ys)] 4 (0,0)):=(jD Y).trans (jr I)
theorem EH{M b:ja}{a:jp jk}{id:LBy}{ys:jg CK}{o:Obj}(h:acV M a id ys b=A o):(b=M+1/\o=jc a 34 (0,0))\/(b=M+2/\o=jc #[.bool (okS id ys)] 4 (0,0)):=by
 unfold acV at h
 split at h
 ·rename_i e;injection h with h;exact .inl ⟨e,h.symm⟩
 split at h
 ·rename_i e;injection h with h;exact .inr ⟨e,h.symm⟩
 cases h
def AcX(w:jj)(M:ja)(id:LBy)(dev ctr:N)(c:Code)(ys:jg CK)(Ψ:ja->Prop)(W:jj):Prop:=(∃r,c=.ret/\(Boxed W (M+2) 4 (.bool r)/\¬Ψ (M+2))/\∀a,dx id dev ctr jm (ys.map CK.cand++a)=r)/\(jl w w W/\∀k,Ψ k->w.heap.size<=k)
theorem AcX.stable(w:jj)(M:ja)(id:LBy)(dev ctr:N)(c:Code)(B0:ja)(h:w.heap.size<=B0):bY B0 (AcX w M id dev ctr c):=by
 refine bY.and ?_ (kH _ _ w (jE _) h);rintro ys Ψ a b B ⟨r,d,e,f⟩ g i j;exact⟨r,d,iQ B0 (M+2) 4 (λ_:Unit=>.bool r) () Ψ a b B e g i j,f⟩
attribute [local go_sem] Oper.semAt_some
theorem yO(d:jg CP)(v:jk)(ac:N)(Ur:LBy)(m:Ur.length=32)(u:jp jk)(f:LBy)(dev ctr:N)(q:f.length=32)(r:∀t R,(f.map v8)[t]?=A R->u[1+t]?=A R)(s:u[33]?=A (jd je dev))(x:u[34]?=A (jd je ctr))
 (w:jj) (n:cC w v d) (y:∀p∈d,da (aR p.1)) (z:bP w) (B:d.length<=1000) (D:∀p∈d,p.1.chg.length<=1000000) (F:∀k,k∈dU ac Ur (d.map (·.1))->k.leads.mem.length<=1000000):
 jz jo 6 #[jh (cZ ac Ur).toArray,v,jh u] w λe w'=>e=jw (.bool (dx f dev ctr jm (dU ac Ur (d.map (·.1)))))/\jl w w w':=by
 obtain⟨p1,k1,rfl⟩:=n.form;obtain⟨C,i⟩:=J ((cZ ac Ur).toArray);have Y9:T (C.size=VF.n):=O (by rw[i,jv];unfold cZ;rw[j0,jy,m];rfl);rw[<-i];obtain⟨M,b⟩:=J w.heap.size;obtain⟨x0,a⟩:=J (((w.alloc (jc C 25)).alloc (jc u 34)).alloc (jc #[.bool jm] 4));have S:=ao w (jc C 25);have U:=S.trans ((ao (w.alloc (jc C 25)) (jc u 34)).mono S.size);have j:=ao ((w.alloc (jc C 25)).alloc (jc u 34)) (jc #[.bool jm] 4);have c:T (x0.heap[M]?=A (jc C VF.t (0,0))):=O (by rw[a,b];exact av (av (jA w _) (ao _ _)) j);have UT:T (x0.heap[M+1]?=A (jc u 34 (0,0))):=O (by
  have h:=jA (w.alloc (jc C 25)) (jc u 34);rw[jq]at h;rw[a,b];exact av h j)
 have U8:T (x0.heap[M+2]?=A (jc #[.bool jm] 4 (0,0))):=O (by
  have h:=jA ((w.alloc (jc C 25)).alloc (jc u 34)) (jc #[.bool jm] 4);rw[jq,jq]at h;rw[a,b];exact h)
 have P:T (jl w w x0):=O (by rw[a];exact U.trans (j.mono U.size));have bI:T (x0.heap.size=M+3):=O (by rw[a,b,jq,jq,jq]);obtain⟨xF,g⟩:=J (w.alloc (jc C 25));have au:T (xF.heap.size=M+1):=O (by rw[g,b,jq]);have bl:T (jl w w xF):=O (by rw[g];exact S);have UD:T (jl (M+1) xF x0):=O (by
  have h:=(ao xF (jc u 34)).trans ((ao (xF.alloc (jc u 34)) (jc #[.bool jm] 4)).mono (ao xF _).size);rw[au,g,<-a]at h;rw[g];exact h)
 have HL:=O n;have HE:=O y;have HT:=O z;have HN:=O B;have Vo:=O D;have HM:=O b;have H:=O a;have bK:=O i;have bM:=O m;have Ww:=O r;have WH:=O s;have bm:=O x;have bn:=O q;have YL:=O F;obtain⟨bo,o⟩:=J (dx f dev ctr jm (dU ac Ur (d.map (·.1))));rw[<-o];have Zj:=O o;clear g S U j i b a n y z B D m r s x q F o;refine(qP (n:=0)).1 ?_;refine r9 func6 I trivial ?_ I;refine wpIn_wide.2 ?_;simp only[ntmps6,jv,j0,qz,qA,qB,qC,qD,qE,qF,qg,qG]
 go_upto_region 1 with fail
 rw[<-H]
 try simp only[jq]
 try rw[show w.heap.size+1+1=w.heap.size+2 from I]
 rw[<-HM];clear H;refine jO ?_;refine fM (λb=>b.heap[M]?=A (jc C VF.t (0,0))) 4 (.take 0 (.take 2 (.one 1 (.one 3 .done)))) af af af af G (λ_ _ _ _ h=>h) c ?_;have a:=bX x0;obtain⟨x1,hx⟩:=J x0.drew;rw[<-hx]at a⊢;have bq:T (M+3<=x1.heap.size):=O (by rw[<-bI];exact a.size);replace P:=ai P a;replace c:=ae c a;replace UT:=ae UT a;replace UD:=O (UD.trans (a.mono (by have:=UD.size;have:=au.out;omega)));replace U8:=ae U8 a;clear hx a;refine co ?_
 (refine cJ (v:=jh C) I aj (λb hS=>dh VF.hu VF.hd (by rw[Y9];exact VF.hi) I I hS) ?_;refine L ?_)
 refine cV I (λj hK=>?_);go_simp;refine(pS d _ x1 (HL.below P) HE (HT.below P) HN).mono ?_;rintro e x2 ⟨v2,v3,rfl,g,a⟩;have i:=O (g.mono (E:=λb=>M+3<=b/\b<x2.heap.size) λb m=>⟨jF bq m.1,m.2⟩);have YZ:T (M+3<=x2.heap.size):=O (jF bq a.size);replace P:=ai P a;replace c:=ae c a;replace UT:=ae UT a;replace UD:=O (UD.trans (a.mono (by have:=UD.size;have:=au.out;omega)));replace U8:=ae U8 a;refine hK _ _ c.out λ_=>?_
 clear hK g a;refine L ?_;refine cV I (λj hK=>?_);go_simp;refine(zK _ C x2).mono ?_;rintro e q ⟨rfl,g⟩;have a:jl x2 x2 q:=by rw[g];exact(ao _ _).trans ((ao _ _).mono (ao _ _).size)
 have YR:T (q.heap[x2.heap.size]?=A (jc #[jb p1 d.length k1,v2,v3] VP.t (0,0))):=O (by rw[g];exact av (jA x2 _) (ao _ _));have br:T (q.heap[x2.heap.size+1]?=A (jc C VF.t (0,0))):=O (by
  have h:=jA (x2.alloc (jc #[jb p1 d.length k1,v2,v3] 75)) (jc C 25);rw[jq]at h;rw[g];exact h)
 have Zp:T (q.heap.size=x2.heap.size+2):=O (by rw[g,jq,jq]);replace P:=ai P a;replace UT:=ae UT a;replace UD:=O (UD.trans (a.mono (by have:=UD.size;have:=au.out;omega)));replace U8:=ae U8 a;have j:T (aH (λb=>M+3<=b/\b<q.heap.size) q v2 32 (bU (d.map (·.1)) d.length).length (eJ (d.map (·.1)) (bU (d.map (·.1)) d.length))):=O ((i.ids.keep λb m=>a.block b m.2).mono λb m=>⟨m.1,by have:=Zp.out;omega⟩);have o:T (aH (λb=>M+3<=b/\b<q.heap.size) q v3 1 (bU (d.map (·.1)) d.length).length (fQ (bU (d.map (·.1)) d.length))):=O ((i.at_.keep λb m=>a.block b m.2).mono λb m=>⟨m.1,by have:=Zp.out;omega⟩);refine hK _ _ (av c a) λ_=>?_
 clear hK g a c i;refine L ?_;refine fb ?_
 go_wp2_with fail
 obtain⟨bp,a⟩:=J x2.heap.size;rw[<-a]at YR br YZ Zp⊢;have c:=yh d (jb p1 d.length k1) v2 v3 ac Ur bM xF q (M+1) (M+3) bp (bp+1) (j6 au) UD Y (ee Zp YZ) (HL.below bl) j o YR.out (by rw[<-bK];exact br) YZ (aI YZ) HE (HT.below bl) HN Vo;have bN:=O c;clear c a j o;refine(wpIn_wide (n:=0)).1 ?_;refine rD (n:=0) (gf:=36) (lb:=#[ju (A ⟨bp,0,jf⟩),ju (A ⟨bp+1,0,jf⟩)]) I (enters_of func36 af I) bN (ee Zp YZ) (λ_=>rfl) (λk s=>s.2)
  (λys Ψ W=>BxI d w (acV M u f) ys Ψ W/\AccP f dev ctr ys) (AcX w M f dev ctr) ?hI (λys Ψ B h=>h.1.1) (λc=>AcX.stable _ _ _ _ _ _ _ P.size) ?h0
  (EAx d (cuE M) λb x=>#[jh C,jb p1 d.length k1,jh u,ju (A ⟨M,0,jf⟩),jn,ju (A ⟨M+1,0,jf⟩),ju (A ⟨M+2,0,jf⟩),ju (A ⟨b,0,jf⟩),jn,jn,jb p1 d.length k1,jh #[jb p1 d.length k1,v2,v3],jh C,.func (.func 36) #[] #[ju (A ⟨bp,0,jf⟩),ju (A ⟨bp+1,0,jf⟩)],jh (aL x).toArray,jn,jn,jn,jn,jn,jn,jn,jn,jn,jn,jn,jn,jn,jn,jn,jn,jn,jn,jn,jn,jn,jn,jn,jn,jn,jn,jn,jn,jn,jn,jn,jn,jn,jn,jn,jn,jn]) ?hAx ?assign ?body ?done ?stop
 case hI=>exact(BxI.stable _ _ _ _ P.size).and (fk _ _)
 case h0=>
  refine⟨⟨(λx hx=>by cases hx),λb o m=>?_,P,λk s=>by have:=HM.out;have:=s.1;omega⟩,λay=>rfl⟩
  rcases EH m with⟨rfl,rfl⟩|⟨rfl,rfl⟩
  ·exact⟨I,UT,λh=>h.elim (λh=>by have h:=h.1;omega) fun⟨_,s,_⟩=>(by cases s)⟩
  exact⟨I,U8,λh=>h.elim (λh=>by have h:=h.1;omega) fun⟨_,s,_⟩=>(by cases s)⟩
 case stop=>
  rintro D c H Ψ W rfl ⟨V,a⟩ ⟨⟨r,rfl,⟨U,Q⟩,g⟩,bb,z⟩ ax;have HR:T (r=bo):=O (by rw[Zj,<-a];exact(g V).symm);have bc:M+2≠q.heap.size:=λe=>by rw[<-e,U]at ax;cases ax
  have z2:=(nv (w:=W) (o:=.deferred jf) bc).trans U;have bd:w.heap.size<=q.heap.size:=P.size;refine wpIn_wide.2 ?_
  go_wp2_with fail
  refine⟨by simp,.inl ⟨_,_,I,qQ (b:=q.heap.size) (ds:=[]) ax,?_⟩⟩;have zc:=ah (i:=0) z2 I;exact⟨.bool r,by simp[results,results6,go_sem,zc],by rw[HR],bb.trans (iA bd)⟩
 case hAx=>exact EAx.stable _ _ _ _
 case assign=>
  intro l' H x Ψ a K hI y hV z hK;have F:GK d Ψ a x:=by
   obtain⟨⟨g,j,e,h⟩,-⟩:=hV;have e2:=(qZ e I).2;injection e2 with e2
   rw[e2];exact h
  have g:=KD.kin F (HL.below hI.1.2.2.1);obtain⟨X,j⟩:=J ((aL x).toArray);have Z4:T (X.size=VK.n):=O (by rw[j,jv];exact g.len);have UT:T (X.all (·.oneCell')=ji):=O (by rw[j,jS];exact λR hu=>g.ones R (ak hu));have aa:=O j;have HK:=O hK;have HI:=O hI;have HO:T (∀e,cuE M e->¬gb x e):=O (by
   rintro e (rfl|rfl) h
   ·exact(y.1.2.1 _ _ (zk M u f H)).2.2 (.inl (.inr h))
   exact(y.1.2.1 _ _ (tT M u f H)).2.2 (.inl (.inr h)))
  have a1:=O F;have HΨ:=O z;rw[<-j];clear j hK hI y F hV g z;rw[zE];simp only[q7,q8,q9]
  gi_wp2_with (first|(refine VK.madeI I I (L ?_))|(refine VK.firstI I I I X I Z4 UT (L ?_)))
  have y:=ao a (jc X VK.t);have ad:∀B0,bL B0 Ψ a (a.alloc (jc X VK.t)):=λB0=>bL.ofBelow y λ_ h _=>h
  refine HK _ _ y ⟨BxI.stable d w _ w.heap.size (jE _) _ _ _ _ _ HI.1 (ad _) (λ_ h=>h) λ_ h=>.inl h,HI.2⟩ ?_;exact⟨a.heap.size,by rw[aa],by rw[<-aa];exact jA _ _,λh=>by have:=HΨ _ h;omega,a1.turns (ad 0) (λ_ h=>.inl h),HO⟩
 case body=>
  rintro l' H x Ψ b2 a ⟨hI,hP⟩ ⟨b,rfl,K,bs,z,aa⟩ hV Ye a3 hl a6 ba;have g:=KD.kin z (HL.below hI.2.2.1);have S:=(hI.2.1 _ _ (zk M u f H)).2.1;have U:=(hI.2.1 _ _ (tT M u f H)).2.1;have a1:x.cand∈dU ac Ur (d.map (·.1)):=by
   obtain⟨-,-,-,V,hV⟩:=hV;rw[<-hV,nn];exact wt _ (wv _ (jN.2 I))
  have a4:x.g.mem.length<=1000000:=YL _ a1;have a5:x.p.1.chg.length<=1000000:=Vo _ (j4 z.at_);have bf:=Zp.out;have bg:=YZ.out;have a2:∀B,(∀k,k<a.heap.size->k≠M+2->B.heap[k]?=a.heap[k]?)->jl (M+1) a B->B.heap[M+2]?=A (jc #[.bool (okS f (H++[x]))] 4 (0,0))->AccP f dev ctr (H++[x])->
   ((B.heap[q.heap.size]?=a.heap[q.heap.size]?/\B.heap[q.heap.size+1]?=a.heap[q.heap.size+1]?)/\jl (M+1) a B/\∀k,Ψ k->B.heap[k]?=a.heap[k]?)/\(BxI d w (acV M u f) (H++[x]) Ψ B/\AccP f dev ctr (H++[x])):=λB s y F hA=>by
   obtain⟨s1,s2⟩:=BxI.step (E:=cuE M) (B:=B) hI z aa (λc o V=>by
    rcases EH V with⟨rfl,rfl⟩|⟨rfl,rfl⟩
    ·exact⟨.inl I,I,(s _ (jB.1 S).1 Y).trans S⟩
    exact⟨.inr I,I,F⟩) (by rintro c (rfl|rfl);exact⟨_,zk _ _ _ _⟩;exact⟨_,tT _ _ _ _⟩) Ye y (by rw[<-HM];exact j7 _) (λk V c=>s k V λe=>c (.inr e))
   exact⟨⟨⟨s _ Y Y,s _ Y Y⟩,y,s2⟩,s1,hA⟩
  have c:∀B r,(∀k,k<a.heap.size->k≠M+2->B.heap[k]?=a.heap[k]?)->jl (M+1) a B->B.heap[M+2]?=A (jc #[.bool r] 4 (0,0))->(∀ay,dx f dev ctr jm ((H++[x]).map CK.cand++ay)=r)->
   ((B.heap[q.heap.size]?=a.heap[q.heap.size]?/\B.heap[q.heap.size+1]?=a.heap[q.heap.size+1]?)/\jl (M+1) a B/\∀k,Ψ k->B.heap[k]?=a.heap[k]?)/\AcX w M f dev ctr .ret (H++[x]) Ψ B:=λB r s y F hA=>by
   have Q:=(hI.2.1 _ _ (tT M u f H)).2.2;exact⟨⟨⟨s _ Y Y,s _ Y Y⟩,y,λk V=>s k (Ye k V) λe=>Q (.inl (e▸V))⟩,⟨r,I,⟨F,λh=>Q (.inl h)⟩,hA⟩,hI.2.2.1.trans (y.mono (by rw[<-HM];exact j7 _)),hI.2.2.2⟩
  have VR:=O a2;have bu:=O c;have HP:=O hP;have Uf:=O S;have YA:T (jl w w a):=O hI.2.2.1;have UX:T (M+3<=a.heap.size):=O Y;clear a2 c hI hV Ye a3 hl a6 ba aa bs a1 bg bf z;obtain⟨X,j⟩:=J ((aL x).toArray);have c:=O (mG g);have Q:T (∀i:ja,X[i]?=(aL x)[i]?):=O λi=>by rw[j,mz]
  have UG:T (a.rangeAt b 74 (x.id.map v8)):=O λt R ht=>ah K (by rw[mz];exact(Bz g (by have h:=(jW.1 ht).1;rwa [jy,g.idl]at h)).trans ht)
  have UF:T (a.rangeAt (M+1) 1 (f.map v8)):=O λt R ht=>ah S (Ww t R ht)
  have bv:T ((x.id.map v8).length=VD.n):=O (by rw[jy,g.idl];rfl);have bw:T ((f.map v8).length=VD.n):=O (by rw[jy,bn];rfl);have bA:∀z,(Op.equalIn 10000 23 (jh (x.id.map v8).toArray) (jh (f.map v8).toArray)).run jo z=.ok (decide (x.id=f)) z:=λz=>nQ x.id f g.idl bn z
  obtain⟨T1,y⟩:=J ((x.id.map v8).toArray);obtain⟨T2,ad⟩:=J ((f.map v8).toArray);rw[<-y,<-ad]at bA;have Vf:=O y;have YB:=O ad;have a1:a.cell? ⟨b,36,jf⟩=A x.p.2.vc:=ah K (by rw[mz];exact c.2.2.1);have bf:a.cell? ⟨b,141,jf⟩=A x.vm:=ah K (by rw[mz];exact c.2.2.2.2.1);have bg:a.cell? ⟨M+1,33,jf⟩=A (jd je dev):=ah S WH;have bh:a.cell? ⟨M+1,34,jf⟩=A (jd je ctr):=ah S bm;have a2:=ah (i:=0) U I;have bi:=fR (o:=0) U;have a3:T (EC.At a x.p.2.vc x.p.1.chg):=O (EK.At.of_sl g.com.chg);have bk:T (EM.At a x.vm x.g.mem):=O g.leads.mem;obtain⟨pc,cc,e1,-⟩:=a3.form;obtain⟨pm,cm,e2,-⟩:=bk.form;rw[e1]at a1 a3;rw[e2]at bf bk;have Ug:=O U;have bO:=O a5;have VW:=O a4;dsimp only;rw[<-j];clear j g K S e1 e2 y ad c Q U hP a5 a4;obtain⟨bT,Wb⟩:=J (okS f H);rw[<-Wb]at a2 Ug;have aa:=O Wb;clear Wb
  cases bT with
  |true=>
   as_aux_lemma=>
    obtain⟨n,c⟩:=J x.p.1.chg.length;have Zo:=O c;rw[<-c]at a1 a3;have bs:n<=1000000:=by rw[c];exact bO
    clear c bf
    gi_wp2_with fail
    gi_loopw [20] (λi wr=>∃j:ja,i=jd je j/\j<=n/\T (∀y∈x.p.1.chg.take j,(y.d==dev&&y.k !=1)=jm)/\T (jl a a wr)) (λi _=>n-(jQ i).toNat)
    case atStart=>exact⟨0,I,jM _,O ar,O (lw _ _)⟩
    obtain⟨j,rfl,hj,HG,Q⟩:=hrel;clear a1 a2 bi bg bh
    by_cases b0:j<n
    case neg=>
     have hd:=aw ((j:N)<(n:N));have UC:=aw (j<n);obtain rfl:j=n:=Y
     gi_wp2_with fail
     exact VR wr (λk s _=>Q.block k s) (Q.mono (aI UX)) (by rw[rB,<-aa];exact av Ug Q) (HP.on aa.symm (ND (by rw[<-Zo];exact HG)))
    have hd:=az ((j:N)<(n:N));have UC:=az (j<n);obtain⟨⟨K,c,xp,xv,xc⟩,he,U0⟩:=dL (l:=x.p.1.chg) (j:=j) (by rw[<-Zo];exact b0);obtain⟨g,o,rfl,a6⟩:=(a3.below Q).cells.2.2 Y;have UZ:T (wr.rangeAt g (o+j*5) (ap.cells ⟨K,c,xp,xv,xc⟩)):=O λt R ht=>a6 j _ he t R ht
    have HE:=O he;have bB:=O U0;obtain⟨X5,a4⟩:=J ((ap.cells ⟨K,c,xp,xv,xc⟩).toArray);have a5:=O a4;have Z1:T (X5.size=VH.n):=O (by rw[a4];rfl);have b1:T (X5.all (·.oneCell')=ji):=O (by rw[a4,jS];exact λR hu=>EC.one ⟨K,c,xp,xv,xc⟩ R (show R∈ap.cells _ by simpa using hu));clear a6 he U0 a4
    gi_upto_region 7 with(first|(refine VH.loadI aj I I (ap.cells ⟨K,c,xp,xv,xc⟩) I UZ ?_;rw[<-a5];refine L ?_)|(refine VH.madeI I I (L ?_))|(refine VH.firstI I I I X5 I Z1 b1 (L ?_)))
    obtain⟨x4,b3,hx,m,a4,bC⟩:=dt wr X5 VH.t;rw[<-hx,<-m];have Uq:T (jl a a x4):=ai Q bC;have cd:=ah (i:=1) (v:=jd je c) a4.out (by rw[a5];rfl);have ck:=ah (i:=0) (v:=jd je K) a4.out (by rw[a5];rfl);have b4:=ah (i:=4) (v:=jd je xc) a4.out (by rw[a5];rfl);have bg:=ah (av Uf Uq) WH;have bh:=ah (av Uf Uq) bm;have a6:=av Ug Uq;have a2:=ah (i:=0) a6 I;have bi:=fR (o:=0) a6;have ba:=O a6;clear hx m bC a4 Q UZ a6
    by_cases V:c=dev
    case neg=>
     have e1:(c==dev)=jm:=ak V;have a4:decide (c=dev)=jm:=ak V;have Vz:T (∀y∈x.p.1.chg.take (j+1),(y.d==dev&&y.k !=1)=jm):=O (by
      rw[bB];intro y Q
      rcases j3.1 Q with Q|Q
      ·exact HG y Q
      rw[jN]at Q;rw[Q];show(c==dev&&_)=jm;rw[e1];rfl)
     clear V
     gi_wp2_with fail
     exact⟨⟨j+1,by go_num,by omega,Vz,Uq⟩,by simp only[jQ];omega⟩
    have e1:(c==dev)=ji:=ak V;have a4:decide (c=dev)=ji:=ak V;clear V
    by_cases F:K=1
    case pos=>
     have e2:(K !=1)=jm:=by simp[F]
     have a6:decide (K≠1)=jm:=by simp[F]
     have Vz:T (∀y∈x.p.1.chg.take (j+1),(y.d==dev&&y.k !=1)=jm):=O (by
      rw[bB];intro y Q
      rcases j3.1 Q with Q|Q
      ·exact HG y Q
      rw[jN]at Q;rw[Q];show(c==dev&&(K !=1))=jm;rw[e2,Bool.and_false])
     clear F
     gi_wp2_with fail
     exact⟨⟨j+1,by go_num,by omega,Vz,Uq⟩,by simp only[jQ];omega⟩
    have e2:(K !=1)=ji:=by simp[F]
    have a6:decide (K≠1)=ji:=by simp[F]
    have Q:T (x.p.1.chg.find? (λy=>y.d==dev&&y.k !=1)=A ⟨K,c,xp,xv,xc⟩):=O (NI HG HE (by show(c==dev&&(K !=1))=ji;rw[e1,e2];rfl));clear F;obtain⟨r,y⟩:=J (decide (ctr<=xc));have HR:=O y;have bC:decide (ctr<=xc)=r:=y.symm;clear y
    gi_wp2_with fail
    refine bu _ r (λk s F=>(dB _ F).trans (Uq.block k s)) ((Uq.mono (aI UX)).setCell (p:=⟨M+2,0,jf⟩) (j7 _) _) (fa _ ba.out) (λay=>?_);rw[HR];exact HP.off aa.symm Q.out ay
  |false=>
   as_aux_lemma=>
    obtain⟨Q,g⟩:=J (decide (x.id=f));rw[<-g]at bA;have c:=O g;clear g
    rcases Q with _|_
    ·gi_wp2_with (first|(refine VD.loadI aj I I (x.id.map v8) bv UG ?_;rw[<-Vf];refine L ?_)|(refine VD.loadI aj I I (f.map v8) bw UF ?_;rw[<-YB];refine L ?_))
     exact VR a (λ_ _ _=>rfl) (lw _ _) (by rw[rB,<-aa,<-c];exact Ug) (HP.ne aa.symm (of_decide_eq_false c.symm))
    have y:=O (Al (NZ dev u (M+1) a.heap.size (aI UX) WH) x.g.mem _ a bk Uf (jE _) VW);obtain⟨V,g⟩:=J (x.g.mem.any λm=>m.dev==dev);rw[<-g]at y;have K:=O g;clear g
    gi_wp2_with (first|(refine VD.loadI aj I I (x.id.map v8) bv UG ?_;rw[<-Vf];refine L ?_)|(refine VD.loadI aj I I (f.map v8) bw UF ?_;rw[<-YB];refine L ?_))
    refine⟨trivial,I,(callsIn_wide.2 y).mono ?_⟩;rintro e x5 ⟨rfl,m⟩;have g:=av Ug m;have ay:=ah (i:=0) g I;have a4:=fR (o:=0) g;have j:=O m;have ba:=O g;clear m g a1 bf bg bh a2 bi y
    cases V with
    |true=>
     gi_wp2_with fail
     exact VR _ (λk s F=>(dB _ F).trans (j.block k s)) ((j.mono (aI UX)).setCell (p:=⟨M+2,0,jf⟩) (j7 _) _) (by rw[rB,<-aa,<-c];exact fa _ ba.out) (HP.met aa.symm (qO c.symm) K.symm)
    |false=>
     gi_wp2_with fail
     exact bu _ jm (λk s F=>(dB _ F).trans (j.block k s)) ((j.mono (aI UX)).setCell (p:=⟨M+2,0,jf⟩) (j7 _) _) (fa _ ba.out) (HP.gone aa.symm (qO c.symm) K.symm)
 rintro D xs Ψ W rfl hS ⟨hI,hP⟩ ax;have a:=(hI.2.1 _ _ (tT M u f xs)).2.1;have bb:=hI.2.2.1;obtain⟨ok,Wb⟩:=J (okS f xs);have HR:T (ok=bo):=O (by
  have h:=hP [];rw[qh,hS,dx,<-Wb]at h;rw[Zj];exact h.symm)
 rw[<-Wb]at a;have m:=ah (i:=0) a I;have r:=fR (o:=0) a;clear hI hP hS Wb
 go_wp2_with fail
 have c:(W.setCell ⟨M+2,0,jf⟩ (.bool ok)).heap[M+2]?=A (jc #[.bool ok] 4 (0,0)):=fa (i:=0) (.bool ok) a;have h:∀k,(W.setCell ⟨M+2,0,jf⟩ (.bool ok)).heap[k]?=W.heap[k]?:=λk=>by
  by_cases e:k=M+2
  ·rw[e,c,a]
  exact dB _ e
 have j:jl w w (W.setCell ⟨M+2,0,jf⟩ (.bool ok)):=bb.setCell (p:=⟨M+2,0,jf⟩) (by rw[<-HM];exact rk _ _) _;have g:(W.setCell ⟨M+2,0,jf⟩ (.bool ok)).heap[q.heap.size]?=A (.deferred (A [])):=(h _).trans ax;have bc:M+2≠q.heap.size:=λe=>by rw[<-e,c]at g;cases g
 have z2:=(nv (w:=W.setCell ⟨M+2,0,jf⟩ (.bool ok)) (o:=.deferred jf) bc).trans c;have bd:w.heap.size<=q.heap.size:=P.size;refine⟨by simp,.inl ⟨_,_,I,qQ (b:=q.heap.size) (ds:=[]) g,?_⟩⟩;have zc:=ah (i:=0) z2 I;exact⟨.bool ok,by simp[results,results6,go_sem,zc],by rw[HR],j.trans (iA bd)⟩
end
def vv(g:Grp)(a:N)(b:jg ap)(c init:LBy)(d:jg Bx)(e:jg Wl):Cmt:=⟨g.folder,g.epoch+1,g.last,a,b,dA c,d,e,cG,0,0⟩
def pG(g:Grp)(a:N)(c:jg ap)(b init:LBy)(d:jg Bx)(e:jg Wl):Cmt:=
 {vv g a c b init d e with confirm:=iY (dM g b init) (cW kL ((aR (vv g a c b init d e)).take 8))}
def mkX(g:Grp)(a:N)(x:ja)(b:jg ap)(c init:LBy)(d:jg Bx)(e:jg Wl):Cmt:=
 {pG g a b c init d e with r:=(kj x (dp (pG g a b c init d e)):ja),s:=(kD x (dp (pG g a b c init d e)):ja)}
def kz(b:j8 8):LBy:=b::wx 31 0#8
def cP(d:ja):ap:=⟨1,(d:N),((aX 4 (d+2):ja):N),((aX 4 (d+2):ja):N),0⟩
def dK(d a:ja):ap:=⟨2,(d:N),0,0,(a:N)⟩
def uA(g:Grp)(a:N)(c:jg ap)(b seed:LBy)(x:N×N)(p:ja):Bx:=
 ⟨x.2,x.1,(aX 4 (gh (dZ seed gO [x.1,x.2])):ja),gq p (dZ seed gO [x.1,x.2]) (iV (bV g a c b) gO [x.1,x.2]) (aA b x.1.toNat)⟩
theorem L2{g:Grp}{a:N}{b:jg ap}{c seed:LBy}{x:N×N}{p:ja}(h:tB (aW g.tree b) x.2=p):eA g a b c seed x=uA g a b c seed x p:=by
 unfold eA uA;rw[h]
def pwN:ja->ja->ja->ja
 |0,_,_=>1%PN
 |f+1,a,n=>if n%2=1 then a*pwN f (a*a%PN) (n/2)%PN else pwN f (a*a%PN) (n/2)
theorem Ch:∀(f a n:ja),n<2^f->pwN f a n=a^n%PN
 |0,a,n,h=>by
  obtain rfl:n=0:=ak h;rw[pwN,Nat.pow_zero]
 |f+1,a,n,h=>by
  have c:n/2<2^f:=by rw[Nat.pow_succ]at h;omega
  have e:a^n=(a*a)^(n/2)*a^(n%2):=by
   rw[<-Nat.pow_two,<-Nat.pow_mul,<-Nat.pow_add,Nat.div_add_mod]
  rw[pwN,Ch f _ _ c]
  split
  ·rename_i b
   rw[e,b,Nat.pow_one,Nat.mul_comm _ a,Nat.mul_mod a,<-Nat.pow_mod,Nat.mod_mod,<-Nat.mul_mod,Nat.mul_comm]
  have b:n%2=0:=Y;rw[e,b,Nat.pow_zero,Nat.mul_one,<-Nat.pow_mod]
def pw(a n:ja):ja:=if n<2^64 then pwN 64 a n else aX a n
theorem m5(a n:ja):aX a n=pw a n:=by
 unfold pw
 split
 ·rename_i h
  rw[Ch 64 a n h]
  rfl
 rfl
def lZ(a:LBy):jg N:=(r4 10).map λi=>((pw 4 (aS (aA a i)):ja):N)
def m7(x:ja)(msg:LBy):ja:=(iS x msg+rF (pw 4 (iS x msg)) (pw 4 x) msg*x%QN)%QN
def rq(a:ja)(seed b body:LBy):LBy:=oL (nW a (pw 4 (gh seed)) (pw a (gh seed))) sj b body
def iX(g:Grp)(a:N)(b:jg ap)(c:LBy):Cmt:=⟨g.folder,g.epoch+1,g.last,a,b,lZ c,[],[],cG,0,0⟩
def pf(g:Grp)(a:N)(c:jg ap)(b seed:LBy)(x:N×N)(p:ja):Bx:=
 ⟨x.2,x.1,(pw 4 (gh (dZ seed gO [x.1,x.2])):ja),rq p (dZ seed gO [x.1,x.2]) (iV (iX g a c b) gO [x.1,x.2]) (aA b x.1.toNat)⟩
def oQ(g:Grp)(a:N)(c:jg ap)(b init seed:LBy)(y:ap):Wl:=
 ⟨y.d,(pw 4 (gh (dZ seed kq [y.d])):ja),rq y.p.toNat (dZ seed kq [y.d]) (iV (iX g a c b) kq [y.d]) (dM g b init)⟩
def nh(g:Grp)(a:N)(b:jg ap)(c init:LBy)(d:jg Bx)(e:jg Wl):Cmt:=⟨g.folder,g.epoch+1,g.last,a,b,lZ c,d,e,cG,0,0⟩
def lE(g:Grp)(a:N)(c:jg ap)(b init:LBy)(d:jg Bx)(e:jg Wl):Cmt:=
 {nh g a c b init d e with confirm:=iY (dM g b init) (cW kL ((aR (nh g a c b init d e)).take 8))}
def mkF(g:Grp)(a:N)(x:ja)(b:jg ap)(c init:LBy)(d:jg Bx)(e:jg Wl):Cmt:=
 {lE g a b c init d e with r:=(pw 4 (iS x (dp (lE g a b c init d e))):ja),s:=(m7 x (dp (lE g a b c init d e)):ja)}
theorem GW(a:LBy):dA a=lZ a:=by unfold dA lZ;simp only[m5]
theorem IJ(x:ja)(msg:LBy):kD x msg=m7 x msg:=by unfold kD m7 kj;simp only[m5]
theorem FM(a:ja)(seed b body:LBy):gq a seed b body=rq a seed b body:=by unfold gq rq;simp only[m5]
theorem Dj(g:Grp)(a:N)(b:jg ap)(c:LBy):bV g a b c=iX g a b c:=by unfold bV iX;rw[GW]
theorem Kg(g:Grp)(a:N)(b:jg ap)(c seed:LBy)(x:N×N)(p:ja):uA g a b c seed x p=pf g a b c seed x p:=by unfold uA pf;simp only[m5,FM,Dj]
theorem Tl(g:Grp)(a:N)(b:jg ap)(c init seed:LBy)(y:ap):fA g a b c init seed y=oQ g a b c init seed y:=by unfold fA oQ;simp only[m5,FM,Dj]
theorem LH(g:Grp)(a:N)(b:jg ap)(c init:LBy)(d:jg Bx)(e:jg Wl):pG g a b c init d e=lE g a b c init d e:=by unfold pG lE vv nh;simp only[GW]
theorem M9(g:Grp)(a:N)(x:ja)(b:jg ap)(c init:LBy)(d:jg Bx)(e:jg Wl):mkX g a x b c init d e=mkF g a x b c init d e:=by
 unfold mkX mkF;simp only[LH,IJ,kj,m5]
theorem FC{P:ow}{b:jp jK}{S:jj->Prop}{t:bE}(r:bE){F:ja->ja->Act}{d:ja->ja->jj->Prop}(e:∀x y w,d x y w->eD P b i S r (F x y) w)(h:(∀x y w,d x y w->eD P b i S r (F x y) w)->eD P b i S t m w):eD P b i S t m w:=h e
theorem CC{a:Act}{o:jK}{x:j1}{c:jJ}{d:TypeDesc}{f:ja}{e:jg jk}{g:jj}(h:jo.underlying c=A d)(i:d.isRow=ji)(j:(jo.info? c).map (·.size)=A e.length)(k:o.op=.load c x)(l:a.eval x=ju (A ⟨b,f,jf⟩))(m:g.rangeAt b f e):
 (jP a.eval o).run jo g=.ok (.value (jh e.toArray)) g:=fx o a c x k b f l e d m h i j
theorem LI{a:Act}{o:jK}{parts:jp (ja×j1)}{f e au:N}{b:jp jk}{p:jG Addr}{n c:ja}(d:b.size=32)(g:o.op=.build 57 parts)(h:(parts.map fun(i,x)=>(i,a.eval x))= #[(0,jd je f),(1,jd je e),(2,jh b),(3,jd je au),(4,jb p n c)])(W:jj):
 (jP a.eval o).run jo W=.ok (.value (jh (#[jd je f,jd je e]++b++ #[jd je au,jb p n c,jb jf 0 0,jb jf 0 0,jb jf 0 0]++(cG.map v8).toArray++ #[jd je 0,jd je 0]))) W:=by
 simp only[jP,g,h,Sem.run_bind,Lv f e au b d p n c,Result.andThen_ok,Sem.run_pure]
theorem N7{m:Act}(b:B.op=.build 27 #[])(W:jj):
 (jP m.eval B).run jo W=.ok (.value (jh (cG.map v8).toArray)) W:=by
 simp only[jP,b,pz,jV,Sem.run_bind,Ov,Result.andThen_ok,Sem.run_pure]
theorem Ro{R i:ja}{X:jk->jp jk}{c k:jk}(n:a.last.length=32)(l:w.ownsRow b 61 5 j e.length (e.flatMap ap.cells))(m:w.ownsRow M 3 1 c 10 ((dA h).map (jI .i64)))(q:eB y R 57 105 4 Bx.cells Bx.body X W w i k p z)(r:i=p.length):aZ (·<w.heap.size) w {bV a d e h with box:=p} ⟨j,c,k,jb jf 0 0⟩:=by
 refine⟨aH.of_own l (λa n=>(l.lt a n).2),?_,q.slice r (λa _ n=>n),⟨[],⟨I,jf,0,I,jE _,λ_=>rfl,λg=>jt g (qI 0)⟩,I⟩,n,eG⟩;have g:=aH.of_own (D:=(·<w.heap.size)) m (λa n=>(m.lt a n).2);show aH _ w c 1 (dA h).length _;rw[lK];exact g
def lg(D:ja->Prop)(W:jj)(v:jk)(l:jg Bx):Prop:=∃a,aH D W v 4 l.length (dR Bx.cells l a)/\ey D W (l.map Bx.body) a
theorem lg.keep{D':ja->Prop}{v:jk}{l:jg Bx}(h:lg D w v l)(a:∀g,D g->w'.heap[g]?=w.heap[g]?)(b:∀g,D g->D' g):lg D' w' v l:=by
 obtain⟨c,d,e⟩:=h;exact⟨c,(d.keep a).mono b,(e.keep a).mono b⟩
theorem lg.below{v:jk}{l:jg Bx}(h:lg (·<w.heap.size) w v l)(b:jl w w w'):lg (·<w'.heap.size) w' v l:=h.keep (λg a=>b.block g a) (λg a=>jL a b.size)
theorem RN{R i:ja}{X:jk->jp jk}{c k l:jk}{H:jg Wl}(m:a.last.length=32)(n:w.ownsRow b 61 5 j e.length (e.flatMap ap.cells))(o:w.ownsRow M 3 1 c 10 ((dA h).map (jI .i64)))(s:lg (·<w.heap.size) w k p)(t:eB y R 57 107 3 Wl.cells Wl.body X W w i l H z)(u:i=H.length):aZ (·<w.heap.size) w {bV a d e h with box:=p,wel:=H} ⟨j,c,k,l⟩:=by
 refine⟨aH.of_own n (λa m=>(n.lt a m).2),?_,s,t.slice u (λa _ m=>m),m,eG⟩;have g:=aH.of_own (D:=(·<w.heap.size)) o (λa m=>(o.lt a m).2);show aH _ w c 1 (dA h).length _;rw[lK];exact g
theorem Ri(h:EC.At w j e)(i:∀(g o:ja) (x:N),w.cell? ⟨g,o,jf⟩=A (jd je x)->W.cell? ⟨g,o,jf⟩=A (jd je x)):EC.At W j e:=by
 obtain⟨k,p,c,l,m,n,q⟩:=h;refine⟨k,p,c,l,m,n,λr=>?_⟩;obtain⟨g,o,ep,s⟩:=q r;refine⟨g,o,ep,λv a b=>?_⟩;have t:=s v a b;have u:∃x,a=jd je x:=by
  have d:=j4 b;unfold EK.flat at d;obtain⟨y,-,z⟩:=List.mem_flatMap.1 d;have f:a∈ap.cells y:=z;simp only[ap.cells,qk,List.mem_nil_iff,or_false]at f
  rcases f with rfl|rfl|rfl|rfl|rfl<;>exact⟨_,I⟩
 obtain⟨x,rfl⟩:=u;exact i _ _ _ t
theorem PG{v:jk}{l:jg ap}{j:ja}{X d:jp jk}{e:jJ}(h:EC.At w v l)(f:w.heap[b]?=A (jc X e (0,0)))(g:w'.heap[b]?=A (jc d e (0,0)))(m:∀k,k<w.heap.size->k≠b->w'.heap[k]?=w.heap[k]?)
 (k:∀i,i≠j->d[i]?=X[i]?) (a:∃p n c,X[j]?=A (jb p n c)):EC.At w' v l:=by
 obtain⟨p,n,c,a⟩:=a;exact Ri h (uF f g k a m)
theorem Km{d:N}{o u:LBy}{D:ja->Prop}{l m n:jk}(g:a.last.length=32)(f:w.ownsRow b 61 5 j e.length (e.flatMap ap.cells))(i:w.ownsRow M 3 1 l 10 ((dA h).map (jI .i64)))
 (init:lg D w m ((eo (aW a.tree e) d).map (eA a d e h u))) (p:∃c,aH D w n 3 ((du d e).map (fA a d e h o u)).length (dR Wl.cells ((du d e).map (fA a d e h o u)) c)/\ey D w (((du d e).map (fA a d e h o u)).map Wl.body) c)
 (q:∀k,b<=k->k<w.heap.size->D k) (r:∀k,M<=k->k<w.heap.size->D k):aZ D w (mk1 a d e h o u) ⟨j,l,m,n⟩:=by
 refine⟨aH.of_own f (λa g=>q a (f.lt a g).1 (f.lt a g).2),?_,init,p,g,eG⟩;have c:=aH.of_own (D:=D) i (λa g=>r a (i.lt a g).1 (i.lt a g).2);show aH _ w l 1 (dA h).length _;rw[lK];exact c
theorem aZ.conf(h:aZ D w K U){k:LBy}(a:k.length=32):aZ D w {K with confirm:=k} U:=⟨h.chg,h.path,h.box,h.wel,h.plen,a⟩
theorem aZ.rs(h:aZ D w K U)(r s:N):aZ D w {K with r:=r,s:=s} U:=⟨h.chg,h.path,h.box,h.wel,h.plen,h.clen⟩
theorem DW(c:aZ D w (mk1 a d e h o u) U):aZ D w (mk2 a d e h o u) U:=by
 unfold mk2;exact c.conf (sR _ _)
theorem Q2{g:Grp}{a:N}{x:ja}{b:jg ap}{c init seed:LBy}{q:CQ}(h:aZ D W (mk1 g a b c init seed) q):aZ D W (mkC g a x b c init seed) q:=by
 unfold mkC;exact(DW h).rs _ _
theorem aZ.later(h:aZ (λk=>b<=k/\k<w.heap.size) w K U)(n:jl w w W):aZ (λk=>b<=k/\k<W.heap.size) W K U:=
 (h.keep λg a=>n.block g a.2).mono λg a=>⟨a.1,jL a.2 n.size⟩
def mK(a:jp jk):ja->jg jk->jp jk
 |_,[]=>a
 |o,v::b=>mK (a.setIfInBounds o v) (o+1) b
theorem Bw:∀(d a c b:jg jk),c.length=d.length->mK (a++c++b).toArray a.length d=(a++d++b).toArray
 |[],a,c,b,h=>by
  obtain rfl:c=[]:=List.eq_nil_of_length_eq_zero h
  rfl
 |v::d,a,[],b,h=>by simp at h
 |v::d,a,x::c,b,h=>by
  have e:(a++x::c++b).toArray.setIfInBounds a.length v=((a++[v])++c++b).toArray:=by
   apply Array.ext'
   rw[Array.toList_setIfInBounds];show List.set (a++x::c++b) a.length v=_;rw[qW,List.set_append_right _ _ (jE _),Nat.sub_self];simp
  rw[mK,e];have f:=Bw d (a++[v]) c b (ak h);rw[qj]at f;have g:mK ((a++[v])++c++b).toArray (a.length+1) d=(a++[v]++d++b).toArray:=f;rw[g];simp
theorem yP:∀(a:jg jk) (o:ja) (W:jj) (c:jp jk),W.heap[b]?=A (jc c r (0,0))->(W.setCells b o a).heap[b]?=A (jc (mK c o a) r (0,0))
 |[],o,W,c,h=>h
 |v::a,o,W,c,h=>yP a (o+1) _ _ (fa v h)
theorem tS{k:ja}(c:k≠b):∀(a:jg jk) (o:ja) (W:jj),(W.setCells b o a).heap[k]?=W.heap[k]?
 |[],o,W=>rfl
 |v::a,o,W=>(tS c a (o+1) (W.setCell ⟨b,o,jf⟩ v)).trans (dB v c)
theorem yi(b:ja):∀(a:jg jk) (o:ja) (W:jj),(W.setCells b o a).heap.size=W.heap.size
 |[],o,W=>rfl
 |v::a,o,W=>(yi b a (o+1) (W.setCell ⟨b,o,jf⟩ v)).trans (pC _ _ _)
theorem N1(c:Cmt)(q:CQ)(k:LBy)(a:c.parent.length=32)(b:c.confirm.length=32)(d:k.length=32):mK (aF c q).toArray 39 (k.map v8)=(aF {c with confirm:=k} q).toArray:=by
 have e:∀x:LBy,aF {c with confirm:=x} q=(jd je c.folder::jd je c.epoch::(c.parent.map v8++[jd je c.author,q.vc,q.vp,q.vb,q.vw]))++x.map v8++[jd je c.r,jd je c.s]:=λx=>by simp[aF]
 have h:=Bw (k.map v8) (jd je c.folder::jd je c.epoch::(c.parent.map v8++[jd je c.author,q.vc,q.vp,q.vb,q.vw])) (c.confirm.map v8) [jd je c.r,jd je c.s] (by simp[b,d]);have f:(jI .i64 c.folder::jd je c.epoch::(c.parent.map v8++[jd je c.author,q.vc,q.vp,q.vb,q.vw])).length=39:=by simp[a]
 rw[f,<-e,<-e]at h;exact h
theorem TD(c:Cmt)(q:CQ)(r s:N)(a:c.parent.length=32)(b:c.confirm.length=32):mK (aF c q).toArray 71 [jd je r,jd je s]=(aF {c with r:=r,s:=s} q).toArray:=by
 have e:∀x y:N,aF {c with r:=x,s:=y} q=(jd je c.folder::jd je c.epoch::(c.parent.map v8++([jd je c.author,q.vc,q.vp,q.vb,q.vw]++c.confirm.map v8)))++[jd je x,jd je y]++[]:=λx y=>by simp[aF]
 have h:=Bw [jd je r,jd je s] (jd je c.folder::jd je c.epoch::(c.parent.map v8++([jd je c.author,q.vc,q.vp,q.vb,q.vw]++c.confirm.map v8))) [jd je c.r,jd je c.s] [] I;have d:(jI .i64 c.folder::jd je c.epoch::(c.parent.map v8++([jd je c.author,q.vc,q.vp,q.vb,q.vw]++c.confirm.map v8))).length=71:=by simp[a,b]
 rw[d,<-e,<-e]at h;exact h
theorem fH.conf(h:fH K){k:LBy}(a:k.length=32):fH {K with confirm:=k}:=⟨h.ints,h.plen,a,h.chg,h.path,h.box,h.wel⟩
theorem fH.rs(h:fH K){r s:N}(a:IR r)(b:IR s):fH {K with r:=r,s:=s}:=⟨⟨h.ints.1,h.ints.2.1,h.ints.2.2.1,a,b⟩,h.plen,h.clen,h.chg,h.path,h.box,h.wel⟩
theorem O6(c:Cmt)(x y:N)(l:c.r=0)(m:c.s=0):({({c with r:=x,s:=y}:Cmt)with r:=0,s:=0}:Cmt)=c:=by
 obtain⟨a,b,c,d,e,f,g,h,i,j,k⟩:=c;obtain rfl:j=0:=l;obtain rfl:k=0:=m
 rfl
theorem Kf(c:Cmt)(x:LBy)(l:c.confirm=cG):({({c with confirm:=x}:Cmt)with confirm:=cG}:Cmt)=c:=by
 obtain⟨a,b,c,d,e,f,g,h,i,j,k⟩:=c;obtain rfl:i=cG:=l
 rfl
theorem Tn(g:Grp)(a:N)(b:jg ap)(c init seed:LBy)(q:CQ):aF (mk1 g a b c init seed) q=aF (bV g a b c) q:=by simp only[aF,mk1,bV]
theorem nZ(g:Grp)(a:N)(b:jg ap)(c init seed:LBy):(mk1 g a b c init seed).parent=g.last/\(mk1 g a b c init seed).confirm.length=32:=by
 unfold mk1;exact⟨I,eG⟩
theorem Di(g:Grp)(a:N)(c:jg ap)(b init seed:LBy):mk2 g a c b init seed={mk1 g a c b init seed with confirm:=iY (dM g b init) (cW kL ((aR (mk1 g a c b init seed)).take 8))}:=by unfold mk2;rfl
theorem Gr(g:Grp)(a:N)(x:ja)(b:jg ap)(c init seed:LBy):mkC g a x b c init seed={mk2 g a b c init seed with r:=((kj x (dp (mk2 g a b c init seed)):ja):N),s:=((kD x (dp (mk2 g a b c init seed)):ja):N)}:=by unfold mkC;rfl
theorem BQ(c:Cmt)(k:LBy):({c with confirm:=k}:Cmt).confirm=k/\({c with confirm:=k}:Cmt).parent=c.parent:=⟨I,I⟩
theorem pk(g:Grp)(a:N)(b:jg ap)(c init seed:LBy):(mk2 g a b c init seed).parent=g.last/\(mk2 g a b c init seed).confirm.length=32:=by
 rw[Di,(BQ _ _).1,(BQ _ _).2];exact⟨(nZ ..).1,sR _ _⟩
theorem FT(c:Cmt)(r s:N):({c with r:=r,s:=s}:Cmt).confirm=c.confirm/\({c with r:=r,s:=s}:Cmt).parent=c.parent:=⟨I,I⟩
theorem BC(g:Grp)(a:N)(x:ja)(b:jg ap)(c init seed:LBy):(mkC g a x b c init seed).parent=g.last/\(mkC g a x b c init seed).confirm.length=32:=by
 rw[Gr,(FT _ _ _).1,(FT _ _ _).2];exact pk ..
theorem Mv(c:fH (mkC a d b e h o u)):fH (mk1 a d e h o u)/\fH (mk2 a d e h o u):=by
 have z:IR 0:=⟨by decide,by decide⟩;have x:fH (mk2 a d e h o u):=by
  have g:=c.rs z z;unfold mkC at g;rw[O6 _ _ _ I I]at g;exact g
 have g:=x.conf eG;unfold mk2 at g;rw[Kf _ _ I]at g;exact⟨g,x⟩
theorem vE(k:Q)(h:Q->P:=by intro k;refine aV (v:=?_) rfl aj (λW' hS=>?_) ?_;rotate_left;(have b0:=ah (i:=1) hS.1 rfl;have b1:=ah (i:=2) hS.1 rfl;clear hS;go_simp;with_reducible rfl);refine L ?_;exact k):P:=h k
theorem Ru(g:Grp)(vm vt vl:jk)(a x:N)(m:jg ap)(u init seed:LBy)(w:jj)(h:bW w g vm vt)(X:aH (·<w.heap.size) w vl 5 m.length (m.flatMap ap.cells))
 (ay:u.length=32) (a1:init.length=32) (g7:seed.length=32) (hT:lq w) (hS:iD w) (bb:g.mem.length<=900000) (bc:g.tree.length<=600000) (D:m.length<=1000000) (Wb:gZ g a x m=0):
 jz jo 24 #[jh (aD g vm vt).toArray,jd je a,jd je x,vl,jh (u.map v8).toArray,jh (init.map v8).toArray,jh (seed.map v8).toArray] w (O3 g a x m u init seed (gZ g a x m) w):=by
 obtain⟨er,M⟩:=J (gZ g a x m);rw[<-M];have hI:=O M;have ev:T (er=0):=O (M.trans Wb);have a2:=rx (vm:=vm) (vt:=vt) h.llen;have VB:=lN (vm:=vm) (vt:=vt) h.llen;have a3:∀(w:jj) (b:ja),w.heap[b]?=A (jc (aD g vm vt).toArray 51 (0,0))->w.rangeAt b 2 (g.last.map v8):=λw b hb=>dF.last ⟨hb,h.llen⟩
 have HN:T (∀W,bW W g vm vt->EC.At W vl m->jz jo 38 #[jh (aD g vm vt).toArray,jd je a,vl] W λe w'=>∃aa,e=jw (jH #[aa,jd je (dq g a m)])/\w'.ownsRow W 105 4 aa (dT g a m).length (EB0.flat (dT g a m))/\jl W W w'):=O (λW hW hL=>Gf g vm vt _ _ _ W hW hL Y Y D);have hh:T (∀W,dC g->eU m->gL g a m->bW W g vm vt->EC.At W vl m->jz jo 39 #[jh (aD g vm vt).toArray,jd je a,vl] W λe w'=>e=jw (jd je (dQ g a m))/\jl W W w'):=O (λW hv hf hp hW hL=>F3 g vm vt _ _ _ W hW (uw hv) Y hL (λhn=>by
  have c:=hp.own;rw[hn]at c;obtain⟨x,r,h1,-⟩:=hp.first (by have:=hv.ep.1;have h2:=of_decide_eq_false c.symm;omega);rw[h1];simp))
 have hJ:T (∀W,eU m->bW W g vm vt->EC.At W vl m->jz jo 44 #[jh (aD g vm vt).toArray,vl] W λe w'=>∃aa,e=jw (jh #[aa])/\bH w' aa (aW g.tree m)/\jl W W w'):=O (λW hf hW hL=>yz g vm vt _ _ W hW hf Y hL);obtain⟨ax,P⟩:=J ((aD g vm vt).toArray);obtain⟨Uc,hL⟩:=J ((u.map v8).toArray);obtain⟨bC,U⟩:=J ((init.map v8).toArray);obtain⟨S,V⟩:=J ((seed.map v8).toArray);have c:∀(l:LBy),l.length=32->(jo.info? 27).map (·.size)=A (l.map v8).toArray.size:=λl D=>by rw[jv,jy,D];kernel_rfl
 have ZI:T ((jo.info? 27).map (·.size)=A Uc.size):=O (by rw[hL];exact c _ ay);have lb:T ((jo.info? 27).map (·.size)=A bC.size):=O (by rw[U];exact c _ a1);have hK:T ((jo.info? 27).map (·.size)=A S.size):=O (by rw[V];exact c _ g7);rw[<-P]at a2 HN hh hJ a3⊢;rw[<-hL,<-U,<-V];clear c;obtain⟨x0,k⟩:=J (((((((w.alloc (jc ax 51)).alloc (jc Uc 27)).alloc (jc bC 27)).alloc (jc S 27)).alloc (jc zeroCells57 57)).alloc (jc a8 27)));obtain⟨t,hG⟩:=J w.heap.size;have i:=jA w (jc ax 51);have c:=ao w (jc ax 51);have bl:=jA (w.alloc (jc ax 51)) (jc Uc 27);have d:=ao (w.alloc (jc ax 51)) (jc Uc 27);have U6:=jA ((w.alloc (jc ax 51)).alloc (jc Uc 27)) (jc bC 27);have j:=ao ((w.alloc (jc ax 51)).alloc (jc Uc 27)) (jc bC 27);have o:=jA (((w.alloc (jc ax 51)).alloc (jc Uc 27)).alloc (jc bC 27)) (jc S 27);have q:=ao (((w.alloc (jc ax 51)).alloc (jc Uc 27)).alloc (jc bC 27)) (jc S 27);have C:=jA ((((w.alloc (jc ax 51)).alloc (jc Uc 27)).alloc (jc bC 27)).alloc (jc S 27)) (jc zeroCells57 57);have s:=ao ((((w.alloc (jc ax 51)).alloc (jc Uc 27)).alloc (jc bC 27)).alloc (jc S 27)) (jc zeroCells57 57);have ew:=jA (((((w.alloc (jc ax 51)).alloc (jc Uc 27)).alloc (jc bC 27)).alloc (jc S 27)).alloc (jc zeroCells57 57)) (jc a8 27);have v:=ao (((((w.alloc (jc ax 51)).alloc (jc Uc 27)).alloc (jc bC 27)).alloc (jc S 27)).alloc (jc zeroCells57 57)) (jc a8 27);replace i:=av i d;replace i:=av i j;replace i:=av i q;replace i:=av i s;replace i:=av i v;rw[jq]at bl;replace bl:=av bl j;replace bl:=av bl q;replace bl:=av bl s;replace bl:=av bl v;rw[jq,jq]at U6;replace U6:=av U6 q;replace U6:=av U6 s;replace U6:=av U6 v;rw[jq,jq,jq]at o;replace o:=av o s;replace o:=av o v;rw[jq,jq,jq,jq]at C;replace C:=av C v;rw[jq,jq,jq,jq,jq]at ew;have hB:=(((((c).trans (d.mono (c).size)).trans (j.mono ((c).trans (d.mono (c).size)).size)).trans (q.mono (((c).trans (d.mono (c).size)).trans (j.mono ((c).trans (d.mono (c).size)).size)).size)).trans (s.mono ((((c).trans (d.mono (c).size)).trans (j.mono ((c).trans (d.mono (c).size)).size)).trans (q.mono (((c).trans (d.mono (c).size)).trans (j.mono ((c).trans (d.mono (c).size)).size)).size)).size)).trans (v.mono (((((c).trans (d.mono (c).size)).trans (j.mono ((c).trans (d.mono (c).size)).size)).trans (q.mono (((c).trans (d.mono (c).size)).trans (j.mono ((c).trans (d.mono (c).size)).size)).size)).trans (s.mono ((((c).trans (d.mono (c).size)).trans (j.mono ((c).trans (d.mono (c).size)).size)).trans (q.mono (((c).trans (d.mono (c).size)).trans (j.mono ((c).trans (d.mono (c).size)).size)).size)).size)).size);rw[<-k]at hB;rw[<-k,<-hG]at i;rw[<-k,<-hG]at bl;rw[<-k,<-hG]at U6;rw[<-k,<-hG]at o;rw[<-k,<-hG]at C;rw[<-k,<-hG]at ew;have Q:=O i;have ac:=O bl;have ad:=O U6;have VQ:=O o;have UK:=O C;have UP:=O ew;have Uh:=O hB;have HW:=O k;have HG:=O hG;have hl:=O h;have Z6:=O X;obtain⟨Z,F⟩:∃y:jp jk,y=zeroCells57:=⟨_,I⟩;obtain⟨K,z⟩:∃y:jp jk,y=a8:=⟨_,I⟩;have ih:T ((aF mI nC).toArray=Z):=O (by rw[F];rfl);have ZC:T ((cG.map v8).toArray=K):=O (by rw[z];rfl);have UX:T ((jo.info? 57).map (·.size)=A Z.size):=O (by rw[F];kernel_rfl);have lc:T ((jo.info? 27).map (·.size)=A K.size):=O (by rw[z];kernel_rfl);have lj:T (Z.all (·.oneCell')=ji):=O (by rw[F];kernel_rfl);have lk:T (K.all (·.oneCell')=ji):=O (by rw[z];kernel_rfl);replace UK:T (x0.heap[(t+1+1+1+1)]?=A (jc Z 57 (0,0))):=O (by rw[F];exact UK);replace UP:T (x0.heap[(t+1+1+1+1+1)]?=A (jc K 27 (0,0))):=O (by rw[z];exact UP);have YC:=O a2;have ii:=O a3;have hM:=O hT;have VR:=O hS;have VW:=O bb;have Wn:=O bc;have g8:=O D;have Vn:=O ay;have hN:=O a1;have hO:=O g7;have WP:=O h.llen;have cy:T (ax[0]?=A (jd je g.folder)/\ax[1]?=A (jd je g.epoch)):=O (by rw[P];have:=VB;exact⟨by simpa using this.1,by simpa using this.2.1⟩);have Yj:=O P;have YW:=O hL;have hP:=O U;have hQ:=O V;obtain⟨R,nc,H,i0⟩:∃p n c',vl=jb p n c':=by obtain⟨p,c',h⟩:=X.form;exact⟨p,_,c',h⟩
 subst i0;obtain⟨ep,a4⟩:=J g.epoch;obtain⟨fd,a5⟩:=J g.folder;rw[<-a4,<-a5]at cy;have WO:=O a4;have i1:=O a5;have a6:=O (yA g a m);obtain⟨ne,ba⟩:=J (dq g a m);rw[<-ba]at HN a6;have e0:=O ba;clear h X ay a1 g7 hT hS bb bc D M a2 VB a3 P hL U V F z a4 a5 ba;clear hB k hG i c bl d U6 j o q C s ew v
 go_enter func24,ntmps24
 go_upto_region 1 with fail
 rw[<-HW,<-HG];have e1:T ((t+1+1+1+1+1)<x0.heap.size):=O (jB.1 UP).1;have k:=ah Q cy.2
 by_cases h1:1099511627776<=ep
 case pos=>
  have hR:decide (1099511627776<=ep)=ji:=ak h1;have c:T (er=1):=O (by rw[hI];unfold gZ;rw[jr (by rw[<-WO];exact h1)]);clear h1;exact jt (c.symm.trans ev) G
 have hR:decide (1099511627776<=ep)=jm:=ak h1;have i3:ep<1099511627776:=Y;have i:T (er=if dq g a m≠0 then dq g a m else if x<1\/2305843009213688669<=x then 50 else if((aX 4 x.toNat:ja):N)≠dQ g a m then 221 else 0):=O (by rw[hI];unfold gZ;rw[jD (by rw[<-WO];exact h1)]);clear h1
 go_upto_region 3 with fail
 clear hR k;refine jZ ?_;refine j9 I 51 _ I t I 51 ax (0,0) _ Q.out qS I YC ?_
 go_wp2_with fail
 refine(HN x0 (hl.below Uh) ((EK.At.of_sl (E:=EC) Z6).below Uh)).mono ?_;rintro e x1 ⟨aa,rfl,hu,d⟩;have q:=O hu;clear hu;have s:=ae Q d;have a1:=ae ac d;have V:=ae ad d;have U5:=ae VQ d;have UB:=ae UK d;have UG:=ae UP d;have U:=ai Uh d;clear Q ac ad VQ UK UP Uh;clear d;obtain⟨pu,i4,rfl⟩:=cK q;obtain⟨nu,j⟩:=J ((dT g a m).length);rw[<-j]at q⊢;have hT:=O j;clear j
 rcases a6.out with⟨-,C⟩|⟨-,-,C⟩|⟨hv,hf,hp,C⟩
 case inl=>
  have c:T (er=1):=O (by rw[i,<-e0,C];rfl);subst C;clear q;exact jt (c.symm.trans ev) G
 case inr.inl=>
  have c:T (er=221):=O (by rw[i,<-e0,C];rfl);subst C;clear q;exact jt (c.symm.trans ev) G
 have o:T (er=if x<1\/2305843009213688669<=x then 50 else if((aX 4 x.toNat:ja):N)≠dQ g a m then 221 else 0):=O (by rw[i,<-e0,C];rfl);subst C;have j:dC g:=by
  by_cases C:dC g
  ·exact C
  rw[kh C]at hv;cases hv
 have b5:=O j;have Ya:=O (oy.1 hf);have hm:=O (tF.1 hp);have ho:T (dT g a m=eo (aW g.tree m) a):=O (wZ e0.symm);have ll:0<=ep:=by rw[WO];exact j.ep.1
 have ed:=O (vO j Ya hm);clear hv hf hp j i a6
 by_cases e2:kY x
 case neg=>
  have c:T (er=50):=O (by rw[o,jr (by unfold kY at e2;omega)]);have i:=O (IV x e2);clear e2 q
  go_wp2_with fail
  refine(i x1).mono ?_;rintro e x2 ⟨rfl,rfl⟩;exact jt (c.symm.trans ev) G
 obtain⟨X,hX⟩:=qJ (show 0<=x by have:=e2.1;omega);have lo:=O hX;obtain⟨i,j⟩:=e2;subst hX;have UT:T (1<=X/\X<2305843009213688669):=O ⟨by omega,by omega⟩;have g9:T (er=if((aX 4 X:ja):N)≠dQ g a m then 221 else 0):=O (by rw[o,jD Y];rfl);clear i j o
 go_wp2_with fail
 refine(zZ X UT.1 UT.2 x1).mono ?_;rintro e x2 ⟨rfl,d⟩;have i:=ae s d;have v:=ae a1 d;have D:=ae V d;have UE:=ae U5 d;have Uy:=ae UB d;have UF:=ae UG d;have Ug:=ai U d;have e3:=bj q d;clear s a1 V U5 UB UG U q;clear d;obtain⟨vk,j⟩:=J (dQ g a m);obtain⟨pb,e4⟩:∃y:N,y=((aX 4 X:ja):N):=⟨_,I⟩;rw[<-j]at hh g9;rw[<-e4]at g9⊢;have Zu:=O j;have i5:=O e4;clear j e4
 go_upto_region 9 with fail
 refine jZ ?_;refine eh ?_;refine j9 I 51 _ I t I 51 ax (0,0) _ i.out qS I YC (L ?_)
 go_wp2_with fail
 refine(hh x2 b5 Ya hm (hl.below Ug) ((EK.At.of_sl (E:=EC) Z6).below Ug)).mono ?_;rintro e x3 ⟨rfl,d⟩;have WK:=ae i d;have Zl:=ae v d;have o:=ae D d;have VL:=ae UE d;have UQ:=ae Uy d;have U4:=ae UF d;have Uj:=ai Ug d;have Z7:=bj e3 d;clear i v D UE Uy UF Ug e3;clear d
 by_cases h2:pb=vk
 case neg=>
  have hd2:(pb !=vk)=ji:=ak h2;have ha:(pb==vk)=jm:=ak h2;have c:T (er=221):=O (by rw[g9,jr h2]);clear h2 Z7;exact jt (c.symm.trans ev) G
 have hd2:(pb !=vk)=jm:=ak h2;have ha:(pb==vk)=ji:=ak h2;have i6:T (er=0):=O (by rw[g9,jD (λhn=>hn h2)]);have i7:T (dQ g a m=(aX 4 X:ja)):=O (by rw[<-Zu,<-h2,i5]);clear h2;have k:=ah WK cy.2;obtain⟨ix,c⟩:=J (if g.epoch=0 then cG else init);obtain⟨IX,i⟩:=J ((ix.map v8).toArray);have j:ix.length=32:=by rw[c];split;exact eG;exact hN
 have ka:=O j;have bn:=O c;have bq:=O i;have hr:T ((jo.info? 27).map (·.size)=A IX.size):=O (by rw[i,jv,jy,j];kernel_rfl);clear j
 go_upto_if 69 with fail
 go_cut []from 69 (λj=>j=x3.setRow (t+1+1) IX)
 case first=>
  by_cases j:ep=0
  ·have hd3:(ep==0)=ji:=ak j
   have v:IX=(cG.map v8).toArray:=by rw[i,c,jr (by rw[<-WO];exact j)]
   have D:T ((cG.map v8).toArray.all (·.oneCell')=ji):=O (eR _);have F:T (bC.size=(cG.map v8).toArray.size):=O (by rw[hP,jv,jy,jv,jy,hN,eG]);rw[v]at hr;have M:=O v;clear j v i c
   try rw[hd3]
   go_upto_region 12 with fail
   refine jZ ?_;refine ez (v:=jh (cG.map v8).toArray) aj (N7 I _) ?_;refine o1 I λ_ z=>jR 27 _ _ I (t+1+1) (cG.map v8).toArray I I 27 _ o.out hr F D (z _ _ ?_)
   refine L ?_
   go_wp2_with fail
   go_meet
   rw[M]
  have hd3:(ep==0)=jm:=ak j;have D:IX=bC:=by rw[i,c,jD (by rw[<-WO];exact j),hP]
  have F:=O D;clear j D i c
  try rw[hd3]
  go_wp2_with fail
  go_meet
  rw[F];exact(ri o).symm
 subst hcut;clear i c hd2 ha k;have c:T ((x3.setRow (t+1+1) IX).heap[t]?=A (jc ax 51 (0,0))):=O ((js _ _ _ _ (by first|omega|(have:=YS.out;omega))).trans WK);have D:T ((x3.setRow (t+1+1) IX).heap[t+1]?=A (jc Uc 27 (0,0))):=O ((js _ _ _ _ (by first|omega|(have:=YS.out;omega))).trans Zl);have F:T ((x3.setRow (t+1+1) IX).heap[t+1+1]?=A (jc IX 27 (0,0))):=O (jU _ _ _ _ _ _ o.out);have M:T ((x3.setRow (t+1+1) IX).heap[t+1+1+1]?=A (jc S 27 (0,0))):=O ((js _ _ _ _ (by first|omega|(have:=YS.out;omega))).trans VL);have a6:T ((x3.setRow (t+1+1) IX).heap[(t+1+1+1+1)]?=A (jc Z 57 (0,0))):=O ((js _ _ _ _ (by first|omega|(have:=YS.out;omega))).trans UQ);have ba:T ((x3.setRow (t+1+1) IX).heap[(t+1+1+1+1+1)]?=A (jc K 27 (0,0))):=O ((js _ _ _ _ (by first|omega|(have:=YS.out;omega))).trans U4);have bc:T (jl w w (x3.setRow (t+1+1) IX)):=O (ob Uj.out (by rw[HG];omega) _);have P:=O (m9 (w':=(x3.setRow (t+1+1) IX)) Z7 (λk hk=>js _ _ _ _ (aI e1)));generalize(x3.setRow (t+1+1) IX)=x4 at c D F M a6 ba bc P⊢;clear WK Zl o VL UQ U4 Uj Z7;have a2:=c;clear c;have o:=D;clear D;have a3:=F;clear F;have WC:=M;clear M;have WX:=a6;clear a6;have Yv:=ba;clear ba;have Uq:=bc;clear bc;have a4:=P;clear P
 go_upto_region 13 with fail
 refine jZ ?_;refine j9 I 27 _ I (t+1) I 27 Uc (0,0) _ o.out jX I ZI ?_;have ay:T (∀W,bP W->jz jo 40 #[jh Uc] W λe w'=>∃v,e=jw v/\w'.ownsRow W 27 32 v 10 (ik (gG u 10))/\jl W W w'):=O (by rw[YW];exact λW hW=>Le u Vn W hW)
 go_wp2_with fail
 refine(ay x4 (VR.dig.below Uq)).mono ?_;rintro e x5 ⟨v,rfl,hv,d⟩;obtain⟨gl,cl,LC,rfl,lp,a5,bb,bd⟩:=SO hv G;have e5:=O bb;have YS:T (t+6<=gl):=O (by have h5:=(jB.1 Yv).1;have:=a5;omega);have hg:T (∀i j aa,i<10->((aA u i).map v8)[j]?=A aa->LC[i*32+j]?=A aa):=O (λi j aa hi hj=>bd _ _ (Rp u Vn 10 i j hi aa hj));clear hv bb bd a5 ay;have bf:=ae a2 d;have bg:=ae o d;have ay:=ae a3 d;have Z1:=ae WC d;have eg:=ae WX d;have ej:=ae Yv d;have Uw:=ai Uq d;have bh:=bj a4 d;clear a2 o a3 WC WX Yv Uq a4;clear d;obtain⟨RL,a2⟩:=J (((aA u 9).map v8).toArray);obtain⟨SA,o⟩:=J (((dM g u init).map v8).toArray);have br:T (∀W,iD W->jz jo 41 #[jh IX,jh RL] W λe w'=>e=jw (jh SA)/\jl W W w'):=O (by
  rw[bq,a2,o];unfold dM;rw[<-bn];exact λW hW=>QA ix (aA u 9) ka (fJ u Vn 9) W hW)
 have e6:T ((jo.info? 27).map (·.size)=A SA.size):=O (by rw[o,jv,jy,lD];kernel_rfl);have kb:T (K.size=SA.size):=O (by rw[o,<-ZC,jv,jy,jv,jy,lD,eG]);have hU:T (SA.all (·.oneCell')=ji):=O (by rw[o];exact eR _);have bs:=O a2;have hs:=O o;have bu:T ((jo.info? 27).map (·.size)=A ((aA u 9).map v8).length):=O (by rw[jy,fJ u Vn];kernel_rfl);clear a2 o
 go_upto_region 14 with fail
 refine jO ?_;refine dm (λW'=>W'.heap[t+1+1]?=A (jc IX 27 (0,0))/\W'.heap[gl]?=A (jc LC 27 (0,0))) (.take 0 (.take 1 (.take 2 (.take 3 (.one 4 (.one 5 .done)))))) af af af G (λ_ _ _ _ h=>h) ⟨ay,e5⟩ ?_;obtain⟨y0,UA⟩:=J x5.drew;have d:=bX x5;rw[<-UA]at d⊢;have a4:=ae bf d;have a5:=ae bg d;have bb:=ae ay d;have bO:=ae Z1 d;have cj:=ae eg d;have ck:=ae ej d;have Zn:=ai Uw d;have bd:=bj bh d;have cm:=ae e5 d;clear d UA bf bg ay Z1 eg ej Uw bh e5;have Q:=a4;clear a4;have ac:=a5;clear a5;have ad:=bb;clear bb;have VQ:=bO;clear bO;have UK:=cj;clear cj;have UP:=ck;clear ck;have Uh:=Zn;clear Zn;have bf:=bd;clear bd;have bI:=cm;clear cm
 (refine aV (v:=jh IX) I aj (λW' hS=>mq jX I hr I I hS.1) (L ?_))
 iterate 2 refine aP ?_
 (refine aV (v:=jh RL) I aj (λW' hS=>by rw[bs];exact CC jX I bu I I (GV (o:=288) hS.2 (λj aa hj=>hg 9 j aa G hj))) ?_;refine L ?_)
 refine aE I (λK' z=>?_);go_simp;refine(br y0 (VR.below Uh)).mono ?_;rintro e y1 ⟨rfl,d⟩;have s:=ae Q d;have a1:=ae ac d;have V:=ae ad d;have U5:=ae VQ d;have UB:=ae UK d;have UG:=ae UP d;have U:=ai Uh d;have q:=bj bf d;have ay:=ae bI d;clear Q ac ad VQ UK UP Uh bf bI;clear d;refine z _ _ ⟨V,ay⟩ λ_=>?_
 clear z;refine L ?_;refine aE I (λK' z=>?_);rw[jr aj];refine jR 27 _ _ I (t+1+1+1+1+1) SA I I 27 _ UG.out e6 kb hU ?_;refine z _ _ ⟨(js _ _ _ _ Y).trans V,(js _ _ _ _ (aI YS)).trans ay⟩ λ_=>?_
 clear z;have c:T ((y1.setRow (t+1+1+1+1+1) SA).heap[t]?=A (jc ax 51 (0,0))):=O ((js _ _ _ _ (by first|omega|(have:=YS.out;omega))).trans s);have D:T ((y1.setRow (t+1+1+1+1+1) SA).heap[t+1]?=A (jc Uc 27 (0,0))):=O ((js _ _ _ _ (by first|omega|(have:=YS.out;omega))).trans a1);have F:T ((y1.setRow (t+1+1+1+1+1) SA).heap[t+1+1]?=A (jc IX 27 (0,0))):=O ((js _ _ _ _ (by first|omega|(have:=YS.out;omega))).trans V);have M:T ((y1.setRow (t+1+1+1+1+1) SA).heap[t+1+1+1]?=A (jc S 27 (0,0))):=O ((js _ _ _ _ (by first|omega|(have:=YS.out;omega))).trans U5);have a6:T ((y1.setRow (t+1+1+1+1+1) SA).heap[(t+1+1+1+1)]?=A (jc Z 57 (0,0))):=O ((js _ _ _ _ (by first|omega|(have:=YS.out;omega))).trans UB);have ba:T ((y1.setRow (t+1+1+1+1+1) SA).heap[(t+1+1+1+1+1)]?=A (jc SA 27 (0,0))):=O (jU _ _ _ _ _ _ UG.out);have bc:T (jl w w (y1.setRow (t+1+1+1+1+1) SA)):=O (ob U.out (by rw[HG];omega) _);have P:=O (m9 (w':=(y1.setRow (t+1+1+1+1+1) SA)) q (λk hk=>js _ _ _ _ (aI e1)));have a2:T ((y1.setRow (t+1+1+1+1+1) SA).heap[gl]?=A (jc LC 27 (0,0))):=O ((js _ _ _ _ (by first|omega|(have:=YS.out;omega))).trans ay);generalize(y1.setRow (t+1+1+1+1+1) SA)=y9 at c D F M a6 ba bc P a2⊢;clear s a1 V U5 UB UG U q ay;have ZH:=c;clear c;have bh:=D;clear D;have bi:=F;clear F;have Zm:=M;clear M;have Y8:=a6;clear a6;have ZQ:=ba;clear ba;have Vv:=bc;clear bc;have bg:=P;clear P;have a3:=a2;clear a2;refine L ?_;refine oj ?_;have bv:T ((jo.info? 23).map (·.size)=A (g.last.map v8).length):=O (by rw[jy,WP];kernel_rfl);obtain⟨DL,bk⟩:=J ((g.last.map v8).toArray);have WF:=O bk;have hV:T (IntKind.i64.wrap (ep+1)=ep+1):=O (by rw[IntKind.wrap_i64];omega);have bw:T (DL.size=32):=O (by rw[bk,jv,jy,WP]);clear bk
 go_upto_region 15 with fail
 refine jO ?_;refine dm (λW'=>W'.heap[t]?=A (jc ax 51 (0,0))) (.take 0 (.take 1 (.take 2 (.take 3 (.take 4 (.take 5 (.take 6 (.take 7 (.take 8 (.one 9 (.take 10 (.one 11 .done)))))))))))) af af af G (λ_ _ _ _ h=>h) ZH ?_;obtain⟨z0,UA⟩:=J y9.drew;have d:=bX y9;rw[<-UA]at d⊢;have a4:=ae ZH d;have a5:=ae bh d;have bb:=ae bi d;have bO:=ae Zm d;have cj:=ae Y8 d;have ck:=ae ZQ d;have Zn:=ai Vv d;have bd:=bj bg d;have cm:=ae a3 d;clear d UA ZH bh bi Zm Y8 ZQ Vv bg a3;have Q:=a4;clear a4;have ac:=a5;clear a5;have ad:=bb;clear bb;have VQ:=bO;clear bO;have UK:=cj;clear cj;have UP:=ck;clear ck;have Uh:=Zn;clear Zn;have bf:=bd;clear bd;have bI:=cm;clear cm;iterate 6 (refine aV (v:=?_) I aj (λW' hS=>?_) ?_;rotate_left;(have b0:=ah hS cy.1;have b1:=ah hS cy.2;go_simp;with_reducible rfl);refine L ?_)
 (refine aV (v:=jh DL) I aj (λW' hS=>by rw[WF];exact CC underlying23 I bv I I (ii W' t hS)) ?_;refine L ?_)
 iterate 2 (refine aV (v:=?_) I aj (λW' hS=>?_) ?_;rotate_left;(have b0:=ah hS cy.1;have b1:=ah hS cy.2;go_simp;with_reducible rfl);refine L ?_)
 refine aE I (λK' z=>?_);go_simp;refine(Ic m _ z0 ((EK.At.of_sl (E:=EC) Z6).below Uh) g8).mono ?_;rintro e z1 ⟨aa,rfl,hu,d⟩;obtain⟨EE,a4⟩:=J z0.heap.size;rw[<-a4]at hu;have cz:T (t+6<=EE):=O (by have h5:=(jB.1 UP).1;omega);clear a4;have YT:=O hu;clear hu;obtain⟨VN,c1,rfl⟩:=cK YT;obtain⟨X0,a5⟩:∃y:jp jk,y= #[jd je fd,jd je (ep+1)]++DL++ #[jd je a,jb VN m.length c1,jb jf 0 0,jb jf 0 0,jb jf 0 0]++(cG.map v8).toArray++ #[jd je 0,jd je 0]:=⟨_,I⟩;have bb:=O a5;have a4:X0=(aF (bV g a m u) ⟨jb VN m.length c1,jb jf 0 0,jb jf 0 0,jb jf 0 0⟩).toArray:=by rw[a5,WF,i1,WO];unfold aF bV;simp
 have bd:=O a4;have bk:T ((jo.info? 57).map (·.size)=A X0.size):=O (by rw[a4,jv,dz _ _ WP.out eG];exact mM);have bA:T (X0.all (·.oneCell')=ji):=O (by rw[a4];exact zI _ _ _ _ _ _ _ _ _ _ _ _ _);have bB:T (Z.size=X0.size):=O (by rw[a4,<-ih,jv,jv,dz (bV g a m u) _ WP.out eG,dz mI nC eG eG]);clear a5 a4;have s:=ae Q d;have a1:=ae ac d;have V:=ae ad d;have U5:=ae VQ d;have UB:=ae UK d;have UG:=ae UP d;have U:=ai Uh d;have q:=bj bf d;have ay:=ae bI d;clear Q ac ad VQ UK UP Uh bf bI;clear d;refine z _ _ s.out λ_=>?_
 clear z;refine L ?_
 (refine aV (v:=jh X0) I aj (λW' hS=>by rw[bb];exact LI (f:=fd) (e:=ep+1) (au:=a) bw I (by simp only[pz,jY,jV,Act.eval,Array.getD_eq_getD_getElem?];simp;exact hV) W') ?_;refine L ?_)
 refine aE I (λK' z=>?_);rw[jr aj];refine jR 57 _ _ I (t+1+1+1+1) X0 I I 57 _ UB.out bk bB bA ?_;refine z _ _ ((js _ _ _ _ Y).trans s) λ_=>?_
 clear z;have Q:T ((z1.setRow (t+1+1+1+1) X0).ownsRow EE 61 5 (jb VN m.length c1) m.length (m.flatMap ap.cells)):=O (m9 YT (λk hk=>js _ _ _ _ (aI cz)));have c:T ((z1.setRow (t+1+1+1+1) X0).heap[t]?=A (jc ax 51 (0,0))):=O ((js _ _ _ _ (by first|omega|(have:=YS.out;omega))).trans s);have D:T ((z1.setRow (t+1+1+1+1) X0).heap[t+1]?=A (jc Uc 27 (0,0))):=O ((js _ _ _ _ (by first|omega|(have:=YS.out;omega))).trans a1);have F:T ((z1.setRow (t+1+1+1+1) X0).heap[t+1+1]?=A (jc IX 27 (0,0))):=O ((js _ _ _ _ (by first|omega|(have:=YS.out;omega))).trans V);have M:T ((z1.setRow (t+1+1+1+1) X0).heap[t+1+1+1]?=A (jc S 27 (0,0))):=O ((js _ _ _ _ (by first|omega|(have:=YS.out;omega))).trans U5);have a6:T ((z1.setRow (t+1+1+1+1) X0).heap[(t+1+1+1+1)]?=A (jc X0 57 (0,0))):=O (jU _ _ _ _ _ _ UB.out);have ba:T ((z1.setRow (t+1+1+1+1) X0).heap[(t+1+1+1+1+1)]?=A (jc SA 27 (0,0))):=O ((js _ _ _ _ (by first|omega|(have:=YS.out;omega))).trans UG);have bc:T (jl w w (z1.setRow (t+1+1+1+1) X0)):=O (ob U.out (by rw[HG];omega) _);have P:=O (m9 (w':=(z1.setRow (t+1+1+1+1) X0)) q (λk hk=>js _ _ _ _ (aI e1)));have a2:T ((z1.setRow (t+1+1+1+1) X0).heap[gl]?=A (jc LC 27 (0,0))):=O ((js _ _ _ _ (by first|omega|(have:=YS.out;omega))).trans ay);generalize(z1.setRow (t+1+1+1+1) X0)=z9 at c D F M a6 ba bc P a2 Q⊢;clear s a1 V U5 UB UG U q ay;have ZH:=c;clear c;have bh:=D;clear D;have bi:=F;clear F;have Zm:=M;clear M;have Y8:=a6;clear a6;have ZQ:=ba;clear ba;have Vv:=bc;clear bc;have bg:=P;clear P;have a3:=a2;clear a2;clear YT;have ac:=Q;clear Q;refine L ?_;refine oj ?_;obtain⟨M,c⟩:=J z9.heap.size;have Yb:T ((t+1+1+1+1)<M):=O (by rw[c];exact(jB.1 Y8).1);have e7:T (gl<M):=O (by rw[c];exact(jB.1 a3).1);have hY:=O c;have e8:T ((t+1+1+1+1+1)<M):=O (by rw[c];exact(jB.1 ZQ).1);have a2:T (∀aa v,((λv=>(aF (bV g a m u) ⟨jb VN m.length c1,v,jb jf 0 0,jb jf 0 0⟩).toArray) aa).setIfInBounds 36 v=(λv=>(aF (bV g a m u) ⟨jb VN m.length c1,v,jb jf 0 0,jb jf 0 0⟩).toArray) v):=O (λaa v=>Rx (bV g a m u) _ _ _ _ _ WP.out);have D:T (gt M (t+1+1+1+1) 57 3 1 (λv=>(aF (bV g a m u) ⟨jb VN m.length c1,v,jb jf 0 0,jb jf 0 0⟩).toArray) z9 z9 0 (jb jf 0 0) (((dA u).take 0).map (jI .i64))):=O ⟨by have h:=Y8.out;rw[bd]at h;exact h,qY _ _ _ _,dy.refl _ _ _,j6 c⟩;have kg:T (∀w,(Instr.alloc 27 ji (jH #[])).run jo w=.ok (ju (A ⟨w,0,jf⟩)) (w.alloc (jc K 27))):=O (λw=>by rw[<-ZC];kernel_rfl);clear c;rw[hV]
 go_upto_region 16 with fail
 go_wp2_with fail
 go_loopw [91] (λv wr=>∃(i:ja) (pv:jG Addr) (cv:ja),v=jd je i/\i<=10/\T (gt M (t+1+1+1+1) 57 3 1 (λv=>(aF (bV g a m u) ⟨jb VN m.length c1,v,jb jf 0 0,jb jf 0 0⟩).toArray) z9 wr i (jb pv i cv) (((dA u).take i).map (jI .i64)))) (λv _=>10-(jQ v).toNat)
 case atStart=>exact⟨0,jf,0,I,jM _,D⟩
 clear D;obtain⟨i,pv,cv,rfl,hi,P⟩:=hrel
 by_cases b6:i<10
 ·have hd:=az ((i:N)<10)
  have UC:=az (i<10);have hZ:(i:N)<10:=Y;obtain⟨RK,c⟩:=J (((aA u i).map v8).toArray);have a5:=O c;have ad:T ((jo.info? 27).map (·.size)=A RK.size):=O (by rw[c,jv,jy,fJ u Vn];kernel_rfl);have bf:T (K.size=RK.size):=O (by rw[c,<-ZC,jv,jy,jv,jy,fJ u Vn,eG]);have bp:T (RK.all (·.oneCell')=ji):=O (by rw[c];exact eR _);have bK:T ((jo.info? 27).map (·.size)=A ((aA u i).map v8).length):=O (by rw[jy,fJ u Vn];kernel_rfl);have bM:T (∀W,iD W->jz jo 43 #[jh RK] W λe w'=>e=jw (jd je (aS (aA u i):ja))/\jl W W w'):=O (by rw[c];exact λW hW=>SN _ (fJ u Vn i) W hW);have D:T (wr.heap[gl]?=A (jc LC 27 (0,0))):=O ((P.but.block gl e7 (aI YS)).trans a3);have F:T (wr.rangeAt gl (i*32) ((aA u i).map v8)):=O (GV D (λj aa hj=>hg i j aa b6 hj));have WB:T (jl w w wr):=O (Vv.trans (P.but.below (n:=w.heap.size) (by rw[HG];omega) (ee Yb HG)));clear c
  go_upto_region 18 with fail
  refine jZ ?_;refine eh ?_;refine uO aj λ_ z=>wp_load_mid 27 _ I _ _ I ((aA u i).map v8) _ (by first|exact F|simpa using F.out) jX I bK (z _ _ ?_)
  rw[<-a5];refine o1 I λ_ z=>gK 27 I K kg (z _ _ ?_)
  refine o1 I λ_ z=>jR 27 _ _ I wr.heap.size RK I I 27 K (jA wr _) ad bf bp (z _ _ ?_)
  have bm:((wr.alloc (jc K 27)).setRow wr.heap.size RK).heap[wr.heap.size]?=A (jc RK 27 (0,0)):=jU _ _ _ _ _ _ (jA wr _);have d:jl wr wr ((wr.alloc (jc K 27)).setRow wr.heap.size RK):=iP (ao wr _) (jE _) _;obtain⟨k0,Y6⟩:=J ((wr.alloc (jc K 27)).setRow wr.heap.size RK);obtain⟨bN,c⟩:=J wr.heap.size;rw[<-Y6,<-c]at bm;rw[<-Y6]at d⊢;rw[<-c]at⊢;have V:=O (P.later (aI Yb) d);have Q:=O bm;have Uh:T (jl w w k0):=ai WB d;clear bm d Y6 c P WB D F
  go_upto_region 19 with fail
  refine jZ ?_;refine j9 I 27 _ I bN I 27 RK (0,0) _ Q.out jX I ad ?_
  go_wp2_with fail
  refine(bM k0 (VR.below Uh)).mono ?_;rintro e k1 ⟨rfl,d⟩;have a1:=O (V.later Yb d);have a4:=ae Q d;have U:=ai Uh d;clear V Q Uh;clear d
  go_wp2_with fail
  refine(zZ (aS (aA u i)) (DY _).1 (DY _).2 k1).mono ?_;rintro e c ⟨rfl,d⟩;have F:=O (a1.later Yb d);have b0:=ae a4 d;have Ug:=ai U d;clear a1 a4 U;clear d;obtain⟨Q,V⟩:∃y:N,y=((aX 4 (aS (aA u i)):ja):N):=⟨_,I⟩;rw[<-V];have a1:=O V;clear V;have a4:=ah F.box (show((λv=>(aF (bV g a m u) ⟨jb VN m.length c1,v,jb jf 0 0,jb jf 0 0⟩).toArray) (jb pv i cv))[36]?=A (jb pv i cv) by have h:=(ku (bV g a m u) ⟨jb VN m.length c1,jb pv i cv,jb jf 0 0,jb jf 0 0⟩ WP eG).2.2.2.2.1;simpa using h);have V:((λv=>(aF (bV g a m u) ⟨jb VN m.length c1,v,jb jf 0 0,jb jf 0 0⟩).toArray) (jb pv i cv)).size=73:=by rw[jv,dz _ _ WP.out eG]
  have bT:=O V;clear V
  go_wp2_with (at_builtin;refine Hid.out ?_)
  refine O ?_;refine o1 I λ_ z=>Sr _ _ I M (jb pv i cv) i _ I (cL F.own (ao c _)) _ 1 [jd je Q] I (lx c [jd je Q] 3 (0,0) 1 1 1 I (jE _)) (by simp[j5]) Y (jF F.sz' (ao c _).size) λv' k9 UO=>z _ _ ?_
  clear z;have bo:gt M (t+1+1+1+1) 57 3 1 (λv=>(aF (bV g a m u) ⟨jb VN m.length c1,v,jb jf 0 0,jb jf 0 0⟩).toArray) z9 (c.alloc (jc #[jd je Q] 3)) i (jb pv i cv) (((dA u).take i).map (jI .i64)):=F.later (aI Yb) (ao c _);have cp:=k7 bo.box UO.grown (eV bo.own (.inr Yb));obtain⟨pn,cn,rfl⟩:=cK UO.own;have e9:T (gt M (t+1+1+1+1) 57 3 1 (λv=>(aF (bV g a m u) ⟨jb VN m.length c1,v,jb jf 0 0,jb jf 0 0⟩).toArray) z9 (k9.setCell ⟨(t+1+1+1+1),36,jf⟩ (jb pn (i+1) cn)) (i+1) (jb pn (i+1) cn) (((dA u).take (i+1)).map (jI .i64))):=O (by
   have h:=bo.push (i:=36) Yb UO (a2 _ _);rw[Pt u i b6,nn,jY,jV,<-a1];exact h)
  obtain⟨⟨vo,c3⟩,f3,-,-⟩:=ko (i:=36) (jb pn (i+1) cn) cp (by rw[bT];decide);clear bo UO cp a4
  go_wp2_with fail
  go_roundw
  case rel=>exact⟨i+1,pn,cn,by go_num,by omega,e9⟩
  case measure=>simp only[jQ];omega
 obtain rfl:i=10:=Y;have hd:decide ((10:N)<10)=jm:=by decide
 have UC:decide (10<10)=jm:=by decide
 rename jj=>p1;have cs:(dA u).take 10=dA u:=qv (by rw[lK];exact jE _);rw[cs]at P;have c:(dA u).length=10:=lK u;have s:T (p1.heap[t]?=A (jc ax 51 (0,0))):=O ((P.but.block (t) (by first|(have:=Yb.out;omega)|(have:=e8.out;omega)|(have:=e7.out;omega)) (by first|omega|(have:=YS.out;omega))).trans ZH);have U5:T (p1.heap[t+1+1+1]?=A (jc S 27 (0,0))):=O ((P.but.block (t+1+1+1) (by first|(have:=Yb.out;omega)|(have:=e8.out;omega)|(have:=e7.out;omega)) (by first|omega|(have:=YS.out;omega))).trans Zm);have UG:T (p1.heap[(t+1+1+1+1+1)]?=A (jc SA 27 (0,0))):=O ((P.but.block (t+1+1+1+1+1) (by first|(have:=Yb.out;omega)|(have:=e8.out;omega)|(have:=e7.out;omega)) (by first|omega|(have:=YS.out;omega))).trans ZQ);have ay:T (p1.heap[gl]?=A (jc LC 27 (0,0))):=O ((P.but.block (gl) (by first|(have:=Yb.out;omega)|(have:=e8.out;omega)|(have:=e7.out;omega)) (by first|omega|(have:=YS.out;omega))).trans a3);have UB:T (p1.heap[(t+1+1+1+1)]?=A (jc ((λv=>(aF (bV g a m u) ⟨jb VN m.length c1,v,jb jf 0 0,jb jf 0 0⟩).toArray) (jb pv 10 cv)) 57 (0,0))):=O P.box;have U:T (jl w w p1):=O (Vv.trans (P.but.below (n:=w.heap.size) (by rw[HG];omega) (ee Yb HG)));have YT:T (p1.ownsRow EE 61 5 (jb VN m.length c1) m.length (m.flatMap ap.cells)):=O (kK ac (λk bp ad=>P.but.block k (by rw[hY];exact ad) (aI cz)));have q:=O (kK bg (λk bp ad=>P.but.block k (by rw[hY];exact ad) (aI e1)));have F:T (M<=p1.heap.size):=O P.sz';have a1:T (p1.ownsRow M 3 1 (jb pv 10 cv) 10 ((dA u).map (jI .i64))):=O P.own;clear cs c P b6 hi bg ZH bh bi Zm Y8 ZQ Vv a3 ac a2 bq bn bs br bu WF bv bb bk bA bB bd bw;obtain⟨pq,cq,ki,YK⟩:∃(p:jG Addr) (c:ja),p=pv/\c=cv:=⟨_,_,I,I⟩;subst ki;subst YK
 go_upto_region 22 with fail
 refine jZ ?_;refine j9 I 51 _ I t I 51 ax (0,0) _ s.out qS I YC ?_;have Q:T (M<=p1.heap.size):=F;clear s F
 go_wp2_with fail
 refine(hJ p1 Ya (hl.below U) ((EK.At.of_sl (E:=EC) Z6).below U)).mono ?_;rintro e pm ⟨u1,rfl,hu,d⟩;have s:=O hu;clear hu;obtain⟨pt,nt,ct,rfl⟩:=gN s;have V:T (M<=pm.heap.size):=O (jF Q d.size);have ac:=ae U5 d;have a4:=ae UG d;have a5:=ae ay d;have bb:=ae UB d;have bd:=ai U d;have bf:=bj YT d;have bg:=bj a1 d;have bh:=bj q d;clear U5 UG ay UB U YT a1 q;clear d;clear Q
 go_upto_region 23 with fail
 have d:=ao pm (jc #[jb pt nt ct] 49);have F:=jA pm (jc #[jb pt nt ct] 49);obtain⟨p2,C⟩:=J (pm.alloc (jc #[jb pt nt ct] 49));rw[<-C]at d F⊢;obtain⟨bt,Q⟩:=J pm.heap.size;rw[<-Q]at F⊢;have q:=O Q;have UE:=ae ac d;have UF:=ae a4 d;have bK:=ae a5 d;have Uy:=ae bb d;have Ug:=ai bd d;have a2:=bj bf d;have a3:=bj bg d;have e3:=bj bh d;have bT:=O (s.below d);clear ac a4 a5 bb bd bf bg bh s;have s:=O F;clear F C d Q;have kl:T (M<=bt):=O (by rw[q];exact V);have hq:=s;clear s V q;obtain⟨M2,q⟩:=J p2.heap.size;have bq:T ((t+1+1+1+1)<M2):=O (by rw[q];exact(jB.1 Uy).1);have h0:T ((t+1+1+1+1+1)<M2):=O (by rw[q];exact(jB.1 UF).1);have h4:T (gl<M2):=O (by rw[q];exact(jB.1 bK).1);have h5:T (bt<M2):=O (by rw[q];exact(jB.1 hq).1);have h6:T (bt≠(t+1+1+1+1)):=O (ee kl Yb);have Vw:=O q;have h7:T (∀aa v,((λv=>(aF (bV g a m u) ⟨jb VN m.length c1,jb pq 10 cq,v,jb jf 0 0⟩).toArray) aa).setIfInBounds 37 v=(λv=>(aF (bV g a m u) ⟨jb VN m.length c1,jb pq 10 cq,v,jb jf 0 0⟩).toArray) v):=O (λaa v=>Dk (bV g a m u) _ _ _ _ _ WP.out);obtain⟨nl,s⟩:=J (dT g a m);have YN:=O s;have Zo:T (nu=nl.length):=O (by rw[s];exact hT);have h8:T (nu<=511):=O (by rw[hT,ho];exact Cw _ ed.1 ed.2);have km:=O (oS m _ (lM b5.tree) (pZ b5 Ya hm)).1;have V:T (eB M2 (t+1+1+1+1) 57 105 4 Bx.cells Bx.body (λv=>(aF (bV g a m u) ⟨jb VN m.length c1,jb pq 10 cq,v,jb jf 0 0⟩).toArray) p2 p2 0 (jb jf 0 0) ((nl.take 0).map (eA g a m u seed)) []):=O (eB.start Uy (j6 q));clear q s
 go_upto_region 23 with fail
 go_wp2_with fail
 go_loopw [113] (λv wr=>∃(i:ja) (pv:jG Addr) (cv:ja) (us:jg jk),v=jd je i/\i<=nu/\T (eB M2 (t+1+1+1+1) 57 105 4 Bx.cells Bx.body (λv=>(aF (bV g a m u) ⟨jb VN m.length c1,jb pq 10 cq,v,jb jf 0 0⟩).toArray) p2 wr i (jb pv i cv) ((nl.take i).map (eA g a m u seed)) us)) (λv _=>nu-(jQ v).toNat)
 case atStart=>exact⟨0,jf,0,[],I,jM _,V⟩
 clear V;obtain⟨i,pv,cv,us,rfl,hi,P⟩:=hrel;have ew:=h8.out
 by_cases b6:i<nu
 ·have hd:=az ((i:N)<(nu:N))
  have UC:=az (i<nu);have hZ:(i:N)<(nu:N):=Y;have WB:T (jl w w wr):=O (Ug.trans (P.row.but.below (n:=w.heap.size) (by rw[HG];omega) (ee bq HG)));have ac:=P.row.but;have V:=O (kK e3 (λk bp ad=>ac.block k (by rw[Vw];exact ad) (aI e1)));have fe:=O (kK a2 (λk bp ad=>ac.block k (by rw[Vw];exact ad) (aI cz)));have fm:=O (kK a3 (λk bp ad=>ac.block k (by rw[Vw];exact ad) (aI Yb)));have a4:T (bH wr (jb pt nt ct) (aW g.tree m)):=O (Mi bT (j:=37) Uy P.row.box (λk hk hn=>ac.block k (by rw[Vw];exact hk) hn) (λj hj=>L1 (bV g a m u) _ _ _ _ _ WP.out j hj) ⟨_,_,_,(rQ (bV g a m u) _ _ _ _ WP.out eG).2.1⟩);have fo:T (wr.heap[t+1+1+1]?=A (jc S 27 (0,0))):=O ((ac.block (t+1+1+1) (aI bq) Y).trans UE);have D:T (wr.heap[gl]?=A (jc LC 27 (0,0))):=O ((ac.block gl h4 (aI YS)).trans bK);have a5:T (wr.heap[bt]?=A (jc #[jb pt nt ct] 49 (0,0))):=O ((ac.block bt h5 h6).trans hq);have VB:EB0.At wr (jb pu nu i4) nl:=EK.At.of_own (E:=EB0) (B:=x0.heap.size) (by rw[<-Zo,YN];exact V);obtain⟨-,-,Vr⟩:=VB.cells;obtain⟨g0,o,kn,bM⟩:=Vr Y;subst kn;obtain⟨⟨kk,s⟩,C,fv⟩:=dL (l:=nl) (j:=i) (by rw[<-Zo];exact b6);have d0:wr.cell? ⟨g0,o+i*4,jf⟩=A (jd je s):=bM i _ C 0 _ I;have d1:wr.cell? ⟨g0,o+i*4+1,jf⟩=A (jd je kk):=bM i _ C 1 _ I;have d2:wr.cell? ⟨g0,o+i*4+2,jf⟩=A (jd je 0):=bM i _ C 2 _ I;have d3:wr.cell? ⟨g0,o+i*4+3,jf⟩=A (jb jf 0 0):=bM i _ C 3 _ I;have U3:=j4 C;rw[YN,ho]at U3;obtain⟨⟨bp,ad⟩,⟨bl,U6⟩,bb,cu⟩:=FS km ed.1 ed.2 U3;obtain⟨q,rfl⟩:=qJ (show 0<=kk by omega);obtain⟨Vi,ek⟩:=qJ (show 0<=(bG (aW g.tree m) s).getD 0 by have:=cu.1;omega);have kv:T (tB (aW g.tree m) s=Vi):=O (by unfold tB;rw[ek];rfl);rw[ek]at cu;have ht:=O cu;have kx:T (∀W,bH W (jb pt nt ct) (aW g.tree m)->jz jo 45 #[jh #[jb pt nt ct],jd je s] W λe w'=>e=jw (jH #[jd je (Vi:N),.bool ji])/\jl W W w'):=O (λW hW=>by
   have h:=Jv (aW g.tree m) _ s W hW (by have:=wK g.tree m;have:=Wn.out;have:=Ya.len;omega) (aO.of Y);rw[ek,bb]at h;exact h)
  have hw:T ((nl.take (i+1)).map (eA g a m u seed)=(nl.take i).map (eA g a m u seed)++[eA g a m u seed ((q:N),s)]):=O (by rw[fv,nn];rfl);have ga:T (q<10/\1<=q):=O ⟨by omega,by omega⟩;have h9:T (1<=s/\s<1024):=O ⟨bl,U6⟩;clear VB Vr bM C fv U3 bp ad bl U6 bb cu ek V ac
  go_upto_region 26 with fail
  obtain⟨bb,b3⟩:=J wr.heap.size;have bm:=jA wr (jc #[jd je s,jd je (q:N),jd je 0,jb jf 0 0] 105);have d:=ao wr (jc #[jd je s,jd je (q:N),jd je 0,jb jf 0 0] 105);have c5:T (M2<=bb):=O (by rw[b3];exact P.row.sz');have ZK:T ((ql pv i cv).ownBlock≠A bb):=O (eV P.row.own (.inl (j6 b3.symm)));rw[<-b3]at bm⊢;obtain⟨k0,Y6⟩:=J (wr.alloc (jc #[jd je s,jd je (q:N),jd je 0,jb jf 0 0] 105));rw[<-Y6]at bm d⊢;have bv:=O d;have br:=O (av P.row.box d);have bs:=O bm;have Uh:=ai WB d;have bw:=bj fe d;have bA:=bj fm d;have cd:=O (a4.below d);have VQ:=ae fo d;have bI:=ae D d;have V:=ae a5 d;have gf:T (wr.heap.size=bb):=O b3.symm;clear bm d Y6 b3 WB fe fm a4 fo D a5 d0 d1 d2 d3;have D:=ah (i:=0) bs I
  go_upto_region 26 with fail
  refine jZ ?_;refine j9 I 49 _ I bt I 49 #[jb pt nt ct] (0,0) _ V.out underlying49 I rc ?_
  go_wp2_with fail
  refine(kx k0 cd).mono ?_;rintro e k1 ⟨rfl,d⟩;have bf:=ai bv d;have Zq:=ae br d;have a5:=ae bs d;have U:=ai Uh d;have YT:=bj bw d;have a1:=bj bA d;have b4:=O (cd.below d);have U5:=ae VQ d;have ay:=ae bI d;clear bv br bs Uh bw bA cd VQ bI;clear d D V;have bg:T (k1.cell? ⟨bb,0,jf⟩=A (jd je s)/\k1.cell? ⟨bb,1,jf⟩=A (jd je (q:N))):=O ⟨ah a5 I,ah a5 I⟩;obtain⟨ex,b7⟩:=J (dZ seed gO [(q:N),s]);have gi:ex.length=32:=by rw[b7];exact pB _ _ _
  obtain⟨EX,c6⟩:=J ((ex.map v8).toArray);obtain⟨b8,b9⟩:=J (iV (bV g a m u) gO [(q:N),s]);obtain⟨V,c7⟩:∃y:N,y=((aX 4 (gh ex):ja):N):=⟨_,I⟩;obtain⟨bn,ca⟩:=J (gq Vi ex b8 (aA u q));have hx:T (bn.length=48):=O (by rw[ca,nG,fJ u Vn]);have cc:T (∀W v,de W v [(q:N),s]->bP W->jz jo 47 #[jh S,qt ⟨#[98,111,120]⟩,v] W λe w'=>e=jw (jh EX)/\jl W W w'):=O (λW v hv hW=>by
   rw[hQ,c6,b7];exact sB seed hO gO [(q:N),s] v W hv (Gs G (by have:=h9.out;have:=ga.out;intro x C;simp at C;rcases C with rfl|rfl<;>exact⟨by omega,by omega⟩) ar) hW)
  have gk:T (∀W v WR,aZ (·<W.heap.size) W {bV g a m u with box:=WR} ⟨jb VN m.length c1,jb pq 10 cq,jb pv i cv,jb jf 0 0⟩->WR.length<=1000000->de W v [(q:N),s]->bP W->jz jo 48 #[jh ((λv=>(aF (bV g a m u) ⟨jb VN m.length c1,jb pq 10 cq,v,jb jf 0 0⟩).toArray) (jb pv i cv)),qt ⟨#[98,111,120]⟩,v] W λe w'=>∃D,e=jw (jb (A ⟨D,0,jf⟩) 32 32)/\bD w' (jb (A ⟨D,0,jf⟩) 32 32) b8/\jl W W w'):=O (λW v WR hC hu hv hW=>by
   rw[b9];exact Ek {bV g a m u with box:=WR} _ gO [(q:N),s] v W G hC hv ar ⟨g8,by show(dA u).length<=_;rw[lK];decide,hu,jM _⟩
    (Du (c:={bV g a m u with box:=WR}) (nums:=[(q:N),s]) (by have h1:=b5.fol.1;have h2:=b5.fol.2;exact⟨by show _ <=g.folder;omega,by show g.folder<_;omega⟩) (by have h1:=b5.ep;exact⟨by show _ <=g.epoch+1;omega,by show g.epoch+1<_;omega⟩) (by have:=ed.out;exact⟨by show _ <=a;omega,by show a<_;omega⟩) WP (by have:=h9.out;have:=ga.out;intro x C;simp at C;rcases C with rfl|rfl<;>exact⟨by omega,by omega⟩) ar) hW)
  have gn:T (∀W vh vb,bD W vh b8->bD W vb (aA u q)->lq W->jz jo 46 #[jd je (Vi:N),jh EX,vh,vb] W λe w'=>∃c,e=jw (jH #[jh #[jd je V,c],jd je 0])/\w'.ownsRow W 5 1 c 48 (bn.map v8)/\jl W W w'):=O (λW vh vb h1 h2 h3=>by
   have h:=G9 Vi ht ex b8 (aA u q) gi (by rw[b9];unfold iV;rw[eQ];decide) (by rw[fJ u Vn];decide) vh vb W h1 h2 h3;rw[fJ u Vn]at h;rw[c6,c7,ca];exact h)
  have UD:T (eA g a m u seed ((q:N),s)=⟨s,(q:N),V,bn⟩):=O (by rw[ca,c7,b9,b7,<-kv];rfl);have ky:T ((jo.info? 57).map (·.size)=A ((λv=>(aF (bV g a m u) ⟨jb VN m.length c1,jb pq 10 cq,v,jb jf 0 0⟩).toArray) (jb pv i cv)).size):=O (by rw[jv,dz _ _ WP.out eG];exact mM);have lr:decide ((q:N)<10)=ji:=by have:=ga.out;simp;omega
  have lv:(q:N)<10:=aI ga;have k2:q<10:=aI ga;clear gi c6 b9 c7 ca b7
  go_upto_region 27 with fail
  refine jO ?_;refine dm (λW'=>(W'.cell? ⟨bb,0,jf⟩=A (jd je s)/\W'.cell? ⟨bb,1,jf⟩=A (jd je (q:N)))/\W'.heap[t+1+1+1]?=A (jc S 27 (0,0))/\W'.heap[(t+1+1+1+1)]?=A (jc ((λv=>(aF (bV g a m u) ⟨jb VN m.length c1,jb pq 10 cq,v,jb jf 0 0⟩).toArray) (jb pv i cv)) 57 (0,0))) (.take 0 (.take 1 (.take 2 (.take 3 (.take 4 (.take 5 (.take 8 (.take 9 (.take 10 (.take 11 (.take 12 (.take 15 (.take 16 (.take 17 (.take 18 (.take 19 (.two 6 13 (.two 7 13 (.one 13 (.one 14 (.one 20 (.take 21 (.take 22 (.take 23 (.take 24 (.one 25 .done)))))))) (.one 7 (.one 14 (.one 20 (.take 21 (.take 22 (.take 23 (.take 24 (.one 25 .done))))))))) (.one 6 (.one 7 (.one 14 (.one 20 (.take 21 (.take 22 (.take 23 (.take 24 (.one 25 .done)))))))))))))))))))))))))) af af af G (λ_ _ _ _ h=>h) ⟨bg,U5,Zq⟩ ?_;obtain⟨l0,UA⟩:=J k1.drew;have d:=bX k1;rw[<-UA]at d⊢;have gp:=ai bf d;have gu:=ae Zq d;have gv:=ae a5 d;have Zn:=ai U d;have gw:=bj YT d;have gx:=bj a1 d;have a4:=O (b4.below d);have bO:=ae U5 d;have cm:=ae ay d;have bd:=O (And.intro (aB bg.1 d) (aB bg.2 d));clear d UA bf Zq a5 U YT a1 b4 U5 ay bg;have bv:=gp;clear gp;have br:=gu;clear gu;have bs:=gv;clear gv;have Uh:=Zn;clear Zn;have bw:=gw;clear gw;have bA:=gx;clear gx;have cd:=a4;clear a4;have VQ:=bO;clear bO;have bI:=cm;clear cm;have ce:=bd;clear bd;refine wM ?_
  (refine aV (v:=jh S) I aj (λW' hS=>mq jX I hK I I hS.2.1) (L ?_))
  iterate 4 refine wM ?_
  (refine aV (v:=jh ((λv=>(aF (bV g a m u) ⟨jb VN m.length c1,jb pq 10 cq,v,jb jf 0 0⟩).toArray) (jb pv i cv))) I aj (λW' hS=>mq o8 I ky I I hS.2.2) (L ?_))
  iterate 9 refine wM ?_
  apply FC (.one 14 (.one 20 (.take 21 (.take 22 (.take 23 (.take 24 (.one 25 .done)))))))
  rotate_left
  ·intro Yx
   refine iW ?_ ?_
   ·refine aE I (λK' z=>?_)
    go_simp;have d:=ao l0 (jc #[jd je (q:N),jd je s] 3);have F:=mp l0 (q:N) s;obtain⟨l1,C⟩:=J (l0.alloc (jc #[jd je (q:N),jd je s] 3));rw[<-C]at d F⊢;obtain⟨b0,Q⟩:=J l0.heap.size;rw[<-Q]at F⊢;clear Q;have bf:=ai bv d;have Zq:=ae br d;have a5:=ae bs d;have U:=ai Uh d;have YT:=bj bw d;have a1:=bj bA d;have b4:=O (cd.below d);have U5:=ae VQ d;have ay:=ae bI d;have bg:=O (And.intro (aB ce.1 d) (aB ce.2 d));have b1:=O F;clear F C d;refine z _ _ ⟨bg,U5,Zq⟩ λ_=>?_
    clear z;refine L ?_;refine iW ?_ ?_
    ·refine aE I (λK' z=>?_)
     go_simp;refine(cc l1 _ b1.out (VR.dig.below U)).mono ?_;rintro e l2 ⟨rfl,d⟩;have WN:=ai bf d;have YI:=ae Zq d;have bh:=ae a5 d;have Ug:=ai U d;have a2:=bj YT d;have a3:=bj a1 d;have bT:=O (b4.below d);have UE:=ae U5 d;have bK:=ae ay d;have bu:=O (And.intro (aB bg.1 d) (aB bg.2 d));have a4:=O (et b1 d);clear bf Zq a5 U YT a1 b4 U5 ay bg b1;clear d;refine z _ _ ⟨bu,UE,YI⟩ λ_=>?_
     clear z;refine L ?_;refine aE I (λK' z=>?_);go_simp;have d:=ao l2 (jc #[jd je (q:N),jd je s] 3);have F:=mp l2 (q:N) s;obtain⟨l3,C⟩:=J (l2.alloc (jc #[jd je (q:N),jd je s] 3));rw[<-C]at d F⊢;obtain⟨bB,Q⟩:=J l2.heap.size;rw[<-Q]at F⊢;clear Q;have YQ:=ai WN d;have Ws:=ae YI d;have bi:=ae bh d;have Uj:=ai Ug d;have ZU:=bj a2 d;have ZT:=bj a3 d;have cb:=O (bT.below d);have VL:=ae UE d;have cw:=ae bK d;have bN:=O (And.intro (aB bu.1 d) (aB bu.2 d));have bk:=O (et a4 d);clear WN YI bh Ug a2 a3 bT UE bK bu a4;have bd:=O F;clear F C d;refine z _ _ ⟨bN,VL,Ws⟩ λ_=>?_
     clear z;refine L ?_;have hG:=(And.intro YQ (And.intro Ws (And.intro bi (And.intro Uj (And.intro ZU (And.intro ZT (And.intro cb (And.intro VL (And.intro cw (And.intro bN (And.intro bk bd)))))))))));exact Yx b0 bB l3 hG
    refine aE I (λK' z=>?_);go_simp;have d:=ao l1 (jc #[jd je (q:N),jd je s] 3);have F:=mp l1 (q:N) s;obtain⟨l2,C⟩:=J (l1.alloc (jc #[jd je (q:N),jd je s] 3));rw[<-C]at d F⊢;obtain⟨bB,Q⟩:=J l1.heap.size;rw[<-Q]at F⊢;clear Q;have WN:=ai bf d;have YI:=ae Zq d;have bh:=ae a5 d;have Ug:=ai U d;have a2:=bj YT d;have a3:=bj a1 d;have bT:=O (b4.below d);have UE:=ae U5 d;have bK:=ae ay d;have bu:=O (And.intro (aB bg.1 d) (aB bg.2 d));have a4:=O (et b1 d);clear bf Zq a5 U YT a1 b4 U5 ay bg b1;have b2:=O F;clear F C d;refine z _ _ ⟨bu,UE,YI⟩ λ_=>?_
    clear z;refine L ?_;refine aE I (λK' z=>?_);go_simp;refine(cc l2 _ a4.out (VR.dig.below Ug)).mono ?_;rintro e l3 ⟨rfl,d⟩;have YQ:=ai WN d;have Ws:=ae YI d;have bi:=ae bh d;have Uj:=ai Ug d;have ZU:=bj a2 d;have ZT:=bj a3 d;have cb:=O (bT.below d);have VL:=ae UE d;have cw:=ae bK d;have bN:=O (And.intro (aB bu.1 d) (aB bu.2 d));have bk:=O (et a4 d);have bd:=O (et b2 d);clear WN YI bh Ug a2 a3 bT UE bK bu a4 b2;clear d;refine z _ _ ⟨bN,VL,Ws⟩ λ_=>?_
    clear z;refine L ?_;have hG:=(And.intro YQ (And.intro Ws (And.intro bi (And.intro Uj (And.intro ZU (And.intro ZT (And.intro cb (And.intro VL (And.intro cw (And.intro bN (And.intro bk bd)))))))))));exact Yx b0 bB l3 hG
   refine aE I (λK' z=>?_);go_simp;have d:=ao l0 (jc #[jd je (q:N),jd je s] 3);have F:=mp l0 (q:N) s;obtain⟨l1,C⟩:=J (l0.alloc (jc #[jd je (q:N),jd je s] 3));rw[<-C]at d F⊢;obtain⟨bB,Q⟩:=J l0.heap.size;rw[<-Q]at F⊢;clear Q;have bf:=ai bv d;have Zq:=ae br d;have a5:=ae bs d;have U:=ai Uh d;have YT:=bj bw d;have a1:=bj bA d;have b4:=O (cd.below d);have U5:=ae VQ d;have ay:=ae bI d;have bg:=O (And.intro (aB ce.1 d) (aB ce.2 d));have gy:=O F;clear F C d;refine z _ _ ⟨bg,U5,Zq⟩ λ_=>?_
   clear z;refine L ?_;refine aE I (λK' z=>?_);go_simp;have d:=ao l1 (jc #[jd je (q:N),jd je s] 3);have F:=mp l1 (q:N) s;obtain⟨l2,C⟩:=J (l1.alloc (jc #[jd je (q:N),jd je s] 3));rw[<-C]at d F⊢;obtain⟨b0,Q⟩:=J l1.heap.size;rw[<-Q]at F⊢;clear Q;have WN:=ai bf d;have YI:=ae Zq d;have bh:=ae a5 d;have Ug:=ai U d;have a2:=bj YT d;have a3:=bj a1 d;have bT:=O (b4.below d);have UE:=ae U5 d;have bK:=ae ay d;have bu:=O (And.intro (aB bg.1 d) (aB bg.2 d));have b2:=O (et gy d);clear bf Zq a5 U YT a1 b4 U5 ay bg gy;have a4:=O F;clear F C d;refine z _ _ ⟨bu,UE,YI⟩ λ_=>?_
   clear z;refine L ?_;refine aE I (λK' z=>?_);go_simp;refine(cc l2 _ a4.out (VR.dig.below Ug)).mono ?_;rintro e l3 ⟨rfl,d⟩;have YQ:=ai WN d;have Ws:=ae YI d;have bi:=ae bh d;have Uj:=ai Ug d;have ZU:=bj a2 d;have ZT:=bj a3 d;have cb:=O (bT.below d);have VL:=ae UE d;have cw:=ae bK d;have bN:=O (And.intro (aB bu.1 d) (aB bu.2 d));have bd:=O (et b2 d);have bk:=O (et a4 d);clear WN YI bh Ug a2 a3 bT UE bK bu b2 a4;clear d;refine z _ _ ⟨bN,VL,Ws⟩ λ_=>?_
   clear z;refine L ?_;have hG:=(And.intro YQ (And.intro Ws (And.intro bi (And.intro Uj (And.intro ZU (And.intro ZT (And.intro cb (And.intro VL (And.intro cw (And.intro bN (And.intro bk bd)))))))))));exact Yx b0 bB l3 hG
  clear bv br bs Uh bw bA cd VQ bI ce;rintro b0 bB l3 ⟨YQ,Ws,bi,Uj,ZU,ZT,cb,VL,cw,bN,bk,bd⟩;refine aE I (λK' z=>?_);go_simp;refine(gk l3 _ _ (Ro WP ZU ZT (P.later bq YQ) (by rw[jy,qK];have:=Zo.out;omega)) (by rw[jy,qK];omega) bd (VR.dig.below Uj)).mono ?_;rintro e l4 ⟨ic,rfl,cx,d⟩;have c9:=O cx;clear cx;have g1:=ai YQ d;have db:=ae Ws d;have dd:=ae bi d;have Uq:=ai Uj d;have cd:=bj ZU d;have ce:=bj ZT d;have ci:=O (cb.below d);have WC:=ae VL d;have cg:=ae cw d;have bu:=O (And.intro (aB bN.1 d) (aB bN.2 d));have g2:=O (et bk d);have g3:=O (et bd d);clear YQ Ws bi Uj ZU ZT cb VL cw bN bk bd;clear d;refine z _ _ ⟨bu,WC,db⟩ λ_=>?_
  clear z;refine L ?_;refine aE I (λK' z=>?_);go_simp;refine(gn l4 _ _ c9.out (Er cg (λj aa hj=>hg q j aa k2 hj) (fJ u Vn q)) (hM.below Uq)).mono ?_;rintro e l5 ⟨c,rfl,cf,d⟩;have Vu:T (bb<l4.heap.size):=O (jB.1 dd).1;obtain⟨k3,hz⟩:=J l4.heap.size;rw[<-hz]at cf Vu;have g4:=O cf;obtain⟨R,H,rfl⟩:=cK cf;clear cf;have g5:=ai g1 d;have dk:=ae db d;have dr:=ae dd d;have Uw:=ai Uq d;have em:=bj cd d;have eq:=bj ce d;have k4:=O (ci.below d);have Z1:=ae WC d;have e5:=ae cg d;have g6:=O (And.intro (aB bu.1 d) (aB bu.2 d));have hB:=O (et g2 d);have hD:=O (et g3 d);have hE:=O (c9.below d);clear g1 db dd Uq cd ce ci WC cg bu g2 g3 c9;clear d;refine z _ _ ⟨g6,Z1,dk⟩ λ_=>?_
  clear z;refine L ?_;iterate 4 refine wM ?_
  refine aE I (λK' z=>?_);rw[jr aj];refine qT 103 _ _ I bb 2 #[jd je V,jb R 48 H] I I (sk (o:=2) (n:=2) dr ar) af (by simp[j5]) ?_;rw[show(#[jd je V,jb R 48 H]:jp jk).toList=[jd je V,jb R 48 H]from I];obtain⟨s1,s2⟩:=FI (i:=2) (x:=jd je V) (y:=jb R 48 H) dr;have s3:jl wr wr (l5.setCells bb 2 [jd je V,jb R 48 H]):=Below.cellsFrom g5 bb (j6 gf) _ _;have dv:=m9 (w':=l5.setCells bb 2 [jd je V,jb R 48 H]) g4 (λk hk=>s2 k (aI Vu));refine z _ _ ⟨⟨ah s1 I,ah s1 I⟩,(s2 (t+1+1+1) (ee c5 bq)).trans Z1,(s2 (t+1+1+1+1) (ee c5 bq)).trans dk⟩ λ_=>?_
  clear z;have ea:T ((l5.setCells bb 2 [jd je V,jb R 48 H]).heap[bb]?=A (jc #[jd je s,jd je (q:N),jd je V,jb R 48 H] 105 (0,0))):=O s1;have eb:T (eB M2 (t+1+1+1+1) 57 105 4 Bx.cells Bx.body (λv=>(aF (bV g a m u) ⟨jb VN m.length c1,jb pq 10 cq,v,jb jf 0 0⟩).toArray) p2 (l5.setCells bb 2 [jd je V,jb R 48 H]) i (jb pv i cv) ((nl.take i).map (eA g a m u seed)) us):=O (P.later bq s3);have ec:T (aH (λg=>M2<=g/\g<(l5.setCells bb 2 [jd je V,jb R 48 H]).heap.size/\(ql pv i cv).ownBlock≠A g) (l5.setCells bb 2 [jd je V,jb R 48 H]) (jb R 48 H) 1 48 (bn.map v8)):=O (aH.of_own dv (λg Q=>by
   have h1:=dv.lt g Q;have h2:=Vu.out;have h3:=c5.out;have k5:=gf.out;exact⟨by omega,h1.2,eV P.row.own (.inl Y)⟩))
  clear s1 s2 s3 dv;generalize l5.setCells bb 2 [jd je V,jb R 48 H]=kc at ea eb ec⊢;have hF:=ea;have cg:=eb;have hH:=ec;clear ea eb ec;refine L ?_;refine oj ?_;clear g5 dk dr Uw em eq k4 Z1 e5 g6 g4 hE hB hD P cc gk gn;have bu:=ah cg.row.box (rQ (bV g a m u) (jb VN m.length c1) (jb pq 10 cq) (jb pv i cv) (jb jf 0 0) WP eG).2.1
  go_upto_region 28 with fail
  refine jZ ?_;iterate 2 refine eh ?_
  refine j9 I 105 _ I bb I 105 #[jd je s,jd je (q:N),jd je V,jb R 48 H] (0,0) _ hF.out underlying105 I af ?_
  go_wp2_with (at_builtin;refine Hid.out ?_)
  refine O ?_;refine o1 I λ_ z=>Mx _ _ I M2 (jb pv i cv) i _ I (cL cg.row.own (ao kc _)) _ 1 [jd je s,jd je (q:N),jd je V,jb R 48 H] I (lx kc [jd je s,jd je (q:N),jd je V,jb R 48 H] 105 (0,0) 4 1 1 I (jE _)) (by simp[j5]) Y (jF cg.row.sz' (ao kc _).size) λv' k9 UO=>z _ _ ?_
  clear z;have ci:=ao kc (jc #[jd je s,jd je (q:N),jd je V,jb R 48 H] 105);have bo:=cg.later bq ci;have g6:=(aH.keep hH (w':=kc.alloc (jc #[jd je s,jd je (q:N),jd je V,jb R 48 H] 105)) (λg Q=>ci.block g Q.2.1)).mono (D':=λg=>M2<=g/\g<(kc.alloc (jc #[jd je s,jd je (q:N),jd je V,jb R 48 H] 105)).heap.size/\(ql pv i cv).ownBlock≠A g) (λg Q=>⟨Q.1,jL Q.2.1 ci.size,Q.2.2⟩);have cp:=k7 bo.row.box UO.grown (eV bo.row.own (.inr bq));obtain⟨pn,cn,rfl⟩:=cK UO.own;have e9:T (eB M2 (t+1+1+1+1) 57 105 4 Bx.cells Bx.body (λv=>(aF (bV g a m u) ⟨jb VN m.length c1,jb pq 10 cq,v,jb jf 0 0⟩).toArray) p2 (k9.setCell ⟨(t+1+1+1+1),37,jf⟩ (jb pn (i+1) cn)) (i+1) (jb pn (i+1) cn) ((nl.take (i+1)).map (eA g a m u seed)) (us++[jb R 48 H])):=O (by
   rw[hw,UD];exact eB.push (x:=(⟨s,(q:N),V,bn⟩:Bx)) bo bq (by show aH _ _ _ 1 bn.length (bn.map v8);rw[hx];exact g6) UO (h7 _ _))
  obtain⟨⟨vo,c3⟩,f3,-,-⟩:=ko (i:=37) (jb pn (i+1) cn) cp (by rw[(rQ (bV g a m u) (jb VN m.length c1) (jb pq 10 cq) (jb pv i cv) (jb jf 0 0) WP eG).2.2.2];decide);clear bo g6 UO cp bu ci
  go_wp2_with fail
  go_roundw
  case rel=>exact⟨i+1,pn,cn,us++[jb R 48 H],by go_num,by omega,e9⟩
  case measure=>simp only[jQ];omega
 obtain rfl:nu=i:=Y;have hd:decide ((nu:N)<(nu:N))=jm:=by simp
 have UC:decide (nu<nu)=jm:=by simp
 rename jj=>p3;obtain⟨pb,cb,e4,h9⟩:∃(p:jG Addr) (c:ja),p=pv/\c=cv:=⟨_,_,I,I⟩;subst e4;subst h9;have cs:nl.take nu=nl:=qv (by rw[Zo];exact jE _);rw[cs]at P;have ac:=P.row.but;have UQ:=O P.row.box;have Uj:T (jl w w p3):=O (Ug.trans (P.row.but.below (n:=w.heap.size) (by rw[HG];omega) (ee bq HG)));have ZU:=O (kK a2 (λk bp ad=>ac.block k (by rw[Vw];exact ad) (aI cz)));have ZT:=O (kK a3 (λk bp ad=>ac.block k (by rw[Vw];exact ad) (aI Yb)));have VL:T (p3.heap[t+1+1+1]?=A (jc S 27 (0,0))):=O ((ac.block (t+1+1+1) (aI bq) Y).trans UE);have U4:T (p3.heap[(t+1+1+1+1+1)]?=A (jc SA 27 (0,0))):=O ((ac.block (t+1+1+1+1+1) (aI h0) Y).trans UF);have VZ:=P;clear ac cs P Ug a2 a3 UE UF Uy bK hq bT e3 b6 hi h7 YS hg h4 h5 h6;have s:T (∀W,EC.At W (jb R nc H) m->jz jo 49 #[jd je a,jb R nc H] W λe w'=>∃aa,e=jw aa/\EC.At w' aa (du a m)/\jl W W w'):=O (λW hW=>zr a m _ W hW Ya.once g8);obtain⟨wl,q⟩:=J (du a m);rw[<-q]at s;have ga:=O q;have hg:T (wl.length<=64):=O (by rw[q];have:=Cv a m;have:=Ya.len;omega);clear q
 go_upto_region 30 with fail
 go_wp2_with fail
 refine(s p3 ((EK.At.of_sl (E:=EC) Z6).below Uj)).mono ?_;rintro e p4 ⟨aa,rfl,hu,d⟩;have cw:=O hu;obtain⟨pw,h4,rfl,-,-⟩:=hu.form;clear hu;have WX:=ae UQ d;have Yv:=ae U4 d;have WC:=ae VL d;have Uq:=ai Uj d;have cd:=bj ZU d;have ce:=bj ZT d;have Vx:=O (VZ.later bq d);clear UQ U4 VL Uj ZU ZT VZ;clear d;obtain⟨nw,q⟩:=J wl.length;rw[<-q]at cw hg⊢;have Ym:=O q;clear q s;obtain⟨M3,q⟩:=J p4.heap.size;have Wp:=O q;have bu:T ((t+1+1+1+1)<M3):=O (by rw[q];exact(jB.1 WX).1);have e3:T ((t+1+1+1+1+1)<M3):=O (by rw[q];exact(jB.1 Yv).1);have YR:T (lg (λk=>M2<=k/\k<M3) p4 (jb pb nu cb) (nl.map (eA g a m u seed))):=O (by
  obtain⟨s,h1,h2⟩:=Vx.slice (by rw[jy];exact Zo) (D:=λk=>M2<=k/\k<M3) (λk bp ad=>⟨bp,by rw[q];exact ad⟩);exact⟨s,h1,h2⟩)
 have h5:T (∀aa v,((λv=>(aF (bV g a m u) ⟨jb VN m.length c1,jb pq 10 cq,jb pb nu cb,v⟩).toArray) aa).setIfInBounds 38 v=(λv=>(aF (bV g a m u) ⟨jb VN m.length c1,jb pq 10 cq,jb pb nu cb,v⟩).toArray) v):=O (λaa v=>Ef (bV g a m u) _ _ _ _ _ WP.out);have s:T (eB M3 (t+1+1+1+1) 57 107 3 Wl.cells Wl.body (λv=>(aF (bV g a m u) ⟨jb VN m.length c1,jb pq 10 cq,jb pb nu cb,v⟩).toArray) p4 p4 0 (jb jf 0 0) ((wl.take 0).map (fA g a m u init seed)) []):=O (eB.start WX (j6 q));clear q Vx
 go_wp2_with fail
 go_loopw [160] (λv wr=>∃(i:ja) (pv:jG Addr) (cv:ja) (us:jg jk),v=jd je i/\i<=nw/\T (eB M3 (t+1+1+1+1) 57 107 3 Wl.cells Wl.body (λv=>(aF (bV g a m u) ⟨jb VN m.length c1,jb pq 10 cq,jb pb nu cb,v⟩).toArray) p4 wr i (jb pv i cv) ((wl.take i).map (fA g a m u init seed)) us)) (λv _=>nw-(jQ v).toNat)
 case atStart=>exact⟨0,jf,0,[],I,jM _,s⟩
 clear s;obtain⟨i,pv,cv,us,rfl,hi,P⟩:=hrel;have h7:=hg.out
 by_cases b6:i<nw
 ·have hd2:=az ((i:N)<(nw:N))
  have ha:=az (i<nw);have hZ:(i:N)<(nw:N):=Y;have WB:T (jl w w wr):=O (Uq.trans (P.row.but.below (n:=w.heap.size) (by rw[HG];omega) (ee bu HG)));have ac:=P.row.but;have fe:=O (kK cd (λk bp ad=>ac.block k (by rw[Wp];exact ad) (aI cz)));have fm:=O (kK ce (λk bp ad=>ac.block k (by rw[Wp];exact ad) (aI Yb)));have bK:T (EC.At wr (jb pw nw h4) wl):=O (PG cw (j:=38) WX P.row.box (λk hk hn=>ac.block k (by rw[Wp];exact hk) hn) (λj hj=>Jw (bV g a m u) _ _ _ _ _ WP.out j hj) ⟨_,_,_,(rQ (bV g a m u) _ _ _ _ WP.out eG).2.2.1⟩);have fo:T (wr.heap[t+1+1+1]?=A (jc S 27 (0,0))):=O ((ac.block (t+1+1+1) (aI bu) Y).trans WC);have bT:T (wr.heap[(t+1+1+1+1+1)]?=A (jc SA 27 (0,0))):=O ((ac.block (t+1+1+1+1+1) e3 Y).trans Yv);have hn:T (lg (·<wr.heap.size) wr (jb pb nu cb) (nl.map (eA g a m u seed))):=O (YR.keep (λk hk=>ac.block k hk.2 (aI bq)) (λk hk=>by have:=P.row.sz';omega));obtain⟨-,-,Vr⟩:=bK.cells;obtain⟨g0,o,h6,bM⟩:=Vr Y;subst h6;obtain⟨⟨yk,q,yp,yv,yc⟩,C,fv⟩:=dL (l:=wl) (j:=i) (by rw[<-Ym];exact b6);have d0:wr.cell? ⟨g0,o+i*5,jf⟩=A (jd je yk):=bM i _ C 0 _ I;have d1:wr.cell? ⟨g0,o+i*5+1,jf⟩=A (jd je q):=bM i _ C 1 _ I;have d2:wr.cell? ⟨g0,o+i*5+2,jf⟩=A (jd je yp):=bM i _ C 2 _ I;have d3:wr.cell? ⟨g0,o+i*5+3,jf⟩=A (jd je yv):=bM i _ C 3 _ I;have d4:wr.cell? ⟨g0,o+i*5+4,jf⟩=A (jd je yc):=bM i _ C 4 _ I;have U3:=j4 C;rw[ga]at U3;obtain⟨bg,Yy,b4⟩:=Ib.1 U3;have s:=Ya.each _ bg;have cu:bJ yp:=by
   rcases s.2 with⟨_,b,_,_⟩|⟨a,_⟩|⟨_,b,_⟩
   ·exact b
   ·exact jt a Yy
   exact b
  have bN:0<=q/\q<512:=s.1;obtain⟨Vi,ek⟩:=qJ (show 0<=yp by have:=cu.1;omega);subst ek;have ht:=O cu;have hq:=O bN;have hw:T ((wl.take (i+1)).map (fA g a m u init seed)=(wl.take i).map (fA g a m u init seed)++[fA g a m u init seed ⟨yk,q,(Vi:N),yv,yc⟩]):=O (by rw[fv,nn];rfl);clear Vr bM C fv U3 bg Yy b4 s cu bN ac
  go_upto_region 34 with fail
  obtain⟨bb,b3⟩:=J wr.heap.size;have bm:=jA wr (jc #[jd je yk,jd je q,jd je (Vi:N),jd je yv,jd je yc] 61);have d:=ao wr (jc #[jd je yk,jd je q,jd je (Vi:N),jd je yv,jd je yc] 61);have s:=jA (wr.alloc (jc #[jd je yk,jd je q,jd je (Vi:N),jd je yv,jd je yc] 61)) (jc #[jd je q,jd je 0,jb jf 0 0] 107);have bg:=ao (wr.alloc (jc #[jd je yk,jd je q,jd je (Vi:N),jd je yv,jd je yc] 61)) (jc #[jd je q,jd je 0,jb jf 0 0] 107);rw[jq]at s;replace bm:=av bm bg;replace d:=d.trans (bg.mono d.size);have c5:T (M3<=bb):=O (by rw[b3];exact P.row.sz');rw[<-b3]at bm s⊢;obtain⟨k0,Y6⟩:=J ((wr.alloc (jc #[jd je yk,jd je q,jd je (Vi:N),jd je yv,jd je yc] 61)).alloc (jc #[jd je q,jd je 0,jb jf 0 0] 107));rw[<-Y6]at bm s d⊢;have bv:=O d;have br:=O (av P.row.box d);have bN:=O bm;have bs:=O s;have Uh:=ai WB d;have bw:=bj fe d;have bA:=bj fm d;have Z9:=O (hn.below d);have VQ:=ae fo d;have b4:=ae bT d;have gf:T (wr.heap.size=bb):=O b3.symm;clear bm s d bg Y6 b3 WB fe fm bK fo bT hn d0 d1 d2 d3 d4;obtain⟨ex,b7⟩:=J (dZ seed kq [q]);have gi:ex.length=32:=by rw[b7];exact pB _ _ _
  obtain⟨EX,c6⟩:=J ((ex.map v8).toArray);obtain⟨b8,b9⟩:=J (iV (bV g a m u) kq [q]);obtain⟨V,c7⟩:∃y:N,y=((aX 4 (gh ex):ja):N):=⟨_,I⟩;obtain⟨bn,ca⟩:=J (gq Vi ex b8 (dM g u init));have hx:T (bn.length=48):=O (by rw[ca,nG,lD]);have cc:T (∀W v,de W v [q]->bP W->jz jo 47 #[jh S,qt ⟨#[119,101,108,99,111,109,101]⟩,v] W λe w'=>e=jw (jh EX)/\jl W W w'):=O (λW v hv hW=>by
   rw[hQ,c6,b7];exact sB seed hO kq [q] v W hv (Gs G (by have:=hq.out;intro x C;simp at C;rcases C with rfl;exact⟨by omega,by omega⟩) ar) hW)
  have gk:T (∀W v s,aZ (·<W.heap.size) W {bV g a m u with box:=nl.map (eA g a m u seed),wel:=s} ⟨jb VN m.length c1,jb pq 10 cq,jb pb nu cb,jb pv i cv⟩->s.length<=1000000->de W v [q]->bP W->jz jo 48 #[jh ((λv=>(aF (bV g a m u) ⟨jb VN m.length c1,jb pq 10 cq,jb pb nu cb,v⟩).toArray) (jb pv i cv)),qt ⟨#[119,101,108,99,111,109,101]⟩,v] W λe w'=>∃D,e=jw (jb (A ⟨D,0,jf⟩) 32 32)/\bD w' (jb (A ⟨D,0,jf⟩) 32 32) b8/\jl W W w'):=O (λW v s hC hu hv hW=>by
   rw[b9];exact Ek {bV g a m u with box:=nl.map (eA g a m u seed),wel:=s} _ kq [q] v W G hC hv ar ⟨g8,by show(dA u).length<=_;rw[lK];decide,by show(nl.map (eA g a m u seed)).length<=_;rw[jy,<-Zo];have:=h8.out;omega,hu⟩
    (Du (c:={bV g a m u with box:=nl.map (eA g a m u seed),wel:=s}) (nums:=[q]) (by have h1:=b5.fol.1;have h2:=b5.fol.2;exact⟨by show _ <=g.folder;omega,by show g.folder<_;omega⟩) (by have h1:=b5.ep;exact⟨by show _ <=g.epoch+1;omega,by show g.epoch+1<_;omega⟩) (by have:=ed.out;exact⟨by show _ <=a;omega,by show a<_;omega⟩) WP (by have:=hq.out;intro x C;simp at C;rcases C with rfl;exact⟨by omega,by omega⟩) ar) hW)
  have gn:T (∀W vh vb,bD W vh b8->bD W vb (dM g u init)->lq W->jz jo 46 #[jd je (Vi:N),jh EX,vh,vb] W λe w'=>∃c,e=jw (jH #[jh #[jd je V,c],jd je 0])/\w'.ownsRow W 5 1 c 48 (bn.map v8)/\jl W W w'):=O (λW vh vb h1 h2 h3=>by
   have h:=G9 Vi ht ex b8 (dM g u init) gi (by rw[b9];unfold iV;rw[eQ];decide) (by rw[lD];decide) vh vb W h1 h2 h3;rw[lD]at h;rw[c6,c7,ca];exact h)
  have cu:T (fA g a m u init seed ⟨yk,q,(Vi:N),yv,yc⟩=⟨q,V,bn⟩):=O (by rw[ca,c7,b9,b7];rfl);have fe:T ((jo.info? 57).map (·.size)=A ((λv=>(aF (bV g a m u) ⟨jb VN m.length c1,jb pq 10 cq,jb pb nu cb,v⟩).toArray) (jb pv i cv)).size):=O (by rw[jv,dz _ _ WP.out eG];exact mM);clear gi c6 b9 c7 ca b7
  go_upto_region 34 with fail
  refine jO ?_;refine dm (λW'=>W'.heap[bb]?=A (jc #[jd je yk,jd je q,jd je (Vi:N),jd je yv,jd je yc] 61 (0,0))/\W'.heap[t+1+1+1]?=A (jc S 27 (0,0))/\W'.heap[(t+1+1+1+1)]?=A (jc ((λv=>(aF (bV g a m u) ⟨jb VN m.length c1,jb pq 10 cq,jb pb nu cb,v⟩).toArray) (jb pv i cv)) 57 (0,0))) (.take 0 (.take 1 (.take 2 (.take 3 (.take 4 (.take 7 (.take 8 (.take 9 (.take 12 (.two 5 10 (.two 6 10 (.one 10 (.one 11 (.one 13 (.take 14 (.take 15 (.take 16 (.take 17 (.one 18 .done)))))))) (.one 6 (.one 11 (.one 13 (.take 14 (.take 15 (.take 16 (.take 17 (.one 18 .done))))))))) (.one 5 (.one 6 (.one 11 (.one 13 (.take 14 (.take 15 (.take 16 (.take 17 (.one 18 .done))))))))))))))))))) af af af G (λ_ _ _ _ h=>h) ⟨bN,VQ,br⟩ ?_;obtain⟨l0,UA⟩:=J k0.drew;have d:=bX k0;rw[<-UA]at d⊢;have gp:=ai bv d;have gu:=ae br d;have s:=ae bN d;have gv:=ae bs d;have Zn:=ai Uh d;have gw:=bj bw d;have gx:=bj bA d;have bg:=O (Z9.below d);have bO:=ae VQ d;have bm:=ae b4 d;clear d UA bv br bN bs Uh bw bA Z9 VQ b4;have bv:=gp;clear gp;have br:=gu;clear gu;have bN:=s;clear s;have bs:=gv;clear gv;have Uh:=Zn;clear Zn;have bw:=gw;clear gw;have bA:=gx;clear gx;have Z9:=bg;clear bg;have VQ:=bO;clear bO;have b4:=bm;clear bm;iterate 2 refine vE ?_
  (refine aV (v:=jh S) I aj (λW' hS=>mq jX I hK I I hS.2.1) (L ?_))
  iterate 2 refine vE ?_
  (refine aV (v:=jh ((λv=>(aF (bV g a m u) ⟨jb VN m.length c1,jb pq 10 cq,jb pb nu cb,v⟩).toArray) (jb pv i cv))) I aj (λW' hS=>mq o8 I fe I I hS.2.2) (L ?_))
  iterate 3 refine vE ?_
  apply FC (.one 11 (.one 13 (.take 14 (.take 15 (.take 16 (.take 17 (.one 18 .done)))))))
  rotate_left
  ·intro Yx
   refine iW ?_ ?_
   ·refine aE I (λK' z=>?_)
    go_simp;have d:=ao l0 (jc #[jd je q] 3);have F:=oe l0 q;obtain⟨l1,C⟩:=J (l0.alloc (jc #[jd je q] 3));rw[<-C]at d F⊢;obtain⟨b0,Q⟩:=J l0.heap.size;rw[<-Q]at F⊢;clear Q;have bf:=ai bv d;have Zq:=ae br d;have bm:=ae bN d;have a5:=ae bs d;have U:=ai Uh d;have YT:=bj bw d;have a1:=bj bA d;have bT:=O (Z9.below d);have U5:=ae VQ d;have b3:=ae b4 d;have b1:=O F;clear F C d;refine z _ _ ⟨bm,U5,Zq⟩ λ_=>?_
    clear z;refine L ?_;refine iW ?_ ?_
    ·refine aE I (λK' z=>?_)
     go_simp;refine(cc l1 _ b1.out (VR.dig.below U)).mono ?_;rintro e l2 ⟨rfl,d⟩;have WN:=ai bf d;have YI:=ae Zq d;have s:=ae bm d;have bh:=ae a5 d;have Ug:=ai U d;have a2:=bj YT d;have a3:=bj a1 d;have Wg:=O (bT.below d);have UE:=ae U5 d;have bK:=ae b3 d;have a4:=O (et b1 d);clear bf Zq bm a5 U YT a1 bT U5 b3 b1;clear d;refine z _ _ ⟨s,UE,YI⟩ λ_=>?_
     clear z;refine L ?_;refine aE I (λK' z=>?_);go_simp;have d:=ao l2 (jc #[jd je q] 3);have F:=oe l2 q;obtain⟨l3,C⟩:=J (l2.alloc (jc #[jd je q] 3));rw[<-C]at d F⊢;obtain⟨bB,Q⟩:=J l2.heap.size;rw[<-Q]at F⊢;clear Q;have YQ:=ai WN d;have Ws:=ae YI d;have bg:=ae s d;have bi:=ae bh d;have Uj:=ai Ug d;have ZU:=bj a2 d;have ZT:=bj a3 d;have VZ:=O (Wg.below d);have VL:=ae UE d;have bM:=ae bK d;have bk:=O (et a4 d);clear WN YI s bh Ug a2 a3 Wg UE bK a4;have bd:=O F;clear F C d;refine z _ _ ⟨bg,VL,Ws⟩ λ_=>?_
     clear z;refine L ?_;have hG:=(And.intro YQ (And.intro Ws (And.intro bg (And.intro bi (And.intro Uj (And.intro ZU (And.intro ZT (And.intro VZ (And.intro VL (And.intro bM (And.intro bk bd)))))))))));exact Yx b0 bB l3 hG
    refine aE I (λK' z=>?_);go_simp;have d:=ao l1 (jc #[jd je q] 3);have F:=oe l1 q;obtain⟨l2,C⟩:=J (l1.alloc (jc #[jd je q] 3));rw[<-C]at d F⊢;obtain⟨bB,Q⟩:=J l1.heap.size;rw[<-Q]at F⊢;clear Q;have WN:=ai bf d;have YI:=ae Zq d;have s:=ae bm d;have bh:=ae a5 d;have Ug:=ai U d;have a2:=bj YT d;have a3:=bj a1 d;have Wg:=O (bT.below d);have UE:=ae U5 d;have bK:=ae b3 d;have a4:=O (et b1 d);clear bf Zq bm a5 U YT a1 bT U5 b3 b1;have b2:=O F;clear F C d;refine z _ _ ⟨s,UE,YI⟩ λ_=>?_
    clear z;refine L ?_;refine aE I (λK' z=>?_);go_simp;refine(cc l2 _ a4.out (VR.dig.below Ug)).mono ?_;rintro e l3 ⟨rfl,d⟩;have YQ:=ai WN d;have Ws:=ae YI d;have bg:=ae s d;have bi:=ae bh d;have Uj:=ai Ug d;have ZU:=bj a2 d;have ZT:=bj a3 d;have VZ:=O (Wg.below d);have VL:=ae UE d;have bM:=ae bK d;have bk:=O (et a4 d);have bd:=O (et b2 d);clear WN YI s bh Ug a2 a3 Wg UE bK a4 b2;clear d;refine z _ _ ⟨bg,VL,Ws⟩ λ_=>?_
    clear z;refine L ?_;have hG:=(And.intro YQ (And.intro Ws (And.intro bg (And.intro bi (And.intro Uj (And.intro ZU (And.intro ZT (And.intro VZ (And.intro VL (And.intro bM (And.intro bk bd)))))))))));exact Yx b0 bB l3 hG
   refine aE I (λK' z=>?_);go_simp;have d:=ao l0 (jc #[jd je q] 3);have F:=oe l0 q;obtain⟨l1,C⟩:=J (l0.alloc (jc #[jd je q] 3));rw[<-C]at d F⊢;obtain⟨bB,Q⟩:=J l0.heap.size;rw[<-Q]at F⊢;clear Q;have bf:=ai bv d;have Zq:=ae br d;have bm:=ae bN d;have a5:=ae bs d;have U:=ai Uh d;have YT:=bj bw d;have a1:=bj bA d;have bT:=O (Z9.below d);have U5:=ae VQ d;have b3:=ae b4 d;have gy:=O F;clear F C d;refine z _ _ ⟨bm,U5,Zq⟩ λ_=>?_
   clear z;refine L ?_;refine aE I (λK' z=>?_);go_simp;have d:=ao l1 (jc #[jd je q] 3);have F:=oe l1 q;obtain⟨l2,C⟩:=J (l1.alloc (jc #[jd je q] 3));rw[<-C]at d F⊢;obtain⟨b0,Q⟩:=J l1.heap.size;rw[<-Q]at F⊢;clear Q;have WN:=ai bf d;have YI:=ae Zq d;have s:=ae bm d;have bh:=ae a5 d;have Ug:=ai U d;have a2:=bj YT d;have a3:=bj a1 d;have Wg:=O (bT.below d);have UE:=ae U5 d;have bK:=ae b3 d;have b2:=O (et gy d);clear bf Zq bm a5 U YT a1 bT U5 b3 gy;have a4:=O F;clear F C d;refine z _ _ ⟨s,UE,YI⟩ λ_=>?_
   clear z;refine L ?_;refine aE I (λK' z=>?_);go_simp;refine(cc l2 _ a4.out (VR.dig.below Ug)).mono ?_;rintro e l3 ⟨rfl,d⟩;have YQ:=ai WN d;have Ws:=ae YI d;have bg:=ae s d;have bi:=ae bh d;have Uj:=ai Ug d;have ZU:=bj a2 d;have ZT:=bj a3 d;have VZ:=O (Wg.below d);have VL:=ae UE d;have bM:=ae bK d;have bd:=O (et b2 d);have bk:=O (et a4 d);clear WN YI s bh Ug a2 a3 Wg UE bK b2 a4;clear d;refine z _ _ ⟨bg,VL,Ws⟩ λ_=>?_
   clear z;refine L ?_;have hG:=(And.intro YQ (And.intro Ws (And.intro bg (And.intro bi (And.intro Uj (And.intro ZU (And.intro ZT (And.intro VZ (And.intro VL (And.intro bM (And.intro bk bd)))))))))));exact Yx b0 bB l3 hG
  clear bv br bN bs Uh bw bA Z9 VQ b4;rintro b0 bB l3 ⟨YQ,Ws,bg,bi,Uj,ZU,ZT,VZ,VL,bM,bk,bd⟩;refine aE I (λK' z=>?_);go_simp;refine(gk l3 _ _ (RN WP ZU ZT VZ (P.later bu YQ) (by rw[jy,qK];have:=Ym.out;omega)) (by rw[jy,qK];omega) bd (VR.dig.below Uj)).mono ?_;rintro e l4 ⟨ic,rfl,cx,d⟩;have c9:=O cx;clear cx;have g1:=ai YQ d;have db:=ae Ws d;have s:=ae bg d;have dd:=ae bi d;have Uq:=ai Uj d;have cd:=bj ZU d;have ce:=bj ZT d;have Vx:=O (VZ.below d);have WC:=ae VL d;have a4:=ae bM d;have g2:=O (et bk d);have g3:=O (et bd d);clear YQ Ws bg bi Uj ZU ZT VZ VL bM bk bd;clear d;refine z _ _ ⟨s,WC,db⟩ λ_=>?_
  clear z;refine L ?_;refine aE I (λK' z=>?_);go_simp;refine(gn l4 _ _ c9.out (Er a4 (λj aa hj=>by rw[hs,qV];simpa using hj) (lD _ _ _)) (hM.below Uq)).mono ?_;rintro e l5 ⟨c,rfl,cf,d⟩;have Vu:T (bb+1<l4.heap.size):=O (jB.1 dd).1;obtain⟨k3,hz⟩:=J l4.heap.size;rw[<-hz]at cf Vu;have g4:=O cf;obtain⟨R,H,rfl⟩:=cK cf;clear cf;have g5:=ai g1 d;have dk:=ae db d;have a5:=ae s d;have dr:=ae dd d;have Uw:=ai Uq d;have em:=bj cd d;have eq:=bj ce d;have Yo:=O (Vx.below d);have Z1:=ae WC d;have bf:=ae a4 d;have hB:=O (et g2 d);have hD:=O (et g3 d);have hE:=O (c9.below d);clear g1 db s dd Uq cd ce Vx WC a4 g2 g3 c9;clear d;refine z _ _ ⟨a5,Z1,dk⟩ λ_=>?_
  clear z;refine L ?_;iterate 4 refine vE ?_
  refine aE I (λK' z=>?_);rw[jr aj];refine qT 103 _ _ I (bb+1) 1 #[jd je V,jb R 48 H] I I (sk (o:=1) (n:=2) dr ar) af (by simp[j5]) ?_;rw[show(#[jd je V,jb R 48 H]:jp jk).toList=[jd je V,jb R 48 H]from I];obtain⟨s1,s2⟩:=FI (i:=1) (x:=jd je V) (y:=jb R 48 H) dr;have s3:jl wr wr (l5.setCells (bb+1) 1 [jd je V,jb R 48 H]):=Below.cellsFrom g5 (bb+1) (by rw[gf];omega) _ _;have dv:=m9 (w':=l5.setCells (bb+1) 1 [jd je V,jb R 48 H]) g4 (λk hk=>s2 k (aI Vu));refine z _ _ ⟨(s2 bb Y).trans a5,(s2 (t+1+1+1) (ee c5 bu)).trans Z1,(s2 (t+1+1+1+1) (ee c5 bu)).trans dk⟩ λ_=>?_
  clear z;have ea:T ((l5.setCells (bb+1) 1 [jd je V,jb R 48 H]).heap[bb+1]?=A (jc #[jd je q,jd je V,jb R 48 H] 107 (0,0))):=O s1;have eb:T (eB M3 (t+1+1+1+1) 57 107 3 Wl.cells Wl.body (λv=>(aF (bV g a m u) ⟨jb VN m.length c1,jb pq 10 cq,jb pb nu cb,v⟩).toArray) p4 (l5.setCells (bb+1) 1 [jd je V,jb R 48 H]) i (jb pv i cv) ((wl.take i).map (fA g a m u init seed)) us):=O (P.later bu s3);have ec:T (aH (λg=>M3<=g/\g<(l5.setCells (bb+1) 1 [jd je V,jb R 48 H]).heap.size/\(ql pv i cv).ownBlock≠A g) (l5.setCells (bb+1) 1 [jd je V,jb R 48 H]) (jb R 48 H) 1 48 (bn.map v8)):=O (aH.of_own dv (λg Q=>by
   have h1:=dv.lt g Q;have h2:=Vu.out;have h3:=c5.out;have k5:=gf.out;exact⟨by omega,h1.2,eV P.row.own (.inl Y)⟩))
  clear s1 s2 s3 dv;generalize l5.setCells (bb+1) 1 [jd je V,jb R 48 H]=kc at ea eb ec⊢;have hF:=ea;have cg:=eb;have hH:=ec;clear ea eb ec;refine L ?_;refine oj ?_;clear g5 dk a5 dr Uw em eq Yo Z1 bf g4 hE hB hD P cc gk gn;have s:=ah cg.row.box (rQ (bV g a m u) (jb VN m.length c1) (jb pq 10 cq) (jb pb nu cb) (jb pv i cv) WP eG).2.2.1
  go_upto_region 35 with fail
  refine jZ ?_;iterate 2 refine eh ?_
  refine j9 I 107 _ I (bb+1) I 107 #[jd je q,jd je V,jb R 48 H] (0,0) _ hF.out underlying107 I af ?_
  go_wp2_with (at_builtin;refine Hid.out ?_)
  refine O ?_;refine o1 I λ_ z=>K9 _ _ I M3 (jb pv i cv) i _ I (cL cg.row.own (ao kc _)) _ 1 [jd je q,jd je V,jb R 48 H] I (lx kc [jd je q,jd je V,jb R 48 H] 107 (0,0) 3 1 1 I (jE _)) (by simp[j5]) Y (jF cg.row.sz' (ao kc _).size) λv' k9 UO=>z _ _ ?_
  clear z;have ci:=ao kc (jc #[jd je q,jd je V,jb R 48 H] 107);have bo:=cg.later bu ci;have g6:=(aH.keep hH (w':=kc.alloc (jc #[jd je q,jd je V,jb R 48 H] 107)) (λg Q=>ci.block g Q.2.1)).mono (D':=λg=>M3<=g/\g<(kc.alloc (jc #[jd je q,jd je V,jb R 48 H] 107)).heap.size/\(ql pv i cv).ownBlock≠A g) (λg Q=>⟨Q.1,jL Q.2.1 ci.size,Q.2.2⟩);have cp:=k7 bo.row.box UO.grown (eV bo.row.own (.inr bu));obtain⟨pn,cn,rfl⟩:=cK UO.own;have e9:T (eB M3 (t+1+1+1+1) 57 107 3 Wl.cells Wl.body (λv=>(aF (bV g a m u) ⟨jb VN m.length c1,jb pq 10 cq,jb pb nu cb,v⟩).toArray) p4 (k9.setCell ⟨(t+1+1+1+1),38,jf⟩ (jb pn (i+1) cn)) (i+1) (jb pn (i+1) cn) ((wl.take (i+1)).map (fA g a m u init seed)) (us++[jb R 48 H])):=O (by
   rw[hw,cu];exact eB.push (x:=(⟨q,V,bn⟩:Wl)) bo bu (by show aH _ _ _ 1 bn.length (bn.map v8);rw[hx];exact g6) UO (h5 _ _))
  obtain⟨⟨vo,c3⟩,f3,-,-⟩:=ko (i:=38) (jb pn (i+1) cn) cp (by rw[(rQ (bV g a m u) (jb VN m.length c1) (jb pq 10 cq) (jb pb nu cb) (jb pv i cv) WP eG).2.2.2];decide);clear bo g6 UO cp s ci
  go_wp2_with fail
  go_roundw
  case rel=>exact⟨i+1,pn,cn,us++[jb R 48 H],by go_num,by omega,e9⟩
  case measure=>simp only[jQ];omega
 obtain rfl:nw=i:=Y;have hd2:decide ((nw:N)<(nw:N))=jm:=by simp
 have ha:decide (nw<nw)=jm:=by simp
 rename jj=>p5;obtain⟨pe,bB,bK,bM⟩:∃(p:jG Addr) (c:ja),p=pv/\c=cv:=⟨_,_,I,I⟩;subst bK;subst bM;have cs:wl.take nw=wl:=qv (by rw[Ym];exact jE _);rw[cs]at P;have ac:=P.row.but;have Uw:T (jl w w p5):=O (Uq.trans (P.row.but.below (n:=w.heap.size) (by rw[HG];omega) (ee bu HG)));have em:=kK cd (λk bp ad=>ac.block k (by rw[Wp];exact ad) (aI cz));have eq:=kK ce (λk bp ad=>ac.block k (by rw[Wp];exact ad) (aI Yb));have ej:T (p5.heap[(t+1+1+1+1+1)]?=A (jc SA 27 (0,0))):=O ((ac.block (t+1+1+1+1+1) e3 Y).trans Yv);have bg:lg (λk=>t+6<=k/\k<p5.heap.size) p5 (jb pb nu cb) (nl.map (eA g a m u seed)):=YR.keep (λk hk=>ac.block k hk.2 (aI bq)) (λk hk=>⟨by have:=h0.out;omega,by have:=P.row.sz';omega⟩);have bh:=P.slice (by rw[jy];exact Ym) (D:=λk=>t+6<=k/\k<p5.heap.size) (λk h1 h2=>⟨by have:=e3.out;omega,h2⟩);obtain⟨q,hq⟩:∃y:CQ,y=⟨jb VN m.length c1,jb pq 10 cq,jb pb nu cb,jb pe nw bB⟩:=⟨_,I⟩;have bo:T (aZ (λk=>t+6<=k/\k<p5.heap.size) p5 (mk1 g a m u init seed) q):=O (by
  rw[YN,ho]at bg;rw[ga]at bh;rw[hq];exact Km WP em eq bg bh (λk h1 h2=>⟨by have:=cz.out;omega,h2⟩) (λk h1 h2=>⟨by have:=e8.out;omega,h2⟩))
 obtain⟨Y1,ad⟩:=J ((aF (mk1 g a m u init seed) q).toArray);have eg:T (p5.heap[(t+1+1+1+1)]?=A (jc Y1 57 (0,0))):=O (by rw[ad,hq,Tn];exact P.row.box);have bp:=Re (x:=X) (init:=init) (seed:=seed) e0.symm (by rw[<-WO];exact i3) i7 Vn WP;obtain⟨br,bs⟩:=Mv bp;have bv:=O br.encOk;have bN:=O bs.encOk;have bT:=O ad;have Yc:∀c:Cmt,c.parent.length=32->c.confirm.length=32->(jo.info? 57).map (·.size)=A (aF c q).toArray.size:=λc h1 h2=>by rw[jv,dz c q h1 h2];exact mM
 have U5:T ((jo.info? 57).map (·.size)=A Y1.size):=O (by rw[ad];exact Yc _ (by rw[(nZ ..).1];exact WP) (nZ ..).2);have b0:T (∀W,aZ (·<W.heap.size) W (mk1 g a m u init seed) q->jz jo 29 #[jh Y1] W λe w'=>∃v,e=jw v/\vz W w' (mk1 g a m u init seed) v/\jl W W w'):=O (λW hW=>by
  obtain⟨l1,l2,l3,l4⟩:=bv.lens;rw[ad];exact tl _ q W hW l1 l2 l3 l4)
 obtain⟨bw,bd⟩:=J (cW kL ((aR (mk1 g a m u init seed)).take 8));obtain⟨YA,bi⟩:=J ((bw.map v8).toArray);obtain⟨cf,bf⟩:=J (iY (dM g u init) bw);obtain⟨j,a5⟩:=J ((cf.map v8).toArray);have bk:cf.length=32:=by rw[bf];exact sR _ _
 have b1:T (mk2 g a m u init seed={mk1 g a m u init seed with confirm:=cf}):=O (by rw[bf,bd];exact Di ..);have b2:T (∀W p H,aU (·<W.heap.size) W (vL ((aR (mk1 g a m u init seed)).take 8)) (jb p 8 H)->bP W->jz jo 28 #[qt ⟨#[99,111,109,109,105,116,32,98,111,100,121]⟩,jb p 8 H] W λe w'=>e=jw (jh YA)/\jl W W w'):=O (λW p H hv hW=>by
  rw[bi,bd];exact mF kL G _ _ W hv (bv.take (by rw[zw];decide) 8) hW.num hW.start)
 have b3:T (∀W,iD W->jz jo 50 #[jh SA,jh YA] W λe w'=>e=jw (jh j)/\jl W W w'):=O (λW hW=>by
  rw[a5,bf,hs,bi];exact Pi _ _ (lD _ _ _) (by rw[bd];exact eQ _ _) W hW)
 have bA:T (j.size=32):=O (by rw[a5,jv,jy,bk]);have b4:T (j.all (·.oneCell')=ji):=O (by rw[a5];exact eR _);have b7:T ((jo.info? 23).map (·.size)=A j.size):=O (by rw[bA];kernel_rfl);obtain⟨Y2,a4⟩:=J ((aF (mk2 g a m u init seed) q).toArray);have b8:T (mK Y1 39 j.toList=Y2):=O (by
  rw[a4,b1,a5,ad];exact N1 _ q cf (by rw[(nZ ..).1];exact WP) (nZ ..).2 bk)
 have UE:T ((jo.info? 57).map (·.size)=A Y2.size):=O (by rw[a4];exact Yc _ (by rw[(pk ..).1];exact WP) (pk ..).2);have b9:T (Y1.size=73):=O (by rw[ad,jv,dz _ _ (by rw[(nZ ..).1];exact WP) (nZ ..).2]);have ca:T (Y2.size=73):=O (by rw[a4,jv,dz _ _ (by rw[(pk ..).1];exact WP) (pk ..).2]);have cc:T (∀W,aZ (·<W.heap.size) W (mk1 g a m u init seed) q->bP W->jz jo 52 #[jh Y2] W λe w'=>∃D,e=jw (jb (A ⟨D,0,jf⟩) 32 32)/\bD w' (jb (A ⟨D,0,jf⟩) 32 32) (dp (mk2 g a m u init seed))/\jl W W w'):=O (λW hC hW=>by
  rw[a4];exact Hb _ q W (DW hC) bN hW)
 obtain⟨sr,bm⟩:∃y:N,y=((kj X (dp (mk2 g a m u init seed)):ja):N):=⟨_,I⟩;obtain⟨ss,bn⟩:∃y:N,y=((kD X (dp (mk2 g a m u init seed)):ja):N):=⟨_,I⟩;have cg:T (∀W v,bD W v (dp (mk2 g a m u init seed))->bP W->jz jo 51 #[jd je (X:N),v] W λe w'=>e=jw (jH #[jh #[jd je sr,jd je ss],jd je 0])/\jl W W w'):=O (λW v hv hW=>by
  rw[bm,bn];exact RH X UT.1 UT.2 _ v (by unfold dp;rw[eQ];decide) W hv hW)
 obtain⟨Y3,bb⟩:=J ((aF (mkC g a X m u init seed) q).toArray);have ci:T (mkC g a X m u init seed={mk2 g a m u init seed with r:=sr,s:=ss}):=O (by rw[bm,bn];exact Gr ..);have cn:T (mK Y2 71 [jd je sr,jd je ss]=Y3):=O (by
  rw[bb,ci,a4];exact TD _ q sr ss (by rw[(pk ..).1];exact WP) (pk ..).2)
 have VL:T ((jo.info? 57).map (·.size)=A Y3.size):=O (by rw[bb];exact Yc _ (by rw[(BC ..).1];exact WP) (BC ..).2);have cp:T (Y3.all (·.oneCell')=ji):=O (by rw[bb,hq];exact zI _ _ _ _ _ _ _ _ _ _ _ _ _);have cu:=O bb;clear bh bg eq em ac cs P Yc bp br bs hq ad a4 bb bm bn bk a5 bf bi bd YR WX Yv WC Uq cd ce cw bT b6 hi
 go_upto_region 37 with fail
 refine jO ?_;refine lH (λW'=>W'.heap[(t+1+1+1+1)]?=A (jc Y1 57 (0,0))/\W'.heap[(t+1+1+1+1+1)]?=A (jc SA 27 (0,0))) 7 [(0,ji),(1,ji),(2,jm),(3,ji),(4,jm),(5,jm),(6,ji),(7,jm)] af af af G (λ_ _ _ _ h=>h) ⟨eg,ej⟩ ?_;obtain⟨q0,UA⟩:=J p5.drew;have d:=bX p5;rw[<-UA]at d⊢;have UK:=ae eg d;have UP:=ae ej d;have Uh:=ai Uw d;have P:=O (bo.later d);clear d UA eg ej Uw bo
 (refine fX (v:=jh SA) I aj (λW' hS=>mq jX I e6 I I hS.2) (L ?_))
 (refine fX (v:=jh Y1) I aj (λW' hS=>mq o8 I U5 I I hS.1) (L ?_))
 refine dn I (λK' z=>?_);go_simp;refine(b0 q0 (P.mono (λk hk=>hk.2))).mono ?_;rintro e q1 ⟨v,rfl,ac,d⟩;obtain⟨gc,a5,rfl,Vr⟩:∃g H,v=jb (A ⟨g,0,jf⟩) 11 H/\11<=H:=by
  obtain⟨us,ad,-⟩:=ac;obtain⟨g,c,h1,h2,-⟩:=vf ad G;exact⟨g,c,h1,h2⟩
 have bb:=O (ac.val 8 G).2;have g7:∀W,(Instr.sliceAt 93 (jb (A ⟨gc,0,jf⟩) 11 a5) jf (A (jd je 8)) jf).run jo W=.ok (jb (A ⟨gc,0,jf⟩) 8 a5) W:=λW=>wj 93 152 4 underlying93 wQ gc 0 11 a5 8 Y W
 clear ac;have UB:=ae UK d;have UG:=ae UP d;have U:=ai Uh d;have ad:=O (P.later d);clear UK UP Uh P;clear d;refine z _ _ ⟨UB,UG⟩ λ_=>?_
 clear z;refine L ?_;refine Et ?_;refine dn I (λK' z=>?_);go_simp;refine(b2 q1 _ _ bb.out (VR.dig.below U)).mono ?_;rintro e q2 ⟨rfl,d⟩;have Uy:=ae UB d;have UF:=ae UG d;have Ug:=ai U d;have a4:=O (ad.later d);clear UB UG U ad bb;clear d;refine z _ _ ⟨Uy,UF⟩ λ_=>?_
 clear z;refine L ?_;refine dn I (λK' z=>?_);go_simp;refine(b3 q2 (VR.below Ug)).mono ?_;rintro e q3 ⟨rfl,d⟩;have UQ:=ae Uy d;have U4:=ae UF d;have Uj:=ai Ug d;have bb:=O (a4.later d);clear Uy UF Ug a4;clear d;refine z _ _ ⟨UQ,U4⟩ λ_=>?_
 clear z;refine L ?_;refine Et ?_;refine pA I (λK' z=>?_);rw[jr aj];refine qT 23 _ _ I (t+1+1+1+1) 39 j I I (sk (o:=39) UQ.out (by rw[b9,bA];decide)) b7 b4 ?_;have s1:=yP j.toList 39 q3 Y1 UQ;rw[b8]at s1;have a6:=O s1;have ba:=O ((tS (k:=(t+1+1+1+1+1)) (b:=(t+1+1+1+1)) Y j.toList 39 q3).trans U4);have bc:=O (Below.cellsFrom Uj (t+1+1+1+1) (by rw[HG];omega) j.toList 39);have ac:T (aZ (λk=>t+6<=k/\k<(q3.setCells (t+1+1+1+1) 39 j.toList).heap.size) (q3.setCells (t+1+1+1+1) 39 j.toList) (mk1 g a m u init seed) q):=O ((bb.keep (λk hk=>tS Y _ _ _)).mono (λk hk=>by rw[yi];exact hk));clear s1;generalize q3.setCells (t+1+1+1+1) 39 j.toList=r0 at a6 ba bc ac⊢;clear UQ U4 Uj bb;refine z _ _ ?_;clear z;have UK:=a6;have UP:=ba;have Uh:=bc;have P:=ac;clear a6 ba bc ac;refine oj ?_
 go_upto_region 38 with fail
 refine jZ ?_;refine eh ?_;refine j9 I 57 _ I (t+1+1+1+1) I 57 Y2 (0,0) _ UK.out o8 I UE ?_
 go_wp2_with fail
 refine(cc r0 (P.mono (λk hk=>hk.2)) (VR.dig.below Uh)).mono ?_;rintro e r1 ⟨ic,rfl,cx,d⟩;have bb:=O cx;clear cx;have UB:=ae UK d;have UG:=ae UP d;have U:=ai Uh d;have ad:=O (P.later d);clear UK UP Uh P;clear d
 go_wp2_with fail
 refine(cg r1 _ bb.out (VR.dig.below U)).mono ?_;rintro e r2 ⟨rfl,d⟩;have Uy:=ae UB d;have UF:=ae UG d;have Ug:=ai U d;have a4:=O (ad.later d);clear UB UG U ad bb;clear d
 go_wp2_with (refine o1 I λ_ z=>qT 32 _ _ I (t+1+1+1+1) 71 #[jd je sr,jd je ss] I I (sk (o:=71) (n:=2) Uy.out (by rw[ca];decide)) af (by simp[j5]) (z _ _ ?_))
 have s1:=yP [jd je sr,jd je ss] 71 r2 Y2 Uy;rw[cn]at s1;have a6:=O s1;have ba:=O ((tS (k:=(t+1+1+1+1+1)) (b:=(t+1+1+1+1)) Y [jd je sr,jd je ss] 71 r2).trans UF);have bc:=O (Below.cellsFrom Ug (t+1+1+1+1) (by rw[HG];omega) [jd je sr,jd je ss] 71);have ac:T (aZ (λk=>t+6<=k/\k<(r2.setCells (t+1+1+1+1) 71 [jd je sr,jd je ss]).heap.size) (r2.setCells (t+1+1+1+1) 71 [jd je sr,jd je ss]) (mk1 g a m u init seed) q):=O ((a4.keep (λk hk=>tS Y _ _ _)).mono (λk hk=>by rw[yi];exact hk));clear s1;generalize r2.setCells (t+1+1+1+1) 71 [jd je sr,jd je ss]=U at a6 ba bc ac⊢;clear Uy UF Ug a4;have Y8:=a6;have ZQ:=ba;have Vv:=bc;have ad:=ac;clear a6 ba bc ac
 go_upto_region 41 with fail
 refine jO ?_;refine dm (λW'=>W'.heap[(t+1+1+1+1)]?=A (jc Y3 57 (0,0))/\W'.heap[(t+1+1+1+1+1)]?=A (jc SA 27 (0,0))) (.take 0 (.take 1 (.one 2 (.one 3 (.take 4 .done))))) af af af G (λ_ _ _ _ h=>h) ⟨Y8,ZQ⟩ ?_;obtain⟨V,UA⟩:=J U.drew;have d:=bX U;rw[<-UA]at d⊢;have cj:=ae Y8 d;have ck:=ae ZQ d;have Zn:=ai Vv d;have ac:=O (ad.later d);clear d UA Y8 ZQ Vv ad;have UK:=cj;clear cj;have UP:=ck;clear ck;have Uh:=Zn;clear Zn;have P:=ac;clear ac
 (refine aV (v:=jh Y3) I aj (λW' hS=>mq o8 I VL I I hS.1) (L ?_))
 (refine aV (v:=jh SA) I aj (λW' hS=>mq jX I e6 I I hS.2) (L ?_))
 refine aE I (λK' z=>?_);rw[jr aj];refine jR 57 _ _ I (t+1+1+1+1) Y3 I I 57 _ UK.out VL I cp ?_;rw[ri UK];refine z _ _ ⟨UK,UP⟩ λ_=>?_
 clear z;refine L ?_;refine aE I (λK' z=>?_);rw[jr aj];refine jR 27 _ _ I (t+1+1+1+1+1) SA I I 27 _ UP.out e6 I hU ?_;rw[ri UP];refine z _ _ ⟨UK,UP⟩ λ_=>?_
 clear z;refine L ?_;refine aP ?_;refine oj ?_
 go_wp2_with fail
 refine qo (FO I _ _ (t+1+1+1+1) (t+1+1+1+1+1) 57 27 Y3 SA (0,0) (0,0) _ _ I I UK UP o8 I VL jX I e6) I ⟨λ_=>⟨q,?_,?_⟩,λh=>jt i6 h,Uh⟩
 ·rw[cu,hs,qL]
  rfl
 rw[qL];exact(Q2 (x:=X) P).mono (λk hk=>⟨by have h1:=HG.out;have h2:=hk.1;omega,hk.2⟩)
noncomputable def VY:VarT jo:=⟨27,32,(cG.map v8).toArray,_,jX,I,by kernel_rfl,by rfl,λ_=>by kernel_rfl⟩
def kzA(b:j8 8):jp jk:=((kz b).map v8).toArray
def kzN(n:N):jp jk:=(jI .u8 n::wx 31 (jI .u8 0)).toArray
theorem LP(b:j8 8):kzA b=kzN b.toNat:=by unfold kzA kzN kz;rw[jY,List.map_replicate];rfl
theorem Jy(b:j8 8)(c:B.op=.build 27 #[(0,R)])(d:m.eval R=v8 b)(W:jj):(jP m.eval B).run jo W=.ok (.value (jh (kzA b))) W:=by
 have h:∀n:N,(Instr.build 27 #[(0,jd .u8 n)]).run jo W=.ok (jh (kzN n)) W:=λn=>by kernel_rfl
 rw[LP];have e:m.eval R=jd .u8 (b.toNat:N):=d;simp only[jP,c,pz,jY,jV,e,Sem.run_bind,h,Result.andThen_ok,Sem.run_pure]
theorem C0(b:j8 8)(w:jj):jz jo 25 #[v8 b] w λe w'=>e=jw (jh (kzA b))/\jl w w w':=by
 obtain⟨K,a⟩:=J (kzA b);have c:T (K.size=VY.n):=O (by rw[a];rfl);have f:T (K.all (·.oneCell')=ji):=O (by rw[a,jS];exact λg d=>gS (kz b) g (by unfold kzA at d;simpa using d));have d:=O a;rw[<-a];clear a
 go_enter func25,ntmps25
 go_upto_region 1 with(first|(refine VY.made I I (L ?_)))
 go_wp2_with (first|(refine ez (v:=jh K) aj (by rw[d];exact Jy b I I _) ?_;refine L ?_)|(refine VY.first I I I K I c f (L ?_)))
 obtain⟨x1,g,a,h,i,j⟩:=dt w K VY.t;rw[<-a];exact sn (v:=jh K) (sq I _ _ w.heap.size VY.t _ (0,0) _ I (h▸i.out) jX I (by rw[c];exact VY.hi)) I ⟨I,j⟩
theorem OY{y:j1}(b:B.op=.build 61 #[(0,.const (jd je 2)),(1,R),(4,y)])(f:m.eval R=jd je d)(g:m.eval y=jd je F)(W:jj):
 (jP m.eval B).run jo W=.ok (.value (jh (ap.cells ⟨2,d,0,0,F⟩).toArray)) W:=by
 have h:∀d F:N,(Instr.build 61 #[(0,jd je 2),(1,jd je d),(4,jd je F)]).run jo W=.ok (jh (ap.cells ⟨2,d,0,0,F⟩).toArray) W:=λd F=>by kernel_rfl
 have e:m.eval (.const (jd je 2))=jd je 2:=I;simp only[jP,b,pz,jY,jV,f,g,e,Sem.run_bind,h,Result.andThen_ok,Sem.run_pure]
theorem Eg(x:ap):x.cells.toArray.size=VH.n/\x.cells.toArray.all (·.oneCell')=ji:=⟨I,by
 rw[jS];exact λa b=>EC.one x a (show a∈ap.cells _ by simpa using b)⟩
theorem Gg(d c:N)(w:jj):jz jo 12 #[jd je d,jd je c] w λe w'=>e=jw (jh (ap.cells ⟨2,d,0,0,c⟩).toArray)/\jl w w w':=by
 obtain⟨K,b⟩:=J ((ap.cells ⟨2,d,0,0,c⟩).toArray);have a:=O (Eg ⟨2,d,0,0,c⟩);have f:=O b;rw[<-b]at a⊢;clear b
 go_enter func12,ntmps12
 go_upto_region 1 with(first|(refine VH.made I I (L ?_)))
 go_wp2_with (first|(refine ez (v:=jh K) aj (by rw[f];exact OY I I I _) ?_;refine L ?_)|(refine VH.first I I I K I a.1 a.2 (L ?_)))
 obtain⟨x1,g,b,h,i,j⟩:=dt w K VH.t;rw[<-b];exact sn (v:=jh K) (sq I _ _ w.heap.size VH.t _ (0,0) _ I (h▸i.out) sh I (by rw[a.1];exact VH.hi)) I ⟨I,j⟩
theorem LX{y z:j1}{q:N}(b:B.op=.build 61 #[(0,.const (jd je 1)),(1,R),(2,y),(3,z)])(c:m.eval R=jd je d)(f:m.eval y=jd je F)(g:m.eval z=jd je q)(W:jj):
 (jP m.eval B).run jo W=.ok (.value (jh (ap.cells ⟨1,d,F,q,0⟩).toArray)) W:=by
 have h:∀d F q:N,(Instr.build 61 #[(0,jd je 1),(1,jd je d),(2,jd je F),(3,jd je q)]).run jo W=.ok (jh (ap.cells ⟨1,d,F,q,0⟩).toArray) W:=λd F q=>by kernel_rfl
 have e:m.eval (.const (jd je 1))=jd je 1:=I;simp only[jP,b,pz,jY,jV,c,f,g,e,Sem.run_bind,h,Result.andThen_ok,Sem.run_pure]
theorem Fx(d:ja)(q:d<512)(w:jj):jz jo 11 #[jd je d] w λe w'=>e=jw (jh (cP d).cells.toArray)/\jl w w w':=by
 obtain⟨x1,c,j,k,a,l⟩:=dt w chZ.cells.toArray VH.t;have f:T (∀W,jz jo 27 #[jd je ((d:N)+2)] W λe w'=>e=jw (jH #[jd je (aX 4 (d+2):ja),jd je 0])/\jl W W w'):=O (λW=>by
  rw[show(d:N)+2=((d+2:ja):N) by omega];exact zZ (d+2) Y Y W)
 obtain⟨p,g⟩:∃y:N,y=((aX 4 (d+2):ja):N):=⟨_,I⟩;obtain⟨K,h⟩:=J ((cP d).cells.toArray);have n:T (K=(ap.cells ⟨1,d,p,p,0⟩).toArray):=O (by rw[h,g];rfl);have b:=O (Eg (cP d));rw[<-g]at f;rw[<-h]at b⊢;have o:=O j;have m:=O k;have i:=O l;clear g h j k l
 go_enter func11,ntmps11
 go_upto_region 1 with(first|(refine VH.made I I (L ?_)))
 change Code.wp _ _ _ _ (w.alloc (jc chZ.cells.toArray VH.t));rw[<-o,<-m]
 go_wp2_with fail
 refine(f _).mono ?_;rintro e h ⟨rfl,g⟩;replace a:=ae a g;replace i:=ai i g;clear g f;have f:=O (jU h c _ K _ _ a.out);have g:=O (ob i (j6 m.symm) K)
 go_wp2_with (first|(refine ez (v:=jh K) aj (by rw[n];exact LX I I I I _) ?_;refine L ?_)|(refine VH.store I I I K I b.1 b.2 a I (L ?_)))
 generalize h.setRow c K=j at f g⊢;exact sn (v:=jh K) (sq I _ _ c VH.t _ (0,0) _ I f sh I (by rw[b.1];exact VH.hi)) I ⟨I,g⟩
section
section
variable {P:ow} {ops:jp jK} {Q:Exit->Act->jj->Prop} {md:Region.Mode} {S:jj->Prop}
def ta(P:ow)(ops:jp jK)(S:jj->Prop):jg ja->(Act->jj->Prop)->Act->jj->Prop
 |[],K,a,w=>K a w
 |i::r,K,a,w=>∃o v,ops[i]?=A o/\fP P ops S o v a/\ta P ops S r K (a.put o.dst v) w
def vB(md:Region.Mode)(ops:jp jK):jg ja->jp jC->jC
 |[],_=>ji
 |i::r,a=>Region.free md ops a i&&(Region.ready md ops a).contains i&&vB md ops r (a.setIfInBounds i ji)
def nY:jg ja->jp jC->jp jC
 |[],a=>a
 |i::r,a=>nY r (a.setIfInBounds i ji)
theorem Hr(k:Region.noSelect ops=ji)(m:∀c a b w,Q (.panic c) a w->Q (.panic c) b w){K:Act->jj->Prop}{n:ja}{g:jp jC}(p:∀a w,K a w->im P md ops Q S ops.size n g a w):
 ∀(l:jg ja) (b:jp jC) (a:Act) (w:jj),vB md ops l b=ji->nY l b=g->S w->ta P ops S l K a w->im P md ops Q S ops.size (n+l.length) b a w
 |[],b,a,w,_,e,_,h=>by
  have d:b=g:=e;rw[d];exact p a w h
 |i::r,b,a,w,f,e,q,⟨o,v,s,t,h⟩=>by
  simp only[vB,n0]at f;refine vV s (Region.noSelect_spec k) (λc a d v w=>m c _ a w) (n+r.length) b a w (Region.free_spec s f.1.1) (λj c d u _=>(D5 j c d u).elim) (ak f.1.2) t q (Hr k m p r _ _ _ f.2 e q h)
def kU(md:Region.Mode)(ops:jp jK)(e f:ja)(g:jp jC):ja->jg (ja×jC)->jC->jC->jp jC->jC
 |0,b,c,d,a=>b.isEmpty&&c&&d&&(a==g)
 |n+1,b,c,d,a=>match b.head? with
  |some (k,ji)=>Region.free md ops a k&&(Region.ready md ops a).contains k&&kU md ops e f g n b.tail c d (a.setIfInBounds k ji)
  |_=> !(Region.ready md ops a).isEmpty&&(Region.ready md ops a).all λi=>
   (b.head?==A (i,jm)&&kU md ops e f g n b.tail c d (a.setIfInBounds i ji))||(i==e&& !c&&kU md ops e f g n b ji d (a.setIfInBounds i ji))||(i==f&& !d&&kU md ops e f g n b c ji (a.setIfInBounds i ji))
theorem tK{s t:ja}{u:jp jC}{l:jg (ja×jC)}{fe:ja}(x:Region.noSelect ops=ji)(y:∀c a r w,Q (.panic c) a w->Q (.panic c) r w)(g:ja->jC->jC->Act->jj->Prop)(q:∀j b f a w,g j b f a w->S w)
 (z:∀j i,l[j]?=A (i,ji)->∀b f a w,g j b f a w->∃o v,ops[i]?=A o/\fP P ops S o v a/\g (j+1) b f (a.put o.dst v) w) (B:∀j i,l[j]?=A (i,jm)->∀b f a w,g j b f a w->wpOp P ops Q i (g (j+1) b f) a w) (C:∀j f a w,g j jm f a w->wpOp P ops Q s (g j ji f) a w) (D:∀j b a w,g j b jm a w->wpOp P ops Q t (g j b ji) a w)
 (E:∀a w,g l.length ji ji a w->im P md ops Q S ops.size fe u a w):
 ∀(n j:ja) (b f:jC) (p:jp jC) (a:Act) (w:jj),j<=l.length->kU md ops s t u n (l.drop j) b f p=ji->g j b f a w->im P md ops Q S ops.size (fe+n) p a w
 |0,j,b,f,p,a,w,F,m,h=>by
  simp only[kU,n0,beq_iff_eq,List.isEmpty_iff,List.drop_eq_nil_iff]at m;obtain⟨⟨⟨d,rfl⟩,rfl⟩,rfl⟩:=m;obtain rfl:j=l.length:=Y;exact E a w h
 |n+1,j,b,f,p,a,w,F,m,h=>by
  rw[kU,List.head?_drop]at m
  by_cases K:∃k,l[j]?=A (k,ji)
  ·obtain⟨k,e⟩:=K
   rw[e]at m;simp only[n0]at m;have H:j<l.length:=(jW.1 e).1;obtain⟨o,v,M,R,U⟩:=z j k e b f a w h;rw[xa]at m;refine vV M (Region.noSelect_spec x) (λc a d v w=>y c _ a w) (fe+n) p a w (Region.free_spec M m.1.1) (λj c F d _=>(D5 j c F d).elim) (ak m.1.2) R (q _ _ _ _ _ h) (tK x y g q z B C D E n (j+1) b f _ _ w H m.2 U)
  have d:(!(Region.ready md ops p).isEmpty&&(Region.ready md ops p).all λi=>
   (l[j]?==A (i,jm)&&kU md ops s t u n (l.drop j).tail b f (p.setIfInBounds i ji))||(i==s&& !b&&kU md ops s t u n (l.drop j) ji f (p.setIfInBounds i ji))||(i==t&& !f&&kU md ops s t u n (l.drop j) b ji (p.setIfInBounds i ji)))=ji:=by
   split at m
   ·rename_i k e
    exact jt ⟨k,e⟩ K
   exact m
  simp only[n0,xd]at d;refine λ_=>⟨λv=>(by rw[v]at d;simp at d),λi M=>?_⟩
  have o:=d.2 i M;simp only[xe,n0,beq_iff_eq,Bool.not_eq_true']at o
  rcases o with(⟨e,k⟩|⟨⟨rfl,rfl⟩,k⟩)|⟨⟨rfl,rfl⟩,k⟩
  ·rw[xa]at k
   have H:j<l.length:=(jW.1 e).1;exact wpOp_mono (λr w' c=>⟨.inr (q _ _ _ _ _ c),tK x y g q z B C D E n (j+1) b f _ r w' H k c⟩) (B j i e b f a w h)
  ·exact wpOp_mono (λr w' c=>⟨.inr (q _ _ _ _ _ c),tK x y g q z B C D E n j ji f _ r w' F k c⟩) (C j f a w h)
  exact wpOp_mono (λr w' c=>⟨.inr (q _ _ _ _ _ c),tK x y g q z B C D E n j b ji _ r w' F k c⟩) (D j b a w h)
theorem uk{r:ja}{a:Act}{w:jj}(S:jj->Prop)(g:jg ja)(b:jg (ja×jC))(h k:ja)(t:bE)(d:ja->jC->jC->Act->jj->Prop)(s:P.follows .mixedOrders=ji)(l:Region.noSelect ops=ji)
 (u:vB .any ops g (qi ops.size jm)=ji) (x:kU .any ops h k (nY (b.map Prod.fst++[h,k]) (nY g (qi ops.size jm))) (b.length+2) b jm jm (nY g (qi ops.size jm))=ji)
 (y:gz .any ops t (nY (b.map Prod.fst++[h,k]) (nY g (qi ops.size jm)))=ji) (H:g.length+(b.length+2)+t.len<=ops.size) (m:∀c a p w,Q (.panic c) a w->Q (.panic c) p w)
 (z:S w.drew) (q:∀j c e a w,d j c e a w->S w)
 (B:∀j i,b[j]?=A (i,ji)->∀c e a w,d j c e a w->∃o v,ops[i]?=A o/\fP P ops S o v a/\d (j+1) c e (a.put o.dst v) w) (o:∀j i,b[j]?=A (i,jm)->∀c e a w,d j c e a w->wpOp P ops Q i (d (j+1) c e) a w) (i:∀j e a w,d j jm e a w->wpOp P ops Q h (d j ji e) a w) (v:∀j c a w,d j c jm a w->wpOp P ops Q k (d j c ji) a w)
 (j:∀a w,d b.length ji ji a w->eD P ops Q S t a w) (C:ta P ops S g (d 0 jm jm) a w.drew):(Code.region r ops ji).wp P Q a w:=by
 refine wp_region_any s (rK (S:=S) (f:=ops.size) _ _ _ _ (iM.zero _) ?_);have e:ops.size=(ops.size-g.length-(b.length+2))+(b.length+2)+g.length:=Y;have key:=Hr (md:=.any) (S:=S) l m (K:=d 0 jm jm) (n:=ops.size-g.length-(b.length+2)+(b.length+2)) (λp w' D=>tK (md:=.any) (fe:=ops.size-g.length-(b.length+2)) l m d q B o i v (λE F c=>kC l m t _ _ _ _ Y y (bE.waits_size t) (.inr (q _ _ _ _ _ c)) (eK.toF t _ _ (j E F c))) (b.length+2) 0 jm jm _ p w' (jM _) x D) g _ a w.drew u I z C;rw[<-e]at key;exact key
theorem nD{i:ja}{o:jK}{v:jk}{r:jg ja}{K:Act->jj->Prop}{a:Act}{w:jj}(b:ops[i]?=A o)(c:Region.wanted o (yielded ops a.tmps)=ji)
 (d:∀w,S w->(jP a.eval o).run P w=.ok (.value v) w) (h:ta P ops S r K (a.put o.dst v) w):ta P ops S (i::r) K a w:=
 ⟨o,v,b,.inl ⟨c,λw e=>.inl (d w e)⟩,h⟩
end
end
theorem kzl(b:j8 8):(kz b).length=32:=by unfold kz;simp
structure gH(w:jj):Prop where
 t:lq w
 s:iD w
theorem gH.below(h:gH w)(a:jl w w w'):gH w':=⟨h.t.below a,h.s.below a⟩
abbrev ptr(g:ja):jk:=ju (A ⟨g,0,jf⟩)
def iw(c:jJ)(Z:jp jk)(d:jj)(b:jC)(a:jk)(W:jj):Prop:=
 (b=ji->∃g,a=ptr g/\W.heap[g]?=A (jc Z c (0,0))/\d.heap.size<=g)/\(b=jm->a=jn)
theorem iw.keep{a:jJ}{Z:jp jk}{c d:jj}{b:jC}{f:jk}(h:iw a Z c b f W)(i:jl W W d):iw a Z c b f d:=
 ⟨λe=>let⟨g,j,k,l⟩:=h.1 e;⟨g,j,av k i,l⟩,h.2⟩
theorem iw.ne{X:jp jk}{b:jC}(h:iw r X w b j W){g:ja}(i:W.heap.size<=g):j≠ptr g:=by
 cases b with
 |true=>
  obtain⟨k,rfl,f,-⟩:=h.1 I;intro e;injection e with e
  injection e with e
  injection e with e
  have:=(jB.1 f).1;omega
 |false=>rw[h.2 I];intro e;cases e
def Pq(b:jj)(M:ja)(e:jp jk)(d:ja)(V:jk)(f:jG Addr)(h cl:ja)(i l:jp jk)(c:Cmt)(k:jp jk)(j:ja)(m n:jC)(a:Act)(W:jj):Prop:=
 ∃Wt T12 T16 T23 T24 T26 T27 T28 T29 T30,a={tmps:=#[jh e,jd je (d:N),V,jb f h cl,ptr M,jn,jn,jn,ptr (M+1),ptr (M+2),.bool jm,Wt,T12,jn,jn,jn,T16,jh e,jd je (d:N),jd je (d:N),jd je ((d:N)+2),jb f h cl,V,T23,T24,V,T26,T27,T28,T29,T30,jn,jn,jn,jn,jn,jn,jn,jn,jn,jn,jn,jn,jn,jn],defers:=[]}/\jl b b W/\(1<=j->T23=jh i)/\(2<=j->T24=jh l)/\(3<=j->T26=jh i)/\
  (4<=j->∃(q:CQ) (D:ja->Prop),(T27=jH #[jh (aF c q).toArray,jh k,jd je 0]/\(5<=j->T16=T27)/\(6<=j->T28=jh (aF c q).toArray)/\(7<=j->T29=jh k)/\(8<=j->T30=jd je 0))/\aZ D W c q/\∀g,D g->b.heap.size<=g/\g<W.heap.size/\Wt≠ptr g/\T12≠ptr g)/\
  iw VC.t VC.Z b m Wt W/\iw VY.t VY.Z b n T12 W
theorem Rn(g:Grp)(vm vt:jk)(d:ja)(m:d<512)(b:j8 8)(vl:jk)(ch:jg ap)(w:jj)(j:bW w g vm vt)(p:aH (·<w.heap.size) w vl 5 ch.length (ch.flatMap ap.cells))(hT:gH w)(t:gZ g (d:N) ((d+2:ja):N) ch=0)
 (c:Cmt) (V:c=mkC g (d:N) (d+2) ch (kz b) (kz 1) (kz b)) (X:cQ g c=0) (hE:da (aR c)) (u:g.mem.length<=900000) (z:g.tree.length<=600000) (a6:ch.length<=1000000):
 jz jo 10 #[jh (aD g vm vt).toArray,jd je (d:N),v8 b,vl] w λe w'=>∃q x y,e=jw (jH #[jh (aF c q).toArray,jh (aD (aC g c) x y).toArray,.bool ji])/\
  aZ (λk=>w.heap.size<=k/\k<w'.heap.size) w' c q/\bW w' (aC g c) x y/\Fr w.heap.size x/\Fr w.heap.size y/\jl w w w':=by
 obtain⟨pl,cl,rfl⟩:=p.form;obtain⟨nl,B⟩:=J ch.length;obtain⟨S,i⟩:=J ((aD g vm vt).toArray);obtain⟨KA,C⟩:=J (kzA b);obtain⟨K1,D⟩:=J (kzA 1);obtain⟨s,l⟩:=J (((dM g (kz b) (kz 1)).map v8).toArray);obtain⟨NG,E⟩:=J (aC g c);have bl:T (S.size=VG.n):=O (by rw[i,jv];exact eX j.llen);have bm:T (∀W,jl w w W->jz jo 24 #[jh S,jd je (d:N),jd je ((d:N)+2),jb pl nl cl,jh KA,jh K1,jh KA] W λe w'=>(∃q,e=jw (jH #[jh (aF c q).toArray,jh s,jd je 0])/\aZ (λk=>W.heap.size<=k/\k<w'.heap.size) w' c q)/\jl W W w'):=O (λW a=>by
  have h:=Ru g vm vt (jb pl ch.length cl) (d:N) ((d+2:ja):N) ch (kz b) (kz 1) (kz b) W (j.below a) ((p.keep λk n=>a.block k n).mono λk (n:k<w.heap.size)=>jL n a.size) (kzl _) (kzl _) (kzl _) (hT.t.below a) (hT.s.below a) u z a6 t;rw[t]at h;rw[i,C,D,l,B,show(d:N)+2=((d+2:ja):N) by omega];refine h.mono ?_;rintro e w' ⟨h1,-,f⟩;have r:=h1 I;rw[qL,<-V]at r;exact⟨r,f⟩)
 have bv:T (∀W q,jl w w W->aZ (·<W.heap.size) W c q->jz jo 26 #[jh S,jh (aF c q).toArray] W λe w'=>(∃vm vt,e=jw (jH #[jh (aD NG vm vt).toArray,jd je 0])/\bW w' NG vm vt/\Fr W.heap.size vm/\Fr W.heap.size vt)/\jl W W w'):=O (λW q a r=>by
  rw[i,E];refine(Dr g vm vt c q W (j.below a) r hE (hT.s.dig.below a) u z).mono ?_;rintro e w' ⟨h1,-,f⟩;exact⟨h1 X,f⟩)
 have ad:T (∀W,jz jo 25 #[v8 b] W λe w'=>e=jw (jh KA)/\jl W W w'):=O (λW=>by rw[C];exact C0 b W);have bn:T (∀W,jz jo 25 #[jd .u8 1] W λe w'=>e=jw (jh K1)/\jl W W w'):=O (λW=>by rw[D];exact C0 1 W);have a5:T (s.size=VY.n/\s.all (·.oneCell')=ji):=O ⟨by rw[l,jv,jy,lD];rfl,by rw[l,jS];exact λa1 hu=>gS _ a1 (ak hu)⟩;rw[<-i];rw[<-B];obtain⟨P,F⟩:∃P:Ending->jj->Prop,P=λe w'=>∃q x y,e=jw (jH #[jh (aF c q).toArray,jh (aD (aC g c) x y).toArray,.bool ji])/\
  aZ (λk=>w.heap.size<=k/\k<w'.heap.size) w' c q/\bW w' (aC g c) x y/\Fr w.heap.size x/\Fr w.heap.size y/\jl w w w':=⟨_,I⟩
 have HP:T (∀e w',(∃q x y,e=jw (jH #[jh (aF c q).toArray,jh (aD NG x y).toArray,.bool ji])/\aZ (λk=>w.heap.size<=k/\k<w'.heap.size) w' c q/\bW w' NG x y/\Fr w.heap.size x/\Fr w.heap.size y/\jl w w w')->P e w'):=O (by
  rw[F,E];exact λe w' h=>h)
 rw[<-F];obtain⟨x1,M,H,K,UT,f⟩:=dt w S VG.t;obtain⟨x2,M1,au,Q,U8,aa⟩:=dt x1 VC.Z VC.t;obtain⟨x3,M2,Za,R,ba,a⟩:=dt x2 VG.Z VG.t;have e1:M1=M+1:=by rw[Q,H,jq,K]
 have e2:M2=M+2:=by rw[R,au,jq,<-Q,e1]
 subst e1;subst e2;have U:=f.trans (aa.mono f.size);replace UT:=O (av (av UT aa) a);replace U8:=ae U8 a;have HB:T (jl w w x3):=O (U.trans (a.mono U.size));have HW:T (x3=((w.alloc (jc S VG.t)).alloc (jc VC.Z VC.t)).alloc (jc VG.Z VG.t)):=O (by rw[Za,au,H]);have HM:=O K;have Zp:T (x3.heap.size=M+3):=O (by rw[Za,jq,<-R]);clear H au Za K Q R f aa a U i C D l E F j p hT t V X hE u z a6 B
 go_enter func10,ntmps10
 go_upto_region 1 with(first|(refine VC.made I I (L ?_))|(refine VG.made I I (L ?_)))
 rw[show((w.alloc (jc S 51)).alloc (jc VC.Z VC.t)).alloc (jc VG.Z VG.t)=x3 from HW.symm]
 try simp only[jq]
 try rw[show w.heap.size+1+1=w.heap.size+2 from I]
 rw[<-HM];clear HW;obtain⟨V,a⟩:=J (v8 b);rw[<-a]at ad⊢;clear a;have f:=bX x3;obtain⟨x4,hx⟩:=J x3.drew;rw[<-hx]at f;have bo:=O hx;replace UT:=ae UT f;replace U8:=ae U8 f;replace ba:=ae ba f;replace HB:=ai HB f;have bp:T (M+3<=x4.heap.size):=O (by rw[<-Zp];exact f.size);clear hx f Zp;refine jO ?_;refine uk (λt=>t.heap[M]?=A (jc S VG.t (0,0))) [0,1,2,3,4,5,8] [(6,jm),(7,jm),(9,jm),(10,jm),(11,ji),(12,ji),(13,ji),(14,ji)] 15 16 (.one 17 (.one 18 (.take 19 .done))) (Pq x4 M S d V pl nl cl KA K1 c s) af af af af af G (λ_ _ _ _ h=>h) (by rw[<-bo];exact UT) ?hI ?hT ?hC ?h1 ?h2 ?hE ?h0
 case hI=>
  rintro j U b2 a W ⟨Wt,T12,T16,T23,T24,T26,T27,T28,T29,T30,rfl,l,-⟩;exact av UT l
 case h1=>
  rintro j b2 a W ⟨Wt,T12,T16,T23,T24,T26,T27,T28,T29,T30,rfl,l,E,F,H,R,z,B⟩;refine qb (o:=_) I (λX u=>?_);rw[jr aj];refine gK VC.t I VC.Z VC.hal ?_;have f:=ao W (jc VC.Z VC.t);refine u _ _ ⟨ptr W.heap.size,T12,T16,T23,T24,T26,T27,T28,T29,T30,I,l.trans (f.mono l.size),E,F,H,λe=>?_,⟨λ_=>⟨_,I,jA _ _,l.size⟩,λh=>(by cases h)⟩,B.keep f⟩;obtain⟨q,D,K,r,m⟩:=R e;exact⟨q,D,K,r.keep λg p=>f.block g (m g p).2.1,λg p=>⟨(m g p).1,jL (m g p).2.1 f.size,(λe=>by injection e with e;injection e with e;injection e with e;have:=(m g p).2.1;omega),(m g p).2.2.2⟩⟩
 case h2=>
  rintro j U a W ⟨Wt,T12,T16,T23,T24,T26,T27,T28,T29,T30,rfl,l,E,F,H,R,z,B⟩;refine qb (o:=_) I (λX u=>?_);rw[jr aj];refine gK VY.t I VY.Z VY.hal ?_;have f:=ao W (jc VY.Z VY.t);refine u _ _ ⟨Wt,ptr W.heap.size,T16,T23,T24,T26,T27,T28,T29,T30,I,l.trans (f.mono l.size),E,F,H,λe=>?_,z.keep f,⟨λ_=>⟨_,I,jA _ _,l.size⟩,λh=>(by cases h)⟩⟩;obtain⟨q,D,K,r,m⟩:=R e;exact⟨q,D,K,r.keep λg p=>f.block g (m g p).2.1,λg p=>⟨(m g p).1,jL (m g p).2.1 f.size,(m g p).2.2.1,(λe=>by injection e with e;injection e with e;injection e with e;have:=(m g p).2.1;omega)⟩⟩
 case h0=>
  rw[<-bo]
  (refine nD (v:=jh S) I aj (λt Q=>dh VG.hu VG.hd (by rw[bl];exact VG.hi) I I Q) ?_;refine L ?_)
  iterate 2 (refine nD (v:=jd je (d:N)) I aj (λt Q=>by go_simp;try with_reducible rfl) ?_;refine L ?_)
  (refine nD (v:=jd je ((d:N)+2)) I aj (λt Q=>by have e:=wrap_small ((d:N)+2) Y Y;go_simp;try rw[e];try with_reducible rfl) ?_;refine L ?_)
  (refine nD (v:=jb pl nl cl) I aj (λt Q=>by go_simp;try with_reducible rfl) ?_;refine L ?_)
  iterate 2 (refine nD (v:=V) I aj (λt Q=>by go_simp;try with_reducible rfl) ?_;refine L ?_)
  exact⟨jn,jn,jn,jn,jn,jn,jn,jn,jn,jn,I,lw _ _,λh=>jt h G,λh=>jt h G,λh=>jt h G,λh=>jt h G,⟨λh=>(by cases h),λ_=>rfl⟩,⟨λh=>(by cases h),λ_=>rfl⟩⟩
 case hT=>
  rintro j i C U b2 a W ⟨Wt,T12,T16,T23,T24,T26,T27,T28,T29,T30,rfl,l,E,F,H,R,z,B⟩
  rcases j with _ |_ |_ |_ |_ |_ |_ |_ |j
  iterate 4 (·simp at C)
  ·obtain rfl:i=11:=ak C.symm
   obtain⟨q,D,K,r,m⟩:=R Y;refine⟨_,T27,I,.inl ⟨by rfl,λt Q=>.inl (by go_simp;try with_reducible rfl)⟩,?_⟩;exact⟨Wt,T12,T27,T23,T24,T26,T27,T28,T29,T30,I,l,λ_=>E Y,λ_=>F Y,λ_=>H Y,λ_=>⟨q,D,⟨K.1,λ_=>rfl,(λh=>jt h Y),(λh=>jt h Y),(λh=>jt h Y)⟩,r,m⟩,z,B⟩
  ·obtain rfl:i=12:=ak C.symm
   obtain⟨q,D,⟨rfl,ac,ax,ay,a2⟩,r,m⟩:=R Y;obtain rfl:=ac Y;refine⟨_,jh (aF c q).toArray,I,.inl ⟨by rfl,λt Q=>.inl (by go_simp;try with_reducible rfl)⟩,?_⟩;exact⟨Wt,T12,_,T23,T24,T26,_,_,T29,T30,I,l,λ_=>E Y,λ_=>F Y,λ_=>H Y,λ_=>⟨q,D,⟨I,λ_=>rfl,λ_=>rfl,(λh=>jt h Y),(λh=>jt h Y)⟩,r,m⟩,z,B⟩
  ·obtain rfl:i=13:=ak C.symm
   obtain⟨q,D,⟨rfl,ac,ax,ay,a2⟩,r,m⟩:=R Y;obtain rfl:=ac Y;refine⟨_,jh s,I,.inl ⟨by rfl,λt Q=>.inl (by go_simp;try with_reducible rfl)⟩,?_⟩;exact⟨Wt,T12,_,T23,T24,T26,_,T28,_,T30,I,l,λ_=>E Y,λ_=>F Y,λ_=>H Y,λ_=>⟨q,D,⟨I,λ_=>rfl,λ_=>ax Y,λ_=>rfl,(λh=>jt h Y)⟩,r,m⟩,z,B⟩
  ·obtain rfl:i=14:=ak C.symm
   obtain⟨q,D,⟨rfl,ac,ax,ay,a2⟩,r,m⟩:=R Y;obtain rfl:=ac Y;refine⟨_,jd je 0,I,.inl ⟨by rfl,λt Q=>.inl (by go_simp;try with_reducible rfl)⟩,?_⟩;exact⟨Wt,T12,_,T23,T24,T26,_,T28,T29,_,I,l,λ_=>E Y,λ_=>F Y,λ_=>H Y,λ_=>⟨q,D,⟨I,λ_=>rfl,λ_=>ax Y,λ_=>ay Y,λ_=>rfl⟩,r,m⟩,z,B⟩
  simp at C
 case hC=>
  rintro j i C U b2 a W ⟨Wt,T12,T16,T23,T24,T26,T27,T28,T29,T30,rfl,l,E,F,H,R,z,B⟩
  rcases j with _ |_ |_ |_ |_ |_ |_ |_ |j
  ·obtain rfl:i=6:=ak C.symm
   refine qb (o:=_) I (λX u=>?_);go_simp;refine(ad W).mono ?_;rintro e t ⟨rfl,f⟩;exact u _ _ ⟨Wt,T12,T16,_,T24,T26,T27,T28,T29,T30,I,l.trans (f.mono l.size),λ_=>rfl,(λh=>jt h Y),(λh=>jt h Y),λe=>jt e Y,z.keep f,B.keep f⟩
  ·obtain rfl:i=7:=ak C.symm
   refine qb (o:=_) I (λX u=>?_);go_simp;refine(bn W).mono ?_;rintro e t ⟨rfl,f⟩;exact u _ _ ⟨Wt,T12,T16,_,_,T26,T27,T28,T29,T30,I,l.trans (f.mono l.size),λ_=>rfl,λ_=>rfl,(λh=>jt h Y),λe=>jt e Y,z.keep f,B.keep f⟩
  ·obtain rfl:i=9:=ak C.symm
   refine qb (o:=_) I (λX u=>?_);go_simp;refine(ad W).mono ?_;rintro e t ⟨rfl,f⟩;exact u _ _ ⟨Wt,T12,T16,_,_,_,T27,T28,T29,T30,I,l.trans (f.mono l.size),λ_=>rfl,λ_=>rfl,λ_=>rfl,λe=>jt e Y,z.keep f,B.keep f⟩
  ·obtain rfl:i=10:=ak C.symm
   obtain rfl:=E Y;obtain rfl:=F Y;obtain rfl:=H Y;refine qb (o:=_) I (λX u=>?_);go_simp;refine(bm W (HB.trans (l.mono HB.size))).mono ?_;rintro e t ⟨⟨q,rfl,r⟩,f⟩;exact u _ _ ⟨Wt,T12,T16,_,_,_,_,T28,T29,T30,I,l.trans (f.mono l.size),λ_=>rfl,λ_=>rfl,λ_=>rfl,λ_=>⟨q,_,⟨I,(λh=>jt h Y),(λh=>jt h Y),(λh=>jt h Y),(λh=>jt h Y)⟩,r,λg p=>⟨jF l.size p.1,p.2,z.ne p.1,B.ne p.1⟩⟩,z.keep f,B.keep f⟩
  iterate 5 (·simp at C)
 rintro a W ⟨Wt,T12,T16,T23,T24,T26,T27,T28,T29,T30,rfl,l,E,F,H,R,z,B⟩;obtain⟨q,D,⟨rfl,ac,ax,ay,a2⟩,r,m⟩:=R G;obtain rfl:=ac G;obtain rfl:=ax G;obtain rfl:=ay G;obtain rfl:=a2 G;obtain rfl:=E G;obtain rfl:=F G;obtain rfl:=H G;obtain⟨C,rfl,hC,bg⟩:=z.1 I;obtain⟨K,rfl,u,bq⟩:=B.1 I;have bh:C≠K:=by
  rintro rfl;rw[hC]at u;simp[VC,VY]at u
 have bb:w.heap.size<=x4.heap.size:=HB.size;have bi:=bp.out;obtain⟨i,j⟩:=J ((aF c q).toArray);have Z3:T (i.size=VC.n):=O (by rw[j,jv];exact dz _ _ r.plen r.clen);have br:T (i.all (·.oneCell')=ji):=O (by
  rw[j,jS];exact λa1 hu=>nj r a1 (ak hu))
 have UB:=O (jU W C _ i _ _ hC);have bs:=(js W C K i (Ne.symm bh)).trans u;have Uy:=O ((js (W.setRow C i) K C s bh).trans UB);have bc:∀k,k<x4.heap.size->((W.setRow C i).setRow K s).heap[k]?=x4.heap[k]?:=λk n=>(js _ K k s Y).trans ((js W C k i Y).trans (l.block k n))
 have bd:T (((W.setRow C i).setRow K s).heap[M]?=A (jc S VG.t (0,0))):=O ((bc M Y).trans UT);have a3:T (((W.setRow C i).setRow K s).heap[M+1]?=A (jc VC.Z VC.t (0,0))):=O ((bc (M+1) Y).trans U8);have a4:T (((W.setRow C i).setRow K s).heap[M+2]?=A (jc VG.Z VG.t (0,0))):=O ((bc (M+2) Y).trans ba);have Ug:T (jl w w ((W.setRow C i).setRow K s)):=O (ob (ob (HB.trans (l.mono bb)) (jF bb bg) i) (jF bb bq) s);have bk:((W.setRow C i).setRow K s).heap.size=W.heap.size:=by rw[setRow_size,setRow_size]
 have bf:T (aZ (λk=>x4.heap.size<=k/\k<((W.setRow C i).setRow K s).heap.size) ((W.setRow C i).setRow K s) c q):=O ((r.keep λg p=>(js _ K g s (λe=>(m g p).2.2.2 (by rw[e]))).trans (js W C g i (λe=>(m g p).2.2.1 (by rw[e])))).mono λg p=>⟨(m g p).1,by rw[bk];exact(m g p).2.1⟩);have Vh:T (C<((W.setRow C i).setRow K s).heap.size):=O (by rw[bk];exact(jB.1 hC).1);have bu:=O j;rw[<-j];refine aE I (λX U=>?_);rw[jr aj];refine jR VC.t _ _ I C i I I VC.t VC.Z hC (by rw[Z3];exact VC.hi) (VC.hZ.trans Z3.symm) br ?_;refine U _ _ ((js W C M i Y).trans ((l.block M Y).trans UT)) λ_=>?_
 clear U;refine L ?_;refine aE I (λX U=>?_);rw[jr aj];refine jR VY.t _ _ I K s I I VY.t VY.Z bs (by rw[a5.1];exact VY.hi) (VY.hZ.trans a5.1.symm) a5.2 ?_;refine U _ _ bd.out λ_=>?_
 clear U;refine L ?_;have UK:=O bg;generalize(W.setRow C i).setRow K s=y1 at Uy bd a3 a4 Ug bf Vh⊢;clear hC u bg bq l E F H R ac ax ay a2 z B r m bh j bs bc bk UB UT U8 ba bm ad bn a5 bb bi;refine aP ?_;refine oj ?_
 go_wp2_with (first|(refine VG.loadA aj I I S bl bd (L ?_))|(refine VC.loadA aj I I i Z3 Uy (L ?_)))
 have ad:=bv y1 q Ug (bf.mono λk n=>n.2);rw[<-bu]at ad;refine ad.mono ?_;rintro e y2 ⟨⟨x,y,rfl,ZP,ba,bb⟩,f⟩;obtain⟨j,p⟩:=J ((aD NG x y).toArray);have a5:T (j.size=VG.n):=O (by rw[p,jv];exact eX ZP.llen);have Vl:T (j.all (·.oneCell')=ji):=O (by rw[p,jS];exact λa1 hu=>mQ ZP a1 (ak hu));have bk:=O p;have bg:=O (dO.of ZP ba bb);have bh:T (aZ (λk=>x4.heap.size<=k/\k<y2.heap.size) y2 c q):=O ((bf.keep λk n=>f.block k n.2).mono λk n=>⟨n.1,jL n.2 f.size⟩);have HF:T (Fr y1.heap.size x/\Fr y1.heap.size y):=O ⟨ba,bb⟩;replace Uy:=ae Uy f;replace a3:=ae a3 f;replace a4:=ae a4 f;have Uj:=ai Ug f;have bc:T (x4.heap.size<=y1.heap.size/\y1.heap.size<=y2.heap.size):=O ⟨by have:=Vh.out;have:=UK.out;omega,f.size⟩;rw[<-p];clear ad ZP ba bb p f bd Ug bf
 go_upto_region 3 with(first|(refine VG.made I I (L ?_))|(refine VG.first I I I j I a5 Vl (L ?_)))
 obtain⟨y3,bx,hx,hb,bf,f⟩:=dt y2 j VG.t;rw[<-hx,<-hb];have aa:=bX y3;obtain⟨p,ba⟩:=J y3.drew;rw[<-ba]at aa;have ad:jl y2 y2 p:=f.trans (aa.mono f.size);have bb:=av bf aa;have bd:=av Uy ad;have au:=av a3 ad;have Za:=av a4 ad;refine jO ?_;refine fM (λt=>t.heap[C]?=A (jc i VC.t (0,0))/\t.heap[bx]?=A (jc j VG.t (0,0))) 10 (.take 0 (.take 1 (.take 2 (.take 3 (.take 4 (.take 5 (.take 6 (.take 7 (.one 8 (.one 9 (.one 10 .done))))))))))) af af af af G (λ_ _ _ _ h=>h) (by rw[<-ba];exact⟨bd,bb⟩) ?_;rw[<-ba];have bm:bx=y2.heap.size:=hb;have bn:T (aZ (λk=>x4.heap.size<=k/\k<y2.heap.size) p c q):=O (bh.keep λk n=>ad.block k n.2);have bq:T (dO (λk=>y1.heap.size<=k/\k<y2.heap.size) p NG x y):=O (bg.keep λk n=>ad.block k n.2);have Uq:=ai Uj ad;have WC:=O ad.size;clear hx hb f aa ba ad bf bh bg Uj Uy a3 a4
 (refine cJ (v:=jh i) I aj (λt Q=>dh VC.hu VC.hd (by rw[Z3];exact VC.hi) I I Q.1) ?_;refine L ?_)
 (refine cJ (v:=jh j) I aj (λt Q=>dh VG.hu VG.hd (by rw[a5];exact VG.hi) I I Q.2) ?_;refine L ?_)
 iterate 6 refine co ?_
 have bi:=bp.out;have Vr:=UK.out;have a6:=Vh.out;have a4:=bc.1;have Q:C≠M+1:=Y;have n2:C≠M+2:=Y;have n3:bx≠M+1:=by have:=bc.2;omega
 have n4:bx≠M+2:=by have:=bc.2;omega
 have r1:=(js p (M+1) C i Q).trans bd;have r2:=(js p (M+1) bx i n3).trans bb;have r3:=jU p (M+1) _ i _ _ au;have h:=(js p (M+1) (M+2) i Y).trans Za;refine cV I (λX U=>?_);rw[jr aj];refine jR VC.t _ _ I (M+1) i I I VC.t VC.Z au (by rw[Z3];exact VC.hi) (VC.hZ.trans Z3.symm) br ?_;refine U _ _ ⟨r1,r2⟩ λ_=>?_
 clear U;refine L ?_;have s1:=(js (p.setRow (M+1) i) (M+2) C j n2).trans r1;have s2:=(js (p.setRow (M+1) i) (M+2) bx j n4).trans r2;have U5:=O ((js (p.setRow (M+1) i) (M+2) (M+1) j Y).trans r3);have UE:=O (jU (p.setRow (M+1) i) (M+2) _ j _ _ h);refine cV I (λX U=>?_);rw[jr aj];refine jR VG.t _ _ I (M+2) j I I VG.t VG.Z h (by rw[a5];exact VG.hi) (VG.hZ.trans a5.symm) Vl ?_;refine U _ _ ⟨s1,s2⟩ λ_=>?_
 clear U;refine L ?_;refine nA I G af (λX u=>?_);go_simp;refine u _ _ ?_;clear u;refine L ?_;refine fb ?_;have t:∀k,M+3<=k->((p.setRow (M+1) i).setRow (M+2) j).heap[k]?=p.heap[k]?:=λk n=>(js _ _ k _ Y).trans (js _ _ k _ Y)
 have ba:w.heap.size=M:=HM.symm;have U:T (jl w w ((p.setRow (M+1) i).setRow (M+2) j)):=O (ob (ob Uq Y i) Y j);have X:((p.setRow (M+1) i).setRow (M+2) j).heap.size=p.heap.size:=by rw[setRow_size,setRow_size]
 have aa:T (aZ (λk=>w.heap.size<=k/\k<((p.setRow (M+1) i).setRow (M+2) j).heap.size) ((p.setRow (M+1) i).setRow (M+2) j) c q):=O ((bn.keep λk n=>t k (cT n.1)).mono λk n=>⟨by have:=n.1;omega,by rw[X];exact jL n.2 WC⟩);have ad:T (bW ((p.setRow (M+1) i).setRow (M+2) j) NG x y):=O (bq.keep λk n=>t k (cT n.1)).grp;have a3:T (Fr w.heap.size x/\Fr w.heap.size y):=O ⟨HF.1.mono Y,HF.2.mono Y⟩;clear t ba X s1 s2 r1 r2 r3 h Q n2 n3 n4 bd bb au Za bi Vr a6 a4 bm;generalize(p.setRow (M+1) i).setRow (M+2) j=h at U5 UE U aa ad⊢;refine‹∀(a:Act) (w:jj),Code.wp jo Code.ret (bodyPost jo _ P) a w->_›_ _ ?_;refine wp_ret ?_;show bodyPost _ _ P .ret _ _;refine qo (FO I _ _ (M+1) (M+2) VC.t VG.t i j (0,0) (0,0) _ _ I I U5 UE o8 I (by rw[Z3];exact VC.hi) qS I (by rw[a5];exact VG.hi)) I (HP _ _ ⟨q,x,y,by rw[bu,bk];rfl,aa,ad,a3.1,a3.2,U⟩)
theorem CN(x y:N):cD x y<0↔x<y:=by
 unfold cD
 split
 ·constructor<;>intro<;>first|assumption|decide
 split
 ·constructor
  ·intro h;exact jt h G
  intro h;omega
 constructor
 ·intro h;exact jt h G
 intro h;omega
theorem Bi(x y:N):cD x y=0↔x=y:=by
 unfold cD
 split
 ·constructor
  ·intro h;exact jt h G
  intro h;omega
 split
 ·constructor
  ·intro h;exact jt h G
  intro h;omega
 constructor
 ·intro h;omega
 intro h;rfl
theorem Kr{b:aN}(h:x.com.author≠b.com.author):(kP x b<0↔x.since<b.since\/x.since=b.since/\x.com.author<b.com.author):=by
 unfold kP
 by_cases d:x.since=b.since
 ·rw[jD (by rw[(Bi _ _).2 d];exact λh=>h I),jr (λe=>h ((Bi _ _).1 e)),CN]
  constructor
  ·exact λc=>.inr ⟨d,c⟩
  rintro(c|c)
  ·omega
  exact c.2
 rw[jr (λe=>d ((Bi _ _).1 e)),CN]
 constructor
 ·exact .inl
 rintro(c|c)
 ·exact c
 exact jt c.1 d
def wL(g:Grp)(a b:Cmt):Prop:=eS g a.author<eS g b.author\/eS g a.author=eS g b.author/\a.author<b.author
noncomputable def cN(g:Grp)(c:Cmt)(i:ja):aN:=⟨i,c,aG c,eS g c.author,aC g c⟩
theorem MU(x y:aN):[x,y].mergeSort leC=if leC x y=ji then [x,y]else [y,x]:=by
 cases h:leC x y with
 |true=>simp[xf,List.MergeSort.Internal.splitInTwo,List.merge,h]
 |false=>simp[xf,List.MergeSort.Internal.splitInTwo,List.merge,h]
theorem Jz{y:aN}(h:x.com.author≠y.com.author)(a:oX x.com y.com.author=ji):([x,y].foldl gr ([],jf)).2=A x:=by
 have b:gr ([],jf) x=([x],A x):=by
  unfold gr;rw[jD (by unfold rL;rw[List.any_nil];decide)];unfold wg;rw[jr I];rfl
 have c:gr ([x],A x) y=([x],A x):=by
  unfold gr;rw[jr];unfold rL;rw[List.any_cons,a,bne_iff_ne.2 h];rfl
 rw[r5,r5,r6,b,c]
noncomputable def tM(l:jg Cmt)(S:jg aN)(k:ja):jg aN:=match S[k]? with|none=>S|some c=>S++ff c.leads l
noncomputable def eC(l:jg Cmt)(c:aN):ja->jg aN
 |0=>[c]
 |k+1=>tM l (eC l c k) k
noncomputable def sH(l:jg Cmt)(c:aN):jg aN:=eC l c l.length
theorem Gw(h:S.length<=b):tM f S b=S:=by
 unfold tM;rw[List.getElem?_eq_none h]
theorem pW{l:jg Cmt}{k:ja}{c:aN}(h:S[k]?=A c):tM l S k=S++ff c.leads l:=by
 unfold tM;rw[h]
structure fg(l:jg Cmt)(g:Grp)(c:aN):Prop where
 ok:gB g l c
 par:c.com.parent=g.last
 least:∀j,j<c.ix->aG (aQ l j)≠c.id
theorem fg.ofU(h:x∈eP a f):fg f a x:=by
 obtain⟨g,b,-,d⟩:=ov h;exact⟨g,b,d⟩
theorem fg.com{d:aN}(h:fg f a x)(b:fg f g' d)(e:x.id=d.id):x.com=d.com:=by
 have l:x.ix=d.ix:=by
  rcases xg x.ix d.ix with g|g|g
  ·exact jt (by rw[<-h.ok.com,<-h.ok.id];exact e) (b.least _ g)
  ·exact g
  exact jt (by rw[<-b.ok.com,<-b.ok.id];exact e.symm) (h.least _ g)
 rw[h.ok.com,b.ok.com,l]
theorem fg.last{l:jg Cmt}{g:Grp}{c:aN}(h:fg l g c):c.leads.last=c.id:=by rw[h.ok.leads,AB,h.ok.id]
theorem fg.epoch(h:fg f a x):x.leads.epoch=a.epoch+1/\x.com.epoch=a.epoch+1:=by
 have g:=(rP h.ok).ep;exact⟨by rw[h.ok.leads,iC];exact g,g⟩
theorem KH(g:Grp)(l:jg Cmt):((eP g l).map aN.id).Nodup:=by
 unfold eP;have n:(bU l l.length).Nodup:=by
  unfold bU;exact(List.nodup_range).filter _
 have key:∀(a:jg ja),a.Nodup->(∀i∈a,i∈bU l l.length)->((a.filterMap (eT g l)).map aN.id).Nodup:=by
  intro a
  induction a with
  |nil=>intro _ _;rw[qM,jV];exact List.nodup_nil
  |cons i a o=>
   intro f h;rw[xh]at f;have k:=o f.2 λj e=>h j (qe _ e)
   rw[jT]
   cases hc:eT g l i with
   |none=>exact k
   |some c=>
    dsimp only;rw[jY,xh];refine⟨λp=>?_,k⟩;obtain⟨d,q,he⟩:=qf.1 p;obtain⟨j,e,r⟩:=List.mem_filterMap.1 q;obtain⟨y,s,t,-⟩:=tO hc;obtain⟨z,u,v,-⟩:=tO r;have w:=(oR.1 (h i (qd ..))).2;have x:=(oR.1 (h j (qe _ e))).2;have m:aG (aQ l j)=aG (aQ l i):=by rw[<-u,<-v,<-s,<-t];exact he
    rcases xg i j with b|b|b
    ·exact x i b m.symm
    ·exact f.1 (b▸e)
    exact w j b m
 exact key _ n λi b=>b
theorem PZ(g:Grp)(l:jg Cmt):((ff g l).map aN.id).Nodup:=((List.mergeSort_perm (eP g l) leC).map aN.id).nodup_iff.2 (KH g l)
structure tE(l:jg Cmt)(a:Grp)(b:aN)(S:jg aN)(k:ja):Prop where
 head:S[0]?=A b
 par:∀i c,S[i]?=A c->0<i->∃n x,n<k/\n<i/\S[n]?=A x/\fg l x.leads c
 all:∀n x,n<k->S[n]?=A x->∀c∈eP x.leads l,c∈S
 ids:(S.map aN.id).Nodup
 ep:∀c∈S,a.epoch+1<=c.leads.epoch
theorem tE.at{l:jg Cmt}{b:Grp}{d:aN}{k:ja}(h:tE l b d S k)(e:fg l b d){i:ja}{c:aN}(a:S[i]?=A c):∃g,fg l g c/\(i=0->g=b):=by
 rcases i with _|i
 ·rw[h.head]at a
  injection a with a
  exact⟨b,by rw[<-a];exact e,λ_=>rfl⟩
 obtain⟨n,x,-,-,-,f⟩:=h.par _ c a (qX i);exact⟨_,f,λh=>jt h (Nat.succ_ne_zero i)⟩
theorem Qf(h:(S.map aN.id).Nodup){i j:ja}{c d:aN}(a:S[i]?=A c)(b:S[j]?=A d)(e:c.id=d.id):i=j:=by
 have f:(S.map aN.id)[i]?=A c.id:=by rw[qc,a];rfl
 have g:(S.map aN.id)[j]?=A c.id:=by rw[qc,b,Option.map_some,e]
 obtain⟨m,k⟩:=jW.1 f;obtain⟨n,l⟩:=jW.1 g;exact(List.getElem_inj h).1 (k.trans l.symm)
theorem BA(p:fg f a x):∀k,tE f a x (eC f x k) k
 |0=>by
  rw[eC];refine⟨by simp,?_,λn s t=>jt t (xi n),by simp,?_⟩
  ·intro i c h l
   cases i with
   |zero=>exact jt l (qI 0)
   |succ i=>simp at h
  intro c h;rw[jN]at h;rw[h,(p.epoch).1];omega
 |k+1=>by
  have h:=BA p k;rw[eC];generalize eC f x k=S at h⊢
  cases hx:S[k]? with
  |none=>
   have v:=List.getElem?_eq_none_iff.1 hx;rw[Gw v];refine⟨h.head,?_,?_,h.ids,h.ep⟩
   ·intro i c l q
    obtain⟨n,s,j,r⟩:=h.par i c l q;exact⟨n,s,by omega,r⟩
   intro n s t b c o;have:=(jW.1 b).1;exact h.all n s Y b c o
  |some s=>
   rw[pW hx];have w:=(jW.1 hx).1;obtain⟨R,D,-⟩:=h.at p hx;refine⟨by rw[p6 Y];exact h.head,?_,?_,?_,?_⟩
   ·intro i c l q
    by_cases v:i<S.length
    ·rw[p6 v]at l
     obtain⟨n,y,j,r,z,b⟩:=h.par i c l q;exact⟨n,y,by omega,r,by rw[p6 Y];exact z,b⟩
    rw[List.getElem?_append_right Y]at l;exact⟨k,s,Nat.lt_succ_self k,by omega,by rw[p6 w];exact hx,fg.ofU (sC.1 (j4 l))⟩
   ·intro n y t m c o
    by_cases v:n=k
    ·rw[v,p6 w,hx]at m
     injection m with m
     rw[<-m]at o;exact wv _ (sC.2 o)
    have b:n<k:=Y;rw[p6 Y]at m;exact wt _ (h.all n y b m c o)
   ·rw[nn,List.nodup_append]
    refine⟨h.ids,PZ _ _,?_⟩;intro v E b F e;obtain⟨c,H,rfl⟩:=qf.1 E;obtain⟨d,K,rfl⟩:=qf.1 F;have u:=fg.ofU (sC.1 K);obtain⟨i,l⟩:=xj.1 H;obtain⟨g,B,M⟩:=h.at p l;have C:=B.com u e
    by_cases q:i=0
    ·have P:=M q
     subst P;have j:=B.epoch.2;rw[C,u.epoch.2]at j;have r:=h.ep s (j4 hx);omega
    obtain⟨n,y,t,-,m,P⟩:=h.par i c l Y;obtain⟨U,Q,-⟩:=h.at p m;have j:y.id=s.id:=by rw[<-Q.last,<-D.last,<-P.par,<-u.par,C]
    have:=Qf h.ids m hx j;omega
   intro c o
   rcases j3.1 o with j|j
   ·exact h.ep c j
   have r:=(fg.ofU (sC.1 j)).epoch.1;have z:=h.ep s (j4 hx);omega
theorem QK(h:(S.map aN.id).Nodup)(l:∀c∈S,∃g,fg f g c):S.length<=f.length:=by
 have j:(S.map aN.ix).Nodup:=by
  refine xk.2 ?_;refine List.Pairwise.imp_of_mem ?_ (xk.1 h);intro a b k m n e;obtain⟨o,d⟩:=l a k;obtain⟨gb,i⟩:=l b m;exact n (by rw[d.ok.id,i.ok.id,d.ok.com,i.ok.com,e])
 have b:S.map aN.ix⊆r4 f.length:=by
  intro i a;obtain⟨c,e,rfl⟩:=qf.1 a;obtain⟨g,d⟩:=l c e;exact List.mem_range.2 d.ok.lt
 have a:=List.Nodup.length_le_of_subset j b;rw[jy,List.length_range]at a;exact a
theorem tE.len(h:tE f a x S b)(d:fg f a x):S.length<=f.length:=by
 refine QK h.ids λc e=>?_
 obtain⟨i,l⟩:=xj.1 e;obtain⟨g,j,-⟩:=h.at d l;exact⟨g,j⟩
theorem Ge(h:(eC f x b).length<=b):∀m,b<=m->eC f x m=eC f x b
 |0,k=>by
  obtain rfl:b=0:=Y
  rfl
 |m+1,k=>by
  by_cases e:b=m+1
  ·rw[e]
  have c:=Ge h m Y;rw[eC,c,Gw Y]
theorem MY(d:fg f a x){k:ja}(h:(eC f x k).length<=k)(c:k<=f.length):sH f x=eC f x k:=Ge h _ c
section
theorem l8{g:Grp}{l:jg Cmt}{i:ja}(h:cQ g (aQ l i)≠0):eT g l i=jf:=by
 unfold eT;rw[jD λe=>h e.2]
theorem zL{g:Grp}{l:jg Cmt}{i:ja}{c:Cmt}(e:aQ l i=c)(h:cQ g c=0):eT g l i=A (cN g c i):=by
 unfold eT cN;rw[e,jr ⟨(iR.1 h).par,h⟩]
theorem mf{g:Grp}{c:Cmt}(h:c.epoch≠g.epoch+1):cQ g c≠0:=λe=>h (iR.1 e).ep
theorem wC{a b c d:Cmt}(k:aG a≠aG b)(l:aG a≠aG c)(m:aG a≠aG d)(n:aG b≠aG c)(o:aG b≠aG d)(p:aG c≠aG d):bU [a,b,c,d] 4=[0,1,2,3]:=by
 have q:bU [a,b,c,d] 0=[]:=I;have f:aQ [a,b,c,d] 0=a:=I;have g:aQ [a,b,c,d] 1=b:=I;have h:aQ [a,b,c,d] 2=c:=I;have i:aQ [a,b,c,d] 3=d:=I;have r:∀j,j<1->aG (aQ [a,b,c,d] j)≠aG (aQ [a,b,c,d] 1):=λj e=>by
  obtain rfl:j=0:=Y;rw[f,g];exact k
 have s:∀j,j<2->aG (aQ [a,b,c,d] j)≠aG (aQ [a,b,c,d] 2):=λj e=>by
  rcases(by omega:j=0\/j=1)with rfl|rfl
  ·rw[f,h];exact l
  rw[g,h];exact n
 have t:∀j,j<3->aG (aQ [a,b,c,d] j)≠aG (aQ [a,b,c,d] 3):=λj e=>by
  rcases(by omega:j=0\/j=1\/j=2)with rfl|rfl|rfl
  ·rw[f,i];exact m
  ·rw[g,i];exact o
  rw[h,i];exact p
 rw[oW,jr t,oW,jr s,oW,jr r,oW,jr (λj e=>jt e (xi j)),q]
 rfl
structure dW(fol:N)(y s o f:Cmt):Prop where
 ys:aG y≠aG s
 yo:aG y≠aG o
 yf:aG y≠aG f
 so:aG s≠aG o
 sf:aG s≠aG f
 of:aG o≠aG f
 hf:cQ (aK fol) f=0
 hs:cQ (aC (aK fol) f) s=0
 hy:cQ (aC (aC (aK fol) f) s) y=0
 ho:cQ (aC (aC (aK fol) f) s) o=0
 auth:o.author≠y.author
 ahead:wL (aC (aC (aK fol) f) s) o y
 ro:oX o y.author=ji
section
variable {fol:N} {y s o f:Cmt}
theorem dW.eps(h:dW fol y s o f):f.epoch=1/\s.epoch=2/\y.epoch=3/\o.epoch=3:=by
 have d:f.epoch=(aK fol).epoch+1:=(iR.1 h.hf).ep;have a:=(iR.1 h.hs).ep;have b:=(iR.1 h.hy).ep;have c:=(iR.1 h.ho).ep;rw[iC]at a b c;have e:(aK fol).epoch=0:=I;exact⟨by omega,by omega,by omega,by omega⟩
theorem dW.first(h:dW fol y s o f):ft fol (aG f) [y,s,o,f]=A ⟨3,f,aG f,0,aC (aK fol) f⟩:=by
 have b:aQ [y,s,o,f] 0=y:=I;have c:aQ [y,s,o,f] 1=s:=I;have d:aQ [y,s,o,f] 2=o:=I;have a:aQ [y,s,o,f] 3=f:=I;unfold ft;rw[show [y,s,o,f].length=4 from I,wC h.ys h.yo h.yf h.so h.sf h.of,
  r7 (by rw[b,decide_eq_true_eq];exact h.yf),r7 (by rw[c,decide_eq_true_eq];exact h.sf),
  r7 (by rw[d,decide_eq_true_eq];exact h.of),List.find?_cons_of_pos (by rw[a,decide_eq_true_eq]),Option.bind_some,a,jr h.hf]
theorem dW.cand1(h:dW fol y s o f):eP (aC (aK fol) f) [y,s,o,f]=[cN (aC (aK fol) f) s 1]:=by
 obtain⟨e,g,i,j⟩:=h.eps;have a:cQ (aC (aK fol) f) (aQ [y,s,o,f] 0)≠0:=mf (c:=y) (by rw[iC];omega);have b:cQ (aC (aK fol) f) (aQ [y,s,o,f] 2)≠0:=mf (c:=o) (by rw[iC];omega);have d:cQ (aC (aK fol) f) (aQ [y,s,o,f] 3)≠0:=mf (c:=f) (by rw[iC];omega);unfold eP;rw[show [y,s,o,f].length=4 from I,wC h.ys h.yo h.yf h.so h.sf h.of,jT,l8 a,jT,zL (c:=s) I h.hs,jT,l8 b,
  jT,l8 d,qM]
theorem dW.cand2(h:dW fol y s o f):eP (aC (aC (aK fol) f) s) [y,s,o,f]=[cN (aC (aC (aK fol) f) s) y 0,cN (aC (aC (aK fol) f) s) o 2]:=by
 obtain⟨d,e,g,i⟩:=h.eps;have a:cQ (aC (aC (aK fol) f) s) (aQ [y,s,o,f] 1)≠0:=mf (c:=s) (by rw[iC];omega);have b:cQ (aC (aC (aK fol) f) s) (aQ [y,s,o,f] 3)≠0:=mf (c:=f) (by rw[iC];omega);unfold eP;rw[show [y,s,o,f].length=4 from I,wC h.ys h.yo h.yf h.so h.sf h.of,jT,zL (c:=y) I h.hy,jT,l8 a,jT,zL (c:=o) I h.ho,
  jT,l8 b,qM]
theorem dW.cand3(h:dW fol y s o f){g:Grp}(i:g.epoch=3):eP g [y,s,o,f]=[]:=by
 obtain⟨j,k,l,m⟩:=h.eps;have a:cQ g (aQ [y,s,o,f] 0)≠0:=mf (c:=y) Y;have b:cQ g (aQ [y,s,o,f] 1)≠0:=mf (c:=s) Y;have d:cQ g (aQ [y,s,o,f] 2)≠0:=mf (c:=o) Y;have e:cQ g (aQ [y,s,o,f] 3)≠0:=mf (c:=f) Y;unfold eP;rw[show [y,s,o,f].length=4 from I,wC h.ys h.yo h.yf h.so h.sf h.of,jT,l8 a,jT,l8 b,jT,l8 d,
  jT,l8 e,qM]
theorem dW.list2(h:dW fol y s o f):ff (aC (aC (aK fol) f) s) [y,s,o,f]=[cN (aC (aC (aK fol) f) s) o 2,cN (aC (aC (aK fol) f) s) y 0]:=by
 have a:(kP (cN (aC (aC (aK fol) f) s) o 2) (cN (aC (aC (aK fol) f) s) y 0)<0)↔wL (aC (aC (aK fol) f) s) o y:=by
  rw[Kr (by unfold cN;exact h.auth)];unfold cN wL;exact Iff.rfl
 unfold ff;rw[h.cand2,MU,jD];unfold leC;rw[qa (a.2 h.ahead)]
 decide
theorem dW.win1(h:dW fol y s o f):dY (aC (aK fol) f) [y,s,o,f]=A (cN (aC (aK fol) f) s 1):=by
 unfold dY ff;rw[h.cand1,xl,r5,r6];unfold gr;rw[jD (by unfold rL;rw[List.any_nil];decide)];unfold wg;rw[jr I]
theorem dW.win2(h:dW fol y s o f):dY (aC (aC (aK fol) f) s) [y,s,o,f]=A (cN (aC (aC (aK fol) f) s) o 2):=by
 unfold dY;rw[h.list2];exact Jz (x:=cN (aC (aC (aK fol) f) s) o 2) (y:=cN (aC (aC (aK fol) f) s) y 0) h.auth h.ro
theorem dW.win3(h:dW fol y s o f){g:Grp}(a:g.epoch=3):dY g [y,s,o,f]=jf:=by
 unfold dY ff;rw[h.cand3 a,xm,r6]
theorem rG(g:Grp)(c:Cmt)(i:ja):(cN g c i).leads=aC g c:=by unfold cN;dsimp only
theorem dW.chain(h:dW fol y s o f):dU fol (aG f) [y,s,o,f]=[⟨3,f,aG f,0,aC (aK fol) f⟩,cN (aC (aK fol) f) s 1,cN (aC (aC (aK fol) f) s) o 2]:=by
 obtain⟨c,d,e,a⟩:=h.eps;have b:(cN (aC (aC (aK fol) f) s) o 2).leads.epoch=3:=by rw[rG,iC];exact a
 rw[uK,h.first];dsimp only;rw[rA];dsimp only;rw[h.win1];dsimp only;rw[rA,rG,h.win2];dsimp only;rw[rA,h.win3 b]
theorem dW.all(h:dW fol y s o f):sH [y,s,o,f] ⟨3,f,aG f,0,aC (aK fol) f⟩=[⟨3,f,aG f,0,aC (aK fol) f⟩,cN (aC (aK fol) f) s 1,cN (aC (aC (aK fol) f) s) o 2,cN (aC (aC (aK fol) f) s) y 0]:=by
 obtain⟨j,l,b,d⟩:=h.eps;have e:ff (aC (aK fol) f) [y,s,o,f]=[cN (aC (aK fol) f) s 1]:=by unfold ff;rw[h.cand1,xl]
 have a:∀g:Grp,g.epoch=3->ff g [y,s,o,f]=[]:=λg i=>by unfold ff;rw[h.cand3 i,xm]
 have s1:eC [y,s,o,f] ⟨3,f,aG f,0,aC (aK fol) f⟩ 1=[⟨3,f,aG f,0,aC (aK fol) f⟩,cN (aC (aK fol) f) s 1]:=by
  rw[eC,eC,pW (c:=⟨3,f,aG f,0,aC (aK fol) f⟩) I];dsimp only;rw[e];rfl
 have s2:eC [y,s,o,f] ⟨3,f,aG f,0,aC (aK fol) f⟩ 2=[⟨3,f,aG f,0,aC (aK fol) f⟩,cN (aC (aK fol) f) s 1,cN (aC (aC (aK fol) f) s) o 2,cN (aC (aC (aK fol) f) s) y 0]:=by
  rw[eC,s1,pW (c:=cN (aC (aK fol) f) s 1) I,rG,h.list2];rfl
 unfold sH;show eC _ _ 4=_;rw[eC,eC,s2,pW (k:=2) (c:=cN (aC (aC (aK fol) f) s) o 2) I,a _ (by rw[rG,iC];exact d),qh,
  pW (k:=3) (c:=cN (aC (aC (aK fol) f) s) y 0) rfl,a _ (by rw[rG,iC];exact b),qh]
end
end
theorem Oc:bJ 4:=by
 refine⟨by decide,by decide,?_⟩;rw[<-wm _ QN 62 G]
 decide+kernel
theorem SE:bJ 16:=by
 refine⟨by decide,by decide,?_⟩;rw[<-wm _ QN 62 G]
 decide+kernel
theorem Nf(a:0<=d)(b:d<512)(x:N):lB (512+d) x=decide (x∈(512+d)::bS d):=by
 by_cases h:x∈(512+d)::bS d
 ·rw[qa h,uc ((o7 d a b x).1 h)]
 rw[decide_eq_false h,Eh (λc=>h ((o7 d a b x).2 c))]
def kV(t:jg (N×N))(d:N):jg (N×N):=t.filter λe=> !decide (e.1∈(512+d)::bS d)
theorem yX(a:0<=d)(b:d<512)(t:jg (N×N)):dJ t d=kV t d:=by
 unfold dJ kV;refine List.filter_congr λe _=>?_
 rw[Nf a b]
def uX(b:jg (N×N))(d:N)(l:jg N):ja->jg (N×N)
 |0=>b
 |k+1=>en ((512+d)/2^k,l.getD k 0) (uX b d l k)
theorem D3(t:jg (N×N))(d:N)(l:jg N):∀k,eF t d l k=uX (dJ t d) d l k
 |0=>rfl
 |k+1=>by unfold eF uX;rw[D3 t d l k]
def pP:jg (N×N)->jC
 |[]=>ji
 |[_]=>ji
 |x::y::r=>decide (x.1<y.1)&&pP (y::r)
theorem Hm:∀{t:jg (N×N)} {x:N×N},pP (x::t)=ji->∀e∈t,x.1<e.1
 |[],x,_,e,he=>by cases he
 |y::r,x,h,e,he=>by
  simp only[pP,n0,decide_eq_true_eq]at h
  rcases qk.1 he with rfl|he
  ·exact h.1
  have:=Hm h.2 e he;omega
theorem Gz:∀{t:jg (N×N)},pP t=ji->Str t
 |[],_=>List.Pairwise.nil
 |[x],_=>List.pairwise_singleton _ _
 |x::y::r,h=>by
  refine vi.2 ⟨Hm h,Gz ?_⟩;simp only[pP,n0]at h;exact h.2
def Em(t:jg (N×N)):jC:=
 pP t&&t.all λe=>decide (1<=e.1)&&decide (e.1<=1023)&&(decide (e.2=4)||decide (e.2=16))&&t.any λf=>decide (512<=f.1)&&decide (f.1<=1023)&&decide (e.1∈f.1::bS (f.1-512))
theorem P7(h:Em t=ji):fV t:=by
 unfold Em at h;simp only[n0,xd,List.any_eq_true,decide_eq_true_eq,xe]at h;refine⟨Gz h.1,λe he=>?_⟩;obtain⟨⟨⟨b,c⟩,a⟩,f,d,⟨g,j⟩,i⟩:=h.2 e he;refine⟨b,c,?_,f,d,g,?_⟩
 ·rcases a with a|a
  ·rw[a];exact Oc
  rw[a];exact SE
 have:=(o7 (f.1-512) Y Y e.1).1;rw[show 512+(f.1-512)=f.1 by omega]at this;exact this i
theorem FQ:dc []=0:=tu (P7 (by decide+kernel))
theorem vW(n:ja):bJ ((aX 4 n:ja):N):=o6 (a:=4) mS n
theorem EI(h:b<512):oN (cP b):=⟨⟨by show(0:N)<=(b:N);omega,by show(b:N)<512;omega⟩,.inl ⟨I,vW _,vW _,I⟩⟩
theorem DI(h:b<512)(a:M<=1048576):oN (dK b M):=⟨⟨by show(0:N)<=(b:N);omega,by show(b:N)<512;omega⟩,.inr (.inl ⟨I,I,I,by show(0:N)<=(M:N);omega,by show(M:N)<=1048576;omega⟩)⟩
theorem ue(h:oN V):eU [V]:=⟨λy a=>by
 rw[jN]at a;rw[a];exact h,by simp,by simp⟩
theorem SD:cr []=[]:=by decide+kernel
theorem Jc(a:iZ d):dC (aK d) where
 fol:=a
 ep:=⟨Int.le_refl _,by show(0:N)<=1099511627776;omega⟩
 tree:=FQ
 zero:=λ_=>⟨I,I⟩
 dev:=SD.symm
 ok:=λm b=>by cases b
theorem oG{l:jg aJ}{o:jG aJ}(h:dj l d=o):cA l d=o.isSome:=by rw[<-yM,h]
theorem rz{m:aJ}(h:dj a.mem d=A m):dQ a d e=m.ver:=by
 unfold dQ;have l:(a.mem.find? λm=>m.dev==d)=A m:=h;rw[l]
theorem Ce{m:aJ}(h:dj a.mem d=A m):eS a d=m.since:=by
 unfold eS;rw[h];rfl
theorem zA:mX [V] V.d=A V:=by unfold mX;simp
theorem zo(h:V.d≠d):mX [V] d=jf:=by unfold mX;simp[h]
theorem AU(c:cA a.mem d=ji)(g:0<a.epoch)(e:cA a.mem V.d=decide (V.k≠1))(f:V.d≠d):gL a d [V]:=
 ⟨by rw[c,qa g],λh=>by omega,λy b=>by
  rw[jN]at b;rw[b];exact⟨e,λ_=>f⟩⟩
theorem wJ(x:a.epoch<1099511627776)(c:dq a d e=0)(f:1<=b)(i:b<2305843009213688669)(g:dQ a d e=((aX 4 b:ja):N)):gZ a d (b:N) e=0:=by
 unfold gZ;rw[jD Y,jD (λh=>h c),jD Y,jD (λh=>h (by rw[g,qL]))]
theorem uC{g:Grp}{a:N}{x:ja}{c:jg ap}{b init:LBy}{d:jg Bx}{e:jg Wl}(h:g.folder=g'.folder)(f:g.epoch=g'.epoch)(i:g.last=g'.last):mkF g a x c b init d e=mkF g' a x c b init d e:=by
 have j:nh g a c b init d e=nh g' a c b init d e:=by unfold nh;rw[h,f,i]
 have k:dM g b init=dM g' b init:=by unfold dM;rw[f]
 have l:lE g a c b init d e=lE g' a c b init d e:=by unfold lE;rw[j,k]
 unfold mkF;rw[l]
noncomputable def bF:Cmt:=mkC (aK 3) 1 3 [cP 1] (kz 1) (kz 1) (kz 1)
noncomputable def gS1:Grp:=aC (aK 3) bF
noncomputable def bR:Cmt:=mkC gS1 1 3 [cP 0] (kz 2) (kz 1) (kz 2)
noncomputable def cU:Grp:=aC gS1 bR
noncomputable def cS3:Cmt:=mkC cU 0 2 [dK 1 5] (kz 3) (kz 1) (kz 3)
noncomputable def cM:Cmt:=mkC cU 1 3 [dK 0 5] (kz 4) (kz 1) (kz 4)
theorem uq(b:j8 8):(kz b).length=32:=by unfold kz;simp
theorem AS:dq (aK 3) 1 [cP 1]=0:=lz.2 ⟨Jc G,ue (EI G),⟨I,λ_=>⟨_,_,I,I⟩,λy a=>by
 rw[jN]at a;rw[a];exact⟨I,λh=>by cases h⟩⟩⟩
theorem lQ:gQ (aK 3) bF:=rY AS (by show(0:N)<1099511627776;omega) I (uq _)
theorem mm:bF.chg=[cP 1]/\bF.author=1/\bF.epoch=1:=by
 refine⟨?_,?_,lQ.ep.trans I⟩<;>rfl
theorem lW:dj gS1.mem 1=A ⟨1,1,((aX 4 3:ja):N)⟩/\dj gS1.mem 0=jf/\gS1.epoch=1:=by
 have a:=EW lQ (d:=1) (y:=cP 1) (by rw[mm.1];exact zA) G;have b:=zG lQ (d:=0) (by rw[mm.1];exact zo G);rw[mm.2.2]at a;exact⟨a.1,b.trans I,(iC _ _).trans mm.2.2⟩
theorem AT:dq gS1 1 [cP 0]=0:=lz.2 ⟨iz lQ,ue (EI G),
 AU (oG lW.1) (by rw[lW.2.2];decide) (by rw[show(cP 0).d=0 from I,oG lW.2.1];rfl) G⟩
theorem lf:gQ gS1 bR:=rY AT (by rw[lW.2.2];decide) (rz lW.1) (uq _)
theorem nK:bR.chg=[cP 0]/\bR.author=1/\bR.epoch=2:=by
 refine⟨I,I,?_⟩;rw[lf.ep,lW.2.2];rfl
theorem fu:dj cU.mem 1=A ⟨1,1,((aX 4 3:ja):N)⟩/\dj cU.mem 0=A ⟨0,2,((aX 4 2:ja):N)⟩/\cU.epoch=2:=by
 have a:=EW lf (d:=0) (y:=cP 0) (by rw[nK.1];exact zA) G;have b:=zG lf (d:=1) (by rw[nK.1];exact zo G);rw[nK.2.2]at a;exact⟨b.trans lW.1,a.1,(iC _ _).trans nK.2.2⟩
theorem yD:dq cU 0 [dK 1 5]=0:=lz.2 ⟨iz lf,ue (DI G G),
 AU (oG fu.2.1) (by rw[fu.2.2];decide) (by rw[show(dK 1 5).d=1 from I,oG fu.1];rfl) G⟩
theorem DT:gQ cU cS3:=rY yD (by rw[fu.2.2];decide) (rz fu.2.1) (uq _)
theorem zv:dq cU 1 [dK 0 5]=0:=lz.2 ⟨iz lf,ue (DI G G),
 AU (oG fu.1) (by rw[fu.2.2];decide) (by rw[show(dK 0 5).d=0 from I,oG fu.2.1];rfl) G⟩
theorem mN:gQ cU cM:=rY zv (by rw[fu.2.2];decide) (rz fu.1) (uq _)
theorem iL:cS3.chg=[dK 1 5]/\cS3.author=0/\cM.chg=[dK 0 5]/\cM.author=1:=⟨I,I,I,I⟩
theorem Su:wL cU cM cS3:=by
 left
 rw[iL.2.2.2,iL.2.1,Ce fu.1,Ce fu.2.1]
 decide
theorem vZ:gZ (aK 3) 1 (3:ja) [cP 1]=0/\gZ gS1 1 (3:ja) [cP 0]=0/\gZ cU 0 (2:ja) [dK 1 5]=0/\gZ cU 1 (3:ja) [dK 0 5]=0:=
 ⟨wJ (by show(0:N)<1099511627776;omega) AS G G rfl,wJ (by rw[lW.2.2];decide) AT G G (rz lW.1),
  wJ (by rw[fu.2.2];decide) yD G G (rz fu.2.1),wJ (by rw[fu.2.2];decide) zv G G (rz fu.1)⟩
theorem IZ(a:aG cS3≠aG bR)(b:aG cS3≠aG cM)(c:aG cS3≠aG bF)(d:aG bR≠aG cM)(e:aG bR≠aG bF)(f:aG cM≠aG bF):dW 3 cS3 bR cM bF where
 ys:=a
 yo:=b
 yf:=c
 so:=d
 sf:=e
 of:=f
 hf:=iR.2 lQ
 hs:=iR.2 lf
 hy:=iR.2 DT
 ho:=iR.2 mN
 auth:=by rw[iL.2.2.2,iL.2.1];decide
 ahead:=Su
 ro:=by unfold oX;rw[iL.2.2.1,iL.2.1];decide
theorem I8(g:Grp)(c:Cmt)(i:ja):(cN g c i).id=aG c:=by unfold cN;dsimp only
theorem IT(g:Grp)(c:Cmt)(i:ja):(cN g c i).com=c:=by unfold cN;dsimp only
theorem Ms(h:dW 3 cS3 bR cM bF)(a:N):dx (aG bR) 0 a jm (dU 3 (aG bF) [cS3,bR,cM,bF])=decide (a<=5):=by
 have b:cA (aC (aC (aK 3) bF) bR).mem 0=ji:=oG fu.2.1;have c:¬aG bF=aG bR:=λe=>h.sf e.symm
 have d:(cM.chg.find? λx=>x.d==0&&x.k !=1)=A (dK 0 5):=by rw[iL.2.2.1];rfl
 rw[h.chain,dx];dsimp only;rw[jD c,dx,jr (I8 _ _ _),rG,jr b,dx,IT,d]
 rfl
theorem Te(h:dW 3 cS3 bR cM bF):(aC cU cM).mem.length=1:=by
 have n:=iz mN;have o:=Sd mN (d:=0) (y:=dK 0 5) (by rw[iL.2.2.1];exact zA) I;have g:=zG mN (d:=1) (by rw[iL.2.2.1];exact zo G);rw[fu.1]at g;have c:∀m∈(aC cU cM).mem,m=⟨1,1,((aX 4 3:ja):N)⟩:=λm j=>by
  rcases(pF mN m).1 j with⟨f,i⟩|⟨x,a,b,rfl⟩
  ·rcases(pF lf m).1 f with⟨k,p⟩|⟨x,a,b,rfl⟩
   ·rcases(pF lQ m).1 k with⟨l,-⟩|⟨x,a,b,rfl⟩
    ·cases l
    rw[mm.1,jN]at a;subst a;rw[mm.2.2];rfl
   rw[nK.1,jN]at a;subst a;exact jt I (i (dK 0 5) (by rw[iL.2.2.1];exact jN.2 I))
  rw[iL.2.2.1,jN]at a;subst a;exact jt I b
 have i:=((sQ (rX mN) _ _).1 g).1;have f:=rX mN
 cases e:(aC cU cM).mem with
 |nil=>rw[e]at i;cases i
 |cons m l=>
  rcases l with _|⟨k,p⟩
  ·rfl
  rw[e]at c f;have a:=c m (qd ..);have b:=c k (qe _ (qd ..));rw[a,b]at f;simp at f
theorem LV(a:dc t=0)(b:0<=d)(c:d<512):dG t d jm=0:=by
 unfold dG;rw[jr a,jD];rintro(h|h|⟨h,-⟩)
 ·omega
 ·omega
 cases h
theorem Mk(a:dc t=0)(b:0<=d)(c:d<512)(e:bJ F):gI t d F=0:=by
 unfold gI;rw[jr (LV a b c),jr (gD e)]
theorem CM(c:dc t=0)(a:0<=d)(b:d<512)(e:bJ F):kR t d F=en (512+d,F) (kV t d):=by
 unfold kR;rw[jr (Mk c a b e),yX a b]
theorem Q6(a:dc t=0)(c:0<=d)(e:d<512)(b:bG t (512+d)≠jf):dG t d ji=0:=by
 unfold dG;rw[jr a,jD];rintro(h|h|⟨-,h⟩)
 ·omega
 ·omega
 exact b h
theorem Ga(c:dc t=0)(a:0<=d)(b:d<512)(e:bG t (512+d)≠jf):kG t d=kV t d:=by
 unfold kG;rw[jr (Q6 c a b e),yX a b]
theorem Fg{l:jg N}(h:eZ t d l=0)(a:0<=d)(b:d<512):gm t d l=uX (kV t d) d l 10:=by
 unfold gm;rw[jr h,D3,yX a b]
theorem Cu(a:LBy):∃b c d e f g h i j k:N,dA a=[b,c,d,e,f,g,h,i,j,k]:=by
 unfold dA;exact⟨_,_,_,_,_,_,_,_,_,_,I⟩
theorem Fc(g:Grp)(c:Cmt):(aC g c).tree=gm (aW g.tree c.chg) c.author c.path:=by unfold aC;dsimp only
theorem Gm:aW (aK 3).tree [cP 1]=[(513,((aX 4 3:ja):N))]:=by
 show kR [] 1 ((aX 4 3:ja):N)=_;rw[CM FQ G G (vW _)]
 rfl
theorem MH:∃a b c d f g i j k l:N,gS1.tree=[(1,l),(2,k),(4,j),(8,i),(16,g),(32,f),(64,d),(128,c),(256,b),(513,a)]:=by
 obtain⟨a,b,c,d,f,g,i,j,k,l,m⟩:=Cu (kz 1);refine⟨a,b,c,d,f,g,i,j,k,l,?_⟩;have h:=lQ.ren;have e:gS1.tree=gm (aW (aK 3).tree bF.chg) bF.author bF.path:=Fc _ _;have n:bF.path=dA (kz 1):=(yB (aK 3) 1 3 [cP 1] (kz 1) (kz 1) (kz 1)).2.2.2.2.2;rw[mm.1,mm.2.1,n]at h e;rw[e,Fg h G G,Gm,m];generalize((aX 4 3:ja):N)=q;have:kV [(513,q)] 1=[]:=by
  unfold kV;rw[qN (by show ¬(!decide ((513:N)∈(512+1)::bS 1))=ji;decide+kernel),qn]
 rw[this]
 rfl
theorem pz0:bS 0=[256,128,64,32,16,8,4,2,1]:=by decide+kernel
theorem pz1:bS 1=[256,128,64,32,16,8,4,2,1]:=by decide+kernel
theorem A8:∃a:N,aW gS1.tree [cP 0]=[(512,((aX 4 2:ja):N)),(513,a)]:=by
 obtain⟨a,c,d,f,g,h,i,j,k,l,e⟩:=MH;have b:dc gS1.tree=0:=(iz lQ).tree;refine⟨a,?_⟩;show kR gS1.tree 0 ((aX 4 2:ja):N)=_;rw[CM b G G (vW _),e];generalize((aX 4 2:ja):N)=q;unfold kV;rw[pz0]
 rfl
theorem Si:∃a r1 r2 r3 b c d f g i:N,cU.tree=[(1,i),(2,g),(4,f),(8,d),(16,c),(32,b),(64,r3),(128,r2),(256,r1),(512,((aX 4 2:ja):N)),(513,a)]:=by
 obtain⟨m,j⟩:=A8;obtain⟨a,r1,r2,r3,b,c,d,f,g,i,k⟩:=Cu (kz 2);refine⟨a,r1,r2,r3,b,c,d,f,g,i,?_⟩;have h:=lf.ren;have e:cU.tree=gm (aW gS1.tree bR.chg) bR.author bR.path:=Fc _ _;have l:bR.path=dA (kz 2):=(yB gS1 1 3 [cP 0] (kz 2) (kz 1) (kz 2)).2.2.2.2.2;rw[nK.1,nK.2.1,l]at h e;rw[e,Fg h G G,j,k];generalize((aX 4 2:ja):N)=q;unfold kV;rw[pz1]
 rfl
theorem MZ:aW cU.tree [dK 1 5]=[(512,((aX 4 2:ja):N))]/\∃a:N,aW cU.tree [dK 0 5]=[(513,a)]:=by
 obtain⟨a,r1,r2,r3,c,d,f,g,i,j,e⟩:=Si;have b:dc cU.tree=0:=(iz lf).tree;refine⟨?_,a,?_⟩
 ·show kG cU.tree 1=_
  rw[Ga b G G (by rw[e];exact λh=>by cases h),e];generalize((aX 4 2:ja):N)=q;unfold kV;rw[pz1]
  rfl
 show kG cU.tree 0=_;rw[Ga b G G (by rw[e];exact λh=>by cases h),e];generalize((aX 4 2:ja):N)=q;unfold kV;rw[pz0]
 rfl
theorem mD(h:fV t){x:N}(a:1<=x)(b:x<=1023):fc t x=df (bG t) (hgt x.toNat) x.toNat:=by
 have e:lP t x=0:=by unfold lP;rw[jr (tu h),jD Y]
 unfold fc;rw[jr e]
theorem RP:ia 0=[513,257,129,65,33,17,9,5,3]:=by decide+kernel
theorem zS:ia 1=[512,257,129,65,33,17,9,5,3]:=by decide+kernel
theorem wH(h:fV t)(c:ia d=[F,257,129,65,33,17,9,5,3])(a:1<=F)(e:F<=1023){r:jg (jg N)}(f:(([F,257,129,65,33,17,9,5,3]:jg N).map λx=>df (bG t) (hgt x.toNat) x.toNat)=r):
 eo t d=(r.zipIdx 1).flatMap λx=>x.1.map λn=>((x.2:N),n):=by
 unfold eo fw;rw[c,<-f];simp only[jY,jV,List.zipIdx_cons,List.zipIdx_nil,xn,xo];rw[mD h a e,mD h (x:=257) G G,mD h (x:=129) G G,mD h (x:=65) G G,mD h (x:=33) G G,
  mD h (x:=17) G G,mD h (x:=9) G G,mD h (x:=5) G G,mD h (x:=3) G G]
theorem uP(h:dq a d e=0):fV (aW a.tree e):=by
 obtain⟨b,c,g⟩:=lz.1 h;exact(oS e _ (lM b.tree) (pZ b c g)).1
theorem Fl:∀p:N,(([512,257,129,65,33,17,9,5,3]:jg N).map λx=>df (bG [(513,p)]) (hgt x.toNat) x.toNat)=[[],[],[],[],[],[],[],[],[]]:=by intro p;kernel_rfl
theorem Ti:∀p:N,(([513,257,129,65,33,17,9,5,3]:jg N).map λx=>df (bG [(512,p)]) (hgt x.toNat) x.toNat)=[[],[],[],[],[],[],[],[],[]]:=by intro p;kernel_rfl
theorem TV:∀p q:N,(([512,257,129,65,33,17,9,5,3]:jg N).map λx=>df (bG [(512,p),(513,q)]) (hgt x.toNat) x.toNat)=[[512],[],[],[],[],[],[],[],[]]:=by intro p q;kernel_rfl
theorem wN:eo (aW (aK 3).tree [cP 1]) 1=[]/\eo (aW gS1.tree [cP 0]) 1=[(1,512)]/\eo (aW cU.tree [dK 1 5]) 0=[]/\eo (aW cU.tree [dK 0 5]) 1=[]:=by
 obtain⟨e,b⟩:=A8;obtain⟨c,f,d⟩:=MZ;refine⟨?_,?_,?_,?_⟩
 ·have a:(([512,257,129,65,33,17,9,5,3]:jg N).map λx=>df (bG (aW (aK 3).tree [cP 1])) (hgt x.toNat) x.toNat)=[[],[],[],[],[],[],[],[],[]]:=by rw[Gm];exact Fl _
  rw[wH (uP AS) zS G G a]
  rfl
 ·have a:(([512,257,129,65,33,17,9,5,3]:jg N).map λx=>df (bG (aW gS1.tree [cP 0])) (hgt x.toNat) x.toNat)=[[512],[],[],[],[],[],[],[],[]]:=by rw[b];exact TV _ _
  rw[wH (uP AT) zS G G a]
  rfl
 ·have a:(([513,257,129,65,33,17,9,5,3]:jg N).map λx=>df (bG (aW cU.tree [dK 1 5])) (hgt x.toNat) x.toNat)=[[],[],[],[],[],[],[],[],[]]:=by rw[c];exact Ti _
  rw[wH (uP yD) RP G G a]
  rfl
 have a:(([512,257,129,65,33,17,9,5,3]:jg N).map λx=>df (bG (aW cU.tree [dK 0 5])) (hgt x.toNat) x.toNat)=[[],[],[],[],[],[],[],[],[]]:=by rw[d];exact Fl _
 rw[wH (uP zv) zS G G a]
 rfl
theorem wD:du 1 [cP 1]=[]/\du 1 [cP 0]=[cP 0]/\du 0 [dK 1 5]=[]/\du 1 [dK 0 5]=[]:=by
 refine⟨?_,?_,?_,?_⟩
 ·unfold du kW
  rw[qN G,qn];simp[fi]
 ·unfold du kW
  rw[List.filter_cons_of_pos G,qn];simp[fi]
 ·unfold du kW
  rw[qN G,qn];simp[fi]
 unfold du kW;rw[qN G,qn];simp[fi]
section
set_option maxRecDepth 1000000
def bzn(k n:ja):LBy:=(r4 k).map λi=>BitVec.ofNat 8 (n/256^(k-1-i))
def bz(n:ja):LBy:=bzn 32 n
theorem uZ{a:Grp}{d:N}{b:ja}{e:jg ap}{h o:LBy}{p:jg Bx}{H:jg Wl}{x:jg N}{u body f msg:LBy}{M y:ja}
 (k:lZ h=x) (l:dM a h o=u) (j:cW kL ((aR ⟨a.folder,a.epoch+1,a.last,d,e,x,p,H,cG,0,0⟩).take 8)=body) (m:iY u body=f)
 (n:dp ⟨a.folder,a.epoch+1,a.last,d,e,x,p,H,f,0,0⟩=msg) (init:pw 4 (iS b msg)=M) (c:m7 b msg=y):
 mkF a d b e h o p H=⟨a.folder,a.epoch+1,a.last,d,e,x,p,H,f,(M:ja),(y:ja)⟩:=by
 have q:nh a d e h o p H=⟨a.folder,a.epoch+1,a.last,d,e,x,p,H,cG,0,0⟩:=by unfold nh;rw[k]
 have t:lE a d e h o p H=⟨a.folder,a.epoch+1,a.last,d,e,x,p,H,f,0,0⟩:=by
  unfold lE;rw[q,l];dsimp only at j⊢;rw[j,m]
 unfold mkF;rw[t,n,init,c]
theorem Gt:aA (kz 1) 1=bz 92947053214586472348261825333834548428676820749397000367760927962054231880206:=by rw[aA,aA];decide+kernel
theorem EB:aA (kz 1) 2=bz 110269909067070830460258195486788993570795853927037390172319513479910842111086:=by rw[aA,Gt];decide+kernel
theorem Cj:aA (kz 1) 3=bz 25892258339256454676443945956354232645023697359747327914787591083075305642554:=by rw[aA,EB];decide+kernel
theorem BI:aA (kz 1) 4=bz 38690980210331588110400036669245523398886357721832508197118173294600712690993:=by rw[aA,Cj];decide+kernel
theorem El:aA (kz 1) 5=bz 44385089301805622807802772369333755547620878409928888610337709062735322103782:=by rw[aA,BI];decide+kernel
theorem Hw:aA (kz 1) 6=bz 89203680705282144270341728638031108040740304520070780012083671599142392496052:=by rw[aA,El];decide+kernel
theorem DC:aA (kz 1) 7=bz 100551540601728949310560055356990068823531297451471705944642868317943424802089:=by rw[aA,Hw];decide+kernel
theorem FP:aA (kz 1) 8=bz 80773885239101932582560612707767667507454745959666497068145301597327502169229:=by rw[aA,DC];decide+kernel
theorem CI:aA (kz 1) 9=bz 32932589713238151175116942116042105857792114562720779989060310603950895136414:=by rw[aA,FP];decide+kernel
theorem TG:pw 4 (aS (aA (kz 1) 0))=3982525525669097395:=by rw[aA];decide+kernel
theorem LW:pw 4 (aS (aA (kz 1) 1))=3368371570921412518:=by rw[Gt];decide+kernel
theorem S8:pw 4 (aS (aA (kz 1) 2))=2420363809147598689:=by rw[EB];decide+kernel
theorem MA:pw 4 (aS (aA (kz 1) 3))=53518799388614053:=by rw[Cj];decide+kernel
theorem P5:pw 4 (aS (aA (kz 1) 4))=2894597427308308891:=by rw[BI];decide+kernel
theorem Pd:pw 4 (aS (aA (kz 1) 5))=2396399926350998175:=by rw[El];decide+kernel
theorem QR:pw 4 (aS (aA (kz 1) 6))=3259069423189128266:=by rw[Hw];decide+kernel
theorem PT:pw 4 (aS (aA (kz 1) 7))=1205985981775409817:=by rw[DC];decide+kernel
theorem Lb:pw 4 (aS (aA (kz 1) 8))=2101393345108455879:=by rw[FP];decide+kernel
theorem KJ:pw 4 (aS (aA (kz 1) 9))=2875087179471260367:=by rw[CI];decide+kernel
def pl1:jg N:=[3982525525669097395,3368371570921412518,2420363809147598689,53518799388614053,2894597427308308891,2396399926350998175,3259069423189128266,1205985981775409817,2101393345108455879,2875087179471260367]
theorem pa1:lZ (kz 1)=pl1:=by
 show [((pw 4 (aS (aA (kz 1) 0)):ja):N),((pw 4 (aS (aA (kz 1) 1)):ja):N),((pw 4 (aS (aA (kz 1) 2)):ja):N),((pw 4 (aS (aA (kz 1) 3)):ja):N),((pw 4 (aS (aA (kz 1) 4)):ja):N),((pw 4 (aS (aA (kz 1) 5)):ja):N),((pw 4 (aS (aA (kz 1) 6)):ja):N),((pw 4 (aS (aA (kz 1) 7)):ja):N),((pw 4 (aS (aA (kz 1) 8)):ja):N),((pw 4 (aS (aA (kz 1) 9)):ja):N)]=_;rw[TG,LW,S8,MA,P5,Pd,QR,PT,Lb,KJ];rfl
theorem zz:aA (kz 2) 1=bz 7795026126522001566530479997073560168090451678956069711981303104202711385306:=by rw[aA,aA];decide+kernel
theorem Hv:aA (kz 2) 2=bz 78643572629378111538628181399693355582309667718313446362834464818673189624336:=by rw[aA,zz];decide+kernel
theorem Hi:aA (kz 2) 3=bz 114108813753808823508573204213242017525290924912032827683083883622471437070517:=by rw[aA,Hv];decide+kernel
theorem Gp:aA (kz 2) 4=bz 113855224720463661563885976400783124269809154446430648728169800553026566981714:=by rw[aA,Hi];decide+kernel
theorem F4:aA (kz 2) 5=bz 32524229718462889697687133027243686621107296854090295308046354960141566043497:=by rw[aA,Gp];decide+kernel
theorem CH:aA (kz 2) 6=bz 56788005722780344953335773866346267966372028095981818404508348894266993562800:=by rw[aA,F4];decide+kernel
theorem Hl:aA (kz 2) 7=bz 2014910312052460976280735825190903697928716350251033593519941492829749524222:=by rw[aA,CH];decide+kernel
theorem Gi:aA (kz 2) 8=bz 76869863361308483062111728667213287504179821872492424401802065332902998049894:=by rw[aA,Hl];decide+kernel
theorem BB:aA (kz 2) 9=bz 72678393599735024128468285507161992898562739420159586140064223818366269839631:=by rw[aA,Gi];decide+kernel
theorem PW:pw 4 (aS (aA (kz 2) 0))=4572362397544290297:=by rw[aA];decide+kernel
theorem KT:pw 4 (aS (aA (kz 2) 1))=83602551327005630:=by rw[zz];decide+kernel
theorem Lj:pw 4 (aS (aA (kz 2) 2))=3980522495517885342:=by rw[Hv];decide+kernel
theorem QL:pw 4 (aS (aA (kz 2) 3))=861726599088549604:=by rw[Hi];decide+kernel
theorem PF:pw 4 (aS (aA (kz 2) 4))=382661267723870360:=by rw[Gp];decide+kernel
theorem KU:pw 4 (aS (aA (kz 2) 5))=4361949050238618437:=by rw[F4];decide+kernel
theorem Of:pw 4 (aS (aA (kz 2) 6))=2067886714649420014:=by rw[CH];decide+kernel
theorem Ty:pw 4 (aS (aA (kz 2) 7))=2197768742755191226:=by rw[Hl];decide+kernel
theorem Q9:pw 4 (aS (aA (kz 2) 8))=545361312990491382:=by rw[Gi];decide+kernel
theorem ON:pw 4 (aS (aA (kz 2) 9))=3014658826702240148:=by rw[BB];decide+kernel
def pl2:jg N:=[4572362397544290297,83602551327005630,3980522495517885342,861726599088549604,382661267723870360,4361949050238618437,2067886714649420014,2197768742755191226,545361312990491382,3014658826702240148]
theorem pa2:lZ (kz 2)=pl2:=by
 show [((pw 4 (aS (aA (kz 2) 0)):ja):N),((pw 4 (aS (aA (kz 2) 1)):ja):N),((pw 4 (aS (aA (kz 2) 2)):ja):N),((pw 4 (aS (aA (kz 2) 3)):ja):N),((pw 4 (aS (aA (kz 2) 4)):ja):N),((pw 4 (aS (aA (kz 2) 5)):ja):N),((pw 4 (aS (aA (kz 2) 6)):ja):N),((pw 4 (aS (aA (kz 2) 7)):ja):N),((pw 4 (aS (aA (kz 2) 8)):ja):N),((pw 4 (aS (aA (kz 2) 9)):ja):N)]=_;rw[PW,KT,Lj,QL,PF,KU,Of,Ty,Q9,ON];rfl
theorem DV:aA (kz 3) 1=bz 46904460737930777852346229449928834429062247665295844018793763330700240469376:=by rw[aA,aA];decide+kernel
theorem Ie:aA (kz 3) 2=bz 101730935365692994563964248270881352789641712153222409846868437557839033110599:=by rw[aA,DV];decide+kernel
theorem G3:aA (kz 3) 3=bz 40728488087116557286746955838157925602660613431526327412489450425897523334074:=by rw[aA,Ie];decide+kernel
theorem F7:aA (kz 3) 4=bz 99179449191126613624578143328970327338626792620640268053248606503718128807850:=by rw[aA,G3];decide+kernel
theorem Ht:aA (kz 3) 5=bz 56032842510510386555462372023201643267544770558763912154503970267867634372657:=by rw[aA,F7];decide+kernel
theorem Dz:aA (kz 3) 6=bz 53095064823814443809285330713787463797115131544970777857145070560007978820967:=by rw[aA,Ht];decide+kernel
theorem FJ:aA (kz 3) 7=bz 43507548118366430520583849677623852436014510882370163507572407360615036361017:=by rw[aA,Dz];decide+kernel
theorem GG:aA (kz 3) 8=bz 93436734642940098613090714888553887485458246808041010523669472885772065099764:=by rw[aA,FJ];decide+kernel
theorem H3:aA (kz 3) 9=bz 33975105336812410515559925757825706852335543773340134127742992176516891445595:=by rw[aA,GG];decide+kernel
theorem S0:pw 4 (aS (aA (kz 3) 0))=4471659185962668909:=by rw[aA];decide+kernel
theorem MB:pw 4 (aS (aA (kz 3) 1))=3617808682835033999:=by rw[DV];decide+kernel
theorem JL:pw 4 (aS (aA (kz 3) 2))=3001429045986596234:=by rw[Ie];decide+kernel
theorem PD:pw 4 (aS (aA (kz 3) 3))=2225913278891432786:=by rw[G3];decide+kernel
theorem Lo:pw 4 (aS (aA (kz 3) 4))=974775673560239181:=by rw[F7];decide+kernel
theorem P6:pw 4 (aS (aA (kz 3) 5))=2657093889804896221:=by rw[Ht];decide+kernel
theorem Nm:pw 4 (aS (aA (kz 3) 6))=3803846485021874901:=by rw[Dz];decide+kernel
theorem TM:pw 4 (aS (aA (kz 3) 7))=4258262581727677338:=by rw[FJ];decide+kernel
theorem JA:pw 4 (aS (aA (kz 3) 8))=204465990907776052:=by rw[GG];decide+kernel
theorem LR:pw 4 (aS (aA (kz 3) 9))=166027103051556743:=by rw[H3];decide+kernel
def pl3:jg N:=[4471659185962668909,3617808682835033999,3001429045986596234,2225913278891432786,974775673560239181,2657093889804896221,3803846485021874901,4258262581727677338,204465990907776052,166027103051556743]
theorem pa3:lZ (kz 3)=pl3:=by
 show [((pw 4 (aS (aA (kz 3) 0)):ja):N),((pw 4 (aS (aA (kz 3) 1)):ja):N),((pw 4 (aS (aA (kz 3) 2)):ja):N),((pw 4 (aS (aA (kz 3) 3)):ja):N),((pw 4 (aS (aA (kz 3) 4)):ja):N),((pw 4 (aS (aA (kz 3) 5)):ja):N),((pw 4 (aS (aA (kz 3) 6)):ja):N),((pw 4 (aS (aA (kz 3) 7)):ja):N),((pw 4 (aS (aA (kz 3) 8)):ja):N),((pw 4 (aS (aA (kz 3) 9)):ja):N)]=_;rw[S0,MB,JL,PD,Lo,P6,Nm,TM,JA,LR];rfl
theorem Cg:aA (kz 4) 1=bz 50722205186391903595132185935550243514785757736150323968424273179957915260378:=by rw[aA,aA];decide+kernel
theorem H6:aA (kz 4) 2=bz 101310645668282014026348788696419716451190150362053753708536171234038456856707:=by rw[aA,Cg];decide+kernel
theorem G6:aA (kz 4) 3=bz 42376911518104537199852456965600289776964293368915876846180987369823919944846:=by rw[aA,H6];decide+kernel
theorem Cr:aA (kz 4) 4=bz 92777326006413517535642294566398491312292136436067891343560110706895332312186:=by rw[aA,G6];decide+kernel
theorem Cz:aA (kz 4) 5=bz 13532582193433087599370014281589388409497560774222296801713207669392413658087:=by rw[aA,Cr];decide+kernel
theorem BG:aA (kz 4) 6=bz 95055745239012566121540913178029454666690195084440460800017035152292777760850:=by rw[aA,Cz];decide+kernel
theorem Gn:aA (kz 4) 7=bz 15529787399067858416926276930027456261191774492478224736741866638593695587050:=by rw[aA,BG];decide+kernel
theorem FH:aA (kz 4) 8=bz 22492036315392790401503571428077834369844364048405240334831675570703168145467:=by rw[aA,Gn];decide+kernel
theorem BH:aA (kz 4) 9=bz 50776473759655940268073372889152495648905650426791004802066150283028038399796:=by rw[aA,FH];decide+kernel
theorem QW:pw 4 (aS (aA (kz 4) 0))=387509236366328249:=by rw[aA];decide+kernel
theorem MX:pw 4 (aS (aA (kz 4) 1))=3509365028658716024:=by rw[Cg];decide+kernel
theorem K8:pw 4 (aS (aA (kz 4) 2))=2098131147301025627:=by rw[H6];decide+kernel
theorem PS:pw 4 (aS (aA (kz 4) 3))=3393190081034882839:=by rw[G6];decide+kernel
theorem Ln:pw 4 (aS (aA (kz 4) 4))=2977238981076608589:=by rw[Cr];decide+kernel
theorem Tu:pw 4 (aS (aA (kz 4) 5))=3900264601396445229:=by rw[Cz];decide+kernel
theorem PQ:pw 4 (aS (aA (kz 4) 6))=1096630281638188484:=by rw[BG];decide+kernel
theorem Oq:pw 4 (aS (aA (kz 4) 7))=1923971880346926212:=by rw[Gn];decide+kernel
theorem MP:pw 4 (aS (aA (kz 4) 8))=3249172878372356751:=by rw[FH];decide+kernel
theorem Ma:pw 4 (aS (aA (kz 4) 9))=4368071318166190663:=by rw[BH];decide+kernel
def pl4:jg N:=[387509236366328249,3509365028658716024,2098131147301025627,3393190081034882839,2977238981076608589,3900264601396445229,1096630281638188484,1923971880346926212,3249172878372356751,4368071318166190663]
theorem pa4:lZ (kz 4)=pl4:=by
 show [((pw 4 (aS (aA (kz 4) 0)):ja):N),((pw 4 (aS (aA (kz 4) 1)):ja):N),((pw 4 (aS (aA (kz 4) 2)):ja):N),((pw 4 (aS (aA (kz 4) 3)):ja):N),((pw 4 (aS (aA (kz 4) 4)):ja):N),((pw 4 (aS (aA (kz 4) 5)):ja):N),((pw 4 (aS (aA (kz 4) 6)):ja):N),((pw 4 (aS (aA (kz 4) 7)):ja):N),((pw 4 (aS (aA (kz 4) 8)):ja):N),((pw 4 (aS (aA (kz 4) 9)):ja):N)]=_;rw[QW,MX,K8,PS,Ln,Tu,PQ,Oq,MP,Ma];rfl
def gq1:Grp:=⟨3,0,cG,[],[]⟩
theorem se1:dM gq1 (kz 1) (kz 1)=bz 11587432877149456826038772010012695763244694783340461140323635969870305861011:=by unfold dM;rw[CI];decide+kernel
theorem bo1:cW kL ((aR ⟨3,1,cG,1,[⟨1,1,64,64,0⟩],pl1,[],[],cG,0,0⟩).take 8)=bz 59178843141278552747077220196396757512064675479112619899357449785079483226147:=by decide+kernel
theorem co1:iY (bz 11587432877149456826038772010012695763244694783340461140323635969870305861011) (bz 59178843141278552747077220196396757512064675479112619899357449785079483226147)=bz 103875796824923414196824021614561014878573348506570782549374484912780481974313:=by decide+kernel
theorem ms1:dp ⟨3,1,cG,1,[⟨1,1,64,64,0⟩],pl1,[],[],bz 103875796824923414196824021614561014878573348506570782549374484912780481974313,0,0⟩=bz 98181464338107786806568372226347940484695391662024152663985610118788978991738:=by decide+kernel
theorem sr1:pw 4 (iS 3 (bz 98181464338107786806568372226347940484695391662024152663985610118788978991738))=3775612072464831930:=by decide+kernel
theorem ss1:m7 3 (bz 98181464338107786806568372226347940484695391662024152663985610118788978991738)=830699883390057841:=by decide+kernel
def cq1:Cmt:=⟨3,1,cG,1,[⟨1,1,64,64,0⟩],pl1,[],[],bz 103875796824923414196824021614561014878573348506570782549374484912780481974313,3775612072464831930,830699883390057841⟩
theorem cm1:mkF gq1 1 3 [⟨1,1,64,64,0⟩] (kz 1) (kz 1) [] []=cq1:=uZ pa1 se1 bo1 co1 ms1 sr1 ss1
theorem id1:aG cq1=bz 60992011752960795406008006297352343504793997280000501183144456388909801558589:=by decide+kernel
end
section
set_option maxRecDepth 1000000
def gq2:Grp:=⟨3,1,bz 60992011752960795406008006297352343504793997280000501183144456388909801558589,[],[]⟩
def bx2:jg Bx:=[⟨512,1,2801750266817263894,bzn 48 8550460389822551234691172542154060837740394151504701374635927435609034206085716453024328047452611061461299859318243⟩]
def wl2:jg Wl:=[⟨0,3156406232766253868,bzn 48 30328976050764050497863295521349111085652616993088484896582654896404348041333169072959794622030448471618480304798837⟩]
theorem se2:dM gq2 (kz 2) (kz 1)=bz 86300630709454735566991282598813013915515185164968841693825136527240578538799:=by unfold dM;rw[BB];decide+kernel
theorem bo2:cW kL ((aR ⟨3,2,bz 60992011752960795406008006297352343504793997280000501183144456388909801558589,1,[⟨1,0,16,16,0⟩],pl2,bx2,wl2,cG,0,0⟩).take 8)=bz 111836705245294279712540714532115813126359755190493950792635559288785812804591:=by decide+kernel
theorem co2:iY (bz 86300630709454735566991282598813013915515185164968841693825136527240578538799) (bz 111836705245294279712540714532115813126359755190493950792635559288785812804591)=bz 66874548954937515799626712096825392219475791935152822755709587926395103290192:=by decide+kernel
theorem ms2:dp ⟨3,2,bz 60992011752960795406008006297352343504793997280000501183144456388909801558589,1,[⟨1,0,16,16,0⟩],pl2,bx2,wl2,bz 66874548954937515799626712096825392219475791935152822755709587926395103290192,0,0⟩=bz 60029244016365655121296611949084526167943574304834986623221294609187733568761:=by decide+kernel
theorem sr2:pw 4 (iS 3 (bz 60029244016365655121296611949084526167943574304834986623221294609187733568761))=2686710751992989885:=by decide+kernel
theorem ss2:m7 3 (bz 60029244016365655121296611949084526167943574304834986623221294609187733568761)=1618199608460444900:=by decide+kernel
def cq2:Cmt:=⟨3,2,bz 60992011752960795406008006297352343504793997280000501183144456388909801558589,1,[⟨1,0,16,16,0⟩],pl2,bx2,wl2,bz 66874548954937515799626712096825392219475791935152822755709587926395103290192,2686710751992989885,1618199608460444900⟩
theorem cm2:mkF gq2 1 3 [⟨1,0,16,16,0⟩] (kz 2) (kz 1) bx2 wl2=cq2:=uZ pa2 se2 bo2 co2 ms2 sr2 ss2
theorem id2:aG cq2=bz 88992349110045890293031702689725335422885112073919865013635317827805150740113:=by decide+kernel
def gq3:Grp:=⟨3,2,bz 88992349110045890293031702689725335422885112073919865013635317827805150740113,[],[]⟩
theorem se3:dM gq3 (kz 3) (kz 1)=bz 14140827853253934465713609576110972707195609043612048008240041617846791945706:=by unfold dM;rw[H3];decide+kernel
theorem bo3:cW kL ((aR ⟨3,3,bz 88992349110045890293031702689725335422885112073919865013635317827805150740113,0,[⟨2,1,0,0,5⟩],pl3,[],[],cG,0,0⟩).take 8)=bz 11965895166114973089929953304706452019811316119355055290507520295581964366986:=by decide+kernel
theorem co3:iY (bz 14140827853253934465713609576110972707195609043612048008240041617846791945706) (bz 11965895166114973089929953304706452019811316119355055290507520295581964366986)=bz 27561883997766735046413595882050119573792003876001794290709968006452573935485:=by decide+kernel
theorem ms3:dp ⟨3,3,bz 88992349110045890293031702689725335422885112073919865013635317827805150740113,0,[⟨2,1,0,0,5⟩],pl3,[],[],bz 27561883997766735046413595882050119573792003876001794290709968006452573935485,0,0⟩=bz 38162426039600690362604798942281649593738812862695932429585278224974558400764:=by decide+kernel
theorem sr3:pw 4 (iS 2 (bz 38162426039600690362604798942281649593738812862695932429585278224974558400764))=1577396955371366354:=by decide+kernel
theorem ss3:m7 2 (bz 38162426039600690362604798942281649593738812862695932429585278224974558400764)=75771689533523714:=by decide+kernel
def cq3:Cmt:=⟨3,3,bz 88992349110045890293031702689725335422885112073919865013635317827805150740113,0,[⟨2,1,0,0,5⟩],pl3,[],[],bz 27561883997766735046413595882050119573792003876001794290709968006452573935485,1577396955371366354,75771689533523714⟩
theorem cm3:mkF gq3 0 2 [⟨2,1,0,0,5⟩] (kz 3) (kz 1) [] []=cq3:=uZ pa3 se3 bo3 co3 ms3 sr3 ss3
theorem id3:aG cq3=bz 32371387926736634216535347702442327293048012036282422387908802099916694618635:=by decide+kernel
def gq4:Grp:=⟨3,2,bz 88992349110045890293031702689725335422885112073919865013635317827805150740113,[],[]⟩
theorem se4:dM gq4 (kz 4) (kz 1)=bz 31717900871116426940974248920179605542417805662885447996228938546984442708731:=by unfold dM;rw[BH];decide+kernel
theorem bo4:cW kL ((aR ⟨3,3,bz 88992349110045890293031702689725335422885112073919865013635317827805150740113,1,[⟨2,0,0,0,5⟩],pl4,[],[],cG,0,0⟩).take 8)=bz 96895921174342806548929680580763891585996086404844077971508438049742290544176:=by decide+kernel
theorem co4:iY (bz 31717900871116426940974248920179605542417805662885447996228938546984442708731) (bz 96895921174342806548929680580763891585996086404844077971508438049742290544176)=bz 34091518182390227652338508222211088701835031511056991201772480224585938545050:=by decide+kernel
theorem ms4:dp ⟨3,3,bz 88992349110045890293031702689725335422885112073919865013635317827805150740113,1,[⟨2,0,0,0,5⟩],pl4,[],[],bz 34091518182390227652338508222211088701835031511056991201772480224585938545050,0,0⟩=bz 60840287528674358614910522863630861983419329702507194380485367051938083405796:=by decide+kernel
theorem sr4:pw 4 (iS 3 (bz 60840287528674358614910522863630861983419329702507194380485367051938083405796))=1969310725839796123:=by decide+kernel
theorem ss4:m7 3 (bz 60840287528674358614910522863630861983419329702507194380485367051938083405796)=1860957067704991380:=by decide+kernel
def cq4:Cmt:=⟨3,3,bz 88992349110045890293031702689725335422885112073919865013635317827805150740113,1,[⟨2,0,0,0,5⟩],pl4,[],[],bz 34091518182390227652338508222211088701835031511056991201772480224585938545050,1969310725839796123,1860957067704991380⟩
theorem cm4:mkF gq4 1 3 [⟨2,0,0,0,5⟩] (kz 4) (kz 1) [] []=cq4:=uZ pa4 se4 bo4 co4 ms4 sr4 ss4
theorem id4:aG cq4=bz 40399255312295421589678605028887707432260949857411389580315019617144268743788:=by decide+kernel
end
section
set_option maxRecDepth 1000000
theorem ex2:dZ (kz 2) gO [1,512]=bz 28834796812059796831153880214034695305042619698714721074953174729757338840647:=by decide+kernel
theorem wr2:gh (bz 28834796812059796831153880214034695305042619698714721074953174729757338840647)=1411647746223762745:=by decide+kernel
theorem hd2:iV (iX gq2 1 [⟨1,0,16,16,0⟩] (kz 2)) gO [1,512]=bz 2501810280086358338482877340928844570746966646813275981558870108572385983696:=by decide+kernel
theorem wk2:nW 16 2801750266817263894 1220890677202315452=bz 35782427620651771022322598411519022916935147931825569834900726163485863973335:=by decide+kernel
theorem Qr:oL (bz 35782427620651771022322598411519022916935147931825569834900726163485863973335) sj (bz 2501810280086358338482877340928844570746966646813275981558870108572385983696) (bz 7795026126522001566530479997073560168090451678956069711981303104202711385306)=bzn 48 8550460389822551234691172542154060837740394151504701374635927435609034206085716453024328047452611061461299859318243:=by decide+kernel
theorem pb2:pw 4 1411647746223762745=2801750266817263894:=by decide+kernel
theorem pc2:pw 16 1411647746223762745=1220890677202315452:=by decide+kernel
theorem Np:pf gq2 1 [⟨1,0,16,16,0⟩] (kz 2) (kz 2) (1,512) 16=⟨512,1,2801750266817263894,bzn 48 8550460389822551234691172542154060837740394151504701374635927435609034206085716453024328047452611061461299859318243⟩:=by
 unfold pf rq;dsimp only;rw[ex2,wr2,hd2,show aA (kz 2) (1:N).toNat=aA (kz 2) 1 from I,zz,pb2,pc2,wk2,Qr];rfl
theorem ex3:dZ (kz 2) kq [0]=bz 85658980463103618253254359257392765658075469388387170265357785600735784020057:=by decide+kernel
theorem wr3:gh (bz 85658980463103618253254359257392765658075469388387170265357785600735784020057)=735819052497938333:=by decide+kernel
theorem hd3:iV (iX gq2 1 [⟨1,0,16,16,0⟩] (kz 2)) kq [0]=bz 2477595739808375406656291175005832148916796608310543197002793270942918024589:=by decide+kernel
theorem wk3:nW 16 3156406232766253868 2332544211292724166=bz 37564205058184885572817594063299281707782672538304462235945086542858599395842:=by decide+kernel
theorem Ng:oL (bz 37564205058184885572817594063299281707782672538304462235945086542858599395842) sj (bz 2477595739808375406656291175005832148916796608310543197002793270942918024589) (bz 86300630709454735566991282598813013915515185164968841693825136527240578538799)=bzn 48 30328976050764050497863295521349111085652616993088484896582654896404348041333169072959794622030448471618480304798837:=by decide+kernel
theorem pb3:pw 4 735819052497938333=3156406232766253868:=by decide+kernel
theorem pc3:pw 16 735819052497938333=2332544211292724166:=by decide+kernel
theorem Ji:oQ gq2 1 [⟨1,0,16,16,0⟩] (kz 2) (kz 1) (kz 2) ⟨1,0,16,16,0⟩=⟨0,3156406232766253868,bzn 48 30328976050764050497863295521349111085652616993088484896582654896404348041333169072959794622030448471618480304798837⟩:=by
 unfold oQ rq;dsimp only;rw[ex3,wr3,hd3,se2,show(16:N).toNat=16 from I,pb3,pc3,wk3,Ng];rfl
end
section
set_option maxRecDepth 1000000
theorem wO{b:ja}{H:jg Wl}(f:(eo (aW a.tree e) d).map (eA a d e h u)=p)(c:(du d e).map (fA a d e h o u)=H):
 mkC a d b e h o u=mkF a d b e h o p H:=by
 rw[<-M9];unfold mkC mk2 mk1 mkX pG vv;rw[f,c]
theorem KV:aX 4 3=64:=by rw[m5];decide+kernel
theorem IC:aX 4 2=16:=by rw[m5];decide+kernel
theorem Tr:cP 1=⟨1,1,64,64,0⟩:=by
 have h:((aX 4 (1+2):ja):N)=64:=by rw[show 1+2=3 from I,KV];rfl
 unfold cP;rw[h];rfl
theorem Bj:cP 0=⟨1,0,16,16,0⟩:=by
 have h:((aX 4 (0+2):ja):N)=16:=by rw[show 0+2=2 from I,IC];rfl
 unfold cP;rw[h];rfl
theorem O1{x:N×N}(g:a.folder=g'.folder)(f:a.epoch=g'.epoch)(c:a.last=g'.last):pf a d e h o x b=pf g' d e h o x b:=by
 have p:iX a d e h=iX g' d e h:=by unfold iX;rw[g,f,c]
 unfold pf;rw[p]
theorem IY(f:a.folder=g'.folder)(g:a.epoch=g'.epoch)(b:a.last=g'.last):oQ a d e h o u V=oQ g' d e h o u V:=by
 have c:iX a d e h=iX g' d e h:=by unfold iX;rw[f,g,b]
 have i:dM a h o=dM g' h o:=by unfold dM;rw[g]
 unfold oQ;rw[c,i]
theorem GU(g:Grp)(c:Cmt):(aC g c).folder=g.folder:=by unfold aC;dsimp only
theorem tv:bF=cq1:=by
 have h:bF=mkF (aK 3) 1 3 [cP 1] (kz 1) (kz 1) [] []:=wO (by rw[wN.1];rfl) (by rw[wD.1];rfl);rw[h,uC (g:=aK 3) (g':=gq1) I I I,Tr,cm1]
theorem lC:gS1.folder=gq2.folder/\gS1.epoch=gq2.epoch/\gS1.last=gq2.last:=by
 have a:gS1.last=aG bF:=AB _ _;refine⟨GU _ _,lW.2.2,?_⟩;rw[a,tv,id1];rfl
theorem ti:bR=cq2:=by
 obtain⟨e,a⟩:=A8;have b:tB (aW gS1.tree [cP 0]) (512:N)=16:=by
  rw[a,IC];rfl
 have c:(eo (aW gS1.tree [cP 0]) 1).map (eA gS1 1 [cP 0] (kz 2) (kz 2))=bx2:=by
  rw[wN.2.1,jY,jV,L2 (x:=(1,512)) b,Kg,O1 lC.1 lC.2.1 lC.2.2,Bj,Np];rfl
 have d:(du 1 [cP 0]).map (fA gS1 1 [cP 0] (kz 2) (kz 1) (kz 2))=wl2:=by
  rw[wD.2.1,jY,jV,Tl,IY lC.1 lC.2.1 lC.2.2,Bj,Ji];rfl
 have h:bR=mkF gS1 1 3 [cP 0] (kz 2) (kz 1) bx2 wl2:=wO c d;rw[h,uC lC.1 lC.2.1 lC.2.2,Bj,cm2]
theorem pL:cU.folder=gq3.folder/\cU.epoch=gq3.epoch/\cU.last=gq3.last:=by
 have a:cU.last=aG bR:=AB _ _;refine⟨(GU _ _).trans lC.1,fu.2.2,?_⟩;rw[a,ti,id2];rfl
theorem tZ:cS3=cq3:=by
 have h:cS3=mkF cU 0 2 [dK 1 5] (kz 3) (kz 1) [] []:=wO (by rw[wN.2.2.1];rfl) (by rw[wD.2.2.1];rfl);rw[h,uC pL.1 pL.2.1 pL.2.2,show dK 1 5=⟨2,1,0,0,5⟩from I,cm3]
theorem ua:cM=cq4:=by
 have h:cM=mkF cU 1 3 [dK 0 5] (kz 4) (kz 1) [] []:=wO (by rw[wN.2.2.2];rfl) (by rw[wD.2.2.2];rfl);rw[h,uC (g':=gq4) pL.1 pL.2.1 pL.2.2,show dK 0 5=⟨2,0,0,0,5⟩from I,cm4]
theorem oH:dW 3 cS3 bR cM bF:=
 IZ (by rw[tZ,ti,id3,id2];decide+kernel) (by rw[tZ,ua,id3,id4];decide+kernel) (by rw[tZ,tv,id3,id1];decide+kernel)
  (by rw[ti,ua,id2,id4];decide+kernel) (by rw[ti,tv,id2,id1];decide+kernel) (by rw[ua,tv,id4,id1];decide+kernel)
end
section
set_option maxRecDepth 1000000
theorem Ku:fH cq1:=by refine⟨?_,?_,?_,?_,?_,?_,?_⟩<;>decide+kernel
theorem Rf:fH cq2:=by refine⟨?_,?_,?_,?_,?_,?_,?_⟩<;>decide+kernel
theorem JO:fH cq3:=by refine⟨?_,?_,?_,?_,?_,?_,?_⟩<;>decide+kernel
theorem L8:fH cq4:=by refine⟨?_,?_,?_,?_,?_,?_,?_⟩<;>decide+kernel
theorem lA:da (aR bF)/\da (aR bR)/\da (aR cS3)/\da (aR cM):=
 ⟨by rw[tv];exact Ku.encOk,by rw[ti];exact Rf.encOk,by rw[tZ];exact JO.encOk,by rw[ua];exact L8.encOk⟩
theorem OS{g:Grp}{vm vt:jk}{d:ja}(j:d<512)(b:j8 8){a:jk}{x:ap}{W:jj}(l:bW W g vm vt)(n:aH (·<W.heap.size) W a 5 1 x.cells)(o:gH W)(p:gZ g (d:N) ((d+2:ja):N) [x]=0)
 (c:Cmt) (r:c=mkC g (d:N) (d+2) [x] (kz b) (kz 1) (kz b)) (f:gQ g c) (s:da (aR c)):
 jz jo 10 #[jh (aD g vm vt).toArray,jd je (d:N),v8 b,a] W λe w'=>∃q h i,e=jw (jH #[jh (aF c q).toArray,jh (aD (aC g c) h i).toArray,.bool ji])/\
  aZ (λk=>W.heap.size<=k/\k<w'.heap.size) w' c q/\dO (λk=>W.heap.size<=k/\k<w'.heap.size) w' (aC g c) h i/\jl W W w':=by
 have B:=oM f.val;refine(Rn g vm vt d j b a [x] W l (by rw[xn,xo,qh];exact n) o p c r (iR.2 f) s Y Y ar).mono ?_;rintro e w' ⟨q,m,t,k,u,v,w,y,z⟩;exact⟨q,m,t,k,u,dO.of v w y,z⟩
structure SSt(w:jj)(BL:jg (ja×jp jk×jJ))(CL:jg CP)(GL:jg (Grp×jk×jk))(x:jj):Prop where
 blk:∀e∈BL,x.heap[e.1]?=A (jc e.2.1 e.2.2 (0,0))
 com:∀p∈CL,aZ (·<x.heap.size) x p.1 p.2
 grp:∀p∈GL,bW x p.1 p.2.1 p.2.2
 tab:gH x
 bel:jl w w x
section
variable {w x x':jj} {BL:jg (ja×jp jk×jJ)} {CL:jg CP} {GL:jg (Grp×jk×jk)}
theorem SSt.below(h:SSt w BL CL GL x)(a:jl x x x'):SSt w BL CL GL x':=
 ⟨λe he=>av (h.blk e he) a,λp b=>(h.com p b).below a,λp b=>(h.grp p b).below a,h.tab.below a,h.bel.trans (a.mono h.bel.size)⟩
theorem SSt.block(h:SSt w BL CL GL x){b:ja}{a:jp jk}{t:jJ}(c:x.heap[b]?=A (jc a t (0,0))):SSt w ((b,a,t)::BL) CL GL x:=
 ⟨λe he=>(qk.1 he).elim (λd=>d▸c) (h.blk e),h.com,h.grp,h.tab,h.bel⟩
theorem SSt.made(h:SSt w BL CL GL x){c:Cmt}{q:CQ}{g:Grp}{vm vt:jk}{D:ja->Prop}(d:aZ D x c q)(e:∀k,D k->k<x.heap.size)(f:bW x g vm vt):SSt w BL ((c,q)::CL) ((g,vm,vt)::GL) x:=
 ⟨h.blk,λp a=>(qk.1 a).elim (λb=>b▸d.mono e) (h.com p),λp a=>(qk.1 a).elim (λb=>b▸f) (h.grp p),h.tab,h.bel⟩
theorem SSt.start(a:gH w):SSt w [] [] [] w:=⟨λe h=>(by cases h),λe h=>(by cases h),λe h=>(by cases h),a,lw _ _⟩
end
theorem uM{W:jj}{g k:ja}{a:jp jk}{e:jJ}(h:W.heap[g]?=A (jc a e (0,0)))(b:a.size=k):aH (·<W.heap.size) W (jb (A ⟨g,0,jf⟩) 1 1) k 1 a.toList:=by
 refine⟨by rw[wi,b,Nat.one_mul],_,1,I,jE _,(λe=>by cases e),λ_=>⟨g,0,I,(jB.1 h).1,λj d c=>?_⟩⟩;rw[qV];exact ah h (ak c)
noncomputable def RCg:eI jo:=.of 53 61 5 40 (jh #[jd je 0,jd je 0,jd je 0,jd je 0,jd je 0]) underlying53 af I G G G
def vN:jk:=jb jf 0 0
def AG3:jp jk:=(aD (aK 3) vN vN).toArray
theorem IQ{a:Act}{o:jK}(b:o.op=.build 51 #[(0,.const (jd je 3))])(W:jj):
 (jP a.eval o).run jo W=.ok (.value (jh AG3)) W:=by
 simp only[jP,b]
 kernel_rfl
theorem SI(w:jj)(f:N):bW w (aK f) vN vN:=
 ⟨⟨rfl,jf,0,rfl,jE _,λ_=>rfl,λh=>jt h (qI _)⟩,oE w,rfl⟩
end
theorem sN(p:jG Addr)(n c:ja)(w:jj):jz jo 35 #[jb p n c] w λe w'=>e=jw (.bool (decide (n<=10)))/\jl w w w':=by
 by_cases h:n<=10
 ·have b:=az ((n:N)<=10)
  have a:=O (qa h)
  go_enter func35,ntmps35
  go_wp2_with fail
  go_ret;exact⟨by rw[a];rfl,lw _ _⟩
 have b:=aw ((n:N)<=10);have a:=O (decide_eq_false h)
 go_enter func35,ntmps35
 go_wp2_with fail
 go_ret;exact⟨by rw[a];rfl,lw _ _⟩
theorem MW(c:Cmt)(q:CQ)(w:jj)(a:aZ (·<w.heap.size) w c q)(X:c.box.length<=maxLen)(l4:c.wel.length<=maxLen):
 jz jo 19 #[jh (aF c q).toArray] w λe w'=>(∃b,e=jw (.bool b)/\(b=ji->tk c))/\jl w w w':=by
 have B:=dV.new w (q:=q) a.plen a.clen;have g:=ao w (jc (aF c q).toArray 57);obtain⟨C,D,H⟩:=a.chg.form;obtain⟨pp,cp,K⟩:=a.path.form;obtain⟨pb,cb,i⟩:∃p E,q.vb=jb p c.box.length E:=by obtain⟨us,h,-⟩:=a.box;exact h.form
 obtain⟨pw,cw,k⟩:∃p E,q.vw=jb p c.wel.length E:=by obtain⟨us,h,-⟩:=a.wel;exact h.form
 obtain⟨-,-,-,F,d,f,n,-,-⟩:=B.at;rw[H]at F;rw[K]at d;rw[i]at f;rw[k]at n;have YA:=O a.box;have WM:=O a.wel;have a1:=O i;have a2:=O k;obtain⟨u,m⟩:=J c.chg.length;obtain⟨np,o⟩:=J c.path.length;obtain⟨r,v⟩:=J c.box.length;obtain⟨s,x⟩:=J c.wel.length;rw[<-m]at F;rw[<-o]at d;rw[<-v]at f X a1;rw[<-x]at n l4 a2;replace X:r<=9223372036854775807:=X;replace l4:s<=9223372036854775807:=l4;have a3:=O m;have a4:=O o;have ZN:=O v;have Ym:=O x;obtain⟨b,y⟩:=J w.heap.size;obtain⟨a5,M⟩:=J ((aF c q).toArray);rw[<-M]at g F d f n⊢;rw[<-y]at F d f n;obtain⟨W,z⟩:=J (w.alloc (jc a5 57));rw[<-z]at g F d f n;have P:=O z;have Q:=O y;have t:=O g;clear B g a H K i k m o v x y M z
 go_enter func19,ntmps19
 go_upto_region 1 with fail
 rw[<-P,<-Q];clear P Q
 go_wp2_with fail
 go_loopw [3] (λi wr=>∃k:ja,i=jd je k/\k<=r/\T (∀x∈c.box.take k,x.body.length<=200)/\wr=W) (λi _=>r-(jQ i).toNat)
 case atStart=>exact⟨0,I,jM _,O ar,I⟩
 obtain⟨k,rfl,hk,a,H⟩:=hrel;rw[H];clear H
 by_cases aa:k<r
 case pos=>
  have ac:=az ((k:N)<(r:N));have ad:=az (k<r);obtain⟨x,v,K⟩:=dL (l:=c.box) (j:=k) (by rw[<-ZN];exact aa);obtain⟨us,M,P⟩:=YA.out;obtain⟨a6,Q,R⟩:=P.at (i:=k) (b:=x.body) (by rw[qc,v];rfl);obtain⟨g,o,E,S,z⟩:=oC M (λ_ _=>rfl) v Q;rw[a1]at S;injection S with e1 e2 e3
  subst e1;subst e3;obtain⟨px,cx,rfl⟩:=R.form;have Yu:=O K;obtain⟨m,B⟩:=J x.body.length;rw[<-B]at z;have d3:W.cell? ⟨g,o+k*4+3,jf⟩=A (jb px m cx):=aB (z 3 _ I) t;have HM:=O B;clear z M P Q R v K e2 B
  by_cases U:200<m
  case pos=>
   have au:=az ((200:N)<(m:N));have ax:=az (200<m);clear U
   go_wp2_with fail
   go_ret;exact⟨⟨jm,I,λh=>by cases h⟩,t⟩
  have au:=aw ((200:N)<(m:N));have ax:=aw (200<m);have ay:T (∀y∈c.box.take (k+1),y.body.length<=200):=O (λy V=>by
   rw[Yu]at V
   rcases j3.1 V with h|h
   ·exact a y h
   obtain rfl:=jN.1 h;have:=HM.out
   omega)
  clear U a
  go_wp2_with fail
  exact⟨⟨k+1,by go_num,by omega,ay,by trivial⟩,by simp only[jQ];omega⟩
 have ac:=aw ((k:N)<(r:N));have ad:=aw (k<r);obtain rfl:r=k:=Y;have Yg:T (∀x∈c.box,x.body.length<=200):=O (by have h:=a.out;rwa [ZN,rv]at h);clear a
 go_wp2_with fail
 go_loopw [4] (λi wr=>∃k:ja,i=jd je k/\k<=s/\T (∀x∈c.wel.take k,x.body.length<=200)/\wr=W) (λi _=>s-(jQ i).toNat)
 case atStart=>exact⟨0,I,jM _,O ar,I⟩
 obtain⟨k,rfl,hk,a,H⟩:=hrel;rw[H];clear H
 by_cases aa:k<s
 case pos=>
  have ac:=az ((k:N)<(s:N));have ad:=az (k<s);obtain⟨x,v,K⟩:=dL (l:=c.wel) (j:=k) (by rw[<-Ym];exact aa);obtain⟨us,M,P⟩:=WM.out;obtain⟨a6,Q,R⟩:=P.at (i:=k) (b:=x.body) (by rw[qc,v];rfl);obtain⟨g,o,E,S,z⟩:=oC M (λ_ _=>rfl) v Q;rw[a2]at S;injection S with e1 e2 e3
  subst e1;subst e3;obtain⟨px,cx,rfl⟩:=R.form;have Yu:=O K;obtain⟨m,B⟩:=J x.body.length;rw[<-B]at z;have d3:W.cell? ⟨g,o+k*3+2,jf⟩=A (jb px m cx):=aB (z 2 _ I) t;have HM:=O B;clear z M P Q R v K e2 B
  by_cases U:200<m
  case pos=>
   have au:=az ((200:N)<(m:N));have ax:=az (200<m);clear U
   go_wp2_with fail
   go_ret;exact⟨⟨jm,I,λh=>by cases h⟩,t⟩
  have au:=aw ((200:N)<(m:N));have ax:=aw (200<m);have ay:T (∀y∈c.wel.take (k+1),y.body.length<=200):=O (λy V=>by
   rw[Yu]at V
   rcases j3.1 V with h|h
   ·exact a y h
   obtain rfl:=jN.1 h;have:=HM.out
   omega)
  clear U a
  go_wp2_with fail
  exact⟨⟨k+1,by go_num,by omega,ay,by trivial⟩,by simp only[jQ];omega⟩
 have ac:=aw ((k:N)<(s:N));have ad:=aw (k<s);obtain rfl:s=k:=Y;have v:T (∀x∈c.wel,x.body.length<=200):=O (by have h:=a.out;rwa [Ym,rv]at h);clear a
 by_cases m:u<=10
 case neg=>
  have i:T (decide (u<=10)=jm):=O (decide_eq_false m);clear m
  go_wp2_with fail
  refine(sN C u D _).mono ?_;rintro e o ⟨rfl,a⟩;have g:=ai t a;clear a;rw[i]
  go_wp2_with fail
  go_ret;exact⟨⟨jm,I,λh=>by cases h⟩,g⟩
 have i:T (decide (u<=10)=ji):=O (qa m);have x:=O m;clear m
 by_cases m:np<=12
 case neg=>
  have y:=aw ((np:N)<=12);clear m
  go_wp2_with fail
  refine(sN C u D _).mono ?_;rintro e o ⟨rfl,a⟩;have g:=ai t a;rw[i];replace d:=aB d a;replace f:=aB f a;replace n:=aB n a;clear a
  go_wp2_with fail
  go_ret;exact⟨⟨jm,I,λh=>by cases h⟩,g⟩
 have y:=az ((np:N)<=12);have z:=O m;clear m
 by_cases m:r<=40
 case neg=>
  have B:=aw ((r:N)<=40);clear m
  go_wp2_with fail
  refine(sN C u D _).mono ?_;rintro e o ⟨rfl,a⟩;have g:=ai t a;rw[i];replace d:=aB d a;replace f:=aB f a;replace n:=aB n a;clear a
  go_wp2_with fail
  go_ret;exact⟨⟨jm,I,λh=>by cases h⟩,g⟩
 have B:=az ((r:N)<=40);have H:=O m;clear m
 by_cases m:s<=10
 case neg=>
  have K:=aw ((s:N)<=10);clear m
  go_wp2_with fail
  refine(sN C u D _).mono ?_;rintro e o ⟨rfl,a⟩;have g:=ai t a;rw[i];replace d:=aB d a;replace f:=aB f a;replace n:=aB n a;clear a
  go_wp2_with fail
  go_ret;exact⟨⟨jm,I,λh=>by cases h⟩,g⟩
 have K:=az ((s:N)<=10);have M:=O m;clear m
 go_wp2_with fail
 refine(sN C u D _).mono ?_;rintro e o ⟨rfl,a⟩;have g:=ai t a;rw[i];replace d:=aB d a;replace f:=aB f a;replace n:=aB n a;clear a
 go_wp2_with fail
 go_ret;exact⟨⟨ji,I,λ_=>⟨Yg,v,by rw[<-a3];exact x,by rw[<-a4];exact z,by rw[<-ZN];exact H,by rw[<-Ym];exact M⟩⟩,g⟩
end Go.Proofs.YthonckffmkefdaaGreatDoor
