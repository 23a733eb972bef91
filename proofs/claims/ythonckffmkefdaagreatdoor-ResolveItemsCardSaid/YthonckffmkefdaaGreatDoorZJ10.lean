/- Contracts of functions that the law reaches, part 10 of 10; no condition. -/
import Derived.Test.YthonckffmkefdaaGreatDoorTie
import Derived.LaidMore
import Derived.Stop.LaidErr
import Derived.Test.YthonckffmkefdaaGreatDoorZJ9
namespace Go.Proofs.YthonckffmkefdaaGreatDoor
set_option maxHeartbeats 64000000
set_option maxRecDepth 100000
set_option linter.unusedVariables false
set_option linter.unusedSimpArgs false
set_option linter.unusedSectionVars false
open Go.RowKit
open Go.Proofs.Tryz
open Go renaming undef->I,Value->jb,World->jk,Calls->jr,TypeId->jA,wpOp_step->jI,DataW->jJ,maxLen->jL,setRow_other->jM,Oper->jP,wp_store_row->jX,setRow_heap->j1,execOp->j9,MemPlace->lw,Program->ow,wp_region_noPanic->o1,Ending->o8,Operand->qc,wpList_plain->qd,below_setRow->qv
open _root_ renaming rfl->N,Int->je,List->jh,Nat->jl,absurd->jq,Array->jt,if_pos->jC,congrArg->jH,decide_eq_true->qb
open Go.Value renaming agg->ja,slice->jj,tuple->jv
open _root_.Option renaming some->jc,none->jm,some->qj,map_eq_some_iff->qX
open Go.RowKit renaming Hid->jd,Below->jp
open Go.Value renaming int->jf
open Go.IntKind renaming i64->jg
open _root_.Bool renaming true->ji,false->ju
open Go.Proofs.Tryz renaming prog->jn
open Go.Obj renaming cells->jo
open Go.Ending renaming returned->js
open _root_.Nat renaming lt_of_lt_of_le->jw,le_refl->jz,le_trans->jO,zero_le->jV,zero_add->qf,lt_irrefl->qg,add_mul->qi,le_of_eq->qn
open Go.Value renaming int->jy,agg->j0,cells->nv,okWide->oj,ownBlock->qB,tuple->qD,oneCell'->qT
open _root_.List renaming length_map->jB,size_toArray->jG,getElem?_append_right->jK,getElem?_eq_some_iff->jN,map_nil->jQ,mem_cons->jR,getElem?_toArray->jW,mem_append->jY,length_append->jZ,getElem?_map->j4,mem_of_getElem?->j6,mem_nil_iff->j7,length_singleton->j8,map_cons->mb,flatMap_cons->ms,getElem?_append_left->mz,drop_eq_getElem_cons->nn,length->n0,append_nil->pz,mem_singleton->p6,take_of_length_le->qa,flatMap_nil->qe,take_length->qh,length_take->qk,mem_toArray->qo,toList_toArray->qs,mem_map_of_mem->qt,find?_append->qw,getElem?_take->qx,append_assoc->qy,map_toArray->qz,flatMap_append->qA,length_cons->qC,map_map->qE,getElem_toArray->qF,getElem_cons_zero->qG,getElem_cons_succ->qH,drop_zero->qI,drop_eq_nil_of_le->qJ,any_eq_true->qO,map_append->qQ,take_append_of_le_length->qS,getElem?_eq_getElem->qU,set_append_right->qV,getElem?_eq_none->qY
open Go.Proofs renaming intOf->jD
open Go.RowKit.Below renaming refl->jE,setCell->qW
open Go.World renaming alloc_heap_new->jF,size_alloc->j5,ownsRow_nil->ql
open _root_.Array renaming getElem?_eq_some_iff->jS,all_eq_true_iff_forall_mem->jT,length_toList->j3,getElem?_setIfInBounds_ne->qK,getElem?_toList->qP,getElem?_setIfInBounds_self_of_lt->qZ
open Go.Proofs.Tryz renaming underlying3->jU,underlying34->qu,underlying26->qL,underlying25->qM,underlying281->qN
open Go.NoPanic renaming normal->ob
variable{f:Grp}{b:LBy}{H:Type}{S:aN}{a:je}{m:jh CK}{e:jh Cmt}{h:jh ap}{p:jh lw}{w:jk}{x:jl}
section
set_option maxRecDepth 1000000
theorem wO{x:jl}{j seed:LBy}{d:jh Bx}{e:jh Wl}(g:(eo (aW f.tree h) a).map (eA f a h b seed)=d)(c:(du a h).map (fA f a h b j seed)=e):
 mkC f a x h b j seed=mkF f a x h b j d e:=by
 rw[<-M9];unfold mkC mk2 mk1 mkX pG vv;rw[g,c]
theorem KV:aX 4 3=64:=by rw[m5];decide+kernel
theorem IC:aX 4 2=16:=by rw[m5];decide+kernel
theorem Tr:cP 1=⟨1,1,64,64,0⟩:=by
 have h:((aX 4 (1+2):jl):je)=64:=by rw[show 1+2=3 from N,KV];rfl
 unfold cP;rw[h];rfl
theorem Bj:cP 0=⟨1,0,16,16,0⟩:=by
 have h:((aX 4 (0+2):jl):je)=16:=by rw[show 0+2=2 from N,IC];rfl
 unfold cP;rw[h];rfl
theorem O1{g':Grp}{j:LBy}{p:je×je}(d:f.folder=g'.folder)(g:f.epoch=g'.epoch)(c:f.last=g'.last):pf f a h b j p x=pf g' a h b j p x:=by
 have e:iX f a h b=iX g' a h b:=by unfold iX;rw[d,g,c]
 unfold pf;rw[e]
theorem IY{g':Grp}{j seed:LBy}{y:ap}(g:f.folder=g'.folder)(d:f.epoch=g'.epoch)(c:f.last=g'.last):oQ f a h b j seed y=oQ g' a h b j seed y:=by
 have e:iX f a h b=iX g' a h b:=by unfold iX;rw[g,d,c]
 have i:dM f b j=dM g' b j:=by unfold dM;rw[d]
 unfold oQ;rw[e,i]
theorem GU(g:Grp)(c:Cmt):(aC g c).folder=g.folder:=by unfold aC;dsimp only
theorem tv:bF=cq1:=by
 have h:bF=mkF (aK 3) 1 3 [cP 1] (kz 1) (kz 1) [] []:=wO (by rw[wN.1];rfl) (by rw[wD.1];rfl);rw[h,uC (g:=aK 3) (g':=gq1) N N N,Tr,cm1]
theorem lC:gS1.folder=gq2.folder/\gS1.epoch=gq2.epoch/\gS1.last=gq2.last:=by
 have a:gS1.last=aG bF:=AB _ _;refine⟨GU _ _,lW.2.2,?_⟩;rw[a,tv,id1];rfl
theorem ti:bR=cq2:=by
 obtain⟨e,a⟩:=A8;have b:tB (aW gS1.tree [cP 0]) (512:je)=16:=by
  rw[a,IC];rfl
 have c:(eo (aW gS1.tree [cP 0]) 1).map (eA gS1 1 [cP 0] (kz 2) (kz 2))=bx2:=by
  rw[wN.2.1,mb,jQ,L2 (x:=(1,512)) b,Kg,O1 lC.1 lC.2.1 lC.2.2,Bj,Np];rfl
 have d:(du 1 [cP 0]).map (fA gS1 1 [cP 0] (kz 2) (kz 1) (kz 2))=wl2:=by
  rw[wD.2.1,mb,jQ,Tl,IY lC.1 lC.2.1 lC.2.2,Bj,Ji];rfl
 have h:bR=mkF gS1 1 3 [cP 0] (kz 2) (kz 1) bx2 wl2:=wO c d;rw[h,uC lC.1 lC.2.1 lC.2.2,Bj,cm2]
theorem pL:cU.folder=gq3.folder/\cU.epoch=gq3.epoch/\cU.last=gq3.last:=by
 have a:cU.last=aG bR:=AB _ _;refine⟨(GU _ _).trans lC.1,fu.2.2,?_⟩;rw[a,ti,id2];rfl
theorem tZ:cS3=cq3:=by
 have h:cS3=mkF cU 0 2 [dK 1 5] (kz 3) (kz 1) [] []:=wO (by rw[wN.2.2.1];rfl) (by rw[wD.2.2.1];rfl);rw[h,uC pL.1 pL.2.1 pL.2.2,show dK 1 5=⟨2,1,0,0,5⟩from N,cm3]
theorem ua:cM=cq4:=by
 have h:cM=mkF cU 1 3 [dK 0 5] (kz 4) (kz 1) [] []:=wO (by rw[wN.2.2.2];rfl) (by rw[wD.2.2.2];rfl);rw[h,uC (g':=gq4) pL.1 pL.2.1 pL.2.2,show dK 0 5=⟨2,0,0,0,5⟩from N,cm4]
theorem oH:dW 3 cS3 bR cM bF:=
 IZ (by rw[tZ,ti,id3,id2];decide+kernel) (by rw[tZ,ua,id3,id4];decide+kernel) (by rw[tZ,tv,id3,id1];decide+kernel)
  (by rw[ti,ua,id2,id4];decide+kernel) (by rw[ti,tv,id2,id1];decide+kernel) (by rw[ua,tv,id4,id1];decide+kernel)
end
section
set_option maxRecDepth 1000000
instance(x:je):Decidable (IR x):=by unfold IR;infer_instance
theorem Ku:fH cq1:=by refine⟨?_,?_,?_,?_,?_,?_,?_⟩<;>decide+kernel
theorem Rf:fH cq2:=by refine⟨?_,?_,?_,?_,?_,?_,?_⟩<;>decide+kernel
theorem JO:fH cq3:=by refine⟨?_,?_,?_,?_,?_,?_,?_⟩<;>decide+kernel
theorem L8:fH cq4:=by refine⟨?_,?_,?_,?_,?_,?_,?_⟩<;>decide+kernel
theorem lA:da (aR bF)/\da (aR bR)/\da (aR cS3)/\da (aR cM):=
 ⟨by rw[tv];exact Ku.encOk,by rw[ti];exact Rf.encOk,by rw[tZ];exact JO.encOk,by rw[ua];exact L8.encOk⟩
theorem OS{g:Grp}{vm vt:jb}{d:jl}(j:d<512)(b:BitVec 8){a:jb}{x:ap}{W:jk}(l:bW W g vm vt)(n:aH (·<W.heap.size) W a 5 1 x.cells)(o:gH W)(p:gZ g (d:je) ((d+2:jl):je) [x]=0)
 (c:Cmt) (r:c=mkC g (d:je) (d+2) [x] (kz b) (kz 1) (kz b)) (f:gQ g c) (s:da (aR c)):
 jr jn 10 #[ja (aD g vm vt).toArray,jf jg (d:je),v8 b,a] W λe w'=>∃q h i,e=js (jv #[ja (aF c q).toArray,ja (aD (aC g c) h i).toArray,.bool ji])/\
  aZ (λk=>W.heap.size<=k/\k<w'.heap.size) w' c q/\dO (λk=>W.heap.size<=k/\k<w'.heap.size) w' (aC g c) h i/\jp W W w':=by
 have B:=oM f.val;refine(Rn g vm vt d j b a [x] W l (by rw[ms,qe,pz];exact n) o p c r (iR.2 f) s Y Y ar).mono ?_;rintro e w' ⟨q,m,t,k,u,v,w,y,z⟩;exact⟨q,m,t,k,u,dO.of v w y,z⟩
structure SSt(w:jk)(BL:jh (jl×jt jb×jA))(CL:jh CP)(GL:jh (Grp×jb×jb))(x:jk):Prop where
 blk:∀e∈BL,x.heap[e.1]?=jc (jo e.2.1 e.2.2 (0,0))
 com:∀p∈CL,aZ (·<x.heap.size) x p.1 p.2
 grp:∀p∈GL,bW x p.1 p.2.1 p.2.2
 tab:gH x
 bel:jp w w x
section
variable {w x x':jk} {BL:jh (jl×jt jb×jA)} {CL:jh CP} {GL:jh (Grp×jb×jb)}
theorem SSt.below(h:SSt w BL CL GL x)(a:jp x x x'):SSt w BL CL GL x':=
 ⟨λe he=>av (h.blk e he) a,λp b=>(h.com p b).below a,λp b=>(h.grp p b).below a,h.tab.below a,h.bel.trans (a.mono h.bel.size)⟩
theorem SSt.block(h:SSt w BL CL GL x){b:jl}{a:jt jb}{t:jA}(c:x.heap[b]?=jc (jo a t (0,0))):SSt w ((b,a,t)::BL) CL GL x:=
 ⟨λe he=>(jR.1 he).elim (λd=>d▸c) (h.blk e),h.com,h.grp,h.tab,h.bel⟩
theorem SSt.made(h:SSt w BL CL GL x){c:Cmt}{q:CQ}{g:Grp}{vm vt:jb}{D:jl->Prop}(d:aZ D x c q)(e:∀k,D k->k<x.heap.size)(f:bW x g vm vt):SSt w BL ((c,q)::CL) ((g,vm,vt)::GL) x:=
 ⟨h.blk,λp a=>(jR.1 a).elim (λb=>b▸d.mono e) (h.com p),λp a=>(jR.1 a).elim (λb=>b▸f) (h.grp p),h.tab,h.bel⟩
theorem SSt.start(a:gH w):SSt w [] [] [] w:=⟨λe h=>(by cases h),λe h=>(by cases h),λe h=>(by cases h),a,jE _ _⟩
end
theorem uM{W:jk}{g k:jl}{a:jt jb}{e:jA}(h:W.heap[g]?=jc (jo a e (0,0)))(b:a.size=k):aH (·<W.heap.size) W (jj (jc ⟨g,0,jm⟩) 1 1) k 1 a.toList:=by
 refine⟨by rw[j3,b,Nat.one_mul],_,1,N,jz _,(λe=>by cases e),λ_=>⟨g,0,N,(jS.1 h).1,λj d c=>?_⟩⟩;rw[qf];exact ah h (ak c)
noncomputable def RCg:eI jn:=.of 53 61 5 40 (ja #[jf jg 0,jf jg 0,jf jg 0,jf jg 0,jf jg 0]) underlying53 af N G G G
def vN:jb:=jj jm 0 0
def AG3:jt jb:=(aD (aK 3) vN vN).toArray
theorem IQ{a:Act}{o:jP}(b:o.op=.build 51 #[(0,.const (jf jg 3))])(W:jk):
 (j9 a.eval o).run jn W=.ok (.value (ja AG3)) W:=by
 simp only[j9,b]
 kernel_rfl
theorem SI(w:jk)(f:je):bW w (aK f) vN vN:=
 ⟨⟨rfl,jm,0,rfl,jz _,λ_=>rfl,λh=>jq h (qg _)⟩,oE w,rfl⟩
end
theorem sN(p:Option Addr)(n c:jl)(w:jk):jr jn 35 #[jj p n c] w λe w'=>e=js (.bool (decide (n<=10)))/\jp w w w':=by
 by_cases h:n<=10
 ·have b:=az ((n:je)<=10)
  have a:=O (qb h)
  go_enter func35,ntmps35
  go_wp2_with fail
  go_ret;exact⟨by rw[a];rfl,jE _ _⟩
 have b:=aw ((n:je)<=10);have a:=O (decide_eq_false h)
 go_enter func35,ntmps35
 go_wp2_with fail
 go_ret;exact⟨by rw[a];rfl,jE _ _⟩
theorem MW(c:Cmt)(q:CQ)(w:jk)(a:aZ (·<w.heap.size) w c q)(X:c.box.length<=jL)(l4:c.wel.length<=jL):
 jr jn 19 #[ja (aF c q).toArray] w λe w'=>(∃b,e=js (.bool b)/\(b=ji->tk c))/\jp w w w':=by
 have B:=dV.new w (q:=q) a.plen a.clen;have g:=ao w (jo (aF c q).toArray 57);obtain⟨C,D,H⟩:=a.chg.form;obtain⟨pp,cp,K⟩:=a.path.form;obtain⟨pb,cb,i⟩:∃p E,q.vb=jj p c.box.length E:=by obtain⟨us,h,-⟩:=a.box;exact h.form
 obtain⟨pw,cw,k⟩:∃p E,q.vw=jj p c.wel.length E:=by obtain⟨us,h,-⟩:=a.wel;exact h.form
 obtain⟨-,-,-,F,d,f,n,-,-⟩:=B.at;rw[H]at F;rw[K]at d;rw[i]at f;rw[k]at n;have YA:=O a.box;have WM:=O a.wel;have a1:=O i;have a2:=O k;obtain⟨u,m⟩:=J c.chg.length;obtain⟨np,o⟩:=J c.path.length;obtain⟨r,v⟩:=J c.box.length;obtain⟨s,x⟩:=J c.wel.length;rw[<-m]at F;rw[<-o]at d;rw[<-v]at f X a1;rw[<-x]at n l4 a2;replace X:r<=9223372036854775807:=X;replace l4:s<=9223372036854775807:=l4;have a3:=O m;have a4:=O o;have ZN:=O v;have Ym:=O x;obtain⟨b,y⟩:=J w.heap.size;obtain⟨a5,M⟩:=J ((aF c q).toArray);rw[<-M]at g F d f n⊢;rw[<-y]at F d f n;obtain⟨W,z⟩:=J (w.alloc (jo a5 57));rw[<-z]at g F d f n;have P:=O z;have Q:=O y;have t:=O g;clear B g a H K i k m o v x y M z
 go_enter func19,ntmps19
 go_upto_region 1 with fail
 rw[<-P,<-Q];clear P Q
 go_wp2_with fail
 go_loopw [3] (λi wr=>∃k:jl,i=jf jg k/\k<=r/\jd (∀x∈c.box.take k,x.body.length<=200)/\wr=W) (λi _=>r-(jD i).toNat)
 case atStart=>exact⟨0,N,jV _,O ar,N⟩
 obtain⟨k,rfl,hk,a,H⟩:=hrel;rw[H];clear H
 by_cases aa:k<r
 case pos=>
  have ac:=az ((k:je)<(r:je));have ad:=az (k<r);obtain⟨x,v,K⟩:=dL (l:=c.box) (j:=k) (by rw[<-ZN];exact aa);obtain⟨us,M,P⟩:=YA.out;obtain⟨a6,Q,R⟩:=P.at (i:=k) (b:=x.body) (by rw[j4,v];rfl);obtain⟨g,o,E,S,z⟩:=oC M (λ_ _=>rfl) v Q;rw[a1]at S;injection S with e1 e2 e3
  subst e1;subst e3;obtain⟨px,cx,rfl⟩:=R.form;have Yu:=O K;obtain⟨m,B⟩:=J x.body.length;rw[<-B]at z;have d3:W.cell? ⟨g,o+k*4+3,jm⟩=jc (jj px m cx):=aB (z 3 _ N) t;have HM:=O B;clear z M P Q R v K e2 B
  by_cases U:200<m
  case pos=>
   have au:=az ((200:je)<(m:je));have ax:=az (200<m);clear U
   go_wp2_with fail
   go_ret;exact⟨⟨ju,N,λh=>by cases h⟩,t⟩
  have au:=aw ((200:je)<(m:je));have ax:=aw (200<m);have ay:jd (∀y∈c.box.take (k+1),y.body.length<=200):=O (λy V=>by
   rw[Yu]at V
   rcases jY.1 V with h|h
   ·exact a y h
   obtain rfl:=p6.1 h;have:=HM.out
   omega)
  clear U a
  go_wp2_with fail
  exact⟨⟨k+1,by go_num,by omega,ay,by trivial⟩,by simp only[jD];omega⟩
 have ac:=aw ((k:je)<(r:je));have ad:=aw (k<r);obtain rfl:r=k:=Y;have Yg:jd (∀x∈c.box,x.body.length<=200):=O (by have h:=a.out;rwa [ZN,qh]at h);clear a
 go_wp2_with fail
 go_loopw [4] (λi wr=>∃k:jl,i=jf jg k/\k<=s/\jd (∀x∈c.wel.take k,x.body.length<=200)/\wr=W) (λi _=>s-(jD i).toNat)
 case atStart=>exact⟨0,N,jV _,O ar,N⟩
 obtain⟨k,rfl,hk,a,H⟩:=hrel;rw[H];clear H
 by_cases aa:k<s
 case pos=>
  have ac:=az ((k:je)<(s:je));have ad:=az (k<s);obtain⟨x,v,K⟩:=dL (l:=c.wel) (j:=k) (by rw[<-Ym];exact aa);obtain⟨us,M,P⟩:=WM.out;obtain⟨a6,Q,R⟩:=P.at (i:=k) (b:=x.body) (by rw[j4,v];rfl);obtain⟨g,o,E,S,z⟩:=oC M (λ_ _=>rfl) v Q;rw[a2]at S;injection S with e1 e2 e3
  subst e1;subst e3;obtain⟨px,cx,rfl⟩:=R.form;have Yu:=O K;obtain⟨m,B⟩:=J x.body.length;rw[<-B]at z;have d3:W.cell? ⟨g,o+k*3+2,jm⟩=jc (jj px m cx):=aB (z 2 _ N) t;have HM:=O B;clear z M P Q R v K e2 B
  by_cases U:200<m
  case pos=>
   have au:=az ((200:je)<(m:je));have ax:=az (200<m);clear U
   go_wp2_with fail
   go_ret;exact⟨⟨ju,N,λh=>by cases h⟩,t⟩
  have au:=aw ((200:je)<(m:je));have ax:=aw (200<m);have ay:jd (∀y∈c.wel.take (k+1),y.body.length<=200):=O (λy V=>by
   rw[Yu]at V
   rcases jY.1 V with h|h
   ·exact a y h
   obtain rfl:=p6.1 h;have:=HM.out
   omega)
  clear U a
  go_wp2_with fail
  exact⟨⟨k+1,by go_num,by omega,ay,by trivial⟩,by simp only[jD];omega⟩
 have ac:=aw ((k:je)<(s:je));have ad:=aw (k<s);obtain rfl:s=k:=Y;have v:jd (∀x∈c.wel,x.body.length<=200):=O (by have h:=a.out;rwa [Ym,qh]at h);clear a
 by_cases m:u<=10
 case neg=>
  have i:jd (decide (u<=10)=ju):=O (decide_eq_false m);clear m
  go_wp2_with fail
  refine(sN C u D _).mono ?_;rintro e o ⟨rfl,a⟩;have g:=ai t a;clear a;rw[i]
  go_wp2_with fail
  go_ret;exact⟨⟨ju,N,λh=>by cases h⟩,g⟩
 have i:jd (decide (u<=10)=ji):=O (qb m);have x:=O m;clear m
 by_cases m:np<=12
 case neg=>
  have y:=aw ((np:je)<=12);clear m
  go_wp2_with fail
  refine(sN C u D _).mono ?_;rintro e o ⟨rfl,a⟩;have g:=ai t a;rw[i];replace d:=aB d a;replace f:=aB f a;replace n:=aB n a;clear a
  go_wp2_with fail
  go_ret;exact⟨⟨ju,N,λh=>by cases h⟩,g⟩
 have y:=az ((np:je)<=12);have z:=O m;clear m
 by_cases m:r<=40
 case neg=>
  have B:=aw ((r:je)<=40);clear m
  go_wp2_with fail
  refine(sN C u D _).mono ?_;rintro e o ⟨rfl,a⟩;have g:=ai t a;rw[i];replace d:=aB d a;replace f:=aB f a;replace n:=aB n a;clear a
  go_wp2_with fail
  go_ret;exact⟨⟨ju,N,λh=>by cases h⟩,g⟩
 have B:=az ((r:je)<=40);have H:=O m;clear m
 by_cases m:s<=10
 case neg=>
  have K:=aw ((s:je)<=10);clear m
  go_wp2_with fail
  refine(sN C u D _).mono ?_;rintro e o ⟨rfl,a⟩;have g:=ai t a;rw[i];replace d:=aB d a;replace f:=aB f a;replace n:=aB n a;clear a
  go_wp2_with fail
  go_ret;exact⟨⟨ju,N,λh=>by cases h⟩,g⟩
 have K:=az ((s:je)<=10);have M:=O m;clear m
 go_wp2_with fail
 refine(sN C u D _).mono ?_;rintro e o ⟨rfl,a⟩;have g:=ai t a;rw[i];replace d:=aB d a;replace f:=aB f a;replace n:=aB n a;clear a
 go_wp2_with fail
 go_ret;exact⟨⟨ji,N,λ_=>⟨Yg,v,by rw[<-a3];exact x,by rw[<-a4];exact z,by rw[<-ZN];exact H,by rw[<-Ym];exact M⟩⟩,g⟩
theorem TR{l:jh aJ}{x:aJ}(h:dj l a=jm)(d:(x.dev==a)=ju):dj (l++[x]) a=jm:=by
 unfold dj at*;rw[qw,h];simp[d]
theorem Lt{l:jh aJ}{k:aJ}(h:dj (l.take x) a=jm)(d:l.take (x+1)=l.take x++[k])(b:k.dev=a):dj l a=jc k:=by
 have e:dj (l.take (x+1)) a=jc k:=by unfold dj at*;rw[d,qw,h];simp[b]
 unfold dj at*;rw[<-List.take_append_drop (x+1) l,qw,e];rfl
theorem C5(l:jh aJ)(d:je):cA l d=(dj l d).isSome:=by
 unfold cA dj;rw[Bool.eq_iff_iff,List.find?_isSome,qO]
theorem Ld(a:Grp)(vm vt:jb)(d:je)(w:jk)(h:bW w a vm vt)(q:a.mem.length<=jL):
 jr jn 9 #[ja (aD a vm vt).toArray,jf jg d] w λe w'=>e=js (.bool (cA a.mem d))/\jp w w w':=by
 have i:=dF.new w (vm:=vm) (vt:=vt) h.llen;have b:=ao w (jo (aD a vm vt).toArray 51);have k:=h.mem;obtain⟨p,c,rfl,-,-⟩:=h.mem.form;obtain⟨-,-,m,-⟩:=i.at;have v:=O (k.cells);obtain⟨E,o⟩:=J ((aD a (jj p a.mem.length c) vt).toArray);rw[<-o]at m b⊢;obtain⟨n,f⟩:=J a.mem.length;rw[<-f]at m q v;replace q:n<=9223372036854775807:=q;have x:=O f;obtain⟨r,g⟩:=J (w.alloc (jo E 51));rw[<-g]at m b;have t:=O g;have s:=O b;clear i b h o f k g
 go_enter func9,ntmps9
 go_upto_region 1 with fail
 rw[<-t];obtain⟨b,f⟩:=J w.heap.size;rw[<-f]at m⊢;clear t f
 go_wp2_with fail
 go_loopw [5] (λi wr=>∃k:jl,i=jf jg k/\k<=n/\jd (dj (a.mem.take k) d=jm)/\wr=r) (λi _=>n-(jD i).toNat)
 case atStart=>exact⟨0,N,jV _,O N,N⟩
 obtain⟨k,rfl,V,t,f⟩:=hrel;rw[f];clear f
 by_cases F:k<n
 ·have H:=az ((k:je)<(n:je))
  have K:=az (k<n);obtain⟨-,-,u⟩:=v.out;obtain⟨g,o,rfl,z⟩:=u Y;obtain⟨y,B,C⟩:=dL (l:=a.mem) (j:=k) (by rw[<-x];exact F);have f:=λi M P=>aB (z k y B i M P) s
  have Q:r.cell? ⟨g,o+k*3,jm⟩=jc (jf jg y.dev):=f 0 _ N;have R:r.cell? ⟨g,o+k*3+1,jm⟩=jc (jf jg y.since):=f 1 _ N;obtain⟨md,S,U⟩:=y;dsimp only at Q R;have D:=O C;clear z C B u f
  by_cases f:md=d
  case neg=>
   have u:(md==d)=ju:=ak f;have z:jd (dj (a.mem.take (k+1)) d=jm):=O (by rw[D];exact TR t u);have B:decide (md=d)=ju:=ak f;clear f
   go_wp2_with fail
   exact⟨⟨k+1,by go_num,by omega,z,by trivial⟩,by simp only[jD];omega⟩
  have u:jd (dj a.mem d=jc ⟨md,S,U⟩):=O (Lt t D f);subst f
  go_wp2_with fail
  go_ret;exact⟨by rw[C5,u];rfl,s⟩
 have H:=aw ((k:je)<(n:je));have K:=aw (k<n);obtain rfl:k=n:=Y;have u:jd (dj a.mem d=jm):=O (by
  have h:=t.out
  rwa [x,qh]at h)
 go_wp2_with fail
 go_ret;exact⟨by rw[C5,u];rfl,s⟩
theorem TW(s t:jh je)(u v:jb)(w:jk)(E:de w u s)(F:de w v t)(H:s.length<=1000000)(K:t.length<=1000000):
 jr jn 18 #[u,v] w λe w'=>e=js (.bool (decide (s=t)))/\jp w w w':=by
 obtain⟨p,c,rfl,M,d⟩:=E;obtain⟨V,W,rfl,P,f⟩:=F;have Q:=O d;have R:=O f;obtain⟨n,a⟩:=J s.length;obtain⟨m,b⟩:=J t.length;have j:=O a;have l:=O b;rw[<-a]at M H⊢;rw[<-b]at P K⊢;clear d f a b
 go_enter func18,ntmps18
 by_cases q:n=m
 case neg=>
  have a:((n:je)==(m:je))=ju:=by simp;omega
  have hd2:=aw ((n:je)=(m:je));have hd3:decide (n=m)=ju:=ak q;have d:jd (decide (s=t)=ju):=O (decide_eq_false (λh=>q (by rw[j,l,h])));clear q
  go_wp2_with fail
  go_ret;exact⟨by rw[d];rfl,jE _ _⟩
 subst q
 go_wp2_with fail
 go_loopw [5] (λi wr=>∃k:jl,i=jf jg k/\k<=n/\jd (s.take k=t.take k)/\jd (jp w w wr)) (λi _=>n-(jD i).toNat)
 case atStart=>exact⟨0,N,jV _,O N,O (jE _ _)⟩
 obtain⟨k,rfl,X,r,f⟩:=hrel
 by_cases x:k<n
 ·have S:=az ((k:je)<(n:je))
  have U:=az (k<n);obtain⟨g,o,rfl,i⟩:=Q.out (by rw[<-j];omega);obtain⟨g2,o2,rfl,y⟩:=R.out (by rw[<-l];omega);obtain⟨a,aa,-,z⟩:=IH i (by rw[<-j];exact x) f;obtain⟨b,ac,-,B⟩:=IH y (by rw[<-l];exact x) f;have C:=O z;have D:=O B;clear i y z B
  by_cases i:a=b
  case neg=>
   have d:jd (decide (s=t)=ju):=O (decide_eq_false (zR r C D i));have y:(a==b)=ju:=ak i;have z:decide (a=b)=ju:=ak i;clear i
   go_upto_region 6 with fail
   go_quiet (fail)
   go_wp2_with fail
   go_ret;exact⟨by rw[d];rfl,f.trans ⟨rfl,rfl,rfl,jz _,λ_ _=>rfl⟩⟩
  subst i;have y:=O (GB r C D N)
  go_upto_region 6 with fail
  go_quiet (fail)
  go_wp2_with fail
  exact⟨⟨k+1,by go_num,by omega,y,O (f.trans ⟨rfl,rfl,rfl,jz _,λ_ _=>rfl⟩)⟩,by simp only[jD];omega⟩
 have S:=aw ((k:je)<(n:je));have U:=aw (k<n);obtain rfl:k=n:=Y;have d:jd (decide (s=t)=ji):=O (qb (by
  have h:=r.out;rw[qa (by rw[<-j];exact jz _),qa (by rw[<-l];exact jz _)]at h;exact h))
 go_wp2_with fail
 go_ret;exact⟨by rw[d];rfl,f⟩

theorem Q3(w:jk)(o:Obj):jp w w (w.alloc o):=(jE _ w).alloc (jz _) o
def tf(w:jk)(b:jl)(t:jh (je×je)):Prop:=∃a,w.cell? ⟨b,0,jm⟩=jc a/\bH w a t
theorem tf.below{w':jk}{b:jl}{t:jh (je×je)}(h:tf w b t)(a:jp w w w'):tf w' b t:=by
 obtain⟨d,c,e⟩:=h;exact⟨d,cH c (a.block _ (eH c)),e.below a⟩
theorem tf.new{a:jb}{t:jh (je×je)}(h:bH w a t):tf (w.alloc (jo #[a] 49)) w.heap.size t:=
 ⟨a,by unfold World.cell?;rw[jF];rfl,h.below (Q3 w _)⟩
theorem Sa(t:jh (je×je))(a v:jb)(w:jk)(c:bH w a t)(d:bH w v t)(b:t.length<=1000000):
 jr jn 34 #[ja #[a],ja #[v]] w λe w'=>e=js (.bool ji)/\jp w w w':=by
 have h:=La t t a v w c d b b;rw[qb N]at h;exact h
theorem RR(l:LBy)(a:l.length=32)(z:jk):(Op.equalIn 10000 23 (ja (l.map v8).toArray) (ja (l.map v8).toArray)).run jn z=.ok ji z:=by
 have h:=nQ l l a a z;rw[show decide (l=l)=ji from qb N]at h;exact h
theorem Tf(l:jh aJ)(a v:jb)(w:jk)(b:EM.At w a l)(d:EM.At w v l)(D:l.length<=1000000):
 jr jn 33 #[a,v] w λe w'=>e=js (.bool ji)/\jp w w w':=by
 have g:=b;have h:=d;obtain⟨p,c,rfl,-,-⟩:=b.form;obtain⟨U,s,rfl,-,-⟩:=d.form;have t:=O (g.cells);have u:=O (h.cells);obtain⟨n,f⟩:=J l.length;have E:=O f;rw[<-f]at D t u⊢;clear b d g h f
 go_enter func33,ntmps33
 go_wp2_with fail
 go_loopw [5] (λi wr=>∃k:jl,i=jf jg k/\k<=n/\jd (jp w w wr)) (λi _=>n-(jD i).toNat)
 case atStart=>exact⟨0,N,jV _,O (jE _ _)⟩
 obtain⟨k,rfl,V,b⟩:=hrel
 by_cases F:k<n
 ·have H:=az ((k:je)<(n:je))
  have K:=az (k<n);obtain⟨-,-,x⟩:=t.out;obtain⟨g,o,rfl,z⟩:=x Y;obtain⟨-,-,B⟩:=u.out;obtain⟨h,m,rfl,C⟩:=B Y;obtain⟨y,q,-⟩:=dL (l:=l) (j:=k) (by rw[<-E];exact F);have d:=λi a r=>aB (z k y q i a r) b
  have f:=λi a r=>aB (C k y q i a r) b
  have M:wr.cell? ⟨g,o+k*3,jm⟩=jc (jf jg y.dev):=d 0 _ N;have P:wr.cell? ⟨g,o+k*3+1,jm⟩=jc (jf jg y.since):=d 1 _ N;have s:wr.cell? ⟨g,o+k*3+2,jm⟩=jc (jf jg y.ver):=d 2 _ N;have Q:wr.cell? ⟨h,m+k*3,jm⟩=jc (jf jg y.dev):=f 0 _ N;have R:wr.cell? ⟨h,m+k*3+1,jm⟩=jc (jf jg y.since):=f 1 _ N;have S:wr.cell? ⟨h,m+k*3+2,jm⟩=jc (jf jg y.ver):=f 2 _ N;obtain⟨md,W,X⟩:=y;dsimp only at M P s Q R S;clear z C q x B d f
  go_upto_region 6 with fail
  go_quiet (fail)
  go_wp2_with fail
  exact⟨⟨k+1,by go_num,by omega,O (b.trans ⟨rfl,rfl,rfl,jz _,λ_ _=>rfl⟩)⟩,by simp only[jD];omega⟩
 have H:=aw ((k:je)<(n:je));have K:=aw (k<n)
 go_wp2_with fail
 go_ret;exact⟨N,b⟩
theorem Qk(g:Grp)(d f vm vt:jb)(w:jk)(a:bW w g d f)(k:bW w g vm vt)(F:g.mem.length<=1000000)(H:g.tree.length<=1000000):
 jr jn 17 #[ja (aD g d f).toArray,ja (aD g vm vt).toArray] w λe w'=>e=js (.bool ji)/\jp w w w':=by
 have c:=dF.new w (vm:=d) (vt:=f) a.llen;have j:=ao w (jo (aD g d f).toArray 51);obtain⟨l,h⟩:=J (w.alloc (jo (aD g d f).toArray 51));rw[<-h]at c j;have r:l.heap.size=w.heap.size+1:=by rw[h,j5]
 have i:=dF.new l (vm:=vm) (vt:=vt) a.llen;have m:=ao l (jo (aD g vm vt).toArray 51);obtain⟨s,n⟩:=J (l.alloc (jo (aD g vm vt).toArray 51));rw[<-n]at i m;replace c:=c.below m;have b:=O (j.trans (m.mono j.size));rw[r]at i;obtain⟨K,M,P,t⟩:=c.at;obtain⟨Q,R,S,u⟩:=i.at;have U:=O c.last;have V:=O i.last;have v:jd ((g.last.map v8).length=VD.n):=O (by rw[jB,a.llen];rfl);obtain⟨x,p⟩:=J ((g.last.map v8).toArray);have W:∀z,(Op.equalIn 10000 23 (ja x) (ja x)).run jn z=.ok ji z:=by
  rw[p];exact λz=>RR g.last a.llen z
 have y:=O p;have o:=O a;have q:=O k;obtain⟨X,B⟩:=J ((aD g d f).toArray);obtain⟨D,C⟩:=J ((aD g vm vt).toArray);rw[<-B]at h⊢;rw[<-C]at n⊢;have E:jd (s=(w.alloc (jo X 51)).alloc (jo D 51)):=O (by rw[n,h]);clear a k c i j m B C h n r p;obtain⟨n,r,B,C,k2,rfl,rfl⟩:∃p c h n' i,d=jj p g.mem.length c/\f=jj h n' i:=by
  obtain⟨p,c,a,-⟩:=o.mem.form;obtain⟨h,n',i,k⟩:=gN o.tree;exact⟨p,c,h,n',i,a,k⟩
 obtain⟨p3,k3,p4,n4,k4,rfl,rfl⟩:∃p c h n' i,vm=jj p g.mem.length c/\vt=jj h n' i:=by
  obtain⟨p,c,a,-⟩:=q.mem.form;obtain⟨h,n',i,k⟩:=gN q.tree;exact⟨p,c,h,n',i,a,k⟩
 go_enter func17,ntmps17
 go_upto_region 1 with fail
 rw[<-E];clear E
 go_wp2_with (first|(refine VD.load aj N N (g.last.map v8) v U ?_;rw[<-y];refine L ?_)|(refine VD.load aj N N (g.last.map v8) v V ?_;rw[<-y];refine L ?_))
 refine(Tf g.mem _ _ s (o.mem.below b) (q.mem.below b) F).mono ?_;rintro e m ⟨rfl,j⟩;replace t:=aB t j;replace u:=aB u j;replace b:=ai b j;clear j K M P Q R S W
 go_wp2_with fail
 refine(Sa g.tree _ _ m (o.tree.below b) (q.tree.below b) H).mono ?_;rintro e E ⟨rfl,j⟩;replace b:=ai b j;clear j
 go_wp2_with fail
 go_ret;exact⟨N,b⟩
theorem Rc(a:jh CP)(v:jb)(w:jk)(d:cC w v a)(g:∀p∈a,p.1.box.length<=jL/\p.1.wel.length<=jL)(q:a.length<=jL):
 jr jn 5 #[v] w λe w'=>(∃b,e=js (.bool b)/\(b=ji->a.length<=7/\∀p∈a,tk p.1))/\jp w w w':=by
 have z:=O d;have R:=O g;obtain⟨p,c,rfl⟩:=d.form;obtain⟨n,f⟩:=J a.length;have B:=O f;rw[<-f]at q z⊢;replace q:n<=9223372036854775807:=q;clear d g f
 by_cases D:n<=7
 case neg=>
  have E:=az ((7:je)<(n:je));have F:=az (7<n);clear D
  go_enter func5,ntmps5
  go_wp2_with fail
  go_ret;exact⟨⟨ju,N,λh=>by cases h⟩,jE _ _⟩
 have aa:=aw ((7:je)<(n:je));have ac:=aw (7<n)
 go_enter func5,ntmps5
 go_wp2_with fail
 go_loopw [3] (λi wr=>∃k:jl,i=jf jg k/\k<=n/\jd (∀x∈a.take k,tk x.1)/\jd (jp w w wr)) (λi _=>n-(jD i).toNat)
 case atStart=>exact⟨0,N,jV _,O ar,O (jE _ _)⟩
 obtain⟨k,rfl,hk,H,d⟩:=hrel
 by_cases S:k<n
 ·have E:=az ((k:je)<(n:je))
  have F:=az (k<n);obtain⟨y,f,K⟩:=dL (l:=a) (j:=k) (by rw[<-B];exact S);have r:=j6 f;have s:=z.below d;obtain⟨g,o,c',U,-,-,-,t⟩:=s.elem f;injection U with V W X
  subst V;subst X;have u:=O (s.all y r);have M:=O (R y r);obtain⟨i,m⟩:=y;dsimp only at t;have UZ:=O t;have Vh:jd ((aF i m).length=VC.n):=O (dz _ _ u.plen u.clen);have Vf:=O K;obtain⟨C,P⟩:=J ((aF i m).toArray);have Q:=O P;clear f K r s W t P
  go_wp2_with (first|(refine VC.load aj N N (aF i m) Vh UZ ?_;rw[<-Q];refine L ?_))
  have f:=MW i m wr u M.1 M.2;rw[<-Q]at f;refine f.mono ?_;rintro e K ⟨⟨b,rfl,r⟩,s⟩;have t:=O r;replace d:=ai d s;clear s r f
  rcases b with _|_
  ·go_wp2_with fail
   go_ret;exact⟨⟨ju,N,λh=>by cases h⟩,d⟩
  go_wp2_with fail
  exact⟨⟨k+1,by go_num,by omega,O (by
   rw[Vf];intro x f
   rcases jY.1 f with f|f
   ·exact H x f
   rw[p6]at f;rw[f];first|exact t N|exact t trivial),d⟩,by simp only[jD];omega⟩
 have E:=aw ((k:je)<(n:je));have F:=aw (k<n);obtain rfl:k=n:=Y
 go_wp2_with fail
 go_ret;exact⟨⟨ji,N,λ_=>⟨D,by have h:=H.out;rwa [B,qh]at h⟩⟩,d⟩
abbrev GP:=Grp×jb×jb
def R8(x:GP):jh jb:=aD x.1 x.2.1 x.2.2
structure oT(w:jk)(v:jb)(l:jh GP):Prop where
 row:aH (·<w.heap.size) w v 36 l.length (l.flatMap R8)
 all:∀x∈l,bW w x.1 x.2.1 x.2.2
theorem oT.below{w':jk}{v:jb}{l:jh GP}(h:oT w v l)(a:jp w w w'):oT w' v l:=
 ⟨(h.row.keep λg b=>a.block g b).mono λg b=>jw b a.size,λp c=>(h.all p c).below a⟩
theorem oT.form{d:jb}{l:jh GP}(h:oT w d l):∃p c,d=jj p l.length c:=h.row.form
theorem oT.elem{d:jb}{l:jh GP}(h:oT w d l){i:jl}{x:GP}(a:l[i]?=jc x):
 ∃g o c,d=jj (jc ⟨g,o,jm⟩) l.length c/\g<w.heap.size/\l.length<=c/\i<l.length/\w.rangeAt g (o+i*36) (aD x.1 x.2.1 x.2.2):=h.row.rowM N (λx b=>eX (h.all x b).llen) a
section
variable{e:jA}{xs:jh jb}{w:jk}{sz:jl}
structure eE(e:jA)(sz:jl)(w:jk)(g:jl)(v:jb)(n:jl)(xs:jh jb):Prop where
 len:xs.length=n*sz
 ex:∃o a b,v=jj (jc ⟨g,o,jm⟩) n a/\w.heap[g]?=jc (jo b e (0,0))/\n<=a/\a<=jL/\o+a*sz<=b.size/\∀(j:jl) c,xs[j]?=jc c->b[o+j]?=jc c
theorem eE.of_own{B n:jl}{v:jb}(h:w.ownsRow B e sz v n xs)(l:0<n):∃g,v.ownBlock=jc g/\eE e sz w g v n xs:=by
 rcases h.2 with⟨-,m⟩|⟨g,b,c,rfl,o,d,f,i,p,k⟩
 ·omega
 refine⟨g,N,h.1,0,b,c,N,d,f,i,by omega,λj q a=>?_⟩;rw[<-k,qx]at a
 split at a
 ·rw[qf];simpa using a
 cases a
theorem eE.row{g n:jl}{v:jb}(h:eE e sz w g v n xs):cF w v sz n xs:=by
 obtain⟨a,o,b,l,rfl,c,d,m,p,f⟩:=h;exact⟨a,_,b,N,d,(λe=>by cases e),λ_=>⟨g,o,N,λj i k=>ah c (f j i k)⟩⟩
theorem eE.lt{B b d:jl}{f:jb}{a:jh jb}(h:eE e b w B f d a):B<w.heap.size:=by
 obtain⟨_,_,_,_,_,xs,_⟩:=h;exact(jS.1 xs).1
theorem eE.keep{w':jk}{g n:jl}{v:jb}(h:eE e sz w g v n xs)(a:w'.heap[g]?=w.heap[g]?):eE e sz w' g v n xs:=by
 obtain⟨b,o,c,d,rfl,f,i⟩:=h;exact⟨b,o,c,d,N,a.trans f,i⟩
theorem eE.cells{g n:jl}{v:jb}(h:eE e sz w g v n xs):∃c,w.heap[g]?=jc (jo c e (0,0)):=by
 obtain⟨_,_,_,a,_,b,_⟩:=h;exact⟨a,b⟩
section
variable {P:ow}
theorem eE.tail{g n:jl}{t:jA}{v:jb}{ys:jh jb}(h:eE e sz w g v (n+1) (ys++xs))(k:ys.length=sz)(b:P.underlying t=jc (.slice e))(s:∀w,(sizeOf e).run P w=.ok sz w):
 ∃l,eE e sz w g l n xs/\∀W,(Instr.sliceAt t v (jc (jf jg 1)) jm jm).run P W=.ok l W:=by
 obtain⟨u,o,c,m,rfl,p,z,B,x,y⟩:=h;have he:P.elem t=e:=by simp[Program.elem,b]
 have d:xs.length=n*sz:=by rw[jZ,k,qi]at u;omega
 have q:∀W,(Instr.sliceAt t (jj (jc ⟨g,o,jm⟩) (n+1) c) (jc (jf jg 1)) jm jm).run P W=.ok (jj (jc (if c=1 then⟨g,o,jm⟩else⟨g,o+sz,jm⟩)) n (c-1)) W:=λW=>by
  rw[run_sliceAt_slice W t _ _ _ _ (by rw[he];exact b),run_slice_l W t _ (n+1) c (by rw[he];exact b) .i64 _ Y Y,he];simp[s,Result.andThen,sliced,Addr.add]
  by_cases h:c=1
  ·subst h;simp
  have a:c-1≠0:=Y;simp[h,a]
 by_cases f:c=1
 ·refine⟨_,⟨d,o,c-1,m,by rw[jC f],p,by omega,by omega,by subst f;omega,λj r i=>?_⟩,q⟩
  have a:=(jN.1 i).1;have:n=0:=Y;rw[d,this,Nat.zero_mul]at a;omega
 refine⟨_,⟨d,o+sz,c-1,m,by rw[if_neg f],p,by omega,by omega,?_,λj r i=>?_⟩,q⟩
 ·have a:c=(c-1)+1:=Y
  rw[a,qi]at x;omega
 have a:=y (sz+j) r (by rw[jK Y,k,Nat.add_sub_cancel_left];exact i);rw[Nat.add_assoc];exact a
theorem QE(w:jk)(t l e:jA)(i:TypeInfo)(n:P.underlying t=jc (.slice e))(p:P.info? e=jc i)
 (g o d k:jl) (f:jt jb) (q:w.heap[g]?=jc (jo f e (0,0)))
 (a:Addr) (m c:jl) (b:jh jb) (r:b.length=m*i.size) (s:∀j h,b[j]?=jc h->w.cell? (a.add j)=jc h) (j:∀h∈b,h.oneCell'=ji)
 (u:d+m<=k) (v:o+d*i.size+b.length<=f.size):
 (Builtin.append_ #[t,t] l #[jj (jc ⟨g,o,jm⟩) d k,jj (jc a) m c]).run P w=
  .ok (jj (jc ⟨g,o,jm⟩) (d+m) k) (w.setRow g (f.toList.take (o+d*i.size)++b++f.toList.drop (o+d*i.size+b.length)).toArray):=by
 have x:=run_firstCells_some (P:=P) w i.size m a m c b r s;have h:=run_storeCells_at P g (o+d*i.size) e b 0 f w q (ak v) j;simp only[Nat.add_zero]at h;simp[Builtin.append_,run_underlying n,sizeOf,typeInfo,p,Builtin.lenOf,u,x,Addr.add_lit,h]
theorem K7(w:jk)(t x e:jA)(i:TypeInfo)(z:jb)(sz y:jl)(B:P.underlying t=jc (.slice e))(C:P.info? e=jc i)(V:i.zero=jc z)
 (Q:i.size=sz) (W:i.bytes=y) (X:z.cells.size=sz) (aa:0<sz) {g n:jl} {v:jb} {xs:jh jb} (h:eE e sz w g v n xs) {a:jb} {m:jl} {ys:jh jb} (hu:cF w a sz m ys) (h1:∀a∈ys,a.oneCell'=ji)
 (ac:n+m<=jL) (ad:(n+m)*y<=140737488355328):
 ∃s w' g',(Builtin.append_ #[t,t] x #[v,a]).run P w=.ok s w'/\eE e sz w' g' s (n+m) (xs++ys)/\w.grownBy w' (jc g)/\(g'=g\/w.heap.size<=g'):=by
 obtain⟨D,o,d,q,rfl,f,R,S,au,E⟩:=h;obtain⟨u,p,c,rfl,hc,hp,ax⟩:=hu
 rcases p with _|F
 ·obtain rfl:=hp N
  obtain rfl:m=0:=Y;obtain rfl:ys=[]:=List.eq_nil_of_length_eq_zero Y;refine⟨_,w,g,?_,⟨by rw[pz];exact D,o,d,q,N,f,R,S,au,λj a b=>E j a (ak b)⟩,World.grownBy.refl _ _,.inl N⟩;simp[Builtin.append_,run_underlying B,sizeOf,typeInfo,C,Builtin.lenOf,Builtin.firstCells,R,storeCells]
 have U:∀(j:jl) a,ys[j]?=jc a->w.cell? (F.add j)=jc a:=by
  intro j a b;have l:=(jN.1 b).1;obtain⟨g,o,e,f⟩:=ax (by
   rcases Nat.eq_zero_or_pos m with k|k
   ·rw[u,k]at l;omega
   exact k)
  obtain rfl:=qj.inj e;rw[uQ];exact f j a b
 have ay:(xs++ys).length=(n+m)*sz:=by rw[jZ,D,u,qi]
 by_cases H:n+m<=d
 ·subst Q
  have a1:o+n*i.size+ys.length<=q.size:=by
   have r:(n+m)*i.size<=d*i.size:=Nat.mul_le_mul_right _ H;rw[qi]at r;omega
  have K:=QE w t x e i B C g o n d q f F m c ys u U h1 H a1;refine⟨_,_,g,K,⟨ay,o,d,_,N,j1 _ _ _ _ _ _ f,H,S,?_,λj a b=>?_⟩,⟨N,N,N,by rw[setRow_size];exact jz _,λk _ M=>jM _ _ _ _ λe=>M (by rw[e])⟩,.inl N⟩
  ·rw[jG,jZ,jZ,qk,List.length_drop,j3]
   omega
  rw[jW]
  by_cases a2:j<xs.length
  ·rw[qy,mz (by rw[qk,j3];omega),qx,jC Y,qP]
   exact E j a (by rwa [mz a2]at b)
  rw[jK Y]at b;have r:=(jN.1 b).1;have l:q.toList.length=q.size:=j3;rw[qy,jK (by rw[qk,j3];omega),qk,j3,mz Y];rw[<-b]
  congr 1
  omega
 obtain⟨s,w',K,r,l⟩:=run_append_arg_grows (P:=P) w t x e i z sz y B C V Q W X aa ⟨g,o,jm⟩ n d xs D (λj a b=>by rw[uQ];exact ah f (E j a b)) F m c ys u U Y ac ad;obtain⟨g',b,h4⟩:=eE.of_own r Y;exact⟨s,w',g',K,h4,⟨l.os,l.tape,l.output,l.size,λk M _=>l.block k M ar⟩,.inr (r.lt g' b).1⟩
theorem eI.wpList_appendQ(R:eI P){d:jt jP}{e:Exit->Act->jk->Prop}{f:jh jP}{o:jP}{a:Act}{w:jk}(j:o.guard=jm)(s x:qc)(k:o.op=.call {callee:=.builtin .append,args:=#[s,x],argTypes:=#[R.t,R.t]})
 {g n:jl} {v:jb} {xs:jh jb} (l:a.eval s=v) (h:eE R.e R.k w g v n xs) {b:jb} {m:jl} {ys:jh jb} (p:a.eval x=b) (q:cF w b R.k m ys) (r:∀b∈ys,b.oneCell'=ji) (t:n+m<=1000000)
 (u:∀c w' g',eE R.e R.k w' g' c (n+m) (xs++ys)->w.grownBy w' (jc g)->(g'=g\/w.heap.size<=g')->wpList P d e f (a.put o.dst c) w'):wpList P d e (o::f) a w:=by
 refine qd j λK y=>?_
 obtain⟨c,w',g',z,i,B,C⟩:=K7 (P:=P) w R.t o.type R.e R.i R.z R.k R.b R.ht R.hi R.hz R.hs R.hb R.hzs R.h0 h q r (by unfold jL;omega) (by
  have:=R.hbb;have i:(n+m)*R.b<=1000000*8000:=Nat.mul_le_mul t this
  omega)
 unfold Oper.wp j9;simp only[k,resolve,invoke,builtin,Sem.run_bind,Sem.run_pure,Result.andThen_ok,qz,mb,jQ,l,p,z];exact y _ _ (u c w' g' i B C)
end
end
theorem Qh(h:ft a b e=jc S):fg e (aK a) S:=by
 obtain⟨d,l,f⟩:=Ag h;exact⟨d,(rP d).par,λj g=>by rw[l];exact f j g⟩
noncomputable def pO(a:je)(b:LBy)(l:jh Cmt):jh aN:=match ft a b l with|none=>[]|some c=>sH l c
def ixs(a:jh CK):jh jb:=a.map λk=>jy .i64 (k.ix:jl)
def gcs(a:jh CK):jh jb:=a.flatMap λk=>aD k.g k.vm k.vt
structure ASt(d:jh CP)(f:je)(h:LBy)(c:jl)(w W:jk)(e:aN)(a:jh CK)(k:jl)(u1 u2:jb)(g:jl)(q:jb):Prop where
 seq:a.map CK.cand=eC (d.map (·.1)) e k
 own1:W.ownsRow c RI.e RI.k u1 k (ixs (a.take k))
 own2:W.ownsRow c RG.e RG.k u2 k (gcs (a.take k))
 que:eE RK.e RK.k W g q (a.length-k) ((a.drop k).flatMap aL)
 qlow:c<=g
 all:∀x∈a,KD (λb=>gb x b/\b<W.heap.size) d W x
 off:∀x∈a,∀b,gb x b->u1.ownBlock≠jc b/\u2.ownBlock≠jc b/\g≠b
 bel:jp c w W
 le:k<=a.length
theorem ASt.below{e:jh CP}{f:je}{i:LBy}{d k g:jl}{W j:jk}{l:aN}{u1 u2 q:jb}(h:ASt e f i d w W l m k u1 u2 g q)(a:jp W W j)(n:d<=W.heap.size):ASt e f i d w j l m k u1 u2 g q:=
 ⟨h.seq,cL h.own1 a,cL h.own2 a,h.que.keep (a.block g h.que.lt),h.qlow,λx o=>((h.all x o).keep λb c=>a.block b c.2).mono λb c=>⟨c.1,jw c.2 a.size⟩,h.off,h.bel.trans (a.mono n),h.le⟩
theorem O5(a:jh CK)(x:CK):ixs (a++[x])=ixs a++[jy .i64 (x.ix:jl)]:=by unfold ixs;rw[qQ];rfl
theorem Qg(a:jh CK)(x:CK):gcs (a++[x])=gcs a++aD x.g x.vm x.vt:=by unfold gcs;rw[qA,List.flatMap_singleton]
theorem DD{y:CK}(h:m[x]?=jc y):m.take (x+1)=m.take x++[y]:=by
 rw[List.take_succ_eq_append_getElem (jN.1 h).1,(jN.1 h).2]
theorem D9{y:CK}(h:m[x]?=jc y):m.drop x=y::m.drop (x+1):=by
 rw[nn (jN.1 h).1,(jN.1 h).2]
theorem ASt.step{u:jh CP}{Q:je}{R:LBy}{v k g g':jl}{W p j r n:jk}{l Ks:jh CK}{x:CK}{u1 u2 q y B U y1 y2:jb}(h:ASt u Q R v w W S l k u1 u2 g q)(C:l[k]?=jc x)(a2:v<=W.heap.size)(o:jp W W p)
 (Y4:y1.cells.toList=[jf jg (x.ix:jl)]) (ad:y2.cells.toList=aD x.g x.vm x.vt) (d:zM RI RG v p j u1 u2 y B (k+1) (k+1) (ixs (l.take k)++y1.cells.toList) (gcs (l.take k)++y2.cells.toList))
 (s:jp j j r) (V:∀z∈Ks,KD (λb=>j.heap.size<=b/\b<r.heap.size) u r z) (hK:Ks.map CK.cand=ff x.g (u.map (·.1))) (m:r.grownBy n (jc g)) (t:g'=g\/r.heap.size<=g')
 (E:eE RK.e RK.k n g' U (l.length-(k+1)+Ks.length) ((l.drop (k+1)).flatMap aL++Ks.flatMap aL)):ASt u Q R v w n S (l++Ks) (k+1) y B g' U:=by
 have hk:=(jN.1 C).1;obtain⟨X,F⟩:=h.que.cells;have au:=h.que.lt;have aa:=o.size;have ax:=s.size;have ay:p.heap[g]?=jc (jo X RK.e (0,0)):=av F o;have e1:u1.ownBlock≠jc g:=cO h.own1 F G;have e2:u2.ownBlock≠jc g:=cO h.own2 F G;have ac:j.heap[g]?=jc (jo X RK.e (0,0)):=(d.heap g (jw au aa) e1 e2).trans ay;have a3:p.heap.size<=j.heap.size:=d.bel.size;have d1:y.ownBlock≠jc g:=cO d.own1 ac G;have d2:B.ownBlock≠jc g:=cO d.own2 ac G;have s4:∀b,b<j.heap.size->b≠g->n.heap[b]?=j.heap[b]?:=λb a H=>(m.block b (jw a ax) λe=>H (by injection e)).trans (s.block b a)
 have s0:∀b,b<W.heap.size->b≠g->u1.ownBlock≠jc b->u2.ownBlock≠jc b->n.heap[b]?=W.heap[b]?:=λb a H i h2=>(s4 b Y H).trans ((d.heap b (jw a aa) i h2).trans (o.block b a))
 have a1:W.heap.size<=n.heap.size:=by have:=m.size;omega
 have a4:∀b,y.ownBlock=jc b->b=g'->False:=λb a e=>by
  rcases t with rfl|D
  ·exact d1 (e▸a)
  have:=(d.own1.lt b a).2;omega
 have a5:∀b,B.ownBlock=jc b->b=g'->False:=λb a e=>by
  rcases t with rfl|D
  ·exact d2 (e▸a)
  have:=(d.own2.lt b a).2;omega
 refine⟨?_,?_,?_,?_,?_,?_,?_,?_,?_⟩
 ·rw[qQ,h.seq,eC,pW (c:=x.cand) (by rw[<-h.seq,j4,C];rfl),hK];rfl
 ·rw[qS Y,DD C,O5,<-Y4]
  exact iB d.own1 λb a=>s4 b (d.own1.lt b a).2 λe=>d1 (e▸a)
 ·rw[qS Y,DD C,Qg,<-ad]
  exact iB d.own2 λb a=>s4 b (d.own2.lt b a).2 λe=>d2 (e▸a)
 ·rw[List.drop_append_of_le_length Y,qA,jZ,show l.length+Ks.length-(k+1)=l.length-(k+1)+Ks.length by omega]
  exact E
 ·rcases t with rfl|D
  ·exact h.qlow
  omega
 ·intro z f
  rcases jY.1 f with f|f
  ·refine((h.all z f).keep λb a=>?_).mono λb a=>⟨a.1,by omega⟩
   obtain⟨K,M,P⟩:=h.off z f b a.1;exact s0 b a.2 (Ne.symm P) K M
  have i:=(V z f).keep λb a=>m.block b a.2 λe=>by injection e with e;omega
  refine(KD.own i).mono λb a=>⟨a.1,by have:=m.size;have:=a.2;omega⟩
 ·intro z f b a
  rcases jY.1 f with f|f
  ·obtain⟨K,M,P⟩:=h.off z f b a
   have a6:=(rE (h.all z f) a).2;refine⟨λe=>?_,λe=>?_,λe=>?_⟩
   ·rcases d.lie1 with i|i
    ·exact K (i▸e)
    have:=i b e;omega
   ·rcases d.lie2 with i|i
    ·exact M (i▸e)
    have:=i b e;omega
   rcases t with rfl|D
   ·exact P e
   omega
  have i:=rE (V z f) a;refine⟨λe=>?_,λe=>?_,λe=>?_⟩
  ·have:=(d.own1.lt b e).2;omega
  ·have:=(d.own2.lt b e).2;omega
  have:=(jS.1 (h.que.cells).choose_spec).1
  rcases t with rfl|D
  ·omega
  subst e;obtain⟨-,-,-,-,-,h2,-⟩:=E;omega
 ·have f:jp 0 p j:=d.bel
  refine h.bel.trans ⟨m.os.trans (s.os.trans (f.os.trans o.os)),m.tape.trans (s.tape.trans (f.tape.trans o.tape)),m.output.trans (s.output.trans (f.output.trans o.output)),a1,λb a=>?_⟩;have E:=h.qlow;exact s0 b Y Y (λe=>by have:=(h.own1.lt b e).1;omega) (λe=>by have:=(h.own2.lt b e).1;omega)
 rw[jZ];omega
theorem Ca{D:jl->Prop}(e:jA)(sz:jl):aH D w (jj jm 0 0) sz 0 []:=aH.of_own (ql w 0 e sz) λg a=>by simp[qB]at a
def L0:jb->jl
 | .slice _ n _=>n
 |_=>0
theorem J0(d:jh CP)(v:jb)(aa:je)(U:LBy)(h:U.length=32)(w:jk)(a:cC w v d)(l:∀p∈d,da (aR p.1))(m:bP w)(o:d.length<=1000):
 jr jn 14 #[ja (cZ aa U).toArray,v] w λe w'=>∃(u1 u2:jb) (Ks:jh CK),e=js (jv #[u1,u2])/\Ks.map CK.cand=pO aa U (d.map (·.1))/\aH (λb=>w.heap.size<=b/\b<w'.heap.size) w' u1 1 Ks.length (ixs Ks)/\
  aH (λb=>w.heap.size<=b/\b<w'.heap.size) w' u2 36 Ks.length (gcs Ks)/\(∀k∈Ks,KD (λb=>b<w'.heap.size) d w' k)/\jp w w w':=by
 obtain⟨p1,k1,rfl⟩:=a.form;obtain⟨FA,f⟩:=J ((cZ aa U).toArray);have Y9:jd (FA.size=VF.n):=O (by rw[f,jG];unfold cZ;rw[qC,jB,h];rfl);rw[<-f];obtain⟨x0,M,q,r,j,g⟩:=dt w FA VF.t;have s:=O (pS d _ x0 (a.below g) l (m.below g) o);have t:=O q;have HM:=O r;have c:=O g;have HL:=O a;have HE:=O l;have HT:=O m;have HN:=O o;have bd:=O f;have bf:=O h;clear q r g a l m o f h
 go_enter func14,ntmps14
 go_wp2_with fail
 rw[<-HM];change jr _ _ _ (w.alloc (jo FA VF.t)) _;rw[<-t];refine s.mono ?_;rintro e x1 ⟨v2,v3,rfl,g,r⟩;have m:=O g;replace j:=ae j r;replace c:=ai c r;obtain⟨F,f⟩:=J (#[Value.slice p1 d.length k1,v2,v3]);have a1:jd (F.size=VP.n):=O (by rw[f];rfl);have Yg:jd (F.all (·.oneCell')=ji):=O (by
  obtain⟨a,b,h⟩:=g.ids.form;obtain⟨a',o,l⟩:=g.at_.form;rw[f,h,l];simp[qT])
 have a4:=O f;rw[<-f];clear g r s t f
 go_upto_region 2 with(first|(refine VP.made N N (L ?_))|(refine VP.first N N N F N a1 Yg (L ?_)))
 obtain⟨x2,H,s,a,f,r⟩:=dt x1 F VP.t;rw[<-s,<-a];replace j:=ae j r;replace c:=ai c r;have Yq:jd (∀W,jp x2 x2 W->iq (·<W.heap.size) W (jj p1 d.length k1) v2 v3 d):=O λW hW=>by
  have l:=r.trans (hW.mono r.size);exact((m.mono λg o=>o.2).below l)
 have a5:jd (∀W,jp x2 x2 W->bP W):=O λW hW=>HT.below (c.trans (hW.mono c.size))
 have l:=Fi d (jj p1 d.length k1) v2 v3 aa U bf x2 (Yq _ (jE _ _)) HE (a5 _ (jE _ _)) HN;rw[<-bd,<-a4]at l;replace l:=O l;have bg:jd (H<x2.heap.size):=O (jS.1 f).1;clear s a r m
 go_wp2_with (first|(refine VP.loadA aj N N F a1 f (L ?_))|(refine VF.loadA aj N N FA Y9 j (L ?_)))
 refine l.mono ?_;rintro e x3 ⟨C,o,rfl,q,t,x,y,K⟩;have Yc:=O q;have bh:=O t;have m:=O x;have u:=O y;have S:=O K;replace f:=ae f K;clear q t x y K l j
 go_upto_region 3 with(first|(refine VK.made N N (L ?_))|(refine VK.first N N N C N Yc bh (L ?_)))
 obtain⟨q,bi,s,a,R,j⟩:=dt x3 C VK.t;rw[<-s,<-a];replace f:=ae f j;have t:jd (jp x2 x2 q):=ai S j;have x:jd (jp w w q):=O (c.trans (t.mono c.size));have bM:jd (bi<q.heap.size):=O (jS.1 R).1
 rcases o with _|_
 ·have l:=O (u N)
  clear s a j m u
  go_wp2_with fail
  go_ret2;refine⟨_,_,[],N,by unfold pO;rw[l];rfl,Ca 0 _,Ca 0 _,(λk hk=>by cases hk),x⟩
 obtain⟨D,y,z,l⟩:=m N;have B:jd (KD (λb=>x2.heap.size<=b/\b<q.heap.size) d q D):=O ((z.keep λb a=>j.block b a.2).mono λb a=>⟨a.1,jw a.2 j.size⟩);have bk:=O y;have Ya:=O l;have VA:=O (Qh l);clear s a j m u y z l
 go_upto_block 0 with(first|(refine VK.loadA aj N N C Yc R (L ?_))|(refine qd N λ_ Q=>RK.wp_build (.tmp 21) N (ja C) N Yc (Q _ _ ?_);clear Q;refine L ?_))
 rw[show(j0 C).cells=C from N];obtain⟨V,g0,s,a,X,m⟩:=dt q C RK.e;rw[<-s,<-a];obtain⟨l,ad⟩:∃l:jh Cmt,l=d.map (·.1):=⟨_,N⟩;have Vn:=O ad;have au:jd (KIn q D):=O ((Yq _ t.out).list|>B.kin);have ax:jd (C.toList=aL D):=O (by rw[bk]);have VQ:jd (ASt d aa U q.heap.size V V D.cand [D] 0 (jj jm 0 0) (jj jm 0 0) g0 (jj (jc ⟨g0,0,jm⟩) 1 1)):=O (by
  refine⟨N,ql _ _ _ _,ql _ _ _ _,⟨?_,0,1,C,N,X,jz _,by unfold jL;omega,by rw[Yc];exact jz _,λj u hj=>?_⟩,qn a.symm,λz y=>?_,λz y b ac=>?_,jE _ _,jV _⟩
  ·show(aL D++[]).length=1*143
   rw[pz,au.len]
  ·rw[qf,<-qP,ax]
   simpa using hj
  ·rw[p6]at y;subst y
   exact(KD.own (B.keep λb a=>m.block b a.2)).mono λb a=>⟨a.1,jw a.2.2 m.size⟩
  rw[p6]at y;subst y;have h1:=rE B ac;exact⟨by simp[qB],by simp[qB],by omega⟩)
 have Uw:jd (jp x2 x2 V):=ai t m;have a6:jd (jp w w V):=ai x m;have ac:jd (V.heap.size=q.heap.size+1/\w.heap.size<=q.heap.size/\x2.heap.size<=q.heap.size):=O ⟨by rw[s];exact j5 _ _,x.size,t.size⟩;have bl:jd (V.heap[H]?=jc (jo F VP.t (0,0))):=ae f m;clear s a m ad X f R au ax t x B S c
 go_wp2_with fail
 go_loopw [4,5,9] (λf t x wr=>∃(j:jh CK) (k g o c m:jl) (q1 q2:Option Addr) (d1 d2:jl),f=jj q1 k d1/\t=jj q2 k d2/\x=jj (jc ⟨g,o,jm⟩) m c/\jd (m=j.length-k)/\jd (ASt d aa U q.heap.size V wr D.cand j k f t g x)) (λf _ _ _=>d.length-L0 f)
 case atStart=>exact⟨[D],0,g0,0,1,1,jm,jm,0,0,N,N,N,O N,VQ⟩
 obtain⟨j,k,g,o,c,m,q1,q2,d1,d2,rfl,rfl,rfl,ad,f⟩:=hrel;clear VQ;have ZI:jd (j.length<=d.length):=O (by
  have h:=(BA VA k).len VA;rw[<-f.seq,jB,jB]at h;exact h)
 by_cases a2:0<m
 case neg=>
  have hd:=aw (0<(m:je));have UC:=aw (0<m);have Yl:jd (j.length=k):=O (by have:=ad.out;have:=f.le;omega)
  go_wp2_with fail
  go_ret2;have t:w.heap.size<=q.heap.size:=ac.2.1;have x:j.take k=j:=qa (qn Yl);refine⟨_,_,j,N,?_,?_,?_,λz y=>(f.all z y).mono λb a=>a.2,a6.trans (f.bel.mono t)⟩
  ·unfold pO
   rw[Ya];have h:=f.seq;have h2:(eC (d.map (·.1)) D.cand k).length<=k:=by rw[<-h,jB,Yl];exact jz _
   rw[h];exact(MY VA h2 (by rw[jB,<-Yl];exact ZI)).symm
  ·have h:=f.own1
   rw[x]at h;rw[Yl];exact aH.of_own h λb a=>⟨jO t (h.lt b a).1,(h.lt b a).2⟩
  have h:=f.own2;rw[x]at h;rw[Yl];exact aH.of_own h λb a=>⟨jO t (h.lt b a).1,(h.lt b a).2⟩
 have hd:=az (0<(m:je));have UC:=az (0<m);obtain⟨x,au⟩:∃x,j[k]?=jc x:=⟨_,qU (aI ad)⟩;have U3:=j6 au;have ax:jd (cC wr (jj p1 d.length k1) d):=O (HL.below (a6.trans (f.bel.mono ac.2.1)));have B:=(f.all x U3).kin ax;have a3:jd ((aL x).length=VK.n):=O B.len;have UZ:jd (wr.rangeAt g o (aL x)):=O λt u ht=>by
  obtain⟨-,p,c',S,-,-,h3⟩:=f.que.row;injection S with S e2 e3
  obtain⟨g',o',R,h4⟩:=h3 (aI ad);rw[<-S]at R;injection R with R
  injection R with R X
  rw[R,X];exact h4 t u (by rw[D9 au,ms,mz (jN.1 ht).1];exact ht)
 obtain⟨X,p⟩:=J ((aL x).toArray);have HX:=O p;have Z4:jd (X.size=VK.n):=O (by rw[p,jG];exact a3);have UT:jd (X.all (·.oneCell')=ji):=O (by rw[p,jT];exact λu S=>B.ones u (ak S));have bm:jd (X[0]?=jc (jf jg (x.ix:jl))):=O (by rw[p];simpa using(mG B).1);have V9:jd (∀z:jk,∀b,z.heap[b]?=jc (jo X VK.t (0,0))->z.rangeAt b 107 (aD x.g x.vm x.vt)):=O λz b y t u ht=>ah y (by
  rw[p,jW];have h:=nB B (1+t);rw[<-Nat.add_assoc,Nat.add_comm 1 t,List.getElem?_cons_succ]at h;exact h.trans ht)
 have VW:jd ((aD x.g x.vm x.vt).length=VG.n):=O (eX B.leads.llen);have Vl:jd (∀u∈aD x.g x.vm x.vt,u.oneCell'=ji):=O (mQ B.leads);have ba:jd (x.g.mem.length<=900000/\x.g.tree.length<=600000):=O (by
  have hi:=BA VA k;obtain⟨gx,R,-⟩:=hi.at VA (i:=k) (c:=x.cand) (by rw[<-f.seq,j4,au];rfl);have h:=oM (iz (rP R.ok));rw[<-R.ok.leads]at h;have h1:x.g.mem.length<=512:=h.1;have h2:x.g.tree.length<=1023:=h.2;exact⟨by omega,by omega⟩)
 obtain⟨GA,R⟩:=J ((aD x.g x.vm x.vt).toArray);have Y5:=O R;have Yd:=O au;clear p R au B U3 ax
 go_upto_region 9 with(first|(refine VK.load aj N N (aL x) a3 UZ ?_;rw[<-HX];refine L ?_)|(refine VK.made N N (L ?_))|(refine VK.first N N N X N Z4 UT (L ?_)))
 obtain⟨y1,bx,s,a,bb,r⟩:=dt wr X VK.t;rw[<-s,<-a];have au:=bX y1;obtain⟨y2,ax⟩:=J y1.drew;rw[<-ax]at au;have R:jp wr wr y2:=r.trans (au.mono r.size);have p:=O R;have B:=av bb au;have R1:=cL f.own1 R;have R2:=cL f.own2 R;have ay:jd (q.heap.size<=wr.heap.size):=O (by have:=f.bel.size;have:=ac.1;omega);have bn:q.heap.size<=y2.heap.size:=jO ay R.size;have bc:jd (k<=1000000):=O (by have:=f.le;have:=ZI.out;have:=HN.out;omega);refine o1 ?_;refine fM (λW'=>W'.heap[bx]?=jc (jo X VK.t (0,0))) 10 (.take 0 (.take 1 (.take 2 (.take 5 (.take 6 (.take 7 (rT id (.one 10 (.one 11 .done))))))))) af af af af G (λ_ _ _ _ h=>h) (by rw[<-ax];exact B) ?_;rw[<-ax];clear s a r au ax R;iterate 2 refine co ?_
 (refine cJ (v:=?_) N aj (λW' r=>?_) ?_;rotate_left;(have s:=ah (i:=0) r bm;clear r;go_simp;with_reducible rfl);refine L ?_)
 iterate 2 refine co ?_
 (refine cJ (v:=ja GA) N aj (λW' r=>by rw[Y5];exact fx _ _ VG.t _ N _ _ N _ VG.d (V9 W' _ r) VG.hu VG.hd (by rw[VW];exact VG.hi)) ?_;refine L ?_)
 refine z7 RI RG (T0:=id) (E:=id) (r1:=34) (r2:=35) (rb:=39) (r3:=40) (s1:=33) (s2:=38) (t1:=31) (t2:=36) af (λ_ _ _ _ h=>h) af af
  rfl rfl rfl rfl rfl rfl rfl rfl rfl rfl rfl rfl rfl rfl rfl rfl (show 34<49 by decide) (show 39<49 by decide) G G G G G G
  (λa' v=>rfl) (λa'=>rfl) (λa'=>rfl) (λa'=>rfl) (λa' w' R h r=>r)
  (x1:=jf jg (x.ix:jl)) (x2:=ja GA) (u1:=jj q1 k d1) (u2:=jj q2 k d2) rfl rfl rfl rfl rfl (by rw[Y5];exact VW) (by simp[nv,qT]) (λu S=>Vl u (by rw[Y5]at S;simpa [nv]using S)) R1 R2 (AJ R1 R2 G) bc bc bn ?_ ?_
 ·intro w' hk r
  exact(hk _ (jS.1 B).1 (cO R1 B G) (cO R2 B G)).trans B
 rintro z1 z2 bN bO s R;obtain⟨bo,bp,rfl⟩:=cK R.own1;obtain⟨bq,br,rfl⟩:=cK R.own2;have bs:jd (s.heap[bx]?=jc (jo X VK.t (0,0))):=O ((R.heap _ (jS.1 B).1 (cO R1 B G) (cO R2 B G)).trans B);have r:=O R;clear R B R1 R2 bb;refine L ?_;refine nA N G af (λB Q=>?_);go_simp;refine Q _ _ ?_;clear Q;refine L ?_;refine nA N G af (λB Q=>?_);go_simp;refine Q _ _ ?_;clear Q;refine L ?_;refine fb ?_;have U7:jd (jp x2 x2 s):=O (by
  have B:=r.bel;refine Uw.trans ((f.bel.mono ac.2.2).trans ⟨B.os.trans p.os,B.tape.trans p.tape,B.output.trans p.output,jO p.size B.size,λb a=>?_⟩);have h1:=ac.2.2;have h2:=ay.out;have h3:=p.size;exact(r.heap b Y (λe=>by have:=(f.own1.lt b e).1;omega) (λe=>by have:=(f.own2.lt b e).1;omega)).trans (p.block b Y))
 have bb:jd (s.heap[H]?=jc (jo F VP.t (0,0))):=O (by
  have h1:=ac.2.2;have h2:=ay.out;have h3:=p.size;have h4:=bg.out;exact(r.heap H Y (λe=>by have:=(f.own1.lt H e).1;omega) (λe=>by have:=(f.own2.lt H e).1;omega)).trans ((p.block H Y).trans ((f.bel.block H Y).trans bl)))
 have bu:=O (V9 s bx bs);have bv:jd (bW s x.g x.vm x.vt):=O (by
  have h:=f.all x (j6 Yd);refine(h.keep λb a=>?_).grp.grp;obtain⟨B,Q,-⟩:=f.off x (j6 Yd) b a.1;exact(r.heap b (jw a.2 p.size) B Q).trans (p.block b a.2))
 have Q:=ED d (jj p1 d.length k1) v2 v3 x.g x.vm x.vt s (Yq _ U7.out) bv HE (a5 _ U7.out) HN ba.1 ba.2;rw[<-Y5,<-a4]at Q;replace Q:=O Q
 go_wp2_with (first|(refine VP.loadA aj N N F a1 bb (L ?_))|(refine VG.load aj N N (aD x.g x.vm x.vt) VW bu ?_;rw[<-Y5];refine L ?_))
 refine Q.mono ?_;rintro e A3 ⟨vq,Ks,rfl,R,au,K⟩;have Yl:=O R;have bw:=O au;have bA:=O K;have bB:jd (eE RK.e RK.k A3 g (jj (jc ⟨g,o,jm⟩) m c) (j.length-k) ((j.drop k).flatMap aL)):=O (by
  have B:=f.que;obtain⟨cg,ax⟩:=B.cells;have a2:=B.lt;refine B.keep ((K.block g ?_).trans ((r.heap g (jw a2 p.size) (cO f.own1 ax G) (cO f.own2 ax G)).trans (p.block g a2)));have:=r.bel.size;have:=p.size;omega)
 have bC:jd (cF A3 vq 143 Ks.length (Ks.flatMap aL)):=O R.row.row;have WY:jd (∀u∈Ks.flatMap aL,u.oneCell'=ji):=O (by
  intro u S;obtain⟨z,y,S⟩:=List.mem_flatMap.1 S;exact((R.all z y).kin (((Yq _ U7.out).list).below K)).ones u S)
 have WL:jd (j.length-k+Ks.length<=1000000):=O (by
  have h1:=jH n0 au;have h2:(ff x.g (d.map (·.1))).length<=(bU (d.map (·.1)) (d.map (·.1)).length).length:=by
   unfold ff;rw[List.length_mergeSort];exact List.length_filterMap_le _ _
  have h3:=rU (d.map (·.1)) (d.map (·.1)).length;rw[jB]at h1 h2 h3;have:=HN.out;have:=ZI.out
  omega)
 clear R au K Q
 go_upto_region 7 with(first|(refine RK.wpList_appendQ N (.tmp 41) (.tmp 45) N N bB N bC WY WL ?_;intro v' A4 g' B K Q;refine L ?_))
 obtain⟨Zb,R,S⟩:=eE.tail (P:=jn) (t:=97) (sz:=143) (n:=j.length-(k+1)+Ks.length) (ys:=aL x) (xs:=(j.drop (k+1)).flatMap aL++Ks.flatMap aL) (by
  have h:=B;rw[D9 Yd,ms,qy,show j.length-k+Ks.length=j.length-(k+1)+Ks.length+1 by have:=ad.out;omega]at h;exact h) a3 RK.ht RK.size
 have h:=O (f.step (y1:=jf jg (x.ix:jl)) (y2:=ja GA) Yd ay p N (by rw[Y5];rfl) r bA Yl.all bw K Q R);obtain⟨-,o',c',-,au,-⟩:=B;obtain⟨-,bI,bK,-,ax,-⟩:=R;rw[au]at S⊢;rw[ax]at S h;clear K Q au ax
 go_wp2_with fail
 refine⟨⟨j++Ks,k+1,g',bI,bK,_,bo,bq,bp,br,N,N,N,O ?_,h⟩,?_⟩
 ·rw[jZ];have:=ad.out;omega
 have:=ad.out;have:=ZI.out;show d.length-(k+1)<d.length-k;omega
theorem Q0(q:jh CP)(v:jb)(g:Grp)(vm vt:jb)(w:jk)(b:cC w v q)(h:bW w g vm vt)(k:∀p∈q,da (aR p.1))(l:bP w)(m:q.length<=1000)(o:g.mem.length<=900000)(r:g.tree.length<=600000)(s:∀p∈q,p.1.chg.length<=1000000):
 jr jn 16 #[ja (aD g vm vt).toArray,v] w λe w'=>e=js (jv #[jf jg ((dY g (q.map (·.1))).elim 0 λc=>(c.ix:je)),.bool (dY g (q.map (·.1))).isSome])/\jp w w w':=by
 obtain⟨p1,k1,rfl⟩:=b.form;obtain⟨y,a⟩:=J ((aD g vm vt).toArray);have Yj:=O a;have aa:jd (y.size=VG.n):=O (by rw[a,jG,eX h.llen];rfl);rw[<-a];obtain⟨M,j⟩:=J w.heap.size;obtain⟨x0,n⟩:=J (w.alloc (jo y 51));have f:jd (x0.heap[M]?=jc (jo y VG.t (0,0))):=O (by rw[n,j];exact jF _ _);have d:jd (jp w w x0):=O (by rw[n];exact ao _ _);have K:=O b;have HG:=O h;have P:=O k;have Q:=O l;have R:=O m;have VW:=O o;have Wn:=O r;have Vo:=O s;have HM:=O j;have p:=O n;clear a j n b h k l m o r s
 go_enter func16,ntmps16
 go_upto_region 1 with fail
 rw[<-p,<-HM];clear p;refine o1 ?_;refine fM (λb=>b.heap[M]?=jc (jo y VG.t (0,0))) 10
  (.take 0 (.take 2 (.two 1 7 (.two 3 7 (.take 4 (.take 5 (.take 6 (.one 7 (.one 8 (.take 9 .done)))))) (.one 3 (.take 4 (.take 5 (.take 6 (.one 8 (.take 9 .done))))))) (.one 1 (.one 3 (.take 4 (.take 5 (.take 6 (.one 8 (.take 9 .done)))))))))) af af af af G (λ_ _ _ _ h=>h) f ?_
 have a:=bX x0;obtain⟨x1,r⟩:=J x0.drew;rw[<-r]at a⊢;replace d:=ai d a;replace f:=ae f a;clear r a;refine co ?_
 (refine cJ (v:=ja y) N aj (λb j=>dh VG.hu VG.hd (by rw[aa];exact VG.hi) N N j) ?_;refine L ?_)
 refine A9 ?_ ?_
 ·refine cV N (λx j=>?_)
  go_simp;refine(pS q _ x1 (K.below d) P (Q.below d) R).mono ?_;rintro e x2 ⟨v2,v3,rfl,S,a⟩;have F:=O (S.mono (E:=(·<x2.heap.size)) λb o=>o.2);replace d:=ai d a;replace f:=ae f a;refine j _ _ f.out λ_=>?_
  clear j S a;refine L ?_;refine A9 ?_ ?_
  ·refine cV N (λx j=>?_)
   go_simp;have n:=ud q _ v2 v3 g vm vt x2 F (HG.below d) P (Q.below d) R VW Wn Vo;rw[<-Yj]at n;refine n.mono ?_;rintro e H ⟨wk,rfl,z,s,a⟩;replace d:=ai d a;replace f:=ae f a;have t:=O (sF (wk:=wk) λk U=>(z k U).kin (K.below d));have V:=O s;have W:jd ((di wk)[0]?=jc (jf jg ((dY g (q.map (·.1))).elim 0 λc=>(c.ix:je)))):=O (by rw[<-s];cases wk<;>rfl);refine j _ _ f.out λ_=>?_
   clear j n z s a;refine L ?_;iterate 3 refine co ?_
   refine cV N (λx j=>?_);rw[jC aj];refine gK VK.t N VK.Z VK.hal ?_;have B:=O d.size;obtain⟨p,l,r,o,m,a⟩:=dt H VK.Z VK.t;rw[<-r,<-o];replace d:=ai d a;replace f:=ae f a;have X:jd (w.heap.size<=l):=O (by rw[o];exact B);refine j _ _ f.out λ_=>?_
   clear j r o a B;refine L ?_;refine cV N (λx j=>?_);rw[jC aj];refine jX VK.t _ _ N l (di wk) N N VK.t VK.Z m.out (by rw[t.1];exact VK.hi) (VK.hZ.trans t.1.symm) t.2 ?_;have C:jd ((p.setRow l (di wk)).heap[l]?=jc (jo (di wk) VK.t (0,0))):=O (j1 _ _ _ _ _ _ m.out);have D:jd (jp w w (p.setRow l (di wk))):=O (iP d X _);have u:(p.setRow l (di wk)).heap[M]?=jc (jo y VG.t (0,0)):=(jM _ _ _ _ (λe=>by have h:=m.out;rw[<-e,f]at h;injection h with h;injection h with _ h;exact jq h G)).trans f;generalize p.setRow l (di wk)=x9 at C D u⊢;refine j _ _ u λ_=>?_
   clear j u;refine L ?_;refine co ?_;refine fb ?_;have c0:=ah (i:=0) C W
   go_wp2_with fail
   go_ret2;exact⟨yQ (jH (λb=>qD #[_,.bool b]) (by rw[<-V];cases wk<;>rfl)),D⟩
  refine cV N (λx j=>?_);rw[jC aj];refine gK VK.t N VK.Z VK.hal ?_;have B:=O d.size;obtain⟨H,l,r,o,m,a⟩:=dt x2 VK.Z VK.t;rw[<-r,<-o];replace d:=ai d a;replace f:=ae f a;replace F:=O (F.below a);have X:jd (w.heap.size<=l):=O (by rw[o];exact B);refine j _ _ f.out λ_=>?_
  clear j r o a B;refine L ?_;refine cV N (λx j=>?_);go_simp;have n:=ud q _ v2 v3 g vm vt H F (HG.below d) P (Q.below d) R VW Wn Vo;rw[<-Yj]at n;refine n.mono ?_;rintro e p ⟨wk,rfl,z,s,a⟩;replace d:=ai d a;replace f:=ae f a;replace m:=ae m a;have t:=O (sF (wk:=wk) λk U=>(z k U).kin (K.below d));have V:=O s;have W:jd ((di wk)[0]?=jc (jf jg ((dY g (q.map (·.1))).elim 0 λc=>(c.ix:je)))):=O (by rw[<-s];cases wk<;>rfl);refine j _ _ f.out λ_=>?_
  clear j n z s a;refine L ?_;iterate 3 refine co ?_
  refine cV N (λx j=>?_);rw[jC aj];refine jX VK.t _ _ N l (di wk) N N VK.t VK.Z m.out (by rw[t.1];exact VK.hi) (VK.hZ.trans t.1.symm) t.2 ?_;have C:jd ((p.setRow l (di wk)).heap[l]?=jc (jo (di wk) VK.t (0,0))):=O (j1 _ _ _ _ _ _ m.out);have D:jd (jp w w (p.setRow l (di wk))):=O (iP d X _);have u:(p.setRow l (di wk)).heap[M]?=jc (jo y VG.t (0,0)):=(jM _ _ _ _ (λe=>by have h:=m.out;rw[<-e,f]at h;injection h with h;injection h with _ h;exact jq h G)).trans f;generalize p.setRow l (di wk)=x9 at C D u⊢;refine j _ _ u λ_=>?_
  clear j u;refine L ?_;refine co ?_;refine fb ?_;have c0:=ah (i:=0) C W
  go_wp2_with fail
  go_ret2;exact⟨yQ (jH (λb=>qD #[_,.bool b]) (by rw[<-V];cases wk<;>rfl)),D⟩
 refine cV N (λx j=>?_);rw[jC aj];refine gK VK.t N VK.Z VK.hal ?_;have B:=O d.size;obtain⟨x2,l,r,o,m,a⟩:=dt x1 VK.Z VK.t;rw[<-r,<-o];replace d:=ai d a;replace f:=ae f a;have X:jd (w.heap.size<=l):=O (by rw[o];exact B);refine j _ _ f.out λ_=>?_
 clear j r o a B;refine L ?_;refine cV N (λx j=>?_);go_simp;refine(pS q _ x2 (K.below d) P (Q.below d) R).mono ?_;rintro e H ⟨v2,v3,rfl,S,a⟩;have F:=O (S.mono (E:=(·<H.heap.size)) λb o=>o.2);replace d:=ai d a;replace f:=ae f a;replace m:=ae m a;refine j _ _ f.out λ_=>?_
 clear j S a;refine L ?_;refine cV N (λx j=>?_);go_simp;have n:=ud q _ v2 v3 g vm vt H F (HG.below d) P (Q.below d) R VW Wn Vo;rw[<-Yj]at n;refine n.mono ?_;rintro e p ⟨wk,rfl,z,s,a⟩;replace d:=ai d a;replace f:=ae f a;replace m:=ae m a;have t:=O (sF (wk:=wk) λk U=>(z k U).kin (K.below d));have V:=O s;have W:jd ((di wk)[0]?=jc (jf jg ((dY g (q.map (·.1))).elim 0 λc=>(c.ix:je)))):=O (by rw[<-s];cases wk<;>rfl);refine j _ _ f.out λ_=>?_
 clear j n z s a;refine L ?_;iterate 3 refine co ?_
 refine cV N (λx j=>?_);rw[jC aj];refine jX VK.t _ _ N l (di wk) N N VK.t VK.Z m.out (by rw[t.1];exact VK.hi) (VK.hZ.trans t.1.symm) t.2 ?_;have C:jd ((p.setRow l (di wk)).heap[l]?=jc (jo (di wk) VK.t (0,0))):=O (j1 _ _ _ _ _ _ m.out);have D:jd (jp w w (p.setRow l (di wk))):=O (iP d X _);have u:(p.setRow l (di wk)).heap[M]?=jc (jo y VG.t (0,0)):=(jM _ _ _ _ (λe=>by have h:=m.out;rw[<-e,f]at h;injection h with h;injection h with _ h;exact jq h G)).trans f;generalize p.setRow l (di wk)=x9 at C D u⊢;refine j _ _ u λ_=>?_
 clear j u;refine L ?_;refine co ?_;refine fb ?_;have c0:=ah (i:=0) C W
 go_wp2_with fail
 go_ret2;exact⟨yQ (jH (λb=>qD #[_,.bool b]) (by rw[<-V];cases wk<;>rfl)),D⟩
section
section
variable {q1 q2 q3 q4:CQ}
theorem C1{P:Cmt->Prop}(b:P cS3)(c:P bR)(d:P cM)(e:P bF):∀p∈[(cS3,q3),(bR,q2),(cM,q4),(bF,q1)],P p.1:=by
 intro p a;simp only[jR,j7,or_false]at a
 rcases a with rfl|rfl|rfl|rfl
 ·exact b
 ·exact c
 ·exact d
 exact e
theorem rR:[(cS3,q3),(bR,q2),(cM,q4),(bF,q1)].map (·.1)=[cS3,bR,cM,bF]:=N
theorem As:∀p∈[(cS3,q3),(bR,q2),(cM,q4),(bF,q1)],p.1.chg.length<=1000000:=
 C1 (P:=λc=>c.chg.length<=1000000) (by rw[iL.1];decide) (by rw[nK.1];simp) (by rw[iL.2.2.1];decide) (by rw[mm.1];simp)
theorem wI:∀p∈[(cS3,q3),(bR,q2),(cM,q4),(bF,q1)],da (aR p.1):=
 C1 (P:=λc=>da (aR c)) lA.2.2.1 lA.2.1 lA.2.2.2 lA.1
theorem Ny(v:jb)(W:jk)(l:cC W v [(cS3,q3),(bR,q2),(cM,q4),(bF,q1)])(m:bP W):
 jr jn 7 #[ja (cZ 3 (aG bF)).toArray,v] W λe w'=>∃a b f g,e=js (jv #[jj a 3 b,jj f 3 g])/\
  aH (·<w'.heap.size) w' (jj a 3 b) 1 3 [jf jg 3,jf jg 1,jf jg 2]/\jp W W w':=by
 refine(yE _ v 3 (aG bF) (dS _) W l wI m ar As).mono ?_;rintro e w' ⟨u1,u2,Ks,rfl,i,d,j,-,n⟩;rw[rR,oH.chain]at i;have o:Ks.length=3:=by have h:=jH n0 i;simpa using h
 have p:(Ks.map λk=>jy .i64 k.ix)=[jf jg 3,jf jg 1,jf jg 2]:=by
  have h:=jH (List.map λc:aN=>jy .i64 (c.ix:je)) i;rw[qE]at h;exact h.trans (by unfold cN;rfl)
 rw[o]at d j;rw[p]at d;obtain⟨a,b,rfl⟩:=d.form;obtain⟨f,g,rfl⟩:=j.form;exact⟨a,b,f,g,N,d.mono λk c=>c.2,n⟩
theorem Ly(g:Grp)(c:Cmt)(i:jl):(cN g c i).ix=i:=by unfold cN;rfl
theorem Ml{a:je}{b:LBy}{l:jh Cmt}{c:aN}(h:ft a b l=jc c):pO a b l=sH l c:=by unfold pO;rw[h]
theorem Nb:pO 3 (aG bF) [cS3,bR,cM,bF]=[⟨3,bF,aG bF,0,aC (aK 3) bF⟩,cN (aC (aK 3) bF) bR 1,cN (aC (aC (aK 3) bF) bR) cM 2,cN (aC (aC (aK 3) bF) bR) cS3 0]:=by
 rw[Ml oH.first];exact oH.all
theorem QD(v:jb)(W:jk)(h:cC W v [(cS3,q3),(bR,q2),(cM,q4),(bF,q1)])(i:bP W):
 jr jn 14 #[ja (cZ 3 (aG bF)).toArray,v] W λe w'=>∃a b u2,e=js (jv #[jj a 4 b,u2])/\
  aH (·<w'.heap.size) w' (jj a 4 b) 1 4 [jf jg 3,jf jg 1,jf jg 2,jf jg 0]/\jp W W w':=by
 refine(J0 _ v 3 (aG bF) (dS _) W h wI i ar).mono ?_;rintro e w' ⟨u1,u2,Ks,rfl,d,g,-,-,j⟩;rw[rR,Nb]at d;have l:Ks.length=4:=(jB (f:=CK.cand) ..).symm.trans ((jH n0 d).trans N);have m:ixs Ks=[jf jg 3,jf jg 1,jf jg 2,jf jg 0]:=by
  have e:ixs Ks=(Ks.map CK.cand).map λc=>jy .i64 (c.ix:jl):=by rw[qE];rfl
  rw[e,d];simp only[mb,jQ,Ly]
  rfl
 rw[l,m]at g;obtain⟨a,b,rfl⟩:=g.form;exact⟨a,b,u2,N,g.mono λk c=>c.2,j⟩
theorem KZ(v:jb)(W:jk)(d:cC W v [(cS3,q3),(bR,q2),(cM,q4),(bF,q1)])(f:bP W):
 jr jn 15 #[ja (cZ 3 (aG bF)).toArray,v] W λe w'=>∃vm vt,e=js (jv #[ja (aD (aC cU cM) vm vt).toArray,.bool ji])/\bW w' (aC cU cM) vm vt/\jp W W w':=by
 refine(BN _ v 3 (aG bF) (dS _) W d wI f ar As).mono ?_;rintro e w' ⟨k,rfl,a,g,i⟩;rw[rR,oH.chain]at a
 rcases k with _|k
 ·cases a
 have b:k.g=aC cU cM:=by
  have h:=jH (Option.map aN.leads) a;exact qj.inj (h.trans (by unfold cN;rfl))
 have c:=(g k N).grp.grp;rw[b]at c;refine⟨k.vm,k.vt,?_,c,i⟩;rw[<-b];rfl
theorem Dn(v:jb)(W:jk)(d:cC W v [(cS3,q3),(bR,q2),(cM,q4),(bF,q1)])(f:bP W)(a:jt jb)(b:je)(g:∀t c,((aG bR).map v8)[t]?=jc c->a[1+t]?=jc c)(i:a[33]?=jc (jf jg 0))(j:a[34]?=jc (jf jg b)):
 jr jn 6 #[ja (cZ 3 (aG bF)).toArray,v,ja a] W λe w'=>e=js (.bool (decide (b<=5)))/\jp W W w':=by
 have h:=yO _ v 3 (aG bF) (dS _) a (aG bR) 0 b (dS _) g i j W d wI f ar As (by
  rw[rR,oH.chain];intro k c;have l:=oM (iz lQ);have m:=oM (iz lf);have n:=oM (iz mN);simp only[jR,j7,or_false]at c
  rcases c with rfl|rfl|rfl
  ·exact jO l.1 G
  ·exact jO m.1 G
  exact jO n.1 G)
 rw[rR,Ms oH]at h;exact h
end
theorem uo(W:jk):cC W (jj jm 0 0) []:=⟨⟨N,jm,0,N,jz _,λ_=>rfl,λh=>jq h (qg _)⟩,λp a=>by cases a⟩
theorem uY(a:je)(b:LBy):dU a b []=[]:=by
 rw[uK];rfl
theorem Pv(g:Grp):dY g []=jm:=by
 unfold dY ff eP;simp[bU]
theorem IN(a:LBy)(h:a.length=32)(W:jk)(i:bP W):
 jr jn 7 #[ja (cZ 3 a).toArray,jj jm 0 0] W λe w'=>∃b c d f,e=js (jv #[jj b 0 c,jj d 0 f])/\jp W W w':=by
 refine(yE [] _ 3 a h W (uo W) (λp g=>by cases g) i ar (λp g=>by cases g)).mono ?_;rintro e w' ⟨u1,u2,Ks,rfl,g,j,k,-,l⟩;rw[jQ,uY]at g;obtain rfl:Ks=[]:=ak g;obtain⟨b,c,rfl⟩:=j.form;obtain⟨d,f,rfl⟩:=k.form;exact⟨b,c,d,f,N,l⟩
theorem Ol(a:LBy)(c:a.length=32)(W:jk)(d:bP W):
 jr jn 15 #[ja (cZ 3 a).toArray,jj jm 0 0] W λe w'=>e=js (jv #[ja (kO jm),.bool ju])/\jp W W w':=by
 refine(BN [] _ 3 a c W (uo W) (λp b=>by cases b) d ar (λp b=>by cases b)).mono ?_;rintro e w' ⟨k,rfl,b,g,f⟩;rw[jQ,uY]at b;obtain rfl:k=jm:=ak b;exact⟨N,f⟩
theorem L5(W:jk)(b:bP W):
 jr jn 16 #[ja (aD kr vN vN).toArray,jj jm 0 0] W λe w'=>e=js (jv #[jf jg 0,.bool ju])/\jp W W w':=by
 refine(Q0 [] _ kr vN vN W (uo W) ⟨⟨N,jm,0,N,jz _,λ_=>rfl,λh=>jq h (qg _)⟩,oE W,by decide⟩ (λp a=>by cases a) b ar G G (λp a=>by cases a)).mono ?_;rintro e w' ⟨rfl,a⟩;rw[jQ,Pv];exact⟨N,a⟩
theorem JM(b:LBy)(i:b.length=32)(W:jk)(j:bP W)(a:jt jb)(c:LBy)(l:c.length=32)(f g:je)(m:∀t d,(c.map v8)[t]?=jc d->a[1+t]?=jc d)(n:a[33]?=jc (jf jg f))(o:a[34]?=jc (jf jg g)):
 jr jn 6 #[ja (cZ 3 b).toArray,jj jm 0 0,ja a] W λe w'=>e=js (.bool ju)/\jp W W w':=by
 have h:=yO [] (jj jm 0 0) 3 b i a c f g l m n o W (uo W) (λp d=>by cases d) j ar (λp d=>by cases d) (by rw[jQ,uY];intro k d;cases d);rw[jQ,uY]at h;exact h
end
section
variable{b:CQ}{a:Cmt}{e:o8}
section
variable {P:ow} {ops:jt jP} {Q:Exit->Act->jk->Prop}
theorem eI.four(R:eI P){o:jP}{l:jh jP}{a:Act}{w:jk}(m:o.guard=jm)(f g j k:qc)(n:o.op=.buildSlice R.t 4 #[(0,f),(1,g),(2,j),(3,k)])(A0 b c d:jt jb)(p:a.eval f=ja A0)(q:a.eval g=ja b)(r:a.eval j=ja c)(s:a.eval k=ja d)
 (t:A0.size=R.k) (s1:b.size=R.k) (s2:c.size=R.k) (s3:d.size=R.k) (h:wpList P ops Q l (a.put o.dst (jj (jc ⟨w,0,jm⟩) 4 4)) (w.alloc (jo (A0.toList++(b.toList++(c.toList++d.toList))).toArray R.e))):wpList P ops Q (o::l) a w:=by
 have u:=R.hk;have y:=R.h0;refine wpList_buildSlice m R.t R.e 4 _ n (A0.toList++(b.toList++(c.toList++d.toList))).toArray R.i R.z R.ht R.hi R.hz (by rw[R.hs];omega) (by rw[R.hs];omega) ?_ h;have e:((#[(0,f),(1,g),(2,j),(3,k)]:jt (jl×qc)).map fun(i,x)=>(i,a.eval x)).toList=(([j0 A0,ja b,ja c,ja d]:jh jb).zipIdx 0).map λx=>(x.2,x.1):=by simp[p,q,r,s]
 rw[e,R.hs];refine(Great.fill_whole R.h0 [j0 A0,ja b,ja c,ja d] _ (λv i=>?_) ar).trans (by simp[nv]);simp only[jR,j7,or_false]at i
 rcases i with rfl|rfl|rfl|rfl
 ·exact t
 ·exact s1
 ·exact s2
 exact s3
end
noncomputable def RCm:eI jn:=.of 26 57 73 200 (ja (aF mI nC).toArray) qL af (by rw[nv,jG];exact dz _ _ G G) G G G
theorem OI{a:Act}{o:jP}{x:qc}{b:jt jb}(c:b.size=32)(d:o.op=.build 25 #[(0,.const (jf jg 3)),(1,x)])(e:a.eval x=ja b)(W:jk):
 (j9 a.eval o).run jn W=.ok (.value (ja (#[jf jg 3]++b))) W:=by
 have f:(cZ 0 cG).toArray=([]++([jy .i64 0]++(cG.map v8++[]))).toArray:=by kernel_rfl
 have g:=uy (P:=jn) (t:=25) (zero:=ja (cZ 0 cG).toArray) (places:=#[(0,1),(1,32)]) (λw=>by kernel_rfl) qM (λw=>by kernel_rfl)
  (parts:=#[(0,jf jg 3),(1,ja b)]) (X:=(#[jf jg 3]++b)) (by
   show Instr.fill _ (cZ 0 cG).toArray [(0,jy .i64 3),(1,j0 b)]=_;rw[f,mx (A0:=[]) (off:=0) (size:=1) N N N N];show Instr.fill _ ([jy .i64 3]++_).toArray _ =_;rw[mx (A0:=[jy .i64 3]) (off:=1) (size:=32) N N N (v:=ja b) c,Instr.fill];simp[nv]) W
 simp only[j9,d,qz,mb,jQ,e];simp only[Sem.run_bind,show a.eval (.const (jf jg 3))=jy .i64 3 from N,g,Result.andThen_ok,Sem.run_pure]
def itT:jh jb:=[jf jg 0,jf jg 0,jf jg 0,jf jg 0]++(cG.map v8++[jj jm 0 0,jf jg 0,jf jg 0])
def itC(a:jh jb)(b:je):jh jb:=[jf jg 0]++(a++([jf jg 0]++([jf jg b]++itT)))
noncomputable def VIt:VarT jn:=⟨34,74,(itC (cG.map v8) 0).toArray,_,qu,N,by kernel_rfl,rfl,λ_=>by kernel_rfl⟩
theorem Mr{a:Act}{o:jP}{x:qc}{b:jt jb}(c:b.size=32)(d:o.op=.build 34 #[(1,x),(3,.const (jf jg 5))])(f:a.eval x=ja b)(W:jk):
 (j9 a.eval o).run jn W=.ok (.value (ja (itC b.toList 5).toArray)) W:=by
 have g:=uy (P:=jn) (t:=34) (zero:=ja (itC (cG.map v8) 0).toArray) (places:=#[(0,1),(1,32),(33,1),(34,1),(35,1),(36,1),(37,34),(71,1),(72,2)]) (λw=>by kernel_rfl) qu (λw=>by kernel_rfl)
  (parts:=#[(1,ja b),(3,jf jg 5)]) (X:=(itC b.toList 5).toArray) (by
   show Instr.fill _ (itC (cG.map v8) 0).toArray [(1,j0 b),(3,jy .i64 5)]=_;have h:b.toList.length=32:=by rw[j3];exact c
   unfold itC;rw[mx (A0:=[jy .i64 0]) (off:=1) (size:=32) N N N (v:=ja b) c];show Instr.fill _ ([jy .i64 0]++(b.toList++([jy .i64 0]++([jy .i64 0]++itT)))).toArray _ =_;have e:∀l:jh jb,[jy .i64 0]++(b.toList++([jy .i64 0]++l))=([jy .i64 0]++b.toList++[jy .i64 0])++l:=λl=>by simp
   rw[e,mx (A0:=[jy .i64 0]++b.toList++[jy .i64 0]) (off:=34) (size:=1) N (by simp[h]) N (v:=jf jg 5) N,Instr.fill];show jc (([jy .i64 0]++b.toList++[jy .i64 0])++([jy .i64 5]++itT)).toArray=_;rw[<-e]) W
 simp only[j9,d,qz,mb,jQ,f];simp only[Sem.run_bind,show a.eval (.const (jf jg 5))=jy .i64 5 from N,g,Result.andThen_ok,Sem.run_pure]
structure ItP(a:jt jb)(c:LBy)(d:je):Prop where
 sz:a.size=VIt.n
 one:a.all (·.oneCell')=ji
 id:∀t b,(c.map v8)[t]?=jc b->a[1+t]?=jc b
 dev:a[33]?=jc (jf jg 0)
 ctr:a[34]?=jc (jf jg d)
theorem itP(b:LBy)(c:je)(h:b.length=32):ItP (itC (b.map v8).toArray.toList c).toArray b c:=by
 have d:(b.map v8).length=32:=by rw[jB];exact h
 refine⟨?_,?_,λt e a=>?_,?_,?_⟩
 ·show _ =74
  unfold itC itT;simp[h,cG]
 ·rw[jT]
  intro e a;unfold itC itT at a;simp only[qo,jY,jR,j7,or_false,qs]at a
  rcases a with rfl|a|rfl|rfl|(rfl|rfl|rfl|rfl)|a|rfl|rfl|rfl
  all_goals first|rfl|exact gS _ e a
 ·have f:t<(b.map v8).length:=(jN.1 a).1
  unfold itC;rw[qs,jW,jK ar,j8,show 1+t-1=t by omega,mz f];exact a
 ·unfold itC
  rw[qs,jW,jK ar,j8,jK Y,d]
  rfl
 unfold itC;rw[qs,jW,jK ar,j8,jK Y,d]
 rfl
theorem N3(c:jh jb)(a b:je)(h:c.length=32):(itC c a).toArray.setIfInBounds 34 (jf jg b)=(itC c b).toArray:=by
 rw[List.setIfInBounds_toArray];refine jH List.toArray ?_;unfold itC;rw[qV _ _ ar,j8,qV _ _ Y,h]
 rfl
theorem Ct(W:jk):bW W kr vN vN:=⟨⟨N,jm,0,N,jz _,λ_=>rfl,λh=>jq h (qg _)⟩,oE W,by decide⟩
structure S5(w:jk)(BL:jh (jl×jt jb×jA))(CL:jh CP)(GL:jh (Grp×jb×jb))(v:jb)(LS:jh CP)(g:Grp)(m t u1 u2:jb)(x:jk):Prop where
 s:SSt w BL CL GL x
 ci:cC x v LS
 gi:bW x g m t
 at_:aH (·<x.heap.size) x u1 1 3 [jf jg 3,jf jg 1,jf jg 2]
 al:aH (·<x.heap.size) x u2 1 4 [jf jg 3,jf jg 1,jf jg 2,jf jg 0]
section
variable {w x x':jk} {BL:jh (jl×jt jb×jA)} {CL LS:jh CP} {GL:jh (Grp×jb×jb)} {v m t u1 u2:jb} {g:Grp}
theorem S5.below(h:S5 w BL CL GL v LS g m t u1 u2 x)(a:jp x x x'):S5 w BL CL GL v LS g m t u1 u2 x':=
 ⟨h.s.below a,h.ci.below a,h.gi.below a,(h.at_.keep λk b=>a.block k b).mono λk b=>jw b a.size,(h.al.keep λk b=>a.block k b).mono λk b=>jw b a.size⟩
theorem S5.block(h:S5 w BL CL GL v LS g m t u1 u2 x){b:jl}{a:jt jb}{c:jA}(d:x.heap[b]?=jc (jo a c (0,0))):S5 w ((b,a,c)::BL) CL GL v LS g m t u1 u2 x:=⟨h.s.block d,h.ci,h.gi,h.at_,h.al⟩
end
structure gY(g:Grp)(c:Cmt)(W w':jk)(e:o8)(q:CQ)(vm vt:jb)(a b:jt jb):Prop where
 ret:e=js (jv #[ja a,ja b,.bool ji])
 ac:a=(aF c q).toArray
 ag:b=(aD (aC g c) vm vt).toArray
 com:aZ (λk=>W.heap.size<=k/\k<w'.heap.size) w' c q
 grp:dO (λk=>W.heap.size<=k/\k<w'.heap.size) w' (aC g c) vm vt
 bel:jp W W w'
theorem gY.csz{g:Grp}{W w':jk}{vm vt:jb}{c q:jt jb}(h:gY g a W w' e b vm vt c q):c.size=VC.n:=by
 rw[h.ac,jG];exact dz _ _ h.com.plen h.com.clen
theorem gY.cone{g:Grp}{W w':jk}{vm vt:jb}{c q:jt jb}(h:gY g a W w' e b vm vt c q):c.all (·.oneCell')=ji:=by
 rw[h.ac,jT];exact λd f=>nj h.com d (ak f)
theorem gY.gsz{g:Grp}{W w':jk}{vm vt:jb}{q c:jt jb}(h:gY g a W w' e b vm vt q c):c.size=VG.n:=by
 rw[h.ag,jG];exact eX h.grp.grp.llen
theorem gY.gone{g:Grp}{W w':jk}{vm vt:jb}{i f:jt jb}(h:gY g a W w' e b vm vt i f):f.all (·.oneCell')=ji:=by
 obtain⟨p,l,c,n',q,rfl,rfl⟩:∃p k c n' q,vm=jj p (aC g a).mem.length k/\vt=jj c n' q:=by
  obtain⟨p,a,d,-⟩:=h.grp.grp.mem.form;obtain⟨c,n',q,j⟩:=gN h.grp.grp.tree;exact⟨p,a,c,n',q,d,j⟩
 rw[h.ag,jT];intro j d;simp only[aD,qo,jR,jY,j7,or_false]at d
 rcases d with rfl|rfl|d|rfl|rfl
 ·rfl
 ·rfl
 ·exact gS _ j d
 ·rfl
 rfl
theorem vA{g:Grp}{vm vt:jb}{d:jl}(h:d<512)(b:BitVec 8){x:ap}{c:Cmt}(i:gZ g (d:je) ((d+2:jl):je) [x]=0)(j:c=mkC g (d:je) (d+2) [x] (kz b) (kz 1) (kz b))(k:gQ g c)(l:da (aR c))
 {a:jt jb} (n:a=(aD g vm vt).toArray) {f:jb} {W:jk} (o:bW W g vm vt) (p:gH W) (r:aH (·<W.heap.size) W f 5 1 x.cells):
 jr jn 10 #[ja a,jf jg (d:je),v8 b,f] W λe w'=>∃q s u v w,gY g c W w' e q s u v w:=by
 rw[n];refine(OS h b o r p i c j k l).mono ?_;rintro e w' ⟨q,m,t,y,z,B,C⟩;exact⟨q,m,t,_,_,y,N,N,z,B,C⟩
theorem BK(V U:VarT jn)(x:jk)(a:jt jb):(((x.alloc (jo V.Z V.t)).alloc (jo U.Z U.t)).setRow x.heap.size a).heap[x.heap.size+1]?=jc (jo U.Z U.t (0,0)):=by
 have h:=jF (x.alloc (jo V.Z V.t)) (jo U.Z U.t);rw[j5]at h;exact(jM _ _ _ _ Y).trans h
theorem Jh(V U:VarT jn)(a B:jt jb)(x:jk):∃x' b,x'=(((x.alloc (jo V.Z V.t)).alloc (jo U.Z U.t)).setRow x.heap.size a).setRow (x.heap.size+1) B/\b=x.heap.size/\
 x'.heap[b]?=jc (jo a V.t (0,0))/\x'.heap[b+1]?=jc (jo B U.t (0,0))/\jp x x x':=by
 have c:((x.alloc (jo V.Z V.t)).alloc (jo U.Z U.t)).heap[x.heap.size]?=jc (jo V.Z V.t (0,0)):=av (jF x _) (ao _ _);have d:=(ao x (jo V.Z V.t)).trans ((ao (x.alloc (jo V.Z V.t)) (jo U.Z U.t)).mono (ao x (jo V.Z V.t)).size);refine⟨_,_,N,N,(jM _ _ _ _ Y).trans (j1 _ _ _ _ _ _ c),j1 _ _ _ _ _ _ (BK V U x a),qv (qv d (jz _) a) (Nat.le_succ _) B⟩
structure fy(d W:jk)(e f:jb)(g:Grp)(c:Cmt)(q:CQ)(m t:jb)(a b:jt jb):Prop where
 ac:a=(aF c q).toArray
 ag:b=(aD (aC g c) m t).toArray
 csz:a.size=VC.n
 cone:a.all (·.oneCell')=ji
 gsz:b.size=VG.n
 gone:b.all (·.oneCell')=ji
 ex:∃D:jl->Prop,aZ D W c q/\dO D W (aC g c) m t/\∀k,D k->d.heap.size<=k/\k<W.heap.size/\e≠ptr k/\f≠ptr k
theorem fy.keep{e W f:jk}{i j:jb}{g:Grp}{c:Cmt}{q:CQ}{m t:jb}{l n:jt jb}(h:fy e W i j g c q m t l n)(d:jp W W f):fy e f i j g c q m t l n:=by
 obtain⟨o,p,r,s,u,v,D,w,x,b⟩:=h;exact⟨o,p,r,s,u,v,D,w.keep λk a=>d.block k (b k a).2.1,x.keep λk a=>d.block k (b k a).2.1,λk a=>⟨(b k a).1,jw (b k a).2.1 d.size,(b k a).2.2⟩⟩
theorem fy.c{d W:jk}{l f:jb}{g:Grp}{c:Cmt}{q:CQ}{m t:jb}{i j:jt jb}(h:fy d W l f g c q m t i j){n:jl}(y:W.heap.size<=n):fy d W (ptr n) f g c q m t i j:=by
 obtain⟨o,p,r,s,u,v,D,w,x,a⟩:=h;exact⟨o,p,r,s,u,v,D,w,x,λk b=>⟨(a k b).1,(a k b).2.1,λe=>(by injection e with e;injection e with e;injection e with e;have:=(a k b).2.1;omega),(a k b).2.2.2⟩⟩
theorem fy.g{d W:jk}{f l:jb}{g:Grp}{c:Cmt}{q:CQ}{m t:jb}{i j:jt jb}(h:fy d W f l g c q m t i j){n:jl}(y:W.heap.size<=n):fy d W f (ptr n) g c q m t i j:=by
 obtain⟨o,p,r,s,u,v,D,w,x,a⟩:=h;exact⟨o,p,r,s,u,v,D,w,x,λk b=>⟨(a k b).1,(a k b).2.1,(a k b).2.2.1,λe=>(by injection e with e;injection e with e;injection e with e;have:=(a k b).2.1;omega)⟩⟩
theorem fy.of{b W d:jk}{f i:jb}{g:Grp}{c:Cmt}{q:CQ}{m t:jb}{j l:jt jb}(h:gY g c W d e q m t j l)(n:b.heap.size<=W.heap.size)(o:∀k,W.heap.size<=k->f≠ptr k)(p:∀k,W.heap.size<=k->i≠ptr k):fy b d f i g c q m t j l:=
 ⟨h.ac,h.ag,h.csz,h.cone,h.gsz,h.gone,_,h.com,h.grp,λk a=>⟨jO n a.1,a.2,o k a.1,p k a.1⟩⟩
theorem fy.end{d W:jk}{C K:jl}{g:Grp}{m t:jb}{c q:jt jb}(h:fy d W (ptr C) (ptr K) g a b m t c q)(r:jp d d W)(l:W.heap[C]?=jc (jo VC.Z VC.t (0,0)))(s:d.heap.size<=C)
 (i:W.heap[K]?=jc (jo VG.Z VG.t (0,0))) (u:d.heap.size<=K):(W.setRow C c).heap[K]?=jc (jo VG.Z VG.t (0,0))/\∃y,y=(W.setRow C c).setRow K q/\y.heap[C]?=jc (jo c VC.t (0,0))/\y.heap[K]?=jc (jo q VG.t (0,0))/\aZ (·<y.heap.size) y a b/\bW y (aC g a) m t/\jp d d y:=by
 have n:C≠K:=by
  rintro rfl;rw[l]at i;simp[VC,VG]at i
 obtain⟨z,B,-,-,-,-,D,v,w,j⟩:=h;have o:=(jM W C K c (Ne.symm n)).trans i;have x:((W.setRow C c).setRow K q).heap.size=W.heap.size:=by rw[setRow_size,setRow_size]
 have p:∀k,D k->((W.setRow C c).setRow K q).heap[k]?=W.heap[k]?:=λk f=>(jM _ K k q (λe=>(j k f).2.2.2 (by rw[e]))).trans (jM W C k c (λe=>(j k f).2.2.1 (by rw[e])))
 exact⟨o,_,N,(jM _ K C q n).trans (j1 W C _ c _ _ l),j1 _ K _ q _ _ o,(v.keep p).mono λk f=>by rw[x];exact(j k f).2.1,(w.keep p).grp,qv (qv r s c) u q⟩
def TQ(b:jk)(f s1 s2 s3 s29 s30 s31 s32 s33 s34 s35 s36:jb)(h E:jt jb)(g:Grp)(c:Cmt)(j:jl)(i k:Bool)(a:Act)(W:jk):Prop:=
 ∃T39 T40 T41 T37 T42 T43 T44 T4 T5,a={tmps:=#[f,s1,s2,s3,T4,T5,I,I,I,I,I,I,I,I,I,I,I,I,I,I,I,I,I,I,I,I,I,I,I,s29,s30,s31,s32,s33,s34,s35,s36,T37,ja h,T39,T40,T41,T42,T43,T44,I,I,I,I,I,I,I,I,I,I,I,I,I,I,I,I,I,I,I,I,I,I,I,I,I,I,I,I,I,I,I,I,I,I,I,I,I,I,I,I,I,I,I,I,I,I,I,I,I,I,I,I,I,I,I,I,I,I,I,I,I,I,I,I,I,I,I,I,I,I,I,I,I,I,I,I,I,I,I,I,I,I,I,I,I,I,I,I,I,I,I,I,I,I,I,I,I,I,I,I,I,I,I,I,I,I,I,I,I,I,I,I,I,I,I,I,I,I,I,I,I,I,I,I,I,I,I,I,I,I,I,I,I,I,I,I,I,I,I,I,I,I,I,I,I,I,I,I,I,I,I,I,I,I,I,I,I,I,I,I,I,I,I,I,I,I],defers:=[]}/\jp b b W/\(1<=j->T39=ja E)/\(2<=j->aH (·<W.heap.size) W T40 5 1 E.toList)/\
  (3<=j->∃q m t d e,T41=jv #[ja d,ja e,.bool ji]/\(4<=j->T37=T41)/\(5<=j->T42=ja d)/\(6<=j->T43=ja e)/\(7<=j->T44=.bool ji)/\fy b W T4 T5 g c q m t d e)/\
  iw VC.t VC.Z b i T4 W/\iw VG.t VG.Z b k T5 W
def Oe(b:jk)(f s1 s2 s3 s4 s5 s6 s29 s30 s31 s32 s33 s34 s35 s36 s37 s38 s39 s40 s41 s42 s43 s44:jb)(h E:jt jb)(g:Grp)(c:Cmt)(j:jl)(i k:Bool)(a:Act)(W:jk):Prop:=
 ∃T47 T48 T49 T45 T50 T51 T52 T7 T8,a={tmps:=#[f,s1,s2,s3,s4,s5,s6,T7,T8,I,I,I,I,I,I,I,I,I,I,I,I,I,I,I,I,I,I,I,I,s29,s30,s31,s32,s33,s34,s35,s36,s37,s38,s39,s40,s41,s42,s43,s44,T45,ja h,T47,T48,T49,T50,T51,T52,I,I,I,I,I,I,I,I,I,I,I,I,I,I,I,I,I,I,I,I,I,I,I,I,I,I,I,I,I,I,I,I,I,I,I,I,I,I,I,I,I,I,I,I,I,I,I,I,I,I,I,I,I,I,I,I,I,I,I,I,I,I,I,I,I,I,I,I,I,I,I,I,I,I,I,I,I,I,I,I,I,I,I,I,I,I,I,I,I,I,I,I,I,I,I,I,I,I,I,I,I,I,I,I,I,I,I,I,I,I,I,I,I,I,I,I,I,I,I,I,I,I,I,I,I,I,I,I,I,I,I,I,I,I,I,I,I,I,I,I,I,I,I,I,I,I,I,I,I,I,I,I,I,I,I,I,I,I],defers:=[]}/\jp b b W/\(1<=j->T47=ja E)/\(2<=j->aH (·<W.heap.size) W T48 5 1 E.toList)/\
  (3<=j->∃q m t d e,T49=jv #[ja d,ja e,.bool ji]/\(4<=j->T45=T49)/\(5<=j->T50=ja d)/\(6<=j->T51=ja e)/\(7<=j->T52=.bool ji)/\fy b W T7 T8 g c q m t d e)/\
  iw VC.t VC.Z b i T7 W/\iw VG.t VG.Z b k T8 W
def I5(b:jk)(f s1 s2 s3 s4 s5 s6 s7 s8 s9 s29 s30 s31 s32 s33 s34 s35 s36 s37 s38 s39 s40 s41 s42 s43 s44 s45 s46 s47 s48 s49 s50 s51 s52:jb)(h E:jt jb)(g:Grp)(c:Cmt)(j:jl)(i k:Bool)(a:Act)(W:jk):Prop:=
 ∃T55 T56 T57 T53 T58 T59 T60 T10 Wt,a={tmps:=#[f,s1,s2,s3,s4,s5,s6,s7,s8,s9,T10,Wt,I,I,I,I,I,I,I,I,I,I,I,I,I,I,I,I,I,s29,s30,s31,s32,s33,s34,s35,s36,s37,s38,s39,s40,s41,s42,s43,s44,s45,s46,s47,s48,s49,s50,s51,s52,T53,ja h,T55,T56,T57,T58,T59,T60,I,I,I,I,I,I,I,I,I,I,I,I,I,I,I,I,I,I,I,I,I,I,I,I,I,I,I,I,I,I,I,I,I,I,I,I,I,I,I,I,I,I,I,I,I,I,I,I,I,I,I,I,I,I,I,I,I,I,I,I,I,I,I,I,I,I,I,I,I,I,I,I,I,I,I,I,I,I,I,I,I,I,I,I,I,I,I,I,I,I,I,I,I,I,I,I,I,I,I,I,I,I,I,I,I,I,I,I,I,I,I,I,I,I,I,I,I,I,I,I,I,I,I,I,I,I,I,I,I,I,I,I,I,I,I,I,I,I,I,I,I,I,I,I,I,I,I,I,I,I],defers:=[]}/\jp b b W/\(1<=j->T55=ja E)/\(2<=j->aH (·<W.heap.size) W T56 5 1 E.toList)/\
  (3<=j->∃q m t d e,T57=jv #[ja d,ja e,.bool ji]/\(4<=j->T53=T57)/\(5<=j->T58=ja d)/\(6<=j->T59=ja e)/\(7<=j->T60=.bool ji)/\fy b W T10 Wt g c q m t d e)/\
  iw VC.t VC.Z b i T10 W/\iw VG.t VG.Z b k Wt W
theorem JG(w:jk)(a:gH w):jr jn 4 #[] w λe w'=>e=js (.bool ji)/\jp w w w':=by
 have f:=O (SSt.start a);clear a;obtain⟨ba,h⟩:=J AG3;have j:=O h;obtain⟨E1,a⟩:=J ((cP 1).cells.toArray);have i:jd (E1.size=5):=O (by rw[a];rfl);have m:jd (E1.toList=(cP 1).cells):=O (by rw[a]);have k:jd (∀W,jr jn 11 #[jf jg 1] W λe w'=>e=js (ja E1)/\jp W W w'):=O (λW=>by rw[a];exact Fx 1 G W);have n:jd (∀(W:jk) (vl:jb),gH W->aH (·<W.heap.size) W vl 5 1 E1.toList->jr jn 10 #[ja ba,jf jg 1,jf .u8 1,vl] W λe w'=>∃q vm vt l AG,gY (aK 3) bF W w' e q vm vt l AG):=O (λW vl P hs=>by
  rw[m]at hs;exact vA (d:=1) G 1#8 vZ.1 N lQ lA.1 h (SI W 3) P hs)
 obtain⟨E0,b⟩:=J ((cP 0).cells.toArray);have Wq:jd (E0.size=5):=O (by rw[b];rfl);have ad:jd (E0.toList=(cP 0).cells):=O (by rw[b]);have Vg:jd (∀W,jr jn 11 #[jf jg 0] W λe w'=>e=js (ja E0)/\jp W W w'):=O (λW=>by rw[b];exact Fx 0 G W);obtain⟨F1,c⟩:=J ((dK 1 5).cells.toArray);have a5:jd (F1.size=5):=O (by rw[c];rfl);have a4:jd (F1.toList=(dK 1 5).cells):=O (by rw[c]);have UG:jd (∀W,jr jn 12 #[jf jg 1,jf jg 5] W λe w'=>e=js (ja F1)/\jp W W w'):=O (λW=>by rw[c];exact Gg 1 5 W);obtain⟨F0,g⟩:=J ((dK 0 5).cells.toArray);have bg:jd (F0.size=5):=O (by rw[g];rfl);have bk:jd (F0.toList=(dK 0 5).cells):=O (by rw[g]);have UP:jd (∀W,jr jn 12 #[jf jg 0,jf jg 5] W λe w'=>e=js (ja F0)/\jp W W w'):=O (λW=>by rw[g];exact Gg 0 5 W);clear h a b c g
 go_enter func4,ntmps4
 go_upto_region 1 with fail
 go_wp2_with (refine ez (v:=ja ba) aj (by rw[j];exact IQ N _) ?_;refine L ?_)
 refine(k w).mono ?_;rintro e x1 ⟨rfl,b⟩;replace f:=O (f.below b);clear b k
 go_wp2_with (refine qd N λ_ B=>RCg.wp_build (.tmp 31) N (ja E1) N i (B _ _ ?_);clear B;refine L ?_)
 have g:jd (aH (·<(x1.alloc (jo E1 RCg.e)).heap.size) (x1.alloc (jo E1 RCg.e)) (jj (jc ⟨x1,0,jm⟩) 1 1) 5 1 E1.toList):=O (uM (jF x1 _) i);replace f:=O (f.below (ao x1 (jo E1 RCg.e)));refine(n _ _ f.tab g).mono ?_;rintro e x2 ⟨q1,m1,t1,S,R,a⟩;obtain rfl:=a.ret;replace f:=O ((f.below a.bel).made a.com (λk h=>h.2) a.grp.grp);have c:=O a;have bh:=O a.ac;have bs:=O a.ag;clear a n g i m j
 go_upto_region 2 with(first|(refine VC.made N N (L ?_))|(refine VG.made N N ?_;rw[j5];refine L ?_)|(refine VC.store N N N S N c.csz c.cone (av (jF x2 _) (ao _ _)) VC.hZ (L ?_))|(refine VG.store N N N R N c.gsz c.gone (BK VC VG x2 S) VG.hZ (L ?_)))
 obtain⟨x3,B1,z,U,u,x,b⟩:=Jh VC VG S R x2;rw[<-z,<-U];replace f:=O (((f.below b).block x).block u);have bb:jd (R.size=VG.n):=O c.gsz;have bd:jd (S.size=VC.n):=O c.csz;clear z U u x b c;have Vw:jd (∀(W:jk) (vl:jb),gH W->bW W (aC (aK 3) bF) m1 t1->aH (·<W.heap.size) W vl 5 1 E0.toList->jr jn 10 #[ja R,jf jg 1,jf .u8 2,vl] W λe w'=>∃q vm vt l AG,gY (aC (aK 3) bF) bR W w' e q vm vt l AG):=O (λW vl P hg hs=>by
  rw[ad]at hs;exact vA (d:=1) G 2#8 vZ.2.1 N lf lA.2.1 bs hg P hs)
 have b:=bX x3;obtain⟨x4,z⟩:=J x3.drew;have HX:=O z;rw[<-z]at b;replace f:=O (f.below b);clear z b;refine o1 ?_;refine uk (λF=>F.heap[B1+1]?=jc (jo R VG.t (0,0))) [0] [(1,ju),(2,ju),(3,ju),(4,ji),(5,ji),(6,ji),(7,ji)] 8 9 (.one 10 (.one 11 (.take 12 .done))) (TQ x4 (.bool ju) (ptr B1) (ptr (B1+1)) (.bool ji) (jv #[ja S,ja R,.bool ji]) (ja ba) (ja E1) (jj (jc ⟨x1,0,jm⟩) 1 1) (jv #[ja S,ja R,.bool ji]) (ja S) (ja R) (.bool ji) R E0 (aC (aK 3) bF) bR) af af af af af G (λ_ _ _ _ h=>h) (by rw[<-HX];exact f.blk (_,_,_) ar) ?hIR2 ?hTR2 ?hCR2 ?h1R2 ?h2R2 ?hER2 ?h0R2
 case hIR2=>
  rintro j b1 b2 a W ⟨T39,T40,T41,T37,T42,T43,T44,T4,T5,rfl,b,u,x,C,r,s⟩;exact av (f.blk (_,_,_) ar) b
 case h1R2=>
  rintro j b2 a W ⟨T39,T40,T41,T37,T42,T43,T44,T4,T5,rfl,b,u,x,C,r,s⟩;refine jI (o:=_) N (λV B=>?_);rw[jC aj];refine gK VC.t N VC.Z VC.hal ?_;have c:=ao W (jo VC.Z VC.t);refine B _ _ ⟨T39,T40,T41,T37,T42,T43,T44,ptr W.heap.size,T5,N,b.trans (c.mono b.size),u,(λe=>((x e).keep λk g=>c.block k g).mono λk (g:k<W.heap.size)=>jw g c.size),λe=>?_,⟨λ_=>⟨_,N,jF _ _,b.size⟩,λh=>(by cases h)⟩,s.keep c⟩;obtain⟨q,m,t,l,p,X,D,E,K,M,n⟩:=C e;exact⟨q,m,t,l,p,X,D,E,K,M,(n.c (jz _)).keep c⟩
 case h2R2=>
  rintro j b1 a W ⟨T39,T40,T41,T37,T42,T43,T44,T4,T5,rfl,b,u,x,C,r,s⟩;refine jI (o:=_) N (λV B=>?_);rw[jC aj];refine gK VG.t N VG.Z VG.hal ?_;have c:=ao W (jo VG.Z VG.t);refine B _ _ ⟨T39,T40,T41,T37,T42,T43,T44,T4,ptr W.heap.size,N,b.trans (c.mono b.size),u,(λe=>((x e).keep λk g=>c.block k g).mono λk (g:k<W.heap.size)=>jw g c.size),λe=>?_,r.keep c,⟨λ_=>⟨_,N,jF _ _,b.size⟩,λh=>(by cases h)⟩⟩;obtain⟨q,m,t,l,p,X,D,E,K,M,n⟩:=C e;exact⟨q,m,t,l,p,X,D,E,K,M,(n.g (jz _)).keep c⟩
 case h0R2=>
  rw[<-HX]
  (refine nD (v:=ja R) N aj (λF hS=>dh VG.hu VG.hd (by rw[bb];exact VG.hi) N N hS) ?_;refine L ?_)
  exact⟨I,I,I,I,I,I,I,I,I,N,jE _ _,λh=>jq h G,λh=>jq h G,λh=>jq h G,⟨λh=>(by cases h),λ_=>rfl⟩,⟨λh=>(by cases h),λ_=>rfl⟩⟩
 case hTR2=>
  rintro j i H b1 b2 a W ⟨T39,T40,T41,T37,T42,T43,T44,T4,T5,rfl,b,u,x,C,r,s⟩
  rcases j with _ |_ |_ |_ |_ |_ |_ |j
  iterate 3 (·simp at H)
  ·obtain rfl:i=4:=ak H.symm
   obtain⟨q,m,t,l,p,X,D,E,K,M,n⟩:=C Y;refine⟨_,T41,N,.inl ⟨by rfl,λF hS=>.inl (by go_simp;try with_reducible rfl)⟩,?_⟩;exact⟨T39,T40,T41,T41,T42,T43,T44,T4,T5,N,b,λ_=>u Y,λ_=>x Y,λ_=>⟨q,m,t,l,p,X,λ_=>rfl,(λh=>jq h Y),(λh=>jq h Y),(λh=>jq h Y),n⟩,r,s⟩
  ·obtain rfl:i=5:=ak H.symm
   obtain⟨q,m,t,l,p,rfl,D,E,K,M,n⟩:=C Y;obtain rfl:=D Y;refine⟨_,ja l,N,.inl ⟨by rfl,λF hS=>.inl (by go_simp;try with_reducible rfl)⟩,?_⟩;exact⟨T39,T40,_,_,_,T43,T44,T4,T5,N,b,λ_=>u Y,λ_=>x Y,λ_=>⟨q,m,t,l,p,N,λ_=>rfl,λ_=>rfl,(λh=>jq h Y),(λh=>jq h Y),n⟩,r,s⟩
  ·obtain rfl:i=6:=ak H.symm
   obtain⟨q,m,t,l,p,rfl,D,E,K,M,n⟩:=C Y;obtain rfl:=D Y;refine⟨_,ja p,N,.inl ⟨by rfl,λF hS=>.inl (by go_simp;try with_reducible rfl)⟩,?_⟩;exact⟨T39,T40,_,_,T42,_,T44,T4,T5,N,b,λ_=>u Y,λ_=>x Y,λ_=>⟨q,m,t,l,p,N,λ_=>rfl,λ_=>E Y,λ_=>rfl,(λh=>jq h Y),n⟩,r,s⟩
  ·obtain rfl:i=7:=ak H.symm
   obtain⟨q,m,t,l,p,rfl,D,E,K,M,n⟩:=C Y;obtain rfl:=D Y;refine⟨_,.bool ji,N,.inl ⟨by rfl,λF hS=>.inl (by go_simp;try with_reducible rfl)⟩,?_⟩;exact⟨T39,T40,_,_,T42,T43,_,T4,T5,N,b,λ_=>u Y,λ_=>x Y,λ_=>⟨q,m,t,l,p,N,λ_=>rfl,λ_=>E Y,λ_=>K Y,λ_=>rfl,n⟩,r,s⟩
  simp at H
 case hCR2=>
  rintro j i H b1 b2 a W ⟨T39,T40,T41,T37,T42,T43,T44,T4,T5,rfl,b,u,x,C,r,s⟩
  rcases j with _ |_ |_ |_ |_ |_ |_ |j
  ·obtain rfl:i=1:=ak H.symm
   refine jI (o:=_) N (λV B=>?_);go_simp;refine(Vg W).mono ?_;rintro e F ⟨rfl,c⟩;exact B _ _ ⟨_,T40,T41,T37,T42,T43,T44,T4,T5,N,b.trans (c.mono b.size),λ_=>rfl,(λh=>jq h Y),(λh=>jq h Y),r.keep c,s.keep c⟩
  ·obtain rfl:i=2:=ak H.symm
   obtain rfl:=u Y;refine jI (o:=_) N (λV B=>?_);rw[jC aj];refine RCg.wp_build (.tmp 39) N (ja E0) N Wq ?_;have c:=ao W (jo E0 RCg.e);exact B _ _ ⟨_,_,T41,T37,T42,T43,T44,T4,T5,N,b.trans (c.mono b.size),λ_=>rfl,λ_=>uM (jF W _) Wq,(λh=>jq h Y),r.keep c,s.keep c⟩
  ·obtain rfl:i=3:=ak H.symm
   have ac:=x Y;obtain rfl:=u Y;clear x;refine jI (o:=_) N (λV B=>?_);go_simp;refine(Vw W _ ((f.below b).tab) ((f.below b).grp ((aC (aK 3) bF),m1,t1) ar) ac).mono ?_;rintro e F ⟨q,m,t,l,p,hP⟩;obtain rfl:=hP.ret;have c:=hP.bel;exact B _ _ ⟨_,T40,_,T37,T42,T43,T44,T4,T5,N,b.trans (c.mono b.size),λ_=>rfl,λ_=>(ac.keep λk g=>c.block k g).mono λk (g:k<W.heap.size)=>jw g c.size,λ_=>⟨q,m,t,l,p,N,(λh=>jq h Y),(λh=>jq h Y),(λh=>jq h Y),(λh=>jq h Y),fy.of hP b.size (λk g=>r.ne g) (λk g=>s.ne g)⟩,r.keep c,s.keep c⟩
  iterate 5 (·simp at H)
 rintro a W ⟨T39,T40,T41,T37,T42,T43,T44,T4,T5,rfl,b,u,x,C,r,s⟩;obtain⟨q2,m2,t2,aa,Q,rfl,D,E,K,M,n⟩:=C G;obtain rfl:=D G;obtain rfl:=E G;obtain rfl:=K G;obtain rfl:=M G;obtain⟨C2,rfl,hC,au⟩:=r.1 N;obtain⟨K2,rfl,B,ax⟩:=s.1 N;obtain⟨ay,y,hy,y1,y2,y3,y4,y5⟩:=n.end b hC au B ax;have a1:=(f.below b).blk (B1+1,R,VG.t) ar;have a2:=(f.below y5).blk (B1+1,R,VG.t) ar;have a6:=O n.csz;have bf:=O n.gsz;have bi:=O n.ac;have bl:=O n.ag;have a3:B1+1≠C2:=λe=>by have h:=(jS.1 (f.blk (B1+1,R,VG.t) ar)).1;dsimp only at h;omega
 replace f:=O ((((f.below y5).made y3 (λk h=>h) y4).block y2).block y1);refine aE N (λV U2=>?_);rw[jC aj];refine jX VC.t _ _ N C2 aa N N VC.t VC.Z hC (by rw[a6];exact VC.hi) (VC.hZ.trans a6.symm) n.cone ?_;refine U2 _ _ ((jM W C2 _ aa a3).trans a1) λ_=>?_
 clear U2;refine L ?_;refine aE N (λV U2=>?_);rw[jC aj];refine jX VG.t _ _ N K2 Q N N VG.t VG.Z ay (by rw[bf];exact VG.hi) (VG.hZ.trans bf.symm) n.gone ?_;rw[<-hy];refine U2 _ _ a2 λ_=>?_
 clear U2 hC au B ax b u x C D E K M n r s ay hy y1 y2 y3 y4 y5 a1 a2 a3 HX;refine L ?_;refine aP ?_;refine ob ?_;obtain⟨x5,z⟩:=J y;rw[<-z]at f⊢;clear z
 go_upto_region 3 with fail
 clear Vw Vg Wq ad bb;have Wp:jd (∀(W:jk) (vl:jb),gH W->bW W (aC (aC (aK 3) bF) bR) m2 t2->aH (·<W.heap.size) W vl 5 1 F1.toList->jr jn 10 #[ja Q,jf jg 0,jf .u8 3,vl] W λe w'=>∃q vm vt l AG,gY (aC (aC (aK 3) bF) bR) cS3 W w' e q vm vt l AG):=O (λW vl P hg hs=>by
  rw[a4]at hs;exact vA (d:=0) G 3#8 vZ.2.2.1 N DT lA.2.2.1 bl hg P hs)
 have b:=bX x5;obtain⟨x6,z⟩:=J x5.drew;have HX:=O z;rw[<-z]at b;replace f:=O (f.below b);clear z b;refine o1 ?_;refine uk (λF=>F.heap[K2]?=jc (jo Q VG.t (0,0))) [0] [(1,ju),(2,ju),(3,ju),(4,ji),(5,ji),(6,ji),(7,ji)] 8 9 (.one 10 (.one 11 (.take 12 .done))) (Oe x6 (.bool ju) (ptr B1) (ptr (B1+1)) (.bool ji) (ptr C2) (ptr K2) (.bool ji) (jv #[ja S,ja R,.bool ji]) (ja ba) (ja E1) (jj (jc ⟨x1,0,jm⟩) 1 1) (jv #[ja S,ja R,.bool ji]) (ja S) (ja R) (.bool ji) (jv #[ja aa,ja Q,.bool ji]) (ja R) (T39) (T40) (jv #[ja aa,ja Q,.bool ji]) (ja aa) (ja Q) (.bool ji) Q F1 (aC (aC (aK 3) bF) bR) cS3) af af af af af G (λ_ _ _ _ h=>h) (by rw[<-HX];exact f.blk (_,_,_) ar) ?hIR3 ?hTR3 ?hCR3 ?h1R3 ?h2R3 ?hER3 ?h0R3
 case hIR3=>
  rintro j b1 b2 a W ⟨T47,T48,T49,T45,T50,T51,T52,T7,T8,rfl,b,u,x,C,r,s⟩;exact av (f.blk (_,_,_) ar) b
 case h1R3=>
  rintro j b2 a W ⟨T47,T48,T49,T45,T50,T51,T52,T7,T8,rfl,b,u,x,C,r,s⟩;refine jI (o:=_) N (λV B=>?_);rw[jC aj];refine gK VC.t N VC.Z VC.hal ?_;have c:=ao W (jo VC.Z VC.t);refine B _ _ ⟨T47,T48,T49,T45,T50,T51,T52,ptr W.heap.size,T8,N,b.trans (c.mono b.size),u,(λe=>((x e).keep λk g=>c.block k g).mono λk (g:k<W.heap.size)=>jw g c.size),λe=>?_,⟨λ_=>⟨_,N,jF _ _,b.size⟩,λh=>(by cases h)⟩,s.keep c⟩;obtain⟨q,m,t,l,p,X,D,E,K,M,n⟩:=C e;exact⟨q,m,t,l,p,X,D,E,K,M,(n.c (jz _)).keep c⟩
 case h2R3=>
  rintro j b1 a W ⟨T47,T48,T49,T45,T50,T51,T52,T7,T8,rfl,b,u,x,C,r,s⟩;refine jI (o:=_) N (λV B=>?_);rw[jC aj];refine gK VG.t N VG.Z VG.hal ?_;have c:=ao W (jo VG.Z VG.t);refine B _ _ ⟨T47,T48,T49,T45,T50,T51,T52,T7,ptr W.heap.size,N,b.trans (c.mono b.size),u,(λe=>((x e).keep λk g=>c.block k g).mono λk (g:k<W.heap.size)=>jw g c.size),λe=>?_,r.keep c,⟨λ_=>⟨_,N,jF _ _,b.size⟩,λh=>(by cases h)⟩⟩;obtain⟨q,m,t,l,p,X,D,E,K,M,n⟩:=C e;exact⟨q,m,t,l,p,X,D,E,K,M,(n.g (jz _)).keep c⟩
 case h0R3=>
  rw[<-HX]
  (refine nD (v:=ja Q) N aj (λF hS=>dh VG.hu VG.hd (by rw[bf];exact VG.hi) N N hS) ?_;refine L ?_)
  exact⟨I,I,I,I,I,I,I,I,I,N,jE _ _,λh=>jq h G,λh=>jq h G,λh=>jq h G,⟨λh=>(by cases h),λ_=>rfl⟩,⟨λh=>(by cases h),λ_=>rfl⟩⟩
 case hTR3=>
  rintro j i H b1 b2 a W ⟨T47,T48,T49,T45,T50,T51,T52,T7,T8,rfl,b,u,x,C,r,s⟩
  rcases j with _ |_ |_ |_ |_ |_ |_ |j
  iterate 3 (·simp at H)
  ·obtain rfl:i=4:=ak H.symm
   obtain⟨q,m,t,l,p,X,D,E,K,M,n⟩:=C Y;refine⟨_,T49,N,.inl ⟨by rfl,λF hS=>.inl (by go_simp;try with_reducible rfl)⟩,?_⟩;exact⟨T47,T48,T49,T49,T50,T51,T52,T7,T8,N,b,λ_=>u Y,λ_=>x Y,λ_=>⟨q,m,t,l,p,X,λ_=>rfl,(λh=>jq h Y),(λh=>jq h Y),(λh=>jq h Y),n⟩,r,s⟩
  ·obtain rfl:i=5:=ak H.symm
   obtain⟨q,m,t,l,p,rfl,D,E,K,M,n⟩:=C Y;obtain rfl:=D Y;refine⟨_,ja l,N,.inl ⟨by rfl,λF hS=>.inl (by go_simp;try with_reducible rfl)⟩,?_⟩;exact⟨T47,T48,_,_,_,T51,T52,T7,T8,N,b,λ_=>u Y,λ_=>x Y,λ_=>⟨q,m,t,l,p,N,λ_=>rfl,λ_=>rfl,(λh=>jq h Y),(λh=>jq h Y),n⟩,r,s⟩
  ·obtain rfl:i=6:=ak H.symm
   obtain⟨q,m,t,l,p,rfl,D,E,K,M,n⟩:=C Y;obtain rfl:=D Y;refine⟨_,ja p,N,.inl ⟨by rfl,λF hS=>.inl (by go_simp;try with_reducible rfl)⟩,?_⟩;exact⟨T47,T48,_,_,T50,_,T52,T7,T8,N,b,λ_=>u Y,λ_=>x Y,λ_=>⟨q,m,t,l,p,N,λ_=>rfl,λ_=>E Y,λ_=>rfl,(λh=>jq h Y),n⟩,r,s⟩
  ·obtain rfl:i=7:=ak H.symm
   obtain⟨q,m,t,l,p,rfl,D,E,K,M,n⟩:=C Y;obtain rfl:=D Y;refine⟨_,.bool ji,N,.inl ⟨by rfl,λF hS=>.inl (by go_simp;try with_reducible rfl)⟩,?_⟩;exact⟨T47,T48,_,_,T50,T51,_,T7,T8,N,b,λ_=>u Y,λ_=>x Y,λ_=>⟨q,m,t,l,p,N,λ_=>rfl,λ_=>E Y,λ_=>K Y,λ_=>rfl,n⟩,r,s⟩
  simp at H
 case hCR3=>
  rintro j i H b1 b2 a W ⟨T47,T48,T49,T45,T50,T51,T52,T7,T8,rfl,b,u,x,C,r,s⟩
  rcases j with _ |_ |_ |_ |_ |_ |_ |j
  ·obtain rfl:i=1:=ak H.symm
   refine jI (o:=_) N (λV B=>?_);go_simp;refine(UG W).mono ?_;rintro e F ⟨rfl,c⟩;exact B _ _ ⟨_,T48,T49,T45,T50,T51,T52,T7,T8,N,b.trans (c.mono b.size),λ_=>rfl,(λh=>jq h Y),(λh=>jq h Y),r.keep c,s.keep c⟩
  ·obtain rfl:i=2:=ak H.symm
   obtain rfl:=u Y;refine jI (o:=_) N (λV B=>?_);rw[jC aj];refine RCg.wp_build (.tmp 47) N (ja F1) N a5 ?_;have c:=ao W (jo F1 RCg.e);exact B _ _ ⟨_,_,T49,T45,T50,T51,T52,T7,T8,N,b.trans (c.mono b.size),λ_=>rfl,λ_=>uM (jF W _) a5,(λh=>jq h Y),r.keep c,s.keep c⟩
  ·obtain rfl:i=3:=ak H.symm
   have ac:=x Y;obtain rfl:=u Y;clear x;refine jI (o:=_) N (λV B=>?_);go_simp;refine(Wp W _ ((f.below b).tab) ((f.below b).grp ((aC (aC (aK 3) bF) bR),m2,t2) ar) ac).mono ?_;rintro e F ⟨q,m,t,l,p,hP⟩;obtain rfl:=hP.ret;have c:=hP.bel;exact B _ _ ⟨_,T48,_,T45,T50,T51,T52,T7,T8,N,b.trans (c.mono b.size),λ_=>rfl,λ_=>(ac.keep λk g=>c.block k g).mono λk (g:k<W.heap.size)=>jw g c.size,λ_=>⟨q,m,t,l,p,N,(λh=>jq h Y),(λh=>jq h Y),(λh=>jq h Y),(λh=>jq h Y),fy.of hP b.size (λk g=>r.ne g) (λk g=>s.ne g)⟩,r.keep c,s.keep c⟩
  iterate 5 (·simp at H)
 rintro a W ⟨T47,T48,T49,T45,T50,T51,T52,T7,T8,rfl,b,u,x,C,r,s⟩;obtain⟨q3,m3,t3,ad,AG3,rfl,D,E,K,M,n⟩:=C G;obtain rfl:=D G;obtain rfl:=E G;obtain rfl:=K G;obtain rfl:=M G;obtain⟨C3,rfl,hC,au⟩:=r.1 N;obtain⟨K3,rfl,B,ax⟩:=s.1 N;obtain⟨ay,y,hy,y1,y2,y3,y4,y5⟩:=n.end b hC au B ax;have a1:=(f.below b).blk (K2,Q,VG.t) ar;have a2:=(f.below y5).blk (K2,Q,VG.t) ar;have bb:=O n.csz;have bm:=O n.gsz;have bn:=O n.ac;have bT:=O n.ag;have a3:K2≠C3:=λe=>by have h:=(jS.1 (f.blk (K2,Q,VG.t) ar)).1;dsimp only at h;omega
 replace f:=O ((((f.below y5).made y3 (λk h=>h) y4).block y2).block y1);refine aE N (λV U2=>?_);rw[jC aj];refine jX VC.t _ _ N C3 ad N N VC.t VC.Z hC (by rw[bb];exact VC.hi) (VC.hZ.trans bb.symm) n.cone ?_;refine U2 _ _ ((jM W C3 _ ad a3).trans a1) λ_=>?_
 clear U2;refine L ?_;refine aE N (λV U2=>?_);rw[jC aj];refine jX VG.t _ _ N K3 AG3 N N VG.t VG.Z ay (by rw[bm];exact VG.hi) (VG.hZ.trans bm.symm) n.gone ?_;rw[<-hy];refine U2 _ _ a2 λ_=>?_
 clear U2 hC au B ax b u x C D E K M n r s ay hy y1 y2 y3 y4 y5 a1 a2 a3 HX;refine L ?_;refine aP ?_;refine ob ?_;obtain⟨x7,z⟩:=J y;rw[<-z]at f⊢;clear z
 go_upto_region 4 with fail
 clear Wp UG a5 a4;have bo:jd (∀(W:jk) (vl:jb),gH W->bW W (aC (aC (aK 3) bF) bR) m2 t2->aH (·<W.heap.size) W vl 5 1 F0.toList->jr jn 10 #[ja Q,jf jg 1,jf .u8 4,vl] W λe w'=>∃q vm vt l AG,gY (aC (aC (aK 3) bF) bR) cM W w' e q vm vt l AG):=O (λW vl P hg hs=>by
  rw[bk]at hs;exact vA (d:=1) G 4#8 vZ.2.2.2 N mN lA.2.2.2 bl hg P hs)
 have b:=bX x7;obtain⟨x8,z⟩:=J x7.drew;have HX:=O z;rw[<-z]at b;replace f:=O (f.below b);clear z b;refine o1 ?_;refine uk (λF=>F.heap[K2]?=jc (jo Q VG.t (0,0))) [0] [(1,ju),(2,ju),(3,ju),(4,ji),(5,ji),(6,ji),(7,ji)] 8 9 (.one 10 (.one 11 (.take 12 .done))) (I5 x8 (.bool ju) (ptr B1) (ptr (B1+1)) (.bool ji) (ptr C2) (ptr K2) (.bool ji) (ptr C3) (ptr K3) (.bool ji) (jv #[ja S,ja R,.bool ji]) (ja ba) (ja E1) (jj (jc ⟨x1,0,jm⟩) 1 1) (jv #[ja S,ja R,.bool ji]) (ja S) (ja R) (.bool ji) (jv #[ja aa,ja Q,.bool ji]) (ja R) (T39) (T40) (jv #[ja aa,ja Q,.bool ji]) (ja aa) (ja Q) (.bool ji) (jv #[ja ad,ja AG3,.bool ji]) (ja Q) (T47) (T48) (jv #[ja ad,ja AG3,.bool ji]) (ja ad) (ja AG3) (.bool ji) Q F0 (aC (aC (aK 3) bF) bR) cM) af af af af af G (λ_ _ _ _ h=>h) (by rw[<-HX];exact f.blk (_,_,_) ar) ?hIR4 ?hTR4 ?hCR4 ?h1R4 ?h2R4 ?hER4 ?h0R4
 case hIR4=>
  rintro j b1 b2 a W ⟨T55,T56,T57,T53,T58,T59,T60,T10,Wt,rfl,b,u,x,C,r,s⟩;exact av (f.blk (_,_,_) ar) b
 case h1R4=>
  rintro j b2 a W ⟨T55,T56,T57,T53,T58,T59,T60,T10,Wt,rfl,b,u,x,C,r,s⟩;refine jI (o:=_) N (λV B=>?_);rw[jC aj];refine gK VC.t N VC.Z VC.hal ?_;have c:=ao W (jo VC.Z VC.t);refine B _ _ ⟨T55,T56,T57,T53,T58,T59,T60,ptr W.heap.size,Wt,N,b.trans (c.mono b.size),u,(λe=>((x e).keep λk g=>c.block k g).mono λk (g:k<W.heap.size)=>jw g c.size),λe=>?_,⟨λ_=>⟨_,N,jF _ _,b.size⟩,λh=>(by cases h)⟩,s.keep c⟩;obtain⟨q,m,t,l,p,X,D,E,K,M,n⟩:=C e;exact⟨q,m,t,l,p,X,D,E,K,M,(n.c (jz _)).keep c⟩
 case h2R4=>
  rintro j b1 a W ⟨T55,T56,T57,T53,T58,T59,T60,T10,Wt,rfl,b,u,x,C,r,s⟩;refine jI (o:=_) N (λV B=>?_);rw[jC aj];refine gK VG.t N VG.Z VG.hal ?_;have c:=ao W (jo VG.Z VG.t);refine B _ _ ⟨T55,T56,T57,T53,T58,T59,T60,T10,ptr W.heap.size,N,b.trans (c.mono b.size),u,(λe=>((x e).keep λk g=>c.block k g).mono λk (g:k<W.heap.size)=>jw g c.size),λe=>?_,r.keep c,⟨λ_=>⟨_,N,jF _ _,b.size⟩,λh=>(by cases h)⟩⟩;obtain⟨q,m,t,l,p,X,D,E,K,M,n⟩:=C e;exact⟨q,m,t,l,p,X,D,E,K,M,(n.g (jz _)).keep c⟩
 case h0R4=>
  rw[<-HX]
  (refine nD (v:=ja Q) N aj (λF hS=>dh VG.hu VG.hd (by rw[bf];exact VG.hi) N N hS) ?_;refine L ?_)
  exact⟨I,I,I,I,I,I,I,I,I,N,jE _ _,λh=>jq h G,λh=>jq h G,λh=>jq h G,⟨λh=>(by cases h),λ_=>rfl⟩,⟨λh=>(by cases h),λ_=>rfl⟩⟩
 case hTR4=>
  rintro j i H b1 b2 a W ⟨T55,T56,T57,T53,T58,T59,T60,T10,Wt,rfl,b,u,x,C,r,s⟩
  rcases j with _ |_ |_ |_ |_ |_ |_ |j
  iterate 3 (·simp at H)
  ·obtain rfl:i=4:=ak H.symm
   obtain⟨q,m,t,l,p,X,D,E,K,M,n⟩:=C Y;refine⟨_,T57,N,.inl ⟨by rfl,λF hS=>.inl (by go_simp;try with_reducible rfl)⟩,?_⟩;exact⟨T55,T56,T57,T57,T58,T59,T60,T10,Wt,N,b,λ_=>u Y,λ_=>x Y,λ_=>⟨q,m,t,l,p,X,λ_=>rfl,(λh=>jq h Y),(λh=>jq h Y),(λh=>jq h Y),n⟩,r,s⟩
  ·obtain rfl:i=5:=ak H.symm
   obtain⟨q,m,t,l,p,rfl,D,E,K,M,n⟩:=C Y;obtain rfl:=D Y;refine⟨_,ja l,N,.inl ⟨by rfl,λF hS=>.inl (by go_simp;try with_reducible rfl)⟩,?_⟩;exact⟨T55,T56,_,_,_,T59,T60,T10,Wt,N,b,λ_=>u Y,λ_=>x Y,λ_=>⟨q,m,t,l,p,N,λ_=>rfl,λ_=>rfl,(λh=>jq h Y),(λh=>jq h Y),n⟩,r,s⟩
  ·obtain rfl:i=6:=ak H.symm
   obtain⟨q,m,t,l,p,rfl,D,E,K,M,n⟩:=C Y;obtain rfl:=D Y;refine⟨_,ja p,N,.inl ⟨by rfl,λF hS=>.inl (by go_simp;try with_reducible rfl)⟩,?_⟩;exact⟨T55,T56,_,_,T58,_,T60,T10,Wt,N,b,λ_=>u Y,λ_=>x Y,λ_=>⟨q,m,t,l,p,N,λ_=>rfl,λ_=>E Y,λ_=>rfl,(λh=>jq h Y),n⟩,r,s⟩
  ·obtain rfl:i=7:=ak H.symm
   obtain⟨q,m,t,l,p,rfl,D,E,K,M,n⟩:=C Y;obtain rfl:=D Y;refine⟨_,.bool ji,N,.inl ⟨by rfl,λF hS=>.inl (by go_simp;try with_reducible rfl)⟩,?_⟩;exact⟨T55,T56,_,_,T58,T59,_,T10,Wt,N,b,λ_=>u Y,λ_=>x Y,λ_=>⟨q,m,t,l,p,N,λ_=>rfl,λ_=>E Y,λ_=>K Y,λ_=>rfl,n⟩,r,s⟩
  simp at H
 case hCR4=>
  rintro j i H b1 b2 a W ⟨T55,T56,T57,T53,T58,T59,T60,T10,Wt,rfl,b,u,x,C,r,s⟩
  rcases j with _ |_ |_ |_ |_ |_ |_ |j
  ·obtain rfl:i=1:=ak H.symm
   refine jI (o:=_) N (λV B=>?_);go_simp;refine(UP W).mono ?_;rintro e F ⟨rfl,c⟩;exact B _ _ ⟨_,T56,T57,T53,T58,T59,T60,T10,Wt,N,b.trans (c.mono b.size),λ_=>rfl,(λh=>jq h Y),(λh=>jq h Y),r.keep c,s.keep c⟩
  ·obtain rfl:i=2:=ak H.symm
   obtain rfl:=u Y;refine jI (o:=_) N (λV B=>?_);rw[jC aj];refine RCg.wp_build (.tmp 55) N (ja F0) N bg ?_;have c:=ao W (jo F0 RCg.e);exact B _ _ ⟨_,_,T57,T53,T58,T59,T60,T10,Wt,N,b.trans (c.mono b.size),λ_=>rfl,λ_=>uM (jF W _) bg,(λh=>jq h Y),r.keep c,s.keep c⟩
  ·obtain rfl:i=3:=ak H.symm
   have ac:=x Y;obtain rfl:=u Y;clear x;refine jI (o:=_) N (λV B=>?_);go_simp;refine(bo W _ ((f.below b).tab) ((f.below b).grp ((aC (aC (aK 3) bF) bR),m2,t2) ar) ac).mono ?_;rintro e F ⟨q,m,t,l,p,hP⟩;obtain rfl:=hP.ret;have c:=hP.bel;exact B _ _ ⟨_,T56,_,T53,T58,T59,T60,T10,Wt,N,b.trans (c.mono b.size),λ_=>rfl,λ_=>(ac.keep λk g=>c.block k g).mono λk (g:k<W.heap.size)=>jw g c.size,λ_=>⟨q,m,t,l,p,N,(λh=>jq h Y),(λh=>jq h Y),(λh=>jq h Y),(λh=>jq h Y),fy.of hP b.size (λk g=>r.ne g) (λk g=>s.ne g)⟩,r.keep c,s.keep c⟩
  iterate 5 (·simp at H)
 rintro a W ⟨T55,T56,T57,T53,T58,T59,T60,T10,Wt,rfl,b,u,x,C,r,s⟩;obtain⟨q4,m4,t4,a4,bp,rfl,D,E,K,M,n⟩:=C G;obtain rfl:=D G;obtain rfl:=E G;obtain rfl:=K G;obtain rfl:=M G;obtain⟨C4,rfl,hC,au⟩:=r.1 N;obtain⟨K4,rfl,B,ax⟩:=s.1 N;obtain⟨ay,y,hy,y1,y2,y3,y4,y5⟩:=n.end b hC au B ax;have a1:=(f.below b).blk (K2,Q,VG.t) ar;have a2:=(f.below y5).blk (K2,Q,VG.t) ar;have bc:=O n.csz;have bq:=O n.gsz;have br:=O n.ac;have b0:=O n.ag;have a3:K2≠C4:=λe=>by have h:=(jS.1 (f.blk (K2,Q,VG.t) ar)).1;dsimp only at h;omega
 replace f:=O ((((f.below y5).made y3 (λk h=>h) y4).block y2).block y1);refine aE N (λV U2=>?_);rw[jC aj];refine jX VC.t _ _ N C4 a4 N N VC.t VC.Z hC (by rw[bc];exact VC.hi) (VC.hZ.trans bc.symm) n.cone ?_;refine U2 _ _ ((jM W C4 _ a4 a3).trans a1) λ_=>?_
 clear U2;refine L ?_;refine aE N (λV U2=>?_);rw[jC aj];refine jX VG.t _ _ N K4 bp N N VG.t VG.Z ay (by rw[bq];exact VG.hi) (VG.hZ.trans bq.symm) n.gone ?_;rw[<-hy];refine U2 _ _ a2 λ_=>?_
 clear U2 hC au B ax b u x C D E K M n r s ay hy y1 y2 y3 y4 y5 a1 a2 a3 HX;refine L ?_;refine aP ?_;refine ob ?_;obtain⟨x9,z⟩:=J y;rw[<-z]at f⊢;clear z
 go_upto_region 5 with fail
 clear bo UP bg bk
 go_upto_region 6 with(first|(refine VC.loadA aj N N ad bb (f.blk (C3,ad,VC.t) ar) (L ?_))|(refine VC.loadA aj N N aa a6 (f.blk (C2,aa,VC.t) ar) (L ?_))|(refine VC.loadA aj N N a4 bc (f.blk (C4,a4,VC.t) ar) (L ?_))|(refine VC.loadA aj N N S bd (f.blk (B1,S,VC.t) ar) (L ?_))|(refine RCm.four N _ _ _ _ N ad aa a4 S N N N N bb a6 bc bd (L ?_)))
 obtain⟨bu,t,z,U,c,b⟩:=dt x9 (ad.toList++(aa.toList++(a4.toList++S.toList))).toArray RCm.e;rw[<-z,<-U];obtain⟨LS,m⟩:∃l:jh CP,l=[(cS3,q3),(bR,q2),(cM,q4),(bF,q1)]:=⟨_,N⟩;have q:jd (cC bu (jj (jc ⟨t,0,jm⟩) 4 4) LS):=O (by
  rw[m];refine⟨⟨?_,_,4,N,jz _,(λe=>by cases e),λ_=>⟨t,0,N,(jS.1 c).1,λj au hj=>?_⟩⟩,λp F=>(f.below b).com p (by rcases(by simpa using F:p=(cS3,q3)\/p=(bR,q2)\/p=(cM,q4)\/p=(bF,q1))with h|h|h|h<;>simp[h])⟩
  ·have V:(aF cS3 q3).length=73:=by have h:=bb.out;rw[bn,jG]at h;exact h
   have X:(aF bR q2).length=73:=by have h:=a6.out;rw[bi,jG]at h;exact h
   have e3:(aF cM q4).length=73:=by have h:=bc.out;rw[br,jG]at h;exact h
   have e4:(aF bF q1).length=73:=by have h:=bd.out;rw[bh,jG]at h;exact h
   simp only[ms,qe,jZ,List.length_nil,sO,V,X,e3,e4]
   rfl
  have h:=c.out;rw[bn,bi,br,bh]at h;refine ah h ?_
  simpa [sO]using hj)
 have ay:=O m;replace f:=O (f.below b);clear z U b c m;obtain⟨I1,F⟩:=J (((aG bF).map v8).toArray);have Ww:jd (I1.size=32):=O (by rw[F,jG,jB,dS]);have ax:jd (∀W,SSt w [(C4,a4,VC.t),(K4,bp,VG.t),(C3,ad,VC.t),(K3,AG3,VG.t),(C2,aa,VC.t),(K2,Q,VG.t),(B1,S,VC.t),(B1+1,R,VG.t)] [(cM,q4),(cS3,q3),(bR,q2),(bF,q1)] [(aC (aC (aC (aK 3) bF) bR) cM,m4,t4),(aC (aC (aC (aK 3) bF) bR) cS3,m3,t3),(aC (aC (aK 3) bF) bR,m2,t2),(aC (aK 3) bF,m1,t1)] W->jr jn 13 #[ja S] W λe w'=>e=js (ja I1)/\jp W W w'):=O (λW c=>by
  rw[bh,F];exact sZ bF q1 W (c.com (bF,q1) ar) lA.1 c.tab.s.dig)
 obtain⟨m,V⟩:=J (#[jy .i64 3]++I1);have X:jd (m=(cZ 3 (aG bF)).toArray):=O (by rw[V,F];unfold cZ;simp);have a1:=O V;have Y9:jd (m.size=VF.n):=O (by rw[X,jG];unfold cZ;rw[qC,jB,dS];rfl);have a5:jd (m.all (·.oneCell')=ji):=O (by
  rw[X,jT];intro au c;simp only[cZ,qo,jR]at c
  rcases c with rfl|c
  ·rfl
  exact gS _ au c)
 clear F V
 go_wp2_with (refine VC.loadA aj N N S bd (f.blk (B1,S,VC.t) ar) (L ?_))
 refine(ax _ f.out).mono ?_;rintro e bv ⟨rfl,b⟩;replace f:=O (f.below b);replace q:=O (q.below b);clear b ax
 go_upto_region 7 with(first|(refine ez (v:=ja m) aj (by rw[a1];exact OI Ww N N _) ?_;refine L ?_)|(refine VF.made N N (L ?_))|(refine VF.first N N N m N Y9 a5 (L ?_)))
 obtain⟨b1,F,z,U,V,b⟩:=dt bv m VF.t;rw[<-z,<-U];replace f:=O (((f.below b)).block V);replace q:=O (q.below b);clear z U b V a1 a5 Ww;have Vo:jd (∀W,cC W (jj (jc ⟨t,0,jm⟩) 4 4) LS->bP W->jr jn 7 #[ja m,(jj (jc ⟨t,0,jm⟩) 4 4)] W λe w'=>∃p1 V p2 c2,e=js (jv #[jj p1 3 V,jj p2 3 c2])/\
  aH (·<w'.heap.size) w' (jj p1 3 V) 1 3 [jf jg 3,jf jg 1,jf jg 2]/\jp W W w'):=O (λW h P=>by
   rw[X];rw[ay]at h;exact Ny _ W h P)
 go_wp2_with (refine VF.loadA aj N N m Y9 (f.blk (F,m,VF.t) ar) (L ?_))
 refine(Vo _ q.out f.tab.s.dig).mono ?_;rintro e b2 ⟨pa,ka,pg,kg,rfl,ac,b⟩;replace f:=O (f.below b);replace q:=O (q.below b);have Ve:=O ac;clear b ac Vo
 go_upto_region 8 with fail
 have VA:jd (∀W,cC W (jj (jc ⟨t,0,jm⟩) 4 4) LS->bP W->jr jn 14 #[ja m,(jj (jc ⟨t,0,jm⟩) 4 4)] W λe w'=>∃p1 V u2,e=js (jv #[jj p1 4 V,u2])/\
  aH (·<w'.heap.size) w' (jj p1 4 V) 1 4 [jf jg 3,jf jg 1,jf jg 2,jf jg 0]/\jp W W w'):=O (λW h P=>by
   rw[X];rw[ay]at h;exact QD _ W h P)
 go_wp2_with (refine VF.loadA aj N N m Y9 (f.blk (F,m,VF.t) ar) (L ?_))
 refine(VA _ q.out f.tab.s.dig).mono ?_;rintro e b3 ⟨pl,kl,ul,rfl,ac,b⟩;replace f:=O (f.below b);replace q:=O (q.below b);replace Ve:=O ((Ve.keep λk g=>b.block k g).mono λk g=>jw g b.size);have ax:=O ac;clear b ac VA
 go_upto_region 9 with fail
 have a5:jd (∀W,cC W (jj (jc ⟨t,0,jm⟩) 4 4) LS->bP W->jr jn 15 #[ja m,(jj (jc ⟨t,0,jm⟩) 4 4)] W λe w'=>∃vm vt,e=js (jv #[ja (aD (aC cU cM) vm vt).toArray,.bool ji])/\bW w' (aC cU cM) vm vt/\jp W W w'):=O (λW h P=>by
  rw[X];rw[ay]at h;exact KZ _ W h P)
 go_wp2_with (refine VF.loadA aj N N m Y9 (f.blk (F,m,VF.t) ar) (L ?_))
 refine(a5 _ q.out f.tab.s.dig).mono ?_;rintro e bw ⟨mn,tn,rfl,a2,b⟩;replace f:=O (f.below b);replace q:=O (q.below b);replace Ve:=O ((Ve.keep λk g=>b.block k g).mono λk g=>jw g b.size);replace ax:=O ((ax.keep λk g=>b.block k g).mono λk g=>jw g b.size);obtain⟨GN,a1⟩:=J ((aD (aC cU cM) mn tn).toArray);have bA:=O a1;have bB:jd (GN.size=VG.n):=O (by rw[a1,jG];exact eX a2.llen);have bg:jd (GN.all (·.oneCell')=ji):=O (by rw[a1,jT];exact λau c=>mQ a2 au (ak c));have a3:=O a2;rw[<-a1];clear b a5 a1 a2
 go_upto_region 10 with(first|(refine VG.made N N (L ?_))|(refine VG.first N N N GN N bB bg (L ?_)))
 obtain⟨bC,NB,z,U,ZN,b⟩:=dt bw GN VG.t;rw[<-z,<-U];replace f:=O ((f.below b).block ZN);replace q:=O (q.below b);replace a3:=O (a3.below b);replace Ve:=O ((Ve.keep λk g=>b.block k g).mono λk g=>jw g b.size);replace ax:=O ((ax.keep λk g=>b.block k g).mono λk g=>jw g b.size);clear z U b ZN bg;have c:jd (S5 w _ _ _ (jj (jc ⟨t,0,jm⟩) 4 4) LS (aC cU cM) mn tn (jj pa 3 ka) (jj pl 4 kl) bC):=O (S5.mk f q a3 Ve ax);clear f q a3 Ve ax;obtain⟨ZG,f⟩:=J ((aD kr vN vN).toArray);have a3:=O f;clear f
 go_wp2_with (refine ez (v:=ja ZG) aj (by rw[a3];exact zX N _) ?_;refine L ?_)
 rw[a3];refine(L5 _ c.s.tab.s.dig).mono ?_;rintro e b4 ⟨rfl,b⟩;replace c:=O (c.below b);clear b
 go_upto_region 11 with fail
 have f:jd (∀W,bP W->jr jn 7 #[ja m,jj jm 0 0] W λe w'=>∃p1 V p2 c2,e=js (jv #[jj p1 0 V,jj p2 0 c2])/\jp W W w'):=O (λW P=>by
  rw[X];exact IN _ (dS _) W P)
 go_wp2_with (refine VF.loadA aj N N m Y9 (c.s.blk (F,m,VF.t) ar) (L ?_))
 refine(f _ c.s.tab.s.dig).mono ?_;rintro e b5 ⟨b6,b7,b8,b9,rfl,b⟩;replace c:=O (c.below b);clear b;clear f
 go_upto_region 12 with fail
 obtain⟨k,f⟩:=J (kO jm);have ax:jd (k.size=VG.n):=O (by rw[f];exact VG.hZ);have g:jd (k.all (·.oneCell')=ji):=O (by rw[f];kernel_rfl);have a1:jd (k=(aD kr vN vN).toArray):=O (by rw[f];rfl);have q:jd (∀W,bP W->jr jn 15 #[ja m,jj jm 0 0] W λe w'=>e=js (jv #[ja k,.bool ju])/\jp W W w'):=O (λW P=>by
  rw[X,f];exact Ol _ (dS _) W P)
 clear f
 go_wp2_with (refine VF.loadA aj N N m Y9 (c.s.blk (F,m,VF.t) ar) (L ?_))
 refine(q _ c.s.tab.s.dig).mono ?_;rintro e bI ⟨rfl,b⟩;replace c:=O (c.below b);clear b;clear q
 go_upto_region 13 with(first|(refine VG.made N N (L ?_))|(refine VG.first N N N k N ax g (L ?_)))
 obtain⟨ca,ZB,z,U,bK,b⟩:=dt bI k VG.t;rw[<-z,<-U];replace c:=O (c.below b);replace c:=O (c.block bK);clear z U b;clear g;obtain⟨I2,q⟩:=J (((aG bR).map v8).toArray);have WH:jd (I2.size=32):=O (by rw[q,jG,jB,dS]);have a5:jd (∀W,aZ (·<W.heap.size) W bR q2->bP W->jr jn 13 #[ja aa] W λe w'=>e=js (ja I2)/\jp W W w'):=O (λW h P=>by
  rw[bi,q];exact sZ bR q2 W h lA.2.1 P)
 obtain⟨g,a2⟩:=J ((itC I2.toList 5).toArray);obtain⟨IL,bg⟩:=J ((itC I2.toList 6).toArray);have f:jd (ItP g (aG bR) 5/\ItP IL (aG bR) 6/\g.setIfInBounds 34 (jf jg 6)=IL):=O (by
  rw[a2,bg,q];exact⟨itP _ 5 (dS _),itP _ 6 (dS _),N3 _ 5 6 (by simp[dS])⟩)
 have bk:=O a2;clear q a2 bg
 go_wp2_with (refine VC.loadA aj N N aa a6 (c.s.blk (C2,aa,VC.t) ar) (L ?_))
 refine(a5 _ (c.s.com (bR,q2) ar) c.s.tab.s.dig).mono ?_;rintro e bM ⟨rfl,b⟩;replace c:=O (c.below b);clear b;clear a5
 go_upto_region 14 with(first|(refine ez (v:=ja g) aj (by rw[bk];exact Mr WH N N _) ?_;refine L ?_)|(refine VIt.made N N (L ?_))|(refine VIt.first N N N g N f.1.sz f.1.one (L ?_)))
 obtain⟨a2,IB,z,U,bN,b⟩:=dt bM g VIt.t;rw[<-z,<-U];replace c:=O (c.below b);replace c:=O (c.block bN);clear z U b;clear bk WH
 go_upto_region 15 with(first|(refine VIt.loadA aj N N g f.1.sz (c.s.blk (IB,g,VIt.t) ar) (L ?_))|(refine VIt.made N N (L ?_))|(refine VIt.first N N N g N f.1.sz f.1.one (L ?_)))
 obtain⟨bO,NL,z,U,q,b⟩:=dt a2 g VIt.t;rw[<-z,<-U];have a5:a2.heap.size<=NL:=qn U.symm;clear z U;have U:=ah (i:=34) q f.1.ctr;have bk:=fR (o:=34) q;have Uj:=O b;have bg:=O a5;clear b a5
 go_upto_region 16 with fail
 clear U bk;have b:=qW Uj.out (p:=⟨NL,34,jm⟩) bg (jf jg 6);have U:=fa (i:=34) (jf jg 6) q;rw[f.2.2]at U;obtain⟨cb,z⟩:=J (bO.setCell ⟨NL,34,jm⟩ (jf jg 6));rw[<-z]at b U⊢;replace c:=O (c.below b);replace c:=O (c.block U);clear z b U Uj bg q;have q:jd (∀W,jr jn 17 #[ja k,ja k] W λe w'=>e=js (.bool ji)/\jp W W w'):=O (λW=>by
  rw[a1];exact Qk kr vN vN vN vN W (Ct W) (Ct W) G G)
 go_wp2_with (first|(refine VG.loadA aj N N k ax (c.s.blk (ZB,k,VG.t) ar) (L ?_))|(refine ez (v:=ja k) aj (by rw[a1];exact zX N _) ?_;refine L ?_))
 refine(q _).mono ?_;rintro e U ⟨rfl,b⟩;replace c:=O (c.below b);clear b;clear q a1 ax
 go_upto_region 18 with fail
 have ax:jd (∀W au,de W au [3,1,2]->de W (jj pa 3 ka) [3,1,2]->jr jn 18 #[jj pa 3 ka,au] W λe w'=>e=js (.bool ji)/\jp W W w'):=O (λW au u x=>by
  exact TW [3,1,2] [3,1,2] _ _ W x u G G)
 obtain⟨-,cc,cd,q,-,-,au⟩:=(show _ from c.al);obtain⟨gl,ol,a1,-,a5⟩:=au G;obtain rfl:pl=jc ⟨gl,ol,jm⟩:=by injection q with e;rw[e,a1]
 have Vh:=O a5;obtain⟨pm,km,bg,-⟩:=c.gi.mem.form;rw[Te oH]at bg;subst bg;have ZN:jd (U.cell? ⟨NB,34,jm⟩=jc (jj pm 1 km)):=O (ah (c.s.blk (NB,GN,VG.t) ar) (by rw[bA,jW];exact(lN c.gi.llen).2.2.1));have bk:jd (∀W,cC W (jj (jc ⟨t,0,jm⟩) 4 4) LS->bP W->jr jn 6 #[ja m,(jj (jc ⟨t,0,jm⟩) 4 4),ja g] W λe w'=>e=js (.bool ji)/\jp W W w'):=O (λW h P=>by
  rw[X];rw[ay]at h;exact Dn _ W h P g 5 f.1.id f.1.dev f.1.ctr)
 have bo:jd (∀W,cC W (jj (jc ⟨t,0,jm⟩) 4 4) LS->bP W->jr jn 6 #[ja m,(jj (jc ⟨t,0,jm⟩) 4 4),ja IL] W λe w'=>e=js (.bool ju)/\jp W W w'):=O (λW h P=>by
  rw[X];rw[ay]at h;exact Dn _ W h P IL 6 f.2.1.id f.2.1.dev f.2.1.ctr)
 have Vg:jd (∀W,bP W->jr jn 6 #[ja m,jj jm 0 0,ja g] W λe w'=>e=js (.bool ju)/\jp W W w'):=O (λW P=>by
  rw[X];exact JM _ (dS _) W P g (aG bR) (dS _) 0 5 f.1.id f.1.dev f.1.ctr)
 clear au a5 q a1
 go_wp2_with fail
 have b:=ao U (jo #[jf jg 3,jf jg 1,jf jg 2] 3);have Ul:=jF U (jo #[jf jg 3,jf jg 1,jf jg 2] 3);obtain⟨P,z⟩:=J (U.alloc (jo #[jf jg 3,jf jg 1,jf jg 2] 3));obtain⟨I3,au⟩:=J U.heap.size;rw[<-z,<-au]at Ul⊢;rw[<-z]at b;have c0:P.cell? ⟨gl,ol,jm⟩=jc (jf jg 3):=aB (Vh 0 _ N) b;have V:P.cell? ⟨gl,ol+1,jm⟩=jc (jf jg 1):=aB (Vh 1 _ N) b;have c2:P.cell? ⟨gl,ol+2,jm⟩=jc (jf jg 2):=aB (Vh 2 _ N) b;have c3:P.cell? ⟨gl,ol+3,jm⟩=jc (jf jg 0):=aB (Vh 3 _ N) b;have c4:=aB ZN b;replace c:=O (c.below b);have H:de P (jj (jc ⟨I3,0,jm⟩) 3 3) [3,1,2]:=⟨_,3,N,by decide,λ_=>⟨I3,0,rfl,λj hj=>by rw[qf];exact ah Ul (by match j,hj with|0,_=>rfl|1,_=>rfl|2,_=>rfl)⟩⟩;refine(ax P _ H (aH.ints (l:=[3,1,2]) c.at_)).mono ?_;rintro e a1 ⟨rfl,q⟩;replace c:=O (c.below q);replace c0:=aB c0 q;replace V:=aB V q;replace c2:=aB c2 q;replace c3:=aB c3 q;replace c4:=aB c4 q;clear b q H Ul z au ax Vh ZN
 go_wp2_with (first|(refine VF.loadA aj N N m Y9 (c.s.blk (F,m,VF.t) ar) (L ?_))|(refine VIt.loadA aj N N g f.1.sz (c.s.blk (IB,g,VIt.t) ar) (L ?_)))
 clear c0 V c2 c3 c4;refine(bk _ c.ci c.s.tab.s.dig).mono ?_;rintro e q ⟨rfl,b⟩;replace c:=O (c.below b);clear b;clear bk
 go_wp2_with (first|(refine VF.loadA aj N N m Y9 (c.s.blk (F,m,VF.t) ar) (L ?_))|(refine VIt.loadA aj N N IL f.2.1.sz (c.s.blk (NL,IL,VIt.t) ar) (L ?_)))
 refine(bo _ c.ci c.s.tab.s.dig).mono ?_;rintro e z ⟨rfl,b⟩;replace c:=O (c.below b);clear b;clear bo
 go_wp2_with (first|(refine VF.loadA aj N N m Y9 (c.s.blk (F,m,VF.t) ar) (L ?_))|(refine VIt.loadA aj N N g f.1.sz (c.s.blk (IB,g,VIt.t) ar) (L ?_)))
 refine(Vg _ c.s.tab.s.dig).mono ?_;rintro e au ⟨rfl,b⟩;replace c:=O (c.below b);clear b;clear Vg
 go_wp2_with fail
 go_ret;exact⟨N,c.s.bel⟩
end
section
section
variable {P:ow} {ops:jt jP} {Q:Exit->Act->jk->Prop}
end
theorem Dw{P:ow}{ops:jt jP}{Q:Exit->Act->jk->Prop}{S:jk->Prop}{i:jl}{o:jP}{r:bE}{a:Act}{w:jk}(b:ops[i]?=jc o)(c:Region.wanted o (yielded ops a.tmps)=ju)(d:S w)(h:eD P ops Q S r (a.put o.dst I) w):eD P ops Q S (.one i r) a w:=
 aE b λf e=>by rw[if_neg (by rw[c];decide)];exact e _ _ d λ_=>h
end
def uU{H:Type}(a:jh (jh UInt8)):jJ H:=.agg (a.map λz=>.lit (.string z))
theorem OT{enc:jA×jb->H}{P:ow}{w:jk}{x:jl}{j:jl->Bool}{k:Bool}{i:jl}{t e:jA}{o:jl}{c:jh jb}{a:jh (jh UInt8)}{p:jh lw}
 (l:P.underlying t=jc (.array o e)) (he:P.underlying e=jc .string) (m:P.cellsOf e=1) (n:P.cellsOf t=o)
 (h:DataW.trod enc P w x j k i t c=jc (uU a,p)):c=a.map λz=>Value.string ⟨z.toArray⟩:=by
 rcases i with _|i
 ·simp[DataW.trod]at h
 simp only[DataW.trod,l,m,n,Nat.mul_one]at h
 split at h
 ·rename_i D
  obtain⟨xs,f,q⟩:=qX.1 h;have g:xs.map (·.1)=a.map λz=>(DataW.lit (.string z):jJ H):=by
   have:=jH Prod.fst q
   simpa [uU]using this
  have E:xs.length=o:=by simpa using Lib.mapM_length f
  have F:a.length=o:=by
   have:=jH n0 g;simp at this;omega
  apply List.ext_getElem?
  intro fuel
  by_cases r:fuel<o
  ·obtain⟨b,u,v⟩:=Lib.mapM_at f fuel fuel (by simp[r])
   obtain⟨s,base,rfl,-⟩:=DataW.trod_string he v;have y:c[fuel]?=jc (.string s):=by
    have:=jH (·[0]?) base
    simpa [qx,List.getElem?_drop]using this
   have d:(xs.map (·.1))[fuel]?=jc (DataW.lit (.string s.data.toList):jJ H):=by simp[u]
   rw[g]at d;simp only[j4,qX,DataW.lit.injEq,Lit.string.injEq]at d;obtain⟨K,B,C⟩:=d;rw[y,j4,B,C];simp
  rw[qY Y,qY (by simp;omega)]
 cases h
theorem Kd{P:ow}{W:jk}{a:String}{b:jh (jh UInt8)}{c:jh (String×jJ Unit)}{g:jl}{t e:jA}{n:jl}
 (d:P.globalNamed a=jc g) (f:(P.globals[g]?).map (·.type)=jc t) (i:P.underlying t=jc (.array n e)) (he:P.underlying e=jc .string) (j:P.cellsOf e=1) (k:P.cellsOf t=n)
 (h:laidMet P ((a,uU b)::c) W):W.var? P a=jc (b.map λz=>Value.string ⟨z.toArray⟩).toArray:=by
 obtain⟨s,⟨g',u,v,fuel,p,q,l,m,o,r,_,_⟩,_⟩:=h;obtain rfl:=qj.inj (d.symm.trans l);obtain rfl:=qj.inj (f.symm.trans m);rw[o,<-OT i he j k r]
def sU:jh (String×jJ Unit):=[("chartroom/digest.start",Rows.laid_chartroom_digest_start),("chartroom/digest.numbers",Rows.laid_chartroom_digest_numbers),("bytes.ErrTooLarge",Rows.laid_bytes_ErrTooLarge),("chartroom/cipher.constants",Rows.laid_chartroom_cipher_constants),("chartroom/schedule.labels",Rows.laid_chartroom_schedule_labels)]
theorem Lu(h:laidMetH jn sU w):lq w/\iD w:=by
 have i:(Rows.laid_chartroom_digest_start:jJ Unit)=Lib.tabData .u32 (fD.map λx=>(x.toNat:je)):=by kernel_rfl
 have j:(Rows.laid_chartroom_digest_numbers:jJ Unit)=Lib.tabData .u32 (lY.map λx=>(x.toNat:je)):=by kernel_rfl
 have k:(Rows.laid_chartroom_cipher_constants:jJ Unit)=Lib.tabData .u32 [0x61707865,0x3320646e,0x79622d32,0x6b206574]:=by kernel_rfl
 have l:(Rows.laid_chartroom_schedule_labels:jJ Unit)=uU [[105,110,105,116],[99,111,109,109,105,116],[99,104,105,108,100]]:=by kernel_rfl
 unfold sU at h;rw[MakeChecks.laidMetH_plain _ _ _ af,i,j,k,l]at h;have e:=h.tail;have f:=e.tail.tail;have m:=f.tail;have a:=Lib.tabIs_of_head (g:=3) af af underlying330 qN af af e;have b:=Lib.tabIs_of_head (g:=1) af af underlying288 qN af af h;have c:=Lib.tabIs_of_head (g:=7) af af underlying360 qN af af f;have d:=Kd (g:=0) af af underlying246 underlying9 af af m;exact⟨⟨a,b,c⟩,⟨a,b⟩,d⟩
theorem door_met(os:Os)(args:jt jb):laidMetH jn sU ((World.doorLaid jn 3000 os).forCall (λ_ _=>0) ⟨#[],args,[]⟩).memory:=
 laidMetH_of_parts3 (fuel:=8) (laidMet_of_run' 8 af af) af af
section
open Go.RowKit Go.ChangeShapes Go.WideShapes Go.Deep
theorem KX(a:laidMetH jn sU w):gH w:=by
 obtain⟨t,s⟩:=Lu a;exact⟨t,s⟩
end
section
open Go.RowKit Go.ChangeShapes Go.WideShapes Go.Deep
theorem QM{enc:jA×jb->H}{d:jb}{v:jJ H}(h:DataW.Trod enc jn w 0 (λ_=>ji) ji 25 d v p)(k:oj jn w .any x 25 d):
 ∃(l:je) (b:LBy),d=.agg (cZ l b).toArray/\b.length=32:=by
 obtain⟨q,rfl,C⟩:=okWide_struct qM k;obtain⟨cl⟩:=q;obtain⟨fuel,c⟩:=h;have r:(j0 ⟨cl⟩).cells.toList=cl:=N;rw[r]at c;obtain⟨xs,n,-,-,s,t,e⟩:=DataW.trod_struct qM c;have D:cl.length=33:=s.trans af;have u:jn.cellsOf 3=1:=by kernel_rfl
 have f:jn.cellsOf 23=32:=by kernel_rfl
 match xs,t with
 |[y0,y1],_=>
  have g:=e 0 _ N;have i:=e 1 _ N;simp only[qF,qG,qH,u,f]at g i;obtain⟨W,base,-,w0⟩:=DataW.trod_int jU g;obtain⟨y,z,B⟩:=sY underlying23 f i;refine⟨W,y,?_,B⟩;have a:=eL (cl:=cl) (o:=0) (n:=1) (m:=1) N;have j:=eL (cl:=cl) (o:=1) (n:=32) (m:=33) N;rw[base,qI]at a;have bz:cl.drop 33=[]:=qJ Y;rw[z,bz,pz]at j;rw[j]at a;rw[a];rfl
structure It where
 f:je
 id:LBy
 dev:je
 ctr:je
 kd:je
 sz:je
 a:je
 b:je
 pad:LBy
 r:je
 s:je
def It.cells(x:It)(body:jb):jh jb:=[.int .i64 x.f]++(x.id.map v8++([.int .i64 x.dev]++([.int .i64 x.ctr]++([.int .i64 x.kd]++([.int .i64 x.sz]++(([.int .i64 x.a]++([.int .i64 x.b]++x.pad.map v8))++([body]++[.int .i64 x.r,.int .i64 x.s])))))))
theorem PY{enc:jA×jb->H}{v:jb}{d:jJ H}(h:DataW.Trod enc jn w 0 (λ_=>ji) ji 34 v d p)(hv:oj jn w .any x 34 v):
 ∃(base:It) (body:jb),v=.agg (base.cells body).toArray/\base.id.length=32/\base.pad.length=32/\body.oneCell'=ji/\IR base.dev/\IR base.ctr:=by
 obtain⟨cs,rfl,bc⟩:=okWide_struct qu hv;obtain⟨cl⟩:=cs;obtain⟨fuel,u⟩:=h;have ad:(j0 ⟨cl⟩).cells.toList=cl:=N;rw[ad]at u;obtain⟨xs,n,-,-,hl,au,a⟩:=DataW.trod_struct qu u;have bd:cl.length=74:=hl.trans af;have W:jn.cellsOf 3=1:=by kernel_rfl
 have y:jn.cellsOf 23=32:=by kernel_rfl
 have i3:jn.cellsOf 29=34:=by kernel_rfl
 have i4:jn.cellsOf 30=1:=by kernel_rfl
 have i5:jn.cellsOf 32=2:=by kernel_rfl
 have z:jn.cellsOf 27=32:=by kernel_rfl
 match xs,au with
 |[y0,y1,y2,y3,y4,y5,y6,y7,y8],_=>
  have B:=a 0 _ N;have C:=a 1 _ N;have D:=a 2 _ N;have E:=a 3 _ N;have F:=a 4 _ N;have K:=a 5 _ N;have M:=a 6 _ N;have k:=a 7 _ N;have P:=a 8 _ N;simp only[qF,qG,qH,W,y,i3,i4,i5]at B C D E F K M k P;obtain⟨Q,e0,-,w0⟩:=DataW.trod_int jU B;obtain⟨R,e1,ax⟩:=sY underlying23 y C;obtain⟨S,e2,-,w2⟩:=DataW.trod_int jU D;obtain⟨U,e3,-,w3⟩:=DataW.trod_int jU E;obtain⟨V,e4,-,w4⟩:=DataW.trod_int jU F;obtain⟨X,e5,-,w5⟩:=DataW.trod_int jU K;obtain⟨zs,n6,-,-,ay,a1,j⟩:=DataW.trod_struct underlying29 M;have aa:∀o (h:o<cl.length),(cl.drop o).take 1=[cl[o]]:=λo h=>by rw[nn h];rfl
  rw[aa 71 Y]at k;have a2:cl[71].oneCell'=ji:=by
   obtain⟨l,b,-⟩:=BE (v:=cl[71]) k;obtain⟨p,c,e⟩:=b.form;rw[e];rfl
  obtain⟨us,n8,-,-,bf,a3,ac⟩:=DataW.trod_struct underlying32 P;obtain⟨b,l⟩:=J ((cl.drop 37).take 34);rw[<-l]at j ay
  match zs,a1,us,a3 with
  |[z0,z1,z2],_,[u0,u1],_=>
   have s0:=j 0 _ N;have s1:=j 1 _ N;have s2:=j 2 _ N;have t0:=ac 0 _ N;have t1:=ac 1 _ N;simp only[qF,qG,qH,W,z]at s0 s1 s2 t0 t1;obtain⟨q,ea,-,wa⟩:=DataW.trod_int jU s0;obtain⟨r,eb,-,wb⟩:=DataW.trod_int jU s1;obtain⟨s,ec,a4⟩:=sY underlying27 z s2;obtain⟨t,er,-,wr⟩:=DataW.trod_int jU t0;obtain⟨r1,es,-,ws⟩:=DataW.trod_int jU t1;have a5:b=[.int .i64 q]++([.int .i64 r]++s.map v8):=by
    have a6:b.length=34:=by rw[l];simp;omega
    have f:=eL (cl:=b) (o:=0) (n:=1) (m:=1) N;have g:=eL (cl:=b) (o:=1) (n:=1) (m:=2) N;have i:=eL (cl:=b) (o:=2) (n:=32) (m:=34) N;rw[ea,qI]at f;rw[eb]at g;have bz:b.drop 34=[]:=qJ Y;rw[ec,bz,pz]at i;rw[f,g,i]
   refine⟨⟨Q,R,S,U,V,X,q,r,s,t,r1⟩,cl[71],?_,ax,a4,a2,IR.of w2,IR.of w3⟩;have a6:(cl.drop 72).take 2=[cl[72],cl[73]]:=by rw[nn Y,nn Y];rfl
   rw[a6]at er es;have ba:cl[72]=.int .i64 t:=ak er;have bb:cl[73]=.int .i64 r1:=ak es;have f:=eL (cl:=cl) (o:=0) (n:=1) (m:=1) N;have g:=eL (cl:=cl) (o:=1) (n:=32) (m:=33) N;have i:=eL (cl:=cl) (o:=33) (n:=1) (m:=34) N;have b3:=eL (cl:=cl) (o:=34) (n:=1) (m:=35) N;have b4:=eL (cl:=cl) (o:=35) (n:=1) (m:=36) N;have b5:=eL (cl:=cl) (o:=36) (n:=1) (m:=37) N;have b6:=eL (cl:=cl) (o:=37) (n:=34) (m:=71) N;have b7:=eL (cl:=cl) (o:=71) (n:=1) (m:=72) N;have b8:cl.drop 72=[cl[72],cl[73]]:=by
    rw[nn Y,nn Y,qJ Y]
   rw[e0,qI]at f;rw[e1]at g;rw[e2]at i;rw[e3]at b3;rw[e4]at b4;rw[e5]at b5;rw[<-l,a5]at b6;rw[aa 71 Y,b8,ba,bb]at b7;have e:cl=It.cells ⟨Q,R,S,U,V,X,q,r,s,t,r1⟩ cl[71]:=by
    refine f.trans ?_;rw[g,i,b3,b4,b5,b6,b7]
    rfl
   exact jH (λc=>j0 ⟨c⟩) e
structure ItG(a:jt jb)(c:LBy)(d e:je):Prop where
 sz:a.size=74
 one:a.all (·.oneCell')=ji
 id:∀t b,(c.map v8)[t]?=jc b->a[1+t]?=jc b
 dev:a[33]?=jc (.int .i64 d)
 ctr:a[34]?=jc (.int .i64 e)
theorem It.good(x:It)(body:jb)(h:x.id.length=32)(d:x.pad.length=32)(e:body.oneCell'=ji):ItG (x.cells body).toArray x.id x.dev x.ctr:=by
 have b:(x.id.map v8).length=32:=by rw[jB];exact h
 refine⟨?_,?_,λt c a=>?_,?_,?_⟩
 ·unfold It.cells;simp[h,d]
 ·rw[jT]
  intro c a;unfold It.cells at a;simp only[qo,jY,jR,j7,or_false]at a
  rcases a with rfl|a|rfl|rfl|rfl|rfl|(rfl|rfl|a)|rfl|rfl|rfl
  all_goals first|rfl|exact e|exact gS _ c a
 ·have f:t<(x.id.map v8).length:=(jN.1 a).1
  unfold It.cells;rw[jW,jK ar,j8,show 1+t-1=t by omega,mz f];exact a
 ·unfold It.cells
  rw[jW,jK ar,j8,jK Y,b]
  rfl
 unfold It.cells;rw[jW,jK ar,j8,jK Y,b]
 rfl
theorem Kp{enc:jA×jb->H}{v:jb}{d:jJ H}(h:DataW.Trod enc jn w 0 (λ_=>ji) ji 26 v d p)(b:oj jn w .any x 26 v):
 ∃a:jh CP,cC w v a/\a.length<=jL/\∀p∈a,uL p.1:=by
 obtain⟨c,e,f,rfl⟩:=okWide_slice qL b;obtain⟨fuel,g⟩:=h;exact NH (v:=.slice c e f) qL (by simpa [nv]using g)
theorem rV{l:jh Cmt}{c:aN}(h:c∈dU a b l):∃g,gB g l c:=by
 rw[uK]at h
 cases hf:ft a b l with
 |none=>rw[hf]at h;cases h
 |some d=>
  rw[hf]at h;obtain⟨k,e⟩:=List.mem_iff_getElem?.1 h;exact⟨_,(QP d (aK a) (Ag hf).1 k c e).1⟩
theorem gB.small(h:gB f e S):S.leads.mem.length<=512/\S.leads.tree.length<=1023:=by
 rw[h.leads];exact oM (iz (rP h))
theorem Oy(a:je)(b:LBy)(l:jh Cmt):(dU a b l).length<=l.length+1:=za l _ _
end
theorem Qj(l:jh Cmt)(P:jh jl)(i:jl):eJ l (P++[i])=eJ l P++(aG (aQ l i)).map v8:=by
 unfold eJ;rw[qA];simp
theorem NC(f:jh CP)(v m:jb)(P:jh jl)(w:jk)(a:cC w v f)(h:∀p∈f,da (aR p.1))(r:bP w)(E:aH (·<w.heap.size) w m 1 P.length (fQ P))(j:∀i∈P,i<f.length)(hn:P.length<=1000)(hl:f.length<=1000):
 jr jn 8 #[v,m] w λe w'=>∃x,e=js (jv #[x,.bool ji])/\aH (λb=>w.heap.size<=b/\b<w'.heap.size) w' x 32 P.length (eJ (f.map (·.1)) P)/\jp w w w':=by
 have y:=O a;have HE:=O h;have HT:=O r;have R:=O j;obtain⟨-,pu,cu,rfl,aa,-,k⟩:=E;have S:=O k;obtain⟨p1,k1,rfl⟩:=a.form;obtain⟨n,c⟩:=J P.length;have U:=O c;obtain⟨z,d⟩:=J f.length;have YN:=O d;rw[<-c]at hn aa S⊢;rw[<-d]at hl y R⊢;obtain⟨l,g⟩:=J (f.map (·.1));have YW:=O g;rw[<-g];clear a h r j k c d g
 go_enter func8,ntmps8
 go_wp2_with fail
 go_loopw [4,5,6,7] (λ_ _ d i wr=>∃(k:jl) (q:Option Addr) (c:jl),i=jf jg k/\k<=n/\d=jj q k c/\jd (wr.ownsRow w RD.e 32 (jj q k c) k (eJ l (P.take k)))/\jd (jp w w wr)) (λ_ _ _ i _=>n-(jD i).toNat)
 case atStart=>exact⟨0,jm,0,N,jV _,N,O (ql _ _ _ _),O (jE _ _)⟩
 obtain⟨k,q,c,rfl,hk,rfl,s,a⟩:=hrel
 by_cases ac:k<n
 case neg=>
  have hd:=aw ((k:je)<(n:je));have UC:=aw (k<n);obtain rfl:k=n:=Y
  go_wp2_with fail
  go_ret2;refine⟨_,N,?_,a⟩;have h:=aH.of_own (D:=λb=>w.heap.size<=b/\b<wr.heap.size) s (λg t=>s.lt g t);rw[qa (by rw[<-U];exact jz _)]at h;exact h
 have hd:=az ((k:je)<(n:je));have UC:=az (k<n);obtain⟨i,F,V⟩:=dL (l:=P) (j:=k) (by rw[<-U];exact ac);obtain⟨gu,ou,rfl,ad,W⟩:=S Y;have ci:wr.cell? ⟨gu,ou+k,jm⟩=jc (jf jg (i:jl)):=aB (W k _ (by unfold fQ;rw[j4,F];rfl)) a;have au:=R i (j6 F);have a1:decide (((i:jl):je)<0)=ju:=decide_eq_false Y;have a2:=aw ((z:je)<=(i:je));have U6:=aw (z<=i);have a3:=az ((i:je)<(z:je));have a4:=az (i<z);obtain⟨⟨b,h⟩,B⟩:∃p,f[i]?=jc p:=⟨_,qU (by rw[<-YN];exact au)⟩;have ax:=y.below a;have H:=j6 B;have K:=O (y.all _ H);have ay:=O (HE _ H);have ZR:jd (aQ l i=b):=O (by unfold aQ;rw[YW];simp[List.getD,B]);obtain⟨g,o,a5,M,t,-,-,X⟩:=y.elem B;injection M with M d e3
 subst M;subst e3;clear d;have UZ:jd (wr.rangeAt g (o+i*73) (aF b h)):=O λj m hj=>aB (X j m hj) a
 have Vh:jd ((aF b h).length=VC.n):=O (dz b h K.plen K.clen);obtain⟨C,Q⟩:=J ((aF b h).toArray);have WS:=O Q;obtain⟨d,r⟩:=J (((aG b).map v8).toArray);have u:=sZ b h wr (K.below a) ay (HT.below a);rw[<-r,<-Q]at u;replace u:=O u;have YD:jd (d.size=32):=O (by rw[r,jG,jB,dS]);have Vf:jd (∀m∈d.toList,m.oneCell'=ji):=O (λm E=>jT.1 (show d.all (·.oneCell')=ji by rw[r];exact eR _) m (ak E));have Yu:jd (eJ l (P.take (k+1))=eJ l (P.take k)++d.toList):=O (by rw[V,Qj,ZR,r]);clear W Q r H B ax X t F V ad
 go_upto_region 7 with fail
 go_wp2_with (first|(refine VC.load aj N N (aF b h) Vh UZ ?_;rw[<-WS];refine L ?_))
 refine u.mono ?_;rintro e x1 ⟨rfl,r⟩;have F:=bj s r;replace a:=ai a r;clear r u s ci UZ;have H:jd (k<=1000000/\w.heap.size<=x1.heap.size+1):=O ⟨by omega,by have:=a.size;omega⟩
 go_upto_region 4 with(first|(refine qd N λ_ r=>RD.wp_build (.tmp 36) N (ja d) N YD (r _ _ ?_);clear r;refine L ?_)|
  (refine qd N λ_ r=>RD.wp_append (.tmp 28) (.tmp 37) N w.heap.size (jj q k c) k (eJ l (P.take k)) N (cL F (ao x1 (jo d RD.e))) x1.heap.size d N (jF _ _) YD Vf H.1 (by rw[j5];exact H.2) ?_;intro v' V B t Q;obtain⟨W,X,rfl⟩:=cK B;refine r _ _ ?_;clear r;refine L ?_;have s:=O B;have u:=O t;clear B t Q))
 have Uq:jd (jp w w V):=O (by
  have r:=a.trans ((ao x1 (jo d RD.e)).mono a.size);exact⟨u.os.trans r.os,u.tape.trans r.tape,u.output.trans r.output,jO r.size u.size,λB Q=>(u.block B (jw Q r.size) λe=>by have:=(F.lt B e.symm).1;omega).trans (r.block B Q)⟩)
 rw[<-Yu]at s
 go_wp2_with fail
 exact⟨⟨k+1,W,X,by go_num,by omega,rfl,s,Uq⟩,by simp only[jD];omega⟩
theorem SF(w:jk)(a B:jt jb)(t1 t2:jA):∃x M,x=(w.alloc (jo a t1)).alloc (jo B t2)/\M=w.heap.size/\x.heap[M]?=jc (jo a t1 (0,0))/\x.heap[M+1]?=jc (jo B t2 (0,0))/\jp w w x:=by
 obtain⟨x1,M,b,c,f,d⟩:=dt w a t1;obtain⟨x2,g,h,i,j,e⟩:=dt x1 B t2;have k:g=M+1:=by rw[i,b,j5,c]
 subst k;exact⟨x2,M,by rw[h,b],c,av f e,j,d.trans (e.mono d.size)⟩
theorem ItG.set{f:jt jb}{c:LBy}{g j m:je}(h:ItG f c g j)(k:c.length=32):ItG (f.setIfInBounds 34 (jf jg m)) c g m:=by
 have l:=h.sz;refine⟨by rw[Array.size_setIfInBounds];exact l,?_,λt d b=>?_,?_,?_⟩
 ·rw[jT]
  intro d b;obtain⟨i,a⟩:=Array.mem_iff_getElem?.1 b
  by_cases e:i=34
  ·subst e
   rw[qZ Y]at a;injection a with a
   rw[<-a];rfl
  rw[qK (Ne.symm e)]at a;exact jT.1 h.one d (Array.mem_of_getElem? a)
 ·have a:t<32:=by have:=(jN.1 b).1;rwa [jB,k]at this
  rw[qK Y];exact h.id t d b
 ·rw[qK Y];exact h.dev
 rw[qZ Y]
theorem LZ(h:gB f e S){i:jl}{d:LBy}(a:S.ix=i)(b:S.id=d):aG (aQ e i)=d:=by
 subst a b;rw[<-h.com];exact h.id.symm
theorem Sc(h:m.map CK.cand=dU a b e):eJ e (m.map λk=>k.ix)=m.flatMap λk=>k.id.map v8:=by
 unfold eJ;rw[List.flatMap_map];have d:∀k∈m,aG (aQ e k.ix)=k.id:=λk d=>by
  obtain⟨g,l⟩:=rV (c:=k.cand) (by rw[<-h];exact qt d);exact LZ l N N
 clear h
 induction m with
 |nil=>rw[qe,qe]
 |cons k m l=>
  rw[ms,ms,d k (List.mem_cons_self ..),l λx f=>d x (List.mem_cons_of_mem _ f)]
def nT(a:LBy)(b:je)(c:CK):Bool:=decide (c.id=a)&&cA c.g.mem b
theorem zp{y:CK}{c:Bool}(h:m.take (x+1)=m.take x++[y])(d:c=(m.take x).any (nT b a)):(m.take (x+1)).any (nT b a)=(c||nT b a y):=by
 rw[h,List.any_append,d];simp
theorem OF(U:je)(H:LBy)(c:H.length=32)(q:jh CP)(vl:jb)(u:jt jb)(D:LBy)(K au bb:je)(w:jk)(hI:ItG u D K au)(h:D.length=32)(a:cC w vl q)(i:q.length<=jL)(j:∀p∈q,uL p.1)(k:gH w):
 jr jn 3 #[ja (cZ U H).toArray,vl,ja u,jf jg bb] w λe w'=>e=js (.bool ji)/\jp w w w':=by
 obtain⟨P,Q,rfl⟩:=a.form;obtain⟨R,g⟩:=J q.length;rw[<-g]at a⊢;obtain⟨B,b⟩:=J ((cZ U H).toArray);have Y9:jd (B.size=VF.n):=O (by rw[b,jG];unfold cZ;rw[qC,jB,c];rfl);have bc:=O b;rw[<-b];have S:=O hI;have WL:=O (And.intro g (And.intro i (And.intro c h)));have a2:=O j;obtain⟨x1,M,X,m,n,o,d⟩:=SF w B u VF.t VIt.t;have f:jd (SSt w [(M,B,VF.t),(M+1,u,VIt.t)] [] [] x1):=O ⟨λe he=>by
  simp only[jR,j7,or_false]at he
  rcases he with rfl|rfl
  ·exact n
  exact o,λp C=>(by cases C),λp C=>(by cases C),k.below d,d⟩
 have r:=O (a.below d);have s:=O X;have t:=O m;clear b hI j X m n o d a k c h i g
 go_enter func3,ntmps3
 go_upto_region 1 with fail
 rw[show(w.alloc (jo B 25)).alloc (jo u 34)=x1 from s.symm]
 try simp only[j5]
 rw[<-t];clear s t
 go_wp2_with fail
 refine(JG x1 f.tab).mono ?_;rintro e x2 ⟨rfl,d⟩;replace f:=O (f.below d);replace r:=O (r.below d);clear d
 go_upto_region 3 with fail
 have aa:jd (∀W,cC W (jj P R Q) q->jr jn 5 #[jj P R Q] W λe w'=>(∃y,e=js (.bool y)/\(y=ji->q.length<=7/\∀p∈q,tk p.1))/\jp W W w'):=O (λW h=>Rc q _ W h (λp C=>⟨(a2 p C).nbox,(a2 p C).nwel⟩) WL.2.1)
 go_wp2_with fail
 refine(aa x2 r).mono ?_;rintro e x3 ⟨⟨y1,rfl,a⟩,d⟩;replace f:=O (f.below d);replace r:=O (r.below d);clear d aa
 rcases y1 with _|_
 ·clear a
  go_wp2_with fail
  go_ret;exact⟨N,f.bel⟩
 have aa:=O (a N);clear a;have a3:jd (∀p∈q,da (aR p.1)):=O (λp C=>(Og (aa.2 p C) (a2 p C).ints (r.all p C).plen (r.all p C).clen).encOk);have ax:jd (q.length<=1000/\∀p∈q,p.1.chg.length<=1000000):=O ⟨by have:=aa.1;omega,λp C=>jO (aa.2 p C).nchg G⟩;have bd:jd (∀W (a:jt jb) (m:je),ItG a D K m->cC W (jj P R Q) q->bP W->jr jn 6 #[ja B,jj P R Q,ja a] W λe w'=>e=js (.bool (dx D K m ju (dU U H (q.map (·.1)))))/\jp W W w'):=O (λW a m hI h F=>by
  rw[bc];exact yO q _ U H WL.2.2.1 a D K m WL.2.2.2 hI.id hI.dev hI.ctr W h a3 F ax.1 ax.2 (λk s=>by
   obtain⟨g,E⟩:=rV s;exact jO E.small.1 G))
 have a:jd (∀W,cC W (jj P R Q) q->bP W->jr jn 6 #[ja B,jj P R Q,ja u] W λe w'=>e=js (.bool (dx D K au ju (dU U H (q.map (·.1)))))/\jp W W w'):=O (λW h F=>bd W u au S h F);obtain⟨bp,b⟩:=J (dx D K au ju (dU U H (q.map (·.1))));rw[<-b]at a;have bf:=O b;clear b
 go_wp2_with (first|(refine VF.loadA aj N N B Y9 (f.blk (M,B,VF.t) ar) (L ?_))|(refine VIt.loadA aj N N u S.sz (f.blk (M+1,u,VIt.t) ar) (L ?_)))
 refine(a x3 r f.tab.s.dig).mono ?_;rintro e x4 ⟨rfl,d⟩;replace f:=O (f.below d);replace r:=O (r.below d);clear d a
 rcases bp with _|_
 ·go_wp2_with fail
  go_ret;exact⟨N,f.bel⟩
 go_upto_region 5 with fail
 have o:jd (∀W,cC W (jj P R Q) q->bP W->jr jn 7 #[ja B,jj P R Q] W λe w'=>∃(u1 u2:jb) (Ks:jh CK),e=js (jv #[u1,u2])/\Ks.map CK.cand=dU U H (q.map (·.1))/\aH (λb=>W.heap.size<=b/\b<w'.heap.size) w' u1 1 Ks.length (Ks.map λk=>jy .i64 k.ix)/\
  aH (λb=>W.heap.size<=b/\b<w'.heap.size) w' u2 36 Ks.length (Ks.flatMap λk=>aD k.g k.vm k.vt)/\(∀k∈Ks,KD (λb=>b<w'.heap.size) q w' k)/\jp W W w'):=O (λW h F=>by
   rw[bc];exact yE q _ U H WL.2.2.1 W h a3 F ax.1 ax.2)
 go_wp2_with (first|(refine VF.loadA aj N N B Y9 (f.blk (M,B,VF.t) ar) (L ?_)))
 refine(o x4 r f.tab.s.dig).mono ?_;rintro e x5 ⟨u1,u2,Ks,rfl,h1,h2,i,t,d⟩;replace f:=O (f.below d);replace r:=O (r.below d);obtain⟨n,j⟩:=J Ks.length;have bu:n<=8:=by
  have a:=jH n0 h1;have b:=Oy U H (q.map (·.1));have c:=aa.1;rw[jB]at a b;omega
 obtain⟨pa,ka,rfl⟩:=h2.form;obtain⟨pg,kg,rfl⟩:=i.form;have h2:aH (·<x5.heap.size) x5 (jj pa Ks.length ka) 1 (Ks.map λk=>k.ix).length (fQ (Ks.map λk=>k.ix)):=by
  unfold fQ;rw[qE,jB];exact h2.mono λb V=>V.2
 rw[<-j]at h2 i⊢;have HN:=O j;have ZC:=O h1;have v:=O h2;have Yp:jd (aH (·<x5.heap.size) x5 (jj pg n kg) 36 n (Ks.flatMap λk=>aD k.g k.vm k.vt)):=O (i.mono λb V=>V.2);have ay:jd (∀k∈Ks,bW x5 k.g k.vm k.vt):=O λk s=>(t k s).grp.grp
 clear d o h1 h2 i t j
 go_upto_region 6 with fail
 have j:jd (∀W,cC W (jj P R Q) q->bP W->aH (·<W.heap.size) W (jj pa n ka) 1 (Ks.map λk=>k.ix).length (fQ (Ks.map λk=>k.ix))->jr jn 8 #[jj P R Q,jj pa n ka] W λe w'=>∃x,e=js (jv #[x,.bool ji])/\aH (λb=>W.heap.size<=b/\b<w'.heap.size) w' x 32 n (Ks.flatMap λk=>k.id.map v8)/\jp W W w'):=O (λW h F o=>by
  have a:(Ks.map λk=>k.ix).length=n:=by rw[jB];exact HN.symm
  refine(NC q _ _ (Ks.map λk=>k.ix) W h a3 F o (λi t=>?_) (by rw[a];omega) ax.1).mono ?_
  ·obtain⟨k,s,rfl⟩:=List.mem_map.1 t
   obtain⟨g,E⟩:=rV (c:=k.cand) (by rw[<-ZC];exact qt s);have:=E.lt
   rwa [jB]at this
  rintro e w' ⟨x,e1,e2,e3⟩;rw[a,Sc ZC]at e2;exact⟨x,e1,e2,e3⟩)
 go_wp2_with fail
 refine(j x5 r f.tab.s.dig v).mono ?_;rintro e x ⟨u3,rfl,a,d⟩;replace f:=O (f.below d);replace r:=O (r.below d);obtain⟨pd,kd,rfl⟩:=a.form;have bg:jd (aH (·<x.heap.size) x (jj pd n kd) 32 n (Ks.flatMap λk=>k.id.map v8)):=O (a.mono λb V=>V.2);replace Yp:=O ((Yp.keep λk s=>d.block k s).mono λk (s:k<x5.heap.size)=>jw s d.size);replace ay:jd (∀k∈Ks,bW x k.g k.vm k.vt):=O λk s=>(ay k s).below d
 clear d j v a
 go_upto_region 9 with fail
 go_wp2_with fail
 go_loopw [13,14] (λa j wr=>∃(k:jl) (b:Bool),j=jf jg k/\k<=n/\a=.bool b/\jd (b=(Ks.take k).any (nT D K))/\jd (jp x x wr)) (λ_ i _=>n-(jD i).toNat)
 case atStart=>exact⟨0,ju,N,jV _,N,O N,O (jE _ _)⟩
 obtain⟨k,b,rfl,s,rfl,HE,HB⟩:=hrel
 by_cases bq:k<n
 ·have hd:=az ((k:je)<(n:je))
  have UC:=az (k<n);obtain⟨y,hy,U0⟩:=dL (l:=Ks) (j:=k) (by rw[<-HN];exact bq);obtain⟨a,v,W⟩:∃a,a=wr.drew/\jd (jp x x a):=⟨_,N,O (HB.trans ⟨N,N,N,jz _,λ_ _=>rfl⟩)⟩;have t:=j6 hy;have bh:aH (·<a.heap.size) a (jj pd n kd) 32 n (Ks.flatMap λk=>k.id.map v8):=(bg.keep λk s=>W.block k s).mono λk (s:k<x.heap.size)=>jw s W.size
  have bi:aH (·<a.heap.size) a (jj pg n kg) 36 n (Ks.flatMap λk=>aD k.g k.vm k.vt):=(Yp.keep λk s=>W.block k s).mono λk (s:k<x.heap.size)=>jw s W.size
  have a1:∀c∈Ks,c.id.length=32:=λc E=>by
   obtain⟨g',z⟩:=rV (c:=c.cand) (by rw[<-ZC];exact qt E);have h:=z.id;exact(jH n0 h).trans (dS _)
  obtain⟨g,o,c',hq,-,-,-,ac⟩:=bh.rowM HN (λc E=>by rw[jB];exact a1 c E) hy;injection hq with e1 e2 e3
  subst e1;subst e3;obtain⟨g2,o2,bv,br,-,-,-,bk⟩:=bi.rowM HN (λc E=>eX (ay c E).llen) hy;injection br with e4 e5 e6
  subst e4;subst e6;have bl:=O ((ay y t).below W);have bs:jd (y.g.mem.length<=jL):=O (by
   obtain⟨g',z⟩:=rV (c:=y.cand) (by rw[<-ZC];exact qt t);exact jO z.small.1 G)
  have Vf:=O U0;have a4:=a1 y t;obtain⟨bm,a5⟩:=J ((y.id.map v8).toArray);obtain⟨TI,a6⟩:=J ((D.map v8).toArray);obtain⟨GA,bn⟩:=J ((aD y.g y.vm y.vt).toArray);obtain⟨eb,ba⟩:=J (decide (y.id=D));have bo:jd (∀z,(Op.equalIn 10000 23 (ja bm) (ja TI)).run jn z=.ok eb z):=O (λz=>by rw[a5,a6,ba];exact nQ _ _ a4 WL.2.2.2 z);have YW:jd ((y.id.map v8).length=VD.n/\(D.map v8).length=VD.n/\(aD y.g y.vm y.vt).length=VG.n):=O ⟨by rw[jB];exact a4,by rw[jB];exact WL.2.2.2,eX bl.llen⟩;have z:=O (And.intro a5 (And.intro a6 (And.intro bn ba)));have ad:jd (a.rangeAt g (o+k*32) (y.id.map v8)/\a.rangeAt g2 (o2+k*36) (aD y.g y.vm y.vt)/\a.heap[M+1]?=jc (jo u VIt.t (0,0))):=O ⟨ac,bk,(f.below W).blk (M+1,u,VIt.t) ar⟩;clear hy U0 bh bi e2 e5 ac bk a5 a6 bn ba a1 a4 t
  go_upto_region 13 with fail
  refine o1 ?_;refine dm (λt=>t.rangeAt g (o+k*32) (y.id.map v8)/\t.rangeAt g2 (o2+k*36) (aD y.g y.vm y.vt)/\t.heap[M+1]?=jc (jo u VIt.t (0,0))) (.take 0 (.take 1 (.take 2 (.take 3 (.take 4 (.take 5 (.take 6 (.take 7 (.take 8 (.take 9 (.take 10 (.take 11 (.take 12 (.take 13 (.take 14 (.take 15 (.one 16 (.take 17 (.take 18 (.take 19 .done)))))))))))))))))))) af af af G (λ_ _ _ _ h=>h) (by rw[<-v];exact ad) ?_;rw[<-v];clear v;iterate 2 refine aP ?_
  cases b with
  |true=>
   repeat (first|refine il ?_|refine aP ?_|(refine Dw N aj ad (L ?_)))
   refine ob ?_
   go_wp2_with fail
   exact⟨⟨k+1,ji,by go_num,by omega,rfl,O (by rw[zp Vf HE];rfl),W⟩,by simp only[jD];omega⟩
  |false=>
   iterate 3 refine aP ?_
   (refine aV (v:=ja bm) N aj (λt h=>by rw[z.1];exact fx _ _ VD.t _ N _ _ N _ VD.d h.1 VD.hu VD.hd (by rw[YW.1];exact VD.hi)) ?_;refine L ?_)
   refine aP ?_
   (refine aV (v:=ja TI) N aj (λt h=>by rw[z.2.1];exact fx _ _ VD.t _ N _ _ N _ VD.d (λj v hj=>ah h.2.2 (S.id j v hj)) VD.hu VD.hd (by rw[YW.2.1];exact VD.hi)) ?_;refine L ?_)
   have a1:=bo.out;refine fG ?_;clear a1 bo;refine aP ?_
   rcases eb with _|_
   ·repeat (first|refine il ?_|refine aP ?_|(refine Dw N aj ad (L ?_)))
    refine ob ?_
    go_wp2_with fail
    exact⟨⟨k+1,ju,by go_num,by omega,rfl,O (by rw[zp Vf HE];unfold nT;rw[<-z.2.2.2];rfl),W⟩,by simp only[jD];omega⟩
   iterate 3 refine aP ?_
   (refine aV (v:=ja GA) N aj (λt h=>by rw[z.2.2.1];exact fx _ _ VG.t _ N _ _ N _ VG.d h.2.1 VG.hu VG.hd (by rw[YW.2.2];exact VG.hi)) ?_;refine L ?_)
   refine aP ?_
   (refine aV (v:=?_) N aj (λt h=>?_) ?_;rotate_left;(have t:=ah h.2.2 S.dev;clear h;go_simp;with_reducible rfl);refine L ?_)
   have a1:=O (Ld y.g y.vm y.vt K a bl bs);rw[<-z.2.2.1]at a1;obtain⟨h,t⟩:=J (cA y.g.mem K);rw[<-t]at a1;have a5:=O t;clear t;refine aE N (λt hK=>?_);go_simp;refine a1.mono ?_;rintro e w2 ⟨rfl,d⟩;have Ug:=ai W d;refine hK _ _ ⟨λt a4 F=>aB (ad.1 t a4 F) d,λt a4 F=>aB (ad.2.1 t a4 F) d,av ad.2.2 d⟩ λ_=>?_
   clear hK d a1;refine L ?_;iterate 3 refine aP ?_
   refine ob ?_
   go_wp2_with fail
   exact⟨⟨k+1,h,by go_num,by omega,rfl,O (by rw[zp Vf HE];unfold nT;rw[<-z.2.2.2,<-a5];cases h<;>rfl),Ug⟩,by simp only[jD];omega⟩
 have hd:=aw ((k:je)<(n:je));have UC:=aw (k<n);obtain rfl:k=n:=Y;have z:b=ji:=by
  rw[HE,qa (by rw[<-HN];exact jz _),qO];obtain⟨c,E,h1,h2⟩:=Ip _ bf.symm;rw[<-ZC]at E;obtain⟨y,hy,rfl⟩:=List.mem_map.1 E;exact⟨y,hy,by unfold nT;rw[Bool.and_eq_true,decide_eq_true_eq];exact⟨h1,h2⟩⟩
 subst z;have d:=HB.out;replace f:=O (f.below d);replace r:=O (r.below d);clear d HE ZC HN bg Yp ay
 go_upto_region 14 with fail
 go_upto_region 15 with(first|(refine VIt.loadA aj N N u S.sz (f.blk (M+1,u,VIt.t) ar) (L ?_))|(refine VIt.made N N (L ?_))|(refine VIt.first N N N u N S.sz S.one (L ?_)))
 obtain⟨E,a,X,V,c,d⟩:=dt wr u VIt.t;rw[<-X,<-V];have v:wr.heap.size<=a:=qn V.symm;clear X V;have g:=ah (i:=34) c S.ctr;have j:=fR (o:=34) c;have t:=aB (ah (i:=34) (f.blk (M+1,u,VIt.t) ar) S.ctr) d
 go_upto_region 16 with fail
 clear g j t;obtain⟨m,h⟩:=J (min au bb);rw[<-h];obtain⟨g,j⟩:=J (u.setIfInBounds 34 (jf jg m));have ac:=fa (i:=34) (jf jg m) c;rw[<-j]at ac;replace d:=qW d (p:=⟨a,34,jm⟩) v (jf jg m);obtain⟨F,X⟩:=J (E.setCell ⟨a,34,jm⟩ (jf jg m));rw[<-X]at d ac⊢;replace f:=O (f.below d);replace r:=O (r.below d);replace f:=O (f.block ac);have y:jd (ItG g D K m):=O (by rw[j];exact S.set WL.2.2.2);have t:=O (bd F g m y r f.tab.s.dig);rw[vP (ctr':=m) (by rw[h];exact Int.min_le_left _ _) _ _ bf.symm]at t;clear X d ac v c j h
 go_wp2_with (first|(refine VF.loadA aj N N B Y9 (f.blk (M,B,VF.t) ar) (L ?_))|(refine VIt.loadA aj N N g y.sz (f.blk (a,g,VIt.t) ar) (L ?_)))
 refine t.mono ?_;rintro e c ⟨rfl,d⟩;replace f:=O (f.below d);replace r:=O (r.below d);clear d t
 go_wp2_with fail
 go_ret;exact⟨N,f.bel⟩
section
open Go.RowKit Go.ChangeShapes Go.WideShapes Go.Deep
theorem items_w{enc:jA×jb->H}(b:jb)(g:jJ H)(h:jh lw)(i:DataW.Trod enc jn w 0 (λ_=>ji) ji 25 b g h)(j:oj jn w .any x 25 b)
 (a:jb) (k:jJ H) (l:jh lw) (m:DataW.Trod enc jn w 0 (λ_=>ji) ji 26 a k l) (n:oj jn w .any x 26 a)
 (c:jb) (o:jJ H) (p:jh lw) (q:DataW.Trod enc jn w 0 (λ_=>ji) ji 34 c o p) (r:oj jn w .any x 34 c) (d:je) (F:(Lit.int .i64 d).wf=ji) (s:laidMetH jn sU w):
 jr jn 3 #[b,a,c,.int .i64 d] w λe t=>e=.returned (.bool ji)/\jp w w t:=by
 obtain⟨u,v,rfl,W⟩:=QM i j;obtain⟨y,z,B,C⟩:=Kp m n;obtain⟨base,body,rfl,f,D,E,-,-⟩:=PY q r;exact OF u v W y a _ base.id base.dev base.ctr d w (base.good body f D E) f z B C (KX s)
end

end Go.Proofs.YthonckffmkefdaaGreatDoor
