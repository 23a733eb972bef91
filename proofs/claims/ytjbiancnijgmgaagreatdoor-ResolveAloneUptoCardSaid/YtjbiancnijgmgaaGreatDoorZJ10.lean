/- Contracts of functions that the law reaches, part 10 of 10; no condition. -/
import Derived.Test.YtjbiancnijgmgaaGreatDoorZJ9
namespace Go.Proofs.YtjbiancnijgmgaaGreatDoor
set_option maxHeartbeats 64000000
set_option maxRecDepth 100000
set_option linter.unusedVariables false
set_option linter.unusedSimpArgs false
set_option linter.unusedSectionVars false
open Go.RowKit
open Go.Proofs.Tryz
open Go renaming undef->I,Value->jd,World->jj,Calls->jr,TypeId->jC,wpOp_step->jH,Oper->jO,setRow_other->jP,maxLen->jU,wp_store_row->jV,wp_region_noPanic->jW,execOp->j3,setRow_heap->j4,DataW->j5,Ending->mz,below_setRow->o1,MemPlace->o3,Operand->qc,run_underlying->qD,wpList_plain->qE
open _root_ renaming rfl->N,Int->je,List->jk,Nat->jo,absurd->jq,Array->jt,if_pos->jz,congrArg->jJ,decide_eq_true->ow
open Go.Value renaming agg->ja,slice->ji,tuple->jw
open _root_.Option renaming some->jb,none->jn,some->qo
open Go.RowKit renaming Hid->jc,Below->jm
open Go.Value renaming int->jf
open Go.IntKind renaming i64->jg
open _root_.Bool renaming true->jh,false->jv
open Go.Obj renaming cells->jl
open Go.Proofs.Tryz renaming prog->jp
open Go.Ending renaming returned->js
open _root_.Nat renaming lt_of_lt_of_le->ju,le_refl->jA,le_trans->jN,zero_le->jS,zero_add->pz,lt_irrefl->qd,add_mul->qf,le_of_eq->qx
open Go.Value renaming int->jy,cells->j8,agg->ob,okWide->qa,ownBlock->qw,tuple->qy,oneCell'->qJ
open _root_.List renaming length_map->jB,size_toArray->jE,map_nil->jK,mem_append->jL,mem_singleton->jM,length_append->jQ,mem_cons->jR,getElem?_eq_some_iff->jT,map_cons->jY,mem_of_getElem?->jZ,getElem?_append_right->j0,length_singleton->j1,getElem?_toArray->j7,mem_nil_iff->j9,map_map->ms,getElem?_map->nn,length->n0,flatMap_cons->o5,append_nil->o8,getElem?_append_left->p6,mem_map->qb,take_of_length_le->qe,length_take->qg,map_toArray->qh,length_cons->qi,toList_toArray->qj,flatMap_nil->ql,take_length->qn,append_assoc->qs,map_append->qt,flatMap_append->qu,mem_toArray->qz,mem_append_left->qB,range->qC,getElem?_take->qG,take_append_of_le_length->qI,mem_flatMap->qK,set_append_right->qL,mem_append_right->qN
open Go.RowKit.Below renaming refl->jD
open Go.World renaming alloc_heap_new->jF,size_alloc->nv,ownsRow_nil->qv
open Go.Proofs renaming intOf->jG
open _root_.Array renaming getElem?_eq_some_iff->jI,all_eq_true_iff_forall_mem->jX,length_toList->j6,getElem?_setIfInBounds_ne->qA,getElem?_toList->qH,getElem?_setIfInBounds_self_of_lt->qM
open Go.NoPanic renaming normal->oj
open Go.Proofs.Tryz renaming underlying26->qk,underlying25->qF
variable{f:Grp}{b:LBy}{H:Type}{u:jd}{a:je}{w:jj}{m:jk CK}{h:jk ap}{p:jk o3}{x:jo}
section
set_option maxRecDepth 1000000
theorem wU{x:jo}{j seed:LBy}{d:jk Bx}{e:jk Wl}(g:(eo (aX f.tree h) a).map (eD f a h b seed)=d)(c:(dt a h).map (fD f a h b j seed)=e):
 mkC f a x h b j seed=mkF f a x h b j d e:=by
 rw[<-Nz];unfold mkC mk2 mk1 mkX pM vD;rw[g,c]
theorem Ln:aY 4 3=64:=by rw[nz];decide+kernel
theorem IT:aY 4 2=16:=by rw[nz];decide+kernel
theorem TT:cR 1=⟨1,1,64,64,0⟩:=by
 have h:((aY 4 (1+2):jo):je)=64:=by rw[show 1+2=3 from N,Ln];rfl
 unfold cR;rw[h];rfl
theorem Bt:cR 0=⟨1,0,16,16,0⟩:=by
 have h:((aY 4 (0+2):jo):je)=16:=by rw[show 0+2=2 from N,IT];rfl
 unfold cR;rw[h];rfl
theorem Ps{g':Grp}{j:LBy}{p:je×je}(d:f.folder=g'.folder)(g:f.epoch=g'.epoch)(c:f.last=g'.last):pA f a h b j p x=pA g' a h b j p x:=by
 have e:iY f a h b=iY g' a h b:=by unfold iY;rw[d,g,c]
 unfold pA;rw[e]
theorem Jl{g':Grp}{j seed:LBy}{y:ap}(g:f.folder=g'.folder)(d:f.epoch=g'.epoch)(c:f.last=g'.last):oY f a h b j seed y=oY g' a h b j seed y:=by
 have e:iY f a h b=iY g' a h b:=by unfold iY;rw[g,d,c]
 have i:dK f b j=dK g' b j:=by unfold dK;rw[d]
 unfold oY;rw[e,i]
theorem Hc(g:Grp)(c:Cmt):(aC g c).folder=g.folder:=by unfold aC;dsimp only
theorem tD:bF=cq1:=by
 have h:bF=mkF (aJ 3) 1 3 [cR 1] (kz 1) (kz 1) [] []:=wU (by rw[wT.1];rfl) (by rw[wJ.1];rfl);rw[h,uK (g:=aJ 3) (g':=gq1) N N N,TT,cm1]
theorem lG:gS1.folder=gq2.folder/\gS1.epoch=gq2.epoch/\gS1.last=gq2.last:=by
 have a:gS1.last=aG bF:=AK _ _;refine⟨Hc _ _,mc.2.2,?_⟩;rw[a,tD,id1];rfl
theorem tt:bS=cq2:=by
 obtain⟨e,a⟩:=Bf;have b:tI (aX gS1.tree [cR 0]) (512:je)=16:=by
  rw[a,IT];rfl
 have c:(eo (aX gS1.tree [cR 0]) 1).map (eD gS1 1 [cR 0] (kz 2) (kz 2))=bx2:=by
  rw[wT.2.1,jY,jK,Mp (x:=(1,512)) b,KG,Ps lG.1 lG.2.1 lG.2.2,Bt,NS];rfl
 have d:(dt 1 [cR 0]).map (fD gS1 1 [cR 0] (kz 2) (kz 1) (kz 2))=wl2:=by
  rw[wJ.2.1,jY,jK,TM,Jl lG.1 lG.2.1 lG.2.2,Bt,JE];rfl
 have h:bS=mkF gS1 1 3 [cR 0] (kz 2) (kz 1) bx2 wl2:=wU c d;rw[h,uK lG.1 lG.2.1 lG.2.2,Bt,cm2]
theorem pT:cX.folder=gq3.folder/\cX.epoch=gq3.epoch/\cX.last=gq3.last:=by
 have a:cX.last=aG bS:=AK _ _;refine⟨(Hc _ _).trans lG.1,fy.2.2,?_⟩;rw[a,tt,id2];rfl
theorem uh:cS3=cq3:=by
 have h:cS3=mkF cX 0 2 [dI 1 5] (kz 3) (kz 1) [] []:=wU (by rw[wT.2.2.1];rfl) (by rw[wJ.2.2.1];rfl);rw[h,uK pT.1 pT.2.1 pT.2.2,show dI 1 5=⟨2,1,0,0,5⟩from N,cm3]
theorem ui:cM=cq4:=by
 have h:cM=mkF cX 1 3 [dI 0 5] (kz 4) (kz 1) [] []:=wU (by rw[wT.2.2.2];rfl) (by rw[wJ.2.2.2];rfl);rw[h,uK (g':=gq4) pT.1 pT.2.1 pT.2.2,show dI 0 5=⟨2,0,0,0,5⟩from N,cm4]
theorem oP:dW 3 cS3 bS cM bF:=
 Jm (by rw[uh,tt,id3,id2];decide+kernel) (by rw[uh,ui,id3,id4];decide+kernel) (by rw[uh,tD,id3,id1];decide+kernel)
  (by rw[tt,ui,id2,id4];decide+kernel) (by rw[tt,tD,id2,id1];decide+kernel) (by rw[ui,tD,id4,id1];decide+kernel)
end
section
set_option maxRecDepth 1000000
instance(x:je):Decidable (IR x):=by unfold IR;infer_instance
theorem KV:fK cq1:=by refine⟨?_,?_,?_,?_,?_,?_,?_⟩<;>decide+kernel
theorem RJ:fK cq2:=by refine⟨?_,?_,?_,?_,?_,?_,?_⟩<;>decide+kernel
theorem Ka:fK cq3:=by refine⟨?_,?_,?_,?_,?_,?_,?_⟩<;>decide+kernel
theorem Mu:fK cq4:=by refine⟨?_,?_,?_,?_,?_,?_,?_⟩<;>decide+kernel
theorem lE:cY (aR bF)/\cY (aR bS)/\cY (aR cS3)/\cY (aR cM):=
 ⟨by rw[tD];exact KV.encOk,by rw[tt];exact RJ.encOk,by rw[uh];exact Ka.encOk,by rw[ui];exact Mu.encOk⟩
theorem Pi{g:Grp}{vm vt:jd}{d:jo}(j:d<512)(b:BitVec 8){a:jd}{x:ap}{W:jj}(l:bU W g vm vt)(n:aH (·<W.heap.size) W a 5 1 x.cells)(o:gI W)(p:gY g (d:je) ((d+2:jo):je) [x]=0)
 (c:Cmt) (r:c=mkC g (d:je) (d+2) [x] (kz b) (kz 1) (kz b)) (f:gQ g c) (s:cY (aR c)):
 jr jp 11 #[ja (aD g vm vt).toArray,jf jg (d:je),v8 b,a] W λe w'=>∃q h i,e=js (jw #[ja (aF c q).toArray,ja (aD (aC g c) h i).toArray,.bool jh])/\
  aS (λk=>W.heap.size<=k/\k<w'.heap.size) w' c q/\dN (λk=>W.heap.size<=k/\k<w'.heap.size) w' (aC g c) h i/\jm W W w':=by
 have B:=oU f.val;refine(RU g vm vt d j b a [x] W l (by rw[o5,ql,o8];exact n) o p c r (iR.2 f) s Y Y ar).mono ?_;rintro e w' ⟨q,m,t,k,u,v,w,y,z⟩;exact⟨q,m,t,k,u,dN.of v w y,z⟩
structure SSt(w:jj)(BL:jk (jo×jt jd×jC))(CL:jk CP)(GL:jk (Grp×jd×jd))(x:jj):Prop where
 blk:∀e∈BL,x.heap[e.1]?=jb (jl e.2.1 e.2.2 (0,0))
 com:∀p∈CL,aS (·<x.heap.size) x p.1 p.2
 grp:∀p∈GL,bU x p.1 p.2.1 p.2.2
 tab:gI x
 bel:jm w w x
section
variable {w x x':jj} {BL:jk (jo×jt jd×jC)} {CL:jk CP} {GL:jk (Grp×jd×jd)}
theorem SSt.below(h:SSt w BL CL GL x)(a:jm x x x'):SSt w BL CL GL x':=
 ⟨λe he=>av (h.blk e he) a,λp b=>(h.com p b).below a,λp b=>(h.grp p b).below a,h.tab.below a,h.bel.trans (a.mono h.bel.size)⟩
theorem SSt.block(h:SSt w BL CL GL x){b:jo}{a:jt jd}{t:jC}(c:x.heap[b]?=jb (jl a t (0,0))):SSt w ((b,a,t)::BL) CL GL x:=
 ⟨λe he=>(jR.1 he).elim (λd=>d▸c) (h.blk e),h.com,h.grp,h.tab,h.bel⟩
theorem SSt.made(h:SSt w BL CL GL x){c:Cmt}{q:CQ}{g:Grp}{vm vt:jd}{D:jo->Prop}(d:aS D x c q)(e:∀k,D k->k<x.heap.size)(f:bU x g vm vt):SSt w BL ((c,q)::CL) ((g,vm,vt)::GL) x:=
 ⟨h.blk,λp a=>(jR.1 a).elim (λb=>b▸d.mono e) (h.com p),λp a=>(jR.1 a).elim (λb=>b▸f) (h.grp p),h.tab,h.bel⟩
theorem SSt.start(a:gI w):SSt w [] [] [] w:=⟨λe h=>(by cases h),λe h=>(by cases h),λe h=>(by cases h),a,jD _ _⟩
end
theorem uS{W:jj}{g k:jo}{a:jt jd}{e:jC}(h:W.heap[g]?=jb (jl a e (0,0)))(b:a.size=k):aH (·<W.heap.size) W (ji (jb ⟨g,0,jn⟩) 1 1) k 1 a.toList:=by
 refine⟨by rw[j6,b,Nat.one_mul],_,1,N,jA _,(λe=>by cases e),λ_=>⟨g,0,N,(jI.1 h).1,λj u c=>?_⟩⟩;rw[pz];exact ai h (ak c)
noncomputable def RCg:dQ jp:=.of 27 56 5 40 (ja #[jf jg 0,jf jg 0,jf jg 0,jf jg 0,jf jg 0]) underlying27 af N G G G
def vN:jd:=ji jn 0 0
def AG3:jt jd:=(aD (aJ 3) vN vN).toArray
theorem Jd{a:Act}{o:jO}(b:o.op=.build 45 #[(0,.const (jf jg 3))])(W:jj):
 (j3 a.eval o).run jp W=.ok (.value (ja AG3)) W:=by
 simp only[j3,b]
 kernel_rfl
theorem S9(w:jj)(f:je):bU w (aJ f) vN vN:=
 ⟨⟨rfl,jn,0,rfl,jA _,λ_=>rfl,λh=>jq h (qd _)⟩,oM w,rfl⟩
end
theorem sW(p:Option Addr)(n c:jo)(w:jj):jr jp 55 #[ji p n c] w λe w'=>e=js (.bool (decide (n<=10)))/\jm w w w':=by
 by_cases h:n<=10
 ·have b:=aA ((n:je)<=10)
  have a:=O (ow h)
  go_enter func55,ntmps55
  go_wp2_with fail
  go_ret;exact⟨by rw[a];rfl,jD _ _⟩
 have b:=az ((n:je)<=10);have a:=O (decide_eq_false h)
 go_enter func55,ntmps55
 go_wp2_with fail
 go_ret;exact⟨by rw[a];rfl,jD _ _⟩
theorem Np(c:Cmt)(q:CQ)(w:jj)(a:aS (·<w.heap.size) w c q)(l3:c.box.length<=jU)(l4:c.wel.length<=jU):
 jr jp 19 #[ja (aF c q).toArray] w λe w'=>(∃b,e=js (.bool b)/\(b=jh->rq c))/\jm w w w':=by
 have B:=dV.new w (q:=q) a.plen a.clen;have g:=ao w (jl (aF c q).toArray 34);obtain⟨D,E,C⟩:=a.chg.form;obtain⟨pp,cp,K⟩:=a.path.form;obtain⟨pb,cb,i⟩:∃p F,q.vb=ji p c.box.length F:=by obtain⟨us,h,-⟩:=a.box;exact h.form
 obtain⟨pw,cw,k⟩:∃p F,q.vw=ji p c.wel.length F:=by obtain⟨us,h,-⟩:=a.wel;exact h.form
 obtain⟨-,-,-,H,d,f,n,-,-⟩:=B.at;rw[C]at H;rw[K]at d;rw[i]at f;rw[k]at n;have YX:=O a.box;have Yl:=O a.wel;have a2:=O i;have a3:=O k;obtain⟨v,m⟩:=J c.chg.length;obtain⟨np,o⟩:=J c.path.length;obtain⟨r,u⟩:=J c.box.length;obtain⟨s,x⟩:=J c.wel.length;rw[<-m]at H;rw[<-o]at d;rw[<-u]at f l3 a2;rw[<-x]at n l4 a3;replace l3:r<=9223372036854775807:=l3;replace l4:s<=9223372036854775807:=l4;have a4:=O m;have a5:=O o;have Z8:=O u;have YK:=O x;obtain⟨b,y⟩:=J w.heap.size;obtain⟨a6,M⟩:=J ((aF c q).toArray);rw[<-M]at g H d f n⊢;rw[<-y]at H d f n;obtain⟨X,z⟩:=J (w.alloc (jl a6 34));rw[<-z]at g H d f n;have P:=O z;have Q:=O y;have t:=O g;clear B g a C K i k m o u x y M z
 go_enter func19,ntmps19
 go_upto_region 1 with fail
 rw[<-P,<-Q];clear P Q
 go_wp2_with fail
 go_loopw [3] (λi wr=>∃k:jo,i=jf jg k/\k<=r/\jc (∀x∈c.box.take k,x.body.length<=200)/\wr=X) (λi _=>r-(jG i).toNat)
 case atStart=>exact⟨0,N,jS _,O ar,N⟩
 obtain⟨k,rfl,hk,a,K⟩:=hrel;rw[K];clear K
 by_cases aa:k<r
 case pos=>
  have ad:=aA ((k:je)<(r:je));have au:=aA (k<r);obtain⟨x,z,M⟩:=dL (l:=c.box) (j:=k) (by rw[<-Z8];exact aa);obtain⟨us,P,Q⟩:=YX.out;obtain⟨u,R,S⟩:=Q.at (i:=k) (b:=x.body) (by rw[nn,z];rfl);obtain⟨g,o,F,U,B⟩:=oK P (λ_ _=>rfl) z R;rw[a2]at U;injection U with e1 e2 e3
  subst e1;subst e3;obtain⟨px,cx,rfl⟩:=S.form;have Za:=O M;obtain⟨m,C⟩:=J x.body.length;rw[<-C]at B;have d3:X.cell? ⟨g,o+k*4+3,jn⟩=jb (ji px m cx):=aB (B 3 _ N) t;have HM:=O C;clear B P Q R S z M e2 C
  by_cases V:200<m
  case pos=>
   have ax:=aA ((200:je)<(m:je));have ay:=aA (200<m);clear V
   go_wp2_with fail
   go_ret;exact⟨⟨jv,N,λh=>by cases h⟩,t⟩
  have ax:=az ((200:je)<(m:je));have ay:=az (200<m);have a1:jc (∀y∈c.box.take (k+1),y.body.length<=200):=O (λy W=>by
   rw[Za]at W
   rcases jL.1 W with h|h
   ·exact a y h
   obtain rfl:=jM.1 h;have:=HM.out
   omega)
  clear V a
  go_wp2_with fail
  exact⟨⟨k+1,by go_num,by omega,a1,by trivial⟩,by simp only[jG];omega⟩
 have ad:=az ((k:je)<(r:je));have au:=az (k<r);obtain rfl:r=k:=Y;have YD:jc (∀x∈c.box,x.body.length<=200):=O (by have h:=a.out;rwa [Z8,qn]at h);clear a
 go_wp2_with fail
 go_loopw [4] (λi wr=>∃k:jo,i=jf jg k/\k<=s/\jc (∀x∈c.wel.take k,x.body.length<=200)/\wr=X) (λi _=>s-(jG i).toNat)
 case atStart=>exact⟨0,N,jS _,O ar,N⟩
 obtain⟨k,rfl,hk,a,K⟩:=hrel;rw[K];clear K
 by_cases aa:k<s
 case pos=>
  have ad:=aA ((k:je)<(s:je));have au:=aA (k<s);obtain⟨x,z,M⟩:=dL (l:=c.wel) (j:=k) (by rw[<-YK];exact aa);obtain⟨us,P,Q⟩:=Yl.out;obtain⟨u,R,S⟩:=Q.at (i:=k) (b:=x.body) (by rw[nn,z];rfl);obtain⟨g,o,F,U,B⟩:=oK P (λ_ _=>rfl) z R;rw[a3]at U;injection U with e1 e2 e3
  subst e1;subst e3;obtain⟨px,cx,rfl⟩:=S.form;have Za:=O M;obtain⟨m,C⟩:=J x.body.length;rw[<-C]at B;have d3:X.cell? ⟨g,o+k*3+2,jn⟩=jb (ji px m cx):=aB (B 2 _ N) t;have HM:=O C;clear B P Q R S z M e2 C
  by_cases V:200<m
  case pos=>
   have ax:=aA ((200:je)<(m:je));have ay:=aA (200<m);clear V
   go_wp2_with fail
   go_ret;exact⟨⟨jv,N,λh=>by cases h⟩,t⟩
  have ax:=az ((200:je)<(m:je));have ay:=az (200<m);have a1:jc (∀y∈c.wel.take (k+1),y.body.length<=200):=O (λy W=>by
   rw[Za]at W
   rcases jL.1 W with h|h
   ·exact a y h
   obtain rfl:=jM.1 h;have:=HM.out
   omega)
  clear V a
  go_wp2_with fail
  exact⟨⟨k+1,by go_num,by omega,a1,by trivial⟩,by simp only[jG];omega⟩
 have ad:=az ((k:je)<(s:je));have au:=az (k<s);obtain rfl:s=k:=Y;have u:jc (∀x∈c.wel,x.body.length<=200):=O (by have h:=a.out;rwa [YK,qn]at h);clear a
 by_cases m:v<=10
 case neg=>
  have i:jc (decide (v<=10)=jv):=O (decide_eq_false m);clear m
  go_wp2_with fail
  refine(sW D v E _).mono ?_;rintro e o ⟨rfl,a⟩;have g:=ah t a;clear a;rw[i]
  go_wp2_with fail
  go_ret;exact⟨⟨jv,N,λh=>by cases h⟩,g⟩
 have i:jc (decide (v<=10)=jh):=O (ow m);have x:=O m;clear m
 by_cases m:np<=12
 case neg=>
  have y:=az ((np:je)<=12);clear m
  go_wp2_with fail
  refine(sW D v E _).mono ?_;rintro e o ⟨rfl,a⟩;have g:=ah t a;rw[i];replace d:=aB d a;replace f:=aB f a;replace n:=aB n a;clear a
  go_wp2_with fail
  go_ret;exact⟨⟨jv,N,λh=>by cases h⟩,g⟩
 have y:=aA ((np:je)<=12);have z:=O m;clear m
 by_cases m:r<=40
 case neg=>
  have B:=az ((r:je)<=40);clear m
  go_wp2_with fail
  refine(sW D v E _).mono ?_;rintro e o ⟨rfl,a⟩;have g:=ah t a;rw[i];replace d:=aB d a;replace f:=aB f a;replace n:=aB n a;clear a
  go_wp2_with fail
  go_ret;exact⟨⟨jv,N,λh=>by cases h⟩,g⟩
 have B:=aA ((r:je)<=40);have C:=O m;clear m
 by_cases m:s<=10
 case neg=>
  have K:=az ((s:je)<=10);clear m
  go_wp2_with fail
  refine(sW D v E _).mono ?_;rintro e o ⟨rfl,a⟩;have g:=ah t a;rw[i];replace d:=aB d a;replace f:=aB f a;replace n:=aB n a;clear a
  go_wp2_with fail
  go_ret;exact⟨⟨jv,N,λh=>by cases h⟩,g⟩
 have K:=aA ((s:je)<=10);have M:=O m;clear m
 go_wp2_with fail
 refine(sW D v E _).mono ?_;rintro e o ⟨rfl,a⟩;have g:=ah t a;rw[i];replace d:=aB d a;replace f:=aB f a;replace n:=aB n a;clear a
 go_wp2_with fail
 go_ret;exact⟨⟨jh,N,λ_=>⟨YD,u,by rw[<-a4];exact x,by rw[<-a5];exact z,by rw[<-Z8];exact C,by rw[<-YK];exact M⟩⟩,g⟩
theorem I7(s t:jk je)(u v:jd)(w:jj)(E:c8 w u s)(F:c8 w v t)(H:s.length<=1000000)(K:t.length<=1000000):
 jr jp 9 #[u,v] w λe w'=>e=js (.bool (decide (s=t)))/\jm w w w':=by
 obtain⟨p,c,rfl,M,d⟩:=E;obtain⟨V,W,rfl,P,f⟩:=F;have Q:=O d;have R:=O f;obtain⟨n,a⟩:=J s.length;obtain⟨m,b⟩:=J t.length;have j:=O a;have l:=O b;rw[<-a]at M H⊢;rw[<-b]at P K⊢;clear d f a b
 go_enter func9,ntmps9
 by_cases q:n=m
 case neg=>
  have a:((n:je)==(m:je))=jv:=by simp;omega
  have hd2:=az ((n:je)=(m:je));have hd3:decide (n=m)=jv:=ak q;have d:jc (decide (s=t)=jv):=O (decide_eq_false (λh=>q (by rw[j,l,h])));clear q
  go_wp2_with fail
  go_ret;exact⟨by rw[d];rfl,jD _ _⟩
 subst q
 go_wp2_with fail
 go_loopw [5] (λi wr=>∃k:jo,i=jf jg k/\k<=n/\jc (s.take k=t.take k)/\jc (jm w w wr)) (λi _=>n-(jG i).toNat)
 case atStart=>exact⟨0,N,jS _,O N,O (jD _ _)⟩
 obtain⟨k,rfl,X,r,f⟩:=hrel
 by_cases x:k<n
 ·have S:=aA ((k:je)<(n:je))
  have U:=aA (k<n);obtain⟨g,o,rfl,i⟩:=Q.out (by rw[<-j];omega);obtain⟨g2,o2,rfl,y⟩:=R.out (by rw[<-l];omega);obtain⟨a,aa,-,z⟩:=I5 i (by rw[<-j];exact x) f;obtain⟨b,ad,-,B⟩:=I5 y (by rw[<-l];exact x) f;have C:=O z;have D:=O B;clear i y z B
  by_cases i:a=b
  case neg=>
   have d:jc (decide (s=t)=jv):=O (decide_eq_false (zZ r C D i));have y:(a==b)=jv:=ak i;have z:decide (a=b)=jv:=ak i;clear i
   go_upto_region 6 with fail
   go_quiet (fail)
   go_wp2_with fail
   go_ret;exact⟨by rw[d];rfl,f.trans ⟨rfl,rfl,rfl,jA _,λ_ _=>rfl⟩⟩
  subst i;have y:=O (GV r C D N)
  go_upto_region 6 with fail
  go_quiet (fail)
  go_wp2_with fail
  exact⟨⟨k+1,by go_num,by omega,y,O (f.trans ⟨rfl,rfl,rfl,jA _,λ_ _=>rfl⟩)⟩,by simp only[jG];omega⟩
 have S:=az ((k:je)<(n:je));have U:=az (k<n);obtain rfl:k=n:=Y;have d:jc (decide (s=t)=jh):=O (ow (by
  have h:=r.out;rw[qe (by rw[<-j];exact jA _),qe (by rw[<-l];exact jA _)]at h;exact h))
 go_wp2_with fail
 go_ret;exact⟨by rw[d];rfl,f⟩

theorem Rr(w:jj)(o:Obj):jm w w (w.alloc o):=(jD _ w).alloc (jA _) o
def tq(w:jj)(b:jo)(t:jk (je×je)):Prop:=∃u,w.cell? ⟨b,0,jn⟩=jb u/\bJ w u t
theorem tq.below{w':jj}{b:jo}{t:jk (je×je)}(h:tq w b t)(a:jm w w w'):tq w' b t:=by
 obtain⟨u,c,d⟩:=h;exact⟨u,cI c (a.block _ (eN c)),d.below a⟩
theorem tq.new{t:jk (je×je)}(h:bJ w u t):tq (w.alloc (jl #[u] 43)) w.heap.size t:=
 ⟨u,by unfold World.cell?;rw[jF];rfl,h.below (Rr w _)⟩
theorem SB(t:jk (je×je))(u v:jd)(w:jj)(b:bJ w u t)(c:bJ w v t)(a:t.length<=1000000):
 jr jp 52 #[ja #[u],ja #[v]] w λe w'=>e=js (.bool jh)/\jm w w w':=by
 have h:=Lz t t u v w b c a a;rw[ow N]at h;exact h
theorem Si(l:LBy)(a:l.length=32)(z:jj):(Op.equalIn 10000 23 (ja (l.map v8).toArray) (ja (l.map v8).toArray)).run jp z=.ok jh z:=by
 have h:=nZ l l a a z;rw[show decide (l=l)=jh from ow N]at h;exact h
theorem TG(l:jk aL)(u v:jd)(w:jj)(a:EM.At w u l)(b:EM.At w v l)(D:l.length<=1000000):
 jr jp 51 #[u,v] w λe w'=>e=js (.bool jh)/\jm w w w':=by
 have f:=a;have g:=b;obtain⟨p,c,rfl,-,-⟩:=a.form;obtain⟨U,r,rfl,-,-⟩:=b.form;have s:=O (f.cells);have t:=O (g.cells);obtain⟨n,d⟩:=J l.length;have E:=O d;rw[<-d]at D s t⊢;clear a b f g d
 go_enter func51,ntmps51
 go_wp2_with fail
 go_loopw [5] (λi wr=>∃k:jo,i=jf jg k/\k<=n/\jc (jm w w wr)) (λi _=>n-(jG i).toNat)
 case atStart=>exact⟨0,N,jS _,O (jD _ _)⟩
 obtain⟨k,rfl,V,a⟩:=hrel
 by_cases F:k<n
 ·have H:=aA ((k:je)<(n:je))
  have K:=aA (k<n);obtain⟨-,-,x⟩:=s.out;obtain⟨g,o,rfl,z⟩:=x Y;obtain⟨-,-,B⟩:=t.out;obtain⟨f,h,rfl,C⟩:=B Y;obtain⟨y,m,-⟩:=dL (l:=l) (j:=k) (by rw[<-E];exact F);have b:=λi u q=>aB (z k y m i u q) a
  have d:=λi u q=>aB (C k y m i u q) a
  have M:wr.cell? ⟨g,o+k*3,jn⟩=jb (jf jg y.dev):=b 0 _ N;have P:wr.cell? ⟨g,o+k*3+1,jn⟩=jb (jf jg y.since):=b 1 _ N;have r:wr.cell? ⟨g,o+k*3+2,jn⟩=jb (jf jg y.ver):=b 2 _ N;have Q:wr.cell? ⟨f,h+k*3,jn⟩=jb (jf jg y.dev):=d 0 _ N;have R:wr.cell? ⟨f,h+k*3+1,jn⟩=jb (jf jg y.since):=d 1 _ N;have S:wr.cell? ⟨f,h+k*3+2,jn⟩=jb (jf jg y.ver):=d 2 _ N;obtain⟨md,W,X⟩:=y;dsimp only at M P r Q R S;clear z C m x B b d
  go_upto_region 6 with fail
  go_quiet (fail)
  go_wp2_with fail
  exact⟨⟨k+1,by go_num,by omega,O (a.trans ⟨rfl,rfl,rfl,jA _,λ_ _=>rfl⟩)⟩,by simp only[jG];omega⟩
 have H:=az ((k:je)<(n:je));have K:=az (k<n)
 go_wp2_with fail
 go_ret;exact⟨N,a⟩
theorem Gv(g:Grp)(d f vm vt:jd)(w:jj)(a:bU w g d f)(k:bU w g vm vt)(F:g.mem.length<=1000000)(H:g.tree.length<=1000000):
 jr jp 17 #[ja (aD g d f).toArray,ja (aD g vm vt).toArray] w λe w'=>e=js (.bool jh)/\jm w w w':=by
 have c:=dE.new w (vm:=d) (vt:=f) a.llen;have j:=ao w (jl (aD g d f).toArray 45);obtain⟨l,h⟩:=J (w.alloc (jl (aD g d f).toArray 45));rw[<-h]at c j;have r:l.heap.size=w.heap.size+1:=by rw[h,nv]
 have i:=dE.new l (vm:=vm) (vt:=vt) a.llen;have m:=ao l (jl (aD g vm vt).toArray 45);obtain⟨s,n⟩:=J (l.alloc (jl (aD g vm vt).toArray 45));rw[<-n]at i m;replace c:=c.below m;have b:=O (j.trans (m.mono j.size));rw[r]at i;obtain⟨K,M,P,t⟩:=c.at;obtain⟨Q,R,S,u⟩:=i.at;have U:=O c.last;have V:=O i.last;have v:jc ((g.last.map v8).length=VD.n):=O (by rw[jB,a.llen];rfl);obtain⟨x,p⟩:=J ((g.last.map v8).toArray);have W:∀z,(Op.equalIn 10000 23 (ja x) (ja x)).run jp z=.ok jh z:=by
  rw[p];exact λz=>Si g.last a.llen z
 have y:=O p;have o:=O a;have q:=O k;obtain⟨X,B⟩:=J ((aD g d f).toArray);obtain⟨D,C⟩:=J ((aD g vm vt).toArray);rw[<-B]at h⊢;rw[<-C]at n⊢;have E:jc (s=(w.alloc (jl X 45)).alloc (jl D 45)):=O (by rw[n,h]);clear a k c i j m B C h n r p;obtain⟨n,r,B,C,k2,rfl,rfl⟩:∃p c h n' i,d=ji p g.mem.length c/\f=ji h n' i:=by
  obtain⟨p,c,a,-⟩:=o.mem.form;obtain⟨h,n',i,k⟩:=gN o.tree;exact⟨p,c,h,n',i,a,k⟩
 obtain⟨p3,k3,p4,n4,k4,rfl,rfl⟩:∃p c h n' i,vm=ji p g.mem.length c/\vt=ji h n' i:=by
  obtain⟨p,c,a,-⟩:=q.mem.form;obtain⟨h,n',i,k⟩:=gN q.tree;exact⟨p,c,h,n',i,a,k⟩
 go_enter func17,ntmps17
 go_upto_region 1 with fail
 rw[<-E];clear E
 go_wp2_with (first|(refine VD.load aj N N (g.last.map v8) v U ?_;rw[<-y];refine L ?_)|(refine VD.load aj N N (g.last.map v8) v V ?_;rw[<-y];refine L ?_))
 refine(TG g.mem _ _ s (o.mem.below b) (q.mem.below b) F).mono ?_;rintro e m ⟨rfl,j⟩;replace t:=aB t j;replace u:=aB u j;replace b:=ah b j;clear j K M P Q R S W
 go_wp2_with fail
 refine(SB g.tree _ _ m (o.tree.below b) (q.tree.below b) H).mono ?_;rintro e E ⟨rfl,j⟩;replace b:=ah b j;clear j
 go_wp2_with fail
 go_ret;exact⟨N,b⟩
theorem RE(a:jk CP)(v:jd)(w:jj)(d:cC w v a)(g:∀p∈a,p.1.box.length<=jU/\p.1.wel.length<=jU)(q:a.length<=jU):
 jr jp 5 #[v] w λe w'=>(∃b,e=js (.bool b)/\(b=jh->a.length<=7/\∀p∈a,rq p.1))/\jm w w w':=by
 have z:=O d;have R:=O g;obtain⟨p,c,rfl⟩:=d.form;obtain⟨n,f⟩:=J a.length;have B:=O f;rw[<-f]at q z⊢;replace q:n<=9223372036854775807:=q;clear d g f
 by_cases D:n<=7
 case neg=>
  have E:=aA ((7:je)<(n:je));have F:=aA (7<n);clear D
  go_enter func5,ntmps5
  go_wp2_with fail
  go_ret;exact⟨⟨jv,N,λh=>by cases h⟩,jD _ _⟩
 have aa:=az ((7:je)<(n:je));have ad:=az (7<n)
 go_enter func5,ntmps5
 go_wp2_with fail
 go_loopw [3] (λi wr=>∃k:jo,i=jf jg k/\k<=n/\jc (∀x∈a.take k,rq x.1)/\jc (jm w w wr)) (λi _=>n-(jG i).toNat)
 case atStart=>exact⟨0,N,jS _,O ar,O (jD _ _)⟩
 obtain⟨k,rfl,hk,H,d⟩:=hrel
 by_cases S:k<n
 ·have E:=aA ((k:je)<(n:je))
  have F:=aA (k<n);obtain⟨y,f,K⟩:=dL (l:=a) (j:=k) (by rw[<-B];exact S);have r:=jZ f;have s:=z.below d;obtain⟨g,o,c',U,-,-,-,t⟩:=s.elem f;injection U with V W X
  subst V;subst X;have u:=O (s.all y r);have M:=O (R y r);obtain⟨i,m⟩:=y;dsimp only at t;have Vm:=O t;have VJ:jc ((aF i m).length=VC.n):=O (dx _ _ u.plen u.clen);have VO:=O K;obtain⟨C,P⟩:=J ((aF i m).toArray);have Q:=O P;clear f K r s W t P
  go_wp2_with (first|(refine VC.load aj N N (aF i m) VJ Vm ?_;rw[<-Q];refine L ?_))
  have f:=Np i m wr u M.1 M.2;rw[<-Q]at f;refine f.mono ?_;rintro e K ⟨⟨b,rfl,r⟩,s⟩;have t:=O r;replace d:=ah d s;clear s r f
  rcases b with _|_
  ·go_wp2_with fail
   go_ret;exact⟨⟨jv,N,λh=>by cases h⟩,d⟩
  go_wp2_with fail
  exact⟨⟨k+1,by go_num,by omega,O (by
   rw[VO];intro x f
   rcases jL.1 f with f|f
   ·exact H x f
   rw[jM]at f;rw[f];first|exact t N|exact t trivial),d⟩,by simp only[jG];omega⟩
 have E:=az ((k:je)<(n:je));have F:=az (k<n);obtain rfl:k=n:=Y
 go_wp2_with fail
 go_ret;exact⟨⟨jh,N,λ_=>⟨D,by have h:=H.out;rwa [B,qn]at h⟩⟩,d⟩
abbrev GP:=Grp×jd×jd
def Ht(x:GP):jk jd:=aD x.1 x.2.1 x.2.2
structure iK(w:jj)(v:jd)(l:jk GP):Prop where
 row:aH (·<w.heap.size) w v 36 l.length (l.flatMap Ht)
 all:∀x∈l,bU w x.1 x.2.1 x.2.2
theorem iK.below{w':jj}{v:jd}{l:jk GP}(h:iK w v l)(a:jm w w w'):iK w' v l:=
 ⟨(h.row.keep λg b=>a.block g b).mono λg b=>ju b a.size,λp c=>(h.all p c).below a⟩
theorem iK.form{l:jk GP}(h:iK w u l):∃p c,u=ji p l.length c:=h.row.form
theorem iK.elem{l:jk GP}(h:iK w u l){i:jo}{x:GP}(a:l[i]?=jb x):
 ∃g o c,u=ji (jb ⟨g,o,jn⟩) l.length c/\g<w.heap.size/\l.length<=c/\i<l.length/\w.rangeAt g (o+i*36) (aD x.1 x.2.1 x.2.2):=h.row.rowM N (λx b=>eE (h.all x b).llen) a
theorem Ty{β a:Type}{l:jk (H×β)}{m:jk (H×a)}(h:l.map (·.1)=m.map (·.1)){k:jo}{x:H×β}(b:l[k]?=jb x):∃y,m[k]?=jb y/\y.1=x.1:=by
 have e:(m.map (·.1))[k]?=jb x.1:=by rw[<-h,nn,b];rfl
 rw[nn]at e
 cases hy:m[k]? with
 |none=>rw[hy]at e;cases e
 |some y=>rw[hy]at e;exact⟨y,N,by injection e⟩
theorem Lk(l m:jk GP)(u v:jd)(w:jj)(a:iK w u l)(b:iK w v m)(he:l.map (·.1)=m.map (·.1))(hl:l.length<=1000000)(f:∀x∈l,x.1.mem.length<=1000000/\x.1.tree.length<=1000000):
 jr jp 10 #[u,v] w λe w'=>e=js (.bool jh)/\jm w w w':=by
 have S:=O a;have B:=O b;have HE:=O he;have HG:=O f;have g:m.length=l.length:=by have h:=jJ n0 he;rw[jB,jB]at h;exact h.symm
 obtain⟨p,c,rfl⟩:=a.form;obtain⟨p2,c2,rfl⟩:=b.form;rw[g]at B⊢;obtain⟨n,d⟩:=J l.length;have HN:=O d;rw[<-d]at hl S B⊢;clear a b he f d g
 go_enter func10,ntmps10
 go_wp2_with fail
 go_loopw [5] (λi wr=>∃k:jo,i=jf jg k/\k<=n/\jc (jm w w wr)) (λi _=>n-(jG i).toNat)
 case atStart=>exact⟨0,N,jS _,O (jD _ _)⟩
 obtain⟨k,rfl,hk,f⟩:=hrel
 by_cases aa:k<n
 ·have hd:=aA ((k:je)<(n:je))
  have UY:=aA (k<n);obtain⟨y,b,-⟩:=dL (l:=l) (j:=k) (by rw[<-HN];exact aa);obtain⟨z,t,U⟩:=Ty HE b;obtain⟨i,C,E⟩:∃i,i=wr.drew/\jc (jm w w i):=⟨_,N,O (f.trans ⟨N,N,N,jA _,λ_ _=>rfl⟩)⟩;have F:=S.below E;have H:=B.below E;obtain⟨g,o,c',hq,-,-,-,K⟩:=F.elem b;injection hq with e1 e2 e3
  subst e1;subst e3;obtain⟨g2,o2,a2,ad,-,-,-,M⟩:=H.elem t;injection ad with e4 e5 e6
  subst e4;subst e6;have P:=O (F.all y (jZ b));have au:=O (H.all z (jZ t));have V:=O (HG y (jZ b));obtain⟨gy,q,r⟩:=y;obtain⟨a,s,x⟩:=z;dsimp only at K M U;obtain rfl:a=gy:=U;have W:=O K;have X:=O M;have ax:jc ((aD a q r).length=VG.n):=O (eE P.llen);have ay:jc ((aD a s x).length=VG.n):=O (eE P.llen);obtain⟨a1,Q⟩:=J ((aD a q r).toArray);obtain⟨D,R⟩:=J ((aD a s x).toArray);have HA:=O Q;have HD:=O R;have d:=Gv a q r s x i P au V.1 V.2;rw[<-Q,<-R]at d;have d:=O d;clear b t F H e2 e5 K M Q R
  go_upto_region 6 with fail
  refine jW ?_;refine fb (λb=>b.rangeAt g (o+k*36) (aD a q r)/\b.rangeAt g2 (o2+k*36) (aD a s x)) 9 (.t 0 (.t 1 (.t 2 (.t 3 (.t 4 (.t 5 (.t 6 (.t 7 (.o 8 (.t 9 .done)))))))))) af af af af G (λ_ _ _ _ h=>h) (by rw[<-C];exact⟨W,X⟩) ?_;rw[<-C];clear C;iterate 3 refine bX ?_
  (refine cD (v:=ja a1) N aj (λb t=>by rw[HA];exact fk _ _ VG.t _ N _ _ N _ VG.d t.1 VG.hu VG.hd (by rw[ax];exact VG.hi)) ?_;refine L ?_)
  iterate 3 refine bX ?_
  (refine cD (v:=ja D) N aj (λb t=>by rw[HD];exact fk _ _ VG.t _ N _ _ N _ VG.d t.2 VG.hu VG.hd (by rw[ay];exact VG.hi)) ?_;refine L ?_)
  refine cO N (λb F=>?_);go_simp;refine d.mono ?_;rintro e H ⟨rfl,b⟩;replace f:=ah E b;refine F _ _ ⟨λt u C=>aB (W t u C) b,λt u C=>aB (X t u C) b⟩ λ_=>?_
  clear b d F;refine L ?_;refine bX ?_;refine eH ?_
  go_wp2_with fail
  exact⟨⟨k+1,by go_num,by omega,f⟩,by simp only[jG];omega⟩
 have hd:=az ((k:je)<(n:je));have UY:=az (k<n)
 go_wp2_with fail
 go_ret;exact⟨N,f⟩
section
variable{e:jC}{w:jj}{xs:jk jd}{sz:jo}
structure eK(e:jC)(sz:jo)(w:jj)(g:jo)(v:jd)(n:jo)(xs:jk jd):Prop where
 len:xs.length=n*sz
 ex:∃o a b,v=ji (jb ⟨g,o,jn⟩) n a/\w.heap[g]?=jb (jl b e (0,0))/\n<=a/\a<=jU/\o+a*sz<=b.size/\∀(j:jo) u,xs[j]?=jb u->b[o+j]?=jb u
theorem eK.of_own{B n:jo}{v:jd}(h:w.ownsRow B e sz v n xs)(l:0<n):∃g,v.ownBlock=jb g/\eK e sz w g v n xs:=by
 rcases h.2 with⟨-,m⟩|⟨g,b,c,rfl,o,d,f,i,p,k⟩
 ·omega
 refine⟨g,N,h.1,0,b,c,N,d,f,i,by omega,λj u a=>?_⟩;rw[<-k,qG]at a
 split at a
 ·rw[pz];simpa using a
 cases a
theorem eK.row{g n:jo}{v:jd}(h:eK e sz w g v n xs):cF w v sz n xs:=by
 obtain⟨a,o,b,k,rfl,c,d,l,m,f⟩:=h;exact⟨a,_,b,N,d,(λe=>by cases e),λ_=>⟨g,o,N,λj u i=>ai c (f j u i)⟩⟩
theorem eK.lt{B b d:jo}{f:jd}{a:jk jd}(h:eK e b w B f d a):B<w.heap.size:=by
 obtain⟨_,_,_,_,_,xs,_⟩:=h;exact(jI.1 xs).1
theorem eK.keep{w':jj}{g n:jo}{v:jd}(h:eK e sz w g v n xs)(a:w'.heap[g]?=w.heap[g]?):eK e sz w' g v n xs:=by
 obtain⟨b,o,c,d,rfl,f,i⟩:=h;exact⟨b,o,c,d,N,a.trans f,i⟩
theorem eK.cells{g n:jo}{v:jd}(h:eK e sz w g v n xs):∃c,w.heap[g]?=jb (jl c e (0,0)):=by
 obtain⟨_,_,_,a,_,b,_⟩:=h;exact⟨a,b⟩
section
variable {P:Program}
theorem eK.tail{g n:jo}{t:jC}{v:jd}{ys:jk jd}(h:eK e sz w g v (n+1) (ys++xs))(k:ys.length=sz)(b:P.underlying t=jb (.slice e))(r:∀w,(sizeOf e).run P w=.ok sz w):
 ∃l,eK e sz w g l n xs/\∀W,(Instr.sliceAt t v (jb (jf jg 1)) jn jn).run P W=.ok l W:=by
 obtain⟨s,o,c,m,rfl,p,z,B,x,y⟩:=h;have he:P.elem t=e:=by simp[Program.elem,b]
 have d:xs.length=n*sz:=by rw[jQ,k,qf]at s;omega
 have q:∀W,(Instr.sliceAt t (ji (jb ⟨g,o,jn⟩) (n+1) c) (jb (jf jg 1)) jn jn).run P W=.ok (ji (jb (if c=1 then⟨g,o,jn⟩else⟨g,o+sz,jn⟩)) n (c-1)) W:=λW=>by
  rw[run_sliceAt_slice W t _ _ _ _ (by rw[he];exact b),run_slice_l W t _ (n+1) c (by rw[he];exact b) .i64 _ Y Y,he];simp[r,Result.andThen,sliced,Addr.add]
  by_cases h:c=1
  ·subst h;simp
  have a:c-1≠0:=Y;simp[h,a]
 by_cases f:c=1
 ·refine⟨_,⟨d,o,c-1,m,by rw[jz f],p,by omega,by omega,by subst f;omega,λj u i=>?_⟩,q⟩
  have a:=(jT.1 i).1;have:n=0:=Y;rw[d,this,Nat.zero_mul]at a;omega
 refine⟨_,⟨d,o+sz,c-1,m,by rw[if_neg f],p,by omega,by omega,?_,λj u i=>?_⟩,q⟩
 ·have a:c=(c-1)+1:=Y
  rw[a,qf]at x;omega
 have a:=y (sz+j) u (by rw[j0 Y,k,Nat.add_sub_cancel_left];exact i);rw[Nat.add_assoc];exact a
theorem Q2(w:jj)(t k e:jC)(i:TypeInfo)(l:P.underlying t=jb (.slice e))(n:P.info? e=jb i)
 (g o d h:jo) (f:jt jd) (p:w.heap[g]?=jb (jl f e (0,0)))
 (a:Addr) (m c:jo) (b:jk jd) (q:b.length=m*i.size) (r:∀j u,b[j]?=jb u->w.cell? (a.add j)=jb u) (s:∀u∈b,u.oneCell'=jh)
 (u:d+m<=h) (v:o+d*i.size+b.length<=f.size):
 (Builtin.append_ #[t,t] k #[ji (jb ⟨g,o,jn⟩) d h,ji (jb a) m c]).run P w=
  .ok (ji (jb ⟨g,o,jn⟩) (d+m) h) (w.setRow g (f.toList.take (o+d*i.size)++b++f.toList.drop (o+d*i.size+b.length)).toArray):=by
 have x:=run_firstCells_some (P:=P) w i.size m a m c b q r;have j:=run_storeCells_at P g (o+d*i.size) e b 0 f w p (ak v) s;simp only[Nat.add_zero]at j;simp[Builtin.append_,qD l,sizeOf,typeInfo,n,Builtin.lenOf,u,x,Addr.add_lit,j]
theorem Lw(w:jj)(t x e:jC)(i:TypeInfo)(z:jd)(sz y:jo)(B:P.underlying t=jb (.slice e))(C:P.info? e=jb i)(V:i.zero=jb z)
 (Q:i.size=sz) (W:i.bytes=y) (X:z.cells.size=sz) (aa:0<sz) {g n:jo} {v:jd} {xs:jk jd} (h:eK e sz w g v n xs) {u:jd} {m:jo} {ys:jk jd} (hu:cF w u sz m ys) (h1:∀u∈ys,u.oneCell'=jh)
 (ad:n+m<=jU) (au:(n+m)*y<=140737488355328):
 ∃r w' g',(Builtin.append_ #[t,t] x #[v,u]).run P w=.ok r w'/\eK e sz w' g' r (n+m) (xs++ys)/\w.grownBy w' (jb g)/\(g'=g\/w.heap.size<=g'):=by
 obtain⟨D,o,b,l,rfl,d,R,S,ax,E⟩:=h;obtain⟨s,p,c,rfl,hc,hp,ay⟩:=hu
 rcases p with _|F
 ·obtain rfl:=hp N
  obtain rfl:m=0:=Y;obtain rfl:ys=[]:=List.eq_nil_of_length_eq_zero Y;refine⟨_,w,g,?_,⟨by rw[o8];exact D,o,b,l,N,d,R,S,ax,λj u a=>E j u (ak a)⟩,World.grownBy.refl _ _,.inl N⟩;simp[Builtin.append_,qD B,sizeOf,typeInfo,C,Builtin.lenOf,Builtin.firstCells,R,storeCells]
 have U:∀(j:jo) u,ys[j]?=jb u->w.cell? (F.add j)=jb u:=by
  intro j u a;have k:=(jT.1 a).1;obtain⟨g,o,e,d⟩:=ay (by
   rcases Nat.eq_zero_or_pos m with f|f
   ·rw[s,f]at k;omega
   exact f)
  obtain rfl:=qo.inj e;rw[uW];exact d j u a
 have a1:(xs++ys).length=(n+m)*sz:=by rw[jQ,D,s,qf]
 by_cases H:n+m<=b
 ·subst Q
  have a2:o+n*i.size+ys.length<=l.size:=by
   have q:(n+m)*i.size<=b*i.size:=Nat.mul_le_mul_right _ H;rw[qf]at q;omega
  have K:=Q2 w t x e i B C g o n b l d F m c ys s U h1 H a2;refine⟨_,_,g,K,⟨a1,o,b,_,N,j4 _ _ _ _ _ _ d,H,S,?_,λj u a=>?_⟩,⟨N,N,N,by rw[setRow_size];exact jA _,λk _ M=>jP _ _ _ _ λe=>M (by rw[e])⟩,.inl N⟩
  ·rw[jE,jQ,jQ,qg,List.length_drop,j6]
   omega
  rw[j7]
  by_cases a3:j<xs.length
  ·rw[qs,p6 (by rw[qg,j6];omega),qG,jz Y,qH]
   exact E j u (by rwa [p6 a3]at a)
  rw[j0 Y]at a;have q:=(jT.1 a).1;have f:l.toList.length=l.size:=j6;rw[qs,j0 (by rw[qg,j6];omega),qg,j6,p6 Y];rw[<-a]
  congr 1
  omega
 obtain⟨r,w',K,q,f⟩:=run_append_arg_grows (P:=P) w t x e i z sz y B C V Q W X aa ⟨g,o,jn⟩ n b xs D (λj u a=>by rw[uW];exact ai d (E j u a)) F m c ys s U Y ad au;obtain⟨g',a,h4⟩:=eK.of_own q Y;exact⟨r,w',g',K,h4,⟨f.os,f.tape,f.output,f.size,λk M _=>f.block k M ar⟩,.inr (q.lt g' a).1⟩
theorem dQ.wpList_appendQ(R:dQ P){c:jt jO}{d:Exit->Act->jj->Prop}{e:jk jO}{o:jO}{a:Act}{w:jj}(i:o.guard=jn)(s x:qc)(j:o.op=.call {callee:=.builtin .append,args:=#[s,x],argTypes:=#[R.t,R.t]})
 {g n:jo} {v:jd} {xs:jk jd} (k:a.eval s=v) (h:eK R.e R.k w g v n xs) {u:jd} {m:jo} {ys:jk jd} (l:a.eval x=u) (p:cF w u R.k m ys) (q:∀u∈ys,u.oneCell'=jh) (r:n+m<=1000000)
 (t:∀b w' g',eK R.e R.k w' g' b (n+m) (xs++ys)->w.grownBy w' (jb g)->(g'=g\/w.heap.size<=g')->wpList P c d e (a.put o.dst b) w'):wpList P c d (o::e) a w:=by
 refine qE i λK y=>?_
 obtain⟨b,w',g',z,f,B,C⟩:=Lw (P:=P) w R.t o.type R.e R.i R.z R.k R.b R.ht R.hi R.hz R.hs R.hb R.hzs R.h0 h p q (by unfold jU;omega) (by
  have:=R.hbb;have f:(n+m)*R.b<=1000000*8000:=Nat.mul_le_mul r this
  omega)
 unfold Oper.wp j3;simp only[j,resolve,invoke,builtin,Sem.run_bind,Sem.run_pure,Result.andThen_ok,qh,jY,jK,k,l,z];exact y _ _ (t b w' g' f B C)
end
end
theorem QF{d:jk Cmt}{S:aN}(h:eI a b d=jb S):fh d (aJ a) S:=by
 obtain⟨l,e,f⟩:=Ao h;exact⟨l,(rX l).par,λj g=>by rw[e];exact f j g⟩
noncomputable def pW(a:je)(b:LBy)(l:jk Cmt):jk aN:=match eI a b l with|none=>[]|some c=>sQ l c
def ixs(a:jk CK):jk jd:=a.map λk=>jy .i64 (k.ix:jo)
def gcs(a:jk CK):jk jd:=a.flatMap λk=>aD k.g k.vm k.vt
structure ASt(d:jk CP)(f:je)(h:LBy)(c:jo)(w W:jj)(e:aN)(a:jk CK)(k:jo)(u1 u2:jd)(g:jo)(q:jd):Prop where
 seq:a.map CK.cand=eG (d.map (·.1)) e k
 own1:W.ownsRow c RI.e RI.k u1 k (ixs (a.take k))
 own2:W.ownsRow c RG.e RG.k u2 k (gcs (a.take k))
 que:eK RK.e RK.k W g q (a.length-k) ((a.drop k).flatMap aK)
 qlow:c<=g
 all:∀x∈a,KD (λb=>gb x b/\b<W.heap.size) d W x
 off:∀x∈a,∀b,gb x b->u1.ownBlock≠jb b/\u2.ownBlock≠jb b/\g≠b
 bel:jm c w W
 le:k<=a.length
theorem ASt.below{e:jk CP}{f:je}{i:LBy}{d k g:jo}{W j:jj}{l:aN}{u1 u2 q:jd}(h:ASt e f i d w W l m k u1 u2 g q)(a:jm W W j)(n:d<=W.heap.size):ASt e f i d w j l m k u1 u2 g q:=
 ⟨h.seq,cK h.own1 a,cK h.own2 a,h.que.keep (a.block g h.que.lt),h.qlow,λx o=>((h.all x o).keep λb c=>a.block b c.2).mono λb c=>⟨c.1,ju c.2 a.size⟩,h.off,h.bel.trans (a.mono n),h.le⟩
theorem Pw(a:jk CK)(x:CK):ixs (a++[x])=ixs a++[jy .i64 (x.ix:jo)]:=by unfold ixs;rw[qt];rfl
theorem QE(a:jk CK)(x:CK):gcs (a++[x])=gcs a++aD x.g x.vm x.vt:=by unfold gcs;rw[qu,List.flatMap_singleton]
theorem DO{o:CK}(h:m[x]?=jb o):m.take (x+1)=m.take x++[o]:=by
 rw[List.take_succ_eq_append_getElem (jT.1 h).1,(jT.1 h).2]
theorem Ei{o:CK}(h:m[x]?=jb o):m.drop x=o::m.drop (x+1):=by
 rw[List.drop_eq_getElem_cons (jT.1 h).1,(jT.1 h).2]
theorem ASt.step{u:jk CP}{Q:je}{R:LBy}{v k g g':jo}{W p j r n:jj}{S:aN}{l Ks:jk CK}{x:CK}{u1 u2 q y B U y1 y2:jd}(h:ASt u Q R v w W S l k u1 u2 g q)(C:l[k]?=jb x)(a3:v<=W.heap.size)(o:jm W W p)
 (Zn:y1.cells.toList=[jf jg (x.ix:jo)]) (au:y2.cells.toList=aD x.g x.vm x.vt) (d:zU RI RG v p j u1 u2 y B (k+1) (k+1) (ixs (l.take k)++y1.cells.toList) (gcs (l.take k)++y2.cells.toList))
 (s:jm j j r) (V:∀z∈Ks,KD (λb=>j.heap.size<=b/\b<r.heap.size) u r z) (hK:Ks.map CK.cand=eS x.g (u.map (·.1))) (m:r.grownBy n (jb g)) (t:g'=g\/r.heap.size<=g')
 (E:eK RK.e RK.k n g' U (l.length-(k+1)+Ks.length) ((l.drop (k+1)).flatMap aK++Ks.flatMap aK)):ASt u Q R v w n S (l++Ks) (k+1) y B g' U:=by
 have hk:=(jT.1 C).1;obtain⟨X,F⟩:=h.que.cells;have ax:=h.que.lt;have aa:=o.size;have ay:=s.size;have a1:p.heap[g]?=jb (jl X RK.e (0,0)):=av F o;have e1:u1.ownBlock≠jb g:=cQ h.own1 F G;have e2:u2.ownBlock≠jb g:=cQ h.own2 F G;have ad:j.heap[g]?=jb (jl X RK.e (0,0)):=(d.heap g (ju ax aa) e1 e2).trans a1;have a4:p.heap.size<=j.heap.size:=d.bel.size;have d1:y.ownBlock≠jb g:=cQ d.own1 ad G;have d2:B.ownBlock≠jb g:=cQ d.own2 ad G;have s4:∀b,b<j.heap.size->b≠g->n.heap[b]?=j.heap[b]?:=λb a H=>(m.block b (ju a ay) λe=>H (by injection e)).trans (s.block b a)
 have s0:∀b,b<W.heap.size->b≠g->u1.ownBlock≠jb b->u2.ownBlock≠jb b->n.heap[b]?=W.heap[b]?:=λb a H i h2=>(s4 b Y H).trans ((d.heap b (ju a aa) i h2).trans (o.block b a))
 have a2:W.heap.size<=n.heap.size:=by have:=m.size;omega
 have a5:∀b,y.ownBlock=jb b->b=g'->False:=λb a e=>by
  rcases t with rfl|D
  ·exact d1 (e▸a)
  have:=(d.own1.lt b a).2;omega
 have a6:∀b,B.ownBlock=jb b->b=g'->False:=λb a e=>by
  rcases t with rfl|D
  ·exact d2 (e▸a)
  have:=(d.own2.lt b a).2;omega
 refine⟨?_,?_,?_,?_,?_,?_,?_,?_,?_⟩
 ·rw[qt,h.seq,eG,rh (c:=x.cand) (by rw[<-h.seq,nn,C];rfl),hK];rfl
 ·rw[qI Y,DO C,Pw,<-Zn]
  exact iz d.own1 λb a=>s4 b (d.own1.lt b a).2 λe=>d1 (e▸a)
 ·rw[qI Y,DO C,QE,<-au]
  exact iz d.own2 λb a=>s4 b (d.own2.lt b a).2 λe=>d2 (e▸a)
 ·rw[List.drop_append_of_le_length Y,qu,jQ,show l.length+Ks.length-(k+1)=l.length-(k+1)+Ks.length by omega]
  exact E
 ·rcases t with rfl|D
  ·exact h.qlow
  omega
 ·intro z f
  rcases jL.1 f with f|f
  ·refine((h.all z f).keep λb a=>?_).mono λb a=>⟨a.1,by omega⟩
   obtain⟨K,M,P⟩:=h.off z f b a.1;exact s0 b a.2 (Ne.symm P) K M
  have i:=(V z f).keep λb a=>m.block b a.2 λe=>by injection e with e;omega
  refine(KD.own i).mono λb a=>⟨a.1,by have:=m.size;have:=a.2;omega⟩
 ·intro z f b a
  rcases jL.1 f with f|f
  ·obtain⟨K,M,P⟩:=h.off z f b a
   have ba:=(rM (h.all z f) a).2;refine⟨λe=>?_,λe=>?_,λe=>?_⟩
   ·rcases d.lie1 with i|i
    ·exact K (i▸e)
    have:=i b e;omega
   ·rcases d.lie2 with i|i
    ·exact M (i▸e)
    have:=i b e;omega
   rcases t with rfl|D
   ·exact P e
   omega
  have i:=rM (V z f) a;refine⟨λe=>?_,λe=>?_,λe=>?_⟩
  ·have:=(d.own1.lt b e).2;omega
  ·have:=(d.own2.lt b e).2;omega
  have:=(jI.1 (h.que.cells).choose_spec).1
  rcases t with rfl|D
  ·omega
  subst e;obtain⟨-,-,-,-,-,h2,-⟩:=E;omega
 ·have f:jm 0 p j:=d.bel
  refine h.bel.trans ⟨m.os.trans (s.os.trans (f.os.trans o.os)),m.tape.trans (s.tape.trans (f.tape.trans o.tape)),m.output.trans (s.output.trans (f.output.trans o.output)),a2,λb a=>?_⟩;have E:=h.qlow;exact s0 b Y Y (λe=>by have:=(h.own1.lt b e).1;omega) (λe=>by have:=(h.own2.lt b e).1;omega)
 rw[jQ];omega
theorem Ch{D:jo->Prop}(e:jC)(sz:jo):aH D w (ji jn 0 0) sz 0 []:=aH.of_own (qv w 0 e sz) λg a=>by simp[qw]at a
def Mm:jd->jo
 | .slice _ n _=>n
 |_=>0
theorem Kl(d:jk CP)(v:jd)(aa:je)(S:LBy)(h:S.length=32)(w:jj)(a:cC w v d)(l:∀p∈d,cY (aR p.1))(m:bQ w)(o:d.length<=1000):
 jr jp 14 #[ja (dc aa S).toArray,v] w λe w'=>∃(u1 u2:jd) (Ks:jk CK),e=js (jw #[u1,u2])/\Ks.map CK.cand=pW aa S (d.map (·.1))/\aH (λb=>w.heap.size<=b/\b<w'.heap.size) w' u1 1 Ks.length (ixs Ks)/\
  aH (λb=>w.heap.size<=b/\b<w'.heap.size) w' u2 36 Ks.length (gcs Ks)/\(∀k∈Ks,KD (λb=>b<w'.heap.size) d w' k)/\jm w w w':=by
 obtain⟨p1,k1,rfl⟩:=a.form;obtain⟨FA,f⟩:=J ((dc aa S).toArray);have ZK:jc (FA.size=VF.n):=O (by rw[f,jE];unfold dc;rw[qi,jB,h];rfl);rw[<-f];obtain⟨x0,M,q,r,j,g⟩:=dl w FA VF.t;have s:=O (pZ d _ x0 (a.below g) l (m.below g) o);have t:=O q;have HM:=O r;have c:=O g;have HL:=O a;have HE:=O l;have HT:=O m;have HN:=O o;have bd:=O f;have bf:=O h;clear q r g a l m o f h
 go_enter func14,ntmps14
 go_wp2_with fail
 rw[<-HM];change jr _ _ _ (w.alloc (jl FA VF.t)) _;rw[<-t];refine s.mono ?_;rintro e x1 ⟨v2,v3,rfl,g,r⟩;have m:=O g;replace j:=ae j r;replace c:=ah c r;obtain⟨D,f⟩:=J (#[Value.slice p1 d.length k1,v2,v3]);have a2:jc (D.size=VP.n):=O (by rw[f];rfl);have YD:jc (D.all (·.oneCell')=jh):=O (by
  obtain⟨a,b,h⟩:=g.ids.form;obtain⟨a',o,l⟩:=g.at_.form;rw[f,h,l];simp[qJ])
 have a5:=O f;rw[<-f];clear g r s t f
 go_upto_region 2 with(first|(refine VP.made N N (L ?_))|(refine VP.first N N N D N a2 YD (L ?_)))
 obtain⟨x2,F,s,a,f,r⟩:=dl x1 D VP.t;rw[<-s,<-a];replace j:=ae j r;replace c:=ah c r;have YN:jc (∀W,jm x2 x2 W->io (·<W.heap.size) W (ji p1 d.length k1) v2 v3 d):=O λW hW=>by
  have l:=r.trans (hW.mono r.size);exact((m.mono λg o=>o.2).below l)
 have a6:jc (∀W,jm x2 x2 W->bQ W):=O λW hW=>HT.below (c.trans (hW.mono c.size))
 have l:=Fx d (ji p1 d.length k1) v2 v3 aa S bf x2 (YN _ (jD _ _)) HE (a6 _ (jD _ _)) HN;rw[<-bd,<-a5]at l;replace l:=O l;have bg:jc (F<x2.heap.size):=O (jI.1 f).1;clear s a r m
 go_wp2_with (first|(refine VP.loadA aj N N D a2 f (L ?_))|(refine VF.loadA aj N N FA ZK j (L ?_)))
 refine l.mono ?_;rintro e x3 ⟨C,o,rfl,q,t,x,y,H⟩;have YA:=O q;have bh:=O t;have m:=O x;have u:=O y;have R:=O H;replace f:=ae f H;clear q t x y H l j
 go_upto_region 3 with(first|(refine VK.made N N (L ?_))|(refine VK.first N N N C N YA bh (L ?_)))
 obtain⟨q,bi,s,a,Q,j⟩:=dl x3 C VK.t;rw[<-s,<-a];replace f:=ae f j;have t:jc (jm x2 x2 q):=ah R j;have x:jc (jm w w q):=O (c.trans (t.mono c.size));have bO:jc (bi<q.heap.size):=O (jI.1 Q).1
 rcases o with _|_
 ·have l:=O (u N)
  clear s a j m u
  go_wp2_with fail
  go_ret2;refine⟨_,_,[],N,by unfold pW;rw[l];rfl,Ch 0 _,Ch 0 _,(λk hk=>by cases hk),x⟩
 obtain⟨k0,y,z,l⟩:=m N;have B:jc (KD (λb=>x2.heap.size<=b/\b<q.heap.size) d q k0):=O ((z.keep λb a=>j.block b a.2).mono λb a=>⟨a.1,ju a.2 j.size⟩);have bk:=O y;have Yo:=O l;have Wc:=O (QF l);clear s a j m u y z l
 go_upto_block 0 with(first|(refine VK.loadA aj N N C YA Q (L ?_))|(refine qE N λ_ K=>RK.wp_build (.tmp 21) N (ja C) N YA (K _ _ ?_);clear K;refine L ?_))
 rw[show(ob C).cells=C from N];obtain⟨U,g0,s,a,V,m⟩:=dl q C RK.e;rw[<-s,<-a];obtain⟨l,X⟩:∃l:jk Cmt,l=d.map (·.1):=⟨_,N⟩;have VR:=O X;have au:jc (KIn q k0):=O ((YN _ t.out).list|>B.kin);have ax:jc (C.toList=aK k0):=O (by rw[bk]);have Wn:jc (ASt d aa S q.heap.size U U k0.cand [k0] 0 (ji jn 0 0) (ji jn 0 0) g0 (ji (jb ⟨g0,0,jn⟩) 1 1)):=O (by
  refine⟨N,qv _ _ _ _,qv _ _ _ _,⟨?_,0,1,C,N,V,jA _,by unfold jU;omega,by rw[YA];exact jA _,λj u hj=>?_⟩,qx a.symm,λz y=>?_,λz y b ad=>?_,jD _ _,jS _⟩
  ·show(aK k0++[]).length=1*143
   rw[o8,au.len]
  ·rw[pz,<-qH,ax]
   simpa using hj
  ·rw[jM]at y;subst y
   exact(KD.own (B.keep λb a=>m.block b a.2)).mono λb a=>⟨a.1,ju a.2.2 m.size⟩
  rw[jM]at y;subst y;have h1:=rM B ad;exact⟨by simp[qw],by simp[qw],by omega⟩)
 have UR:jc (jm x2 x2 U):=ah t m;have ba:jc (jm w w U):=ah x m;have ad:jc (U.heap.size=q.heap.size+1/\w.heap.size<=q.heap.size/\x2.heap.size<=q.heap.size):=O ⟨by rw[s];exact nv _ _,x.size,t.size⟩;have bl:jc (U.heap[F]?=jb (jl D VP.t (0,0))):=ae f m;clear s a m X V f Q au ax t x B R c
 go_wp2_with fail
 go_loopw [4,5,9] (λf t x wr=>∃(j:jk CK) (k g o c m:jo) (q1 q2:Option Addr) (d1 d2:jo),f=ji q1 k d1/\t=ji q2 k d2/\x=ji (jb ⟨g,o,jn⟩) m c/\jc (m=j.length-k)/\jc (ASt d aa S q.heap.size U wr k0.cand j k f t g x)) (λf _ _ _=>d.length-Mm f)
 case atStart=>exact⟨[k0],0,g0,0,1,1,jn,jn,0,0,N,N,N,O N,Wn⟩
 obtain⟨j,k,g,o,c,m,q1,q2,d1,d2,rfl,rfl,rfl,au,f⟩:=hrel;clear Wn;have Z1:jc (j.length<=d.length):=O (by
  have h:=(BJ Wc k).len Wc;rw[<-f.seq,jB,jB]at h;exact h)
 by_cases a3:0<m
 case neg=>
  have hd:=az (0<(m:je));have UY:=az (0<m);have V:jc (j.length=k):=O (by have:=au.out;have:=f.le;omega)
  go_wp2_with fail
  go_ret2;have t:w.heap.size<=q.heap.size:=ad.2.1;have x:j.take k=j:=qe (qx V);refine⟨_,_,j,N,?_,?_,?_,λz y=>(f.all z y).mono λb a=>a.2,ba.trans (f.bel.mono t)⟩
  ·unfold pW
   rw[Yo];have h:=f.seq;have h2:(eG (d.map (·.1)) k0.cand k).length<=k:=by rw[<-h,jB,V];exact jA _
   rw[h];exact(Nr Wc h2 (by rw[jB,<-V];exact Z1)).symm
  ·have h:=f.own1
   rw[x]at h;rw[V];exact aH.of_own h λb a=>⟨jN t (h.lt b a).1,(h.lt b a).2⟩
  have h:=f.own2;rw[x]at h;rw[V];exact aH.of_own h λb a=>⟨jN t (h.lt b a).1,(h.lt b a).2⟩
 have hd:=aA (0<(m:je));have UY:=aA (0<m);obtain⟨x,R⟩:∃x,j[k]?=jb x:=⟨_,List.getElem?_eq_getElem (aI au)⟩;have Vx:=jZ R;have ax:jc (cC wr (ji p1 d.length k1) d):=O (HL.below (ba.trans (f.bel.mono ad.2.1)));have B:=(f.all x Vx).kin ax;have a4:jc ((aK x).length=VK.n):=O B.len;have Vm:jc (wr.rangeAt g o (aK x)):=O λt u ht=>by
  obtain⟨-,p,c',X,-,-,h3⟩:=f.que.row;injection X with X e2 e3
  obtain⟨g',o',Q,h4⟩:=h3 (aI au);rw[<-X]at Q;injection Q with Q
  injection Q with Q e5
  rw[Q,e5];exact h4 t u (by rw[Ei R,o5,p6 (jT.1 ht).1];exact ht)
 obtain⟨X,p⟩:=J ((aK x).toArray);have HX:=O p;have bm:jc (X.size=VK.n):=O (by rw[p,jE];exact a4);have Vf:jc (X.all (·.oneCell')=jh):=O (by rw[p,jX];exact λu Q=>B.ones u (ak Q));have bn:jc (X[0]?=jb (jf jg (x.ix:jo))):=O (by rw[p];simpa using(mR B).1);have WA:jc (∀z:jj,∀b,z.heap[b]?=jb (jl X VK.t (0,0))->z.rangeAt b 107 (aD x.g x.vm x.vt)):=O λz b y t u ht=>ai y (by
  rw[p,j7];have h:=nM B (1+t);rw[<-Nat.add_assoc,Nat.add_comm 1 t,List.getElem?_cons_succ]at h;exact h.trans ht)
 have Wu:jc ((aD x.g x.vm x.vt).length=VG.n):=O (eE B.leads.llen);have VN:jc (∀u∈aD x.g x.vm x.vt,u.oneCell'=jh):=O (mi B.leads);have bb:jc (x.g.mem.length<=900000/\x.g.tree.length<=600000):=O (by
  have hi:=BJ Wc k;obtain⟨gx,ay,-⟩:=hi.at Wc (i:=k) (c:=x.cand) (by rw[<-f.seq,nn,R];rfl);have h:=oU (iw (rX ay.ok));rw[<-ay.ok.leads]at h;have h1:x.g.mem.length<=512:=h.1;have h2:x.g.tree.length<=1023:=h.2;exact⟨by omega,by omega⟩)
 obtain⟨GA,ay⟩:=J ((aD x.g x.vm x.vt).toArray);have Zo:=O ay;have YB:=O R;clear p ay R B Vx ax
 go_upto_region 9 with(first|(refine VK.load aj N N (aK x) a4 Vm ?_;rw[<-HX];refine L ?_)|(refine VK.made N N (L ?_))|(refine VK.first N N N X N bm Vf (L ?_)))
 obtain⟨y1,bx,s,a,YV,r⟩:=dl wr X VK.t;rw[<-s,<-a];have ax:=bV y1;obtain⟨y2,ay⟩:=J y1.drew;rw[<-ay]at ax;have R:jm wr wr y2:=r.trans (ax.mono r.size);have p:=O R;have B:=av YV ax;have R1:=cK f.own1 R;have R2:=cK f.own2 R;have a1:jc (q.heap.size<=wr.heap.size):=O (by have:=f.bel.size;have:=ad.1;omega);have bo:q.heap.size<=y2.heap.size:=jN a1 R.size;have bc:jc (k<=1000000):=O (by have:=f.le;have:=Z1.out;have:=HN.out;omega);refine jW ?_;refine fb (λW'=>W'.heap[bx]?=jb (jl X VK.t (0,0))) 10 (.t 0 (.t 1 (.t 2 (.t 5 (.t 6 (.t 7 (sc id (.o 10 (.o 11 .done))))))))) af af af af G (λ_ _ _ _ h=>h) (by rw[<-ay];exact B) ?_;rw[<-ay];clear s a r ax ay R;iterate 2 refine bX ?_
 (refine cD (v:=?_) N aj (λW' r=>?_) ?_;rotate_left;(have s:=ai (i:=0) r bn;clear r;go_simp;with_reducible rfl);refine L ?_)
 iterate 2 refine bX ?_
 (refine cD (v:=ja GA) N aj (λW' r=>by rw[Zo];exact fk _ _ VG.t _ N _ _ N _ VG.d (WA W' _ r) VG.hu VG.hd (by rw[Wu];exact VG.hi)) ?_;refine L ?_)
 refine Ag RI RG (T0:=id) (E:=id) (r1:=34) (r2:=35) (rb:=39) (r3:=40) (s1:=33) (s2:=38) (t1:=31) (t2:=36) af (λ_ _ _ _ h=>h) af af
  rfl rfl rfl rfl rfl rfl rfl rfl rfl rfl rfl rfl rfl rfl rfl rfl (show 34<49 by decide) (show 39<49 by decide) G G G G G G
  (λa' v=>rfl) (λa'=>rfl) (λa'=>rfl) (λa'=>rfl) (λa' w' R h r=>r)
  (x1:=jf jg (x.ix:jo)) (x2:=ja GA) (u1:=ji q1 k d1) (u2:=ji q2 k d2) rfl rfl rfl rfl rfl (by rw[Zo];exact Wu) (by simp[j8,qJ]) (λu Q=>VN u (by rw[Zo]at Q;simpa [j8]using Q)) R1 R2 (AQ R1 R2 G) bc bc bo ?_ ?_
 ·intro w' hk r
  exact(hk _ (jI.1 B).1 (cQ R1 B G) (cQ R2 B G)).trans B
 rintro z1 z2 bT b0 s R;obtain⟨bp,bq,rfl⟩:=cN R.own1;obtain⟨br,bs,rfl⟩:=cN R.own2;have bu:jc (s.heap[bx]?=jb (jl X VK.t (0,0))):=O ((R.heap _ (jI.1 B).1 (cQ R1 B G) (cQ R2 B G)).trans B);have r:=O R;clear R B R1 R2 YV;refine L ?_;refine nL N G af (λB K=>?_);go_simp;refine K _ _ ?_;clear K;refine L ?_;refine nL N G af (λB K=>?_);go_simp;refine K _ _ ?_;clear K;refine L ?_;refine eH ?_;have Vu:jc (jm x2 x2 s):=O (by
  have B:=r.bel;refine UR.trans ((f.bel.mono ad.2.2).trans ⟨B.os.trans p.os,B.tape.trans p.tape,B.output.trans p.output,jN p.size B.size,λb a=>?_⟩);have h1:=ad.2.2;have h2:=a1.out;have h3:=p.size;exact(r.heap b Y (λe=>by have:=(f.own1.lt b e).1;omega) (λe=>by have:=(f.own2.lt b e).1;omega)).trans (p.block b Y))
 have bv:jc (s.heap[F]?=jb (jl D VP.t (0,0))):=O (by
  have h1:=ad.2.2;have h2:=a1.out;have h3:=p.size;have h4:=bg.out;exact(r.heap F Y (λe=>by have:=(f.own1.lt F e).1;omega) (λe=>by have:=(f.own2.lt F e).1;omega)).trans ((p.block F Y).trans ((f.bel.block F Y).trans bl)))
 have bw:=O (WA s bx bu);have bA:jc (bU s x.g x.vm x.vt):=O (by
  have h:=f.all x (jZ YB);refine(h.keep λb a=>?_).grp.grp;obtain⟨B,K,-⟩:=f.off x (jZ YB) b a.1;exact(r.heap b (ju a.2 p.size) B K).trans (p.block b a.2))
 have K:=ER d (ji p1 d.length k1) v2 v3 x.g x.vm x.vt s (YN _ Vu.out) bA HE (a6 _ Vu.out) HN bb.1 bb.2;rw[<-Zo,<-a5]at K;replace K:=O K
 go_wp2_with (first|(refine VP.loadA aj N N D a2 bv (L ?_))|(refine VG.load aj N N (aD x.g x.vm x.vt) Wu bw ?_;rw[<-Zo];refine L ?_))
 refine K.mono ?_;rintro e A3 ⟨vq,Ks,rfl,R,ax,H⟩;have V:=O R;have bB:=O ax;have bC:=O H;have bI:jc (eK RK.e RK.k A3 g (ji (jb ⟨g,o,jn⟩) m c) (j.length-k) ((j.drop k).flatMap aK)):=O (by
  have B:=f.que;obtain⟨cg,ay⟩:=B.cells;have a3:=B.lt;refine B.keep ((H.block g ?_).trans ((r.heap g (ju a3 p.size) (cQ f.own1 ay G) (cQ f.own2 ay G)).trans (p.block g a3)));have:=r.bel.size;have:=p.size;omega)
 have bK:jc (cF A3 vq 143 Ks.length (Ks.flatMap aK)):=O R.row.row;have Yx:jc (∀u∈Ks.flatMap aK,u.oneCell'=jh):=O (by
  intro u Q;obtain⟨z,y,Q⟩:=qK.1 Q;exact((R.all z y).kin (((YN _ Vu.out).list).below H)).ones u Q)
 have Ww:jc (j.length-k+Ks.length<=1000000):=O (by
  have h1:=jJ n0 ax;have h2:(eS x.g (d.map (·.1))).length<=(bH (d.map (·.1)) (d.map (·.1)).length).length:=by
   unfold eS;rw[List.length_mergeSort];exact List.length_filterMap_le _ _
  have h3:=sd (d.map (·.1)) (d.map (·.1)).length;rw[jB]at h1 h2 h3;have:=HN.out;have:=Z1.out
  omega)
 clear R ax H K
 go_upto_region 7 with(first|(refine RK.wpList_appendQ N (.tmp 41) (.tmp 45) N N bI N bK Yx Ww ?_;intro v' A4 g' B H K;refine L ?_))
 obtain⟨Zt,Q,R⟩:=eK.tail (P:=jp) (t:=122) (sz:=143) (n:=j.length-(k+1)+Ks.length) (ys:=aK x) (xs:=(j.drop (k+1)).flatMap aK++Ks.flatMap aK) (by
  have h:=B;rw[Ei YB,o5,qs,show j.length-k+Ks.length=j.length-(k+1)+Ks.length+1 by have:=au.out;omega]at h;exact h) a4 RK.ht RK.size
 have h:=O (f.step (y1:=jf jg (x.ix:jo)) (y2:=ja GA) YB a1 p N (by rw[Zo];rfl) r bC V.all bB H K Q);obtain⟨-,o',c',-,ax,-⟩:=B;obtain⟨-,bM,bN,-,ay,-⟩:=Q;rw[ax]at R⊢;rw[ay]at R h;clear H K ax ay
 go_wp2_with fail
 refine⟨⟨j++Ks,k+1,g',bM,bN,_,bp,br,bq,bs,N,N,N,O ?_,h⟩,?_⟩
 ·rw[jQ];have:=au.out;omega
 have:=au.out;have:=Z1.out;show d.length-(k+1)<d.length-k;omega
theorem Ro(q:jk CP)(v:jd)(g:Grp)(vm vt:jd)(w:jj)(b:cC w v q)(h:bU w g vm vt)(k:∀p∈q,cY (aR p.1))(l:bQ w)(m:q.length<=1000)(o:g.mem.length<=900000)(r:g.tree.length<=600000)(s:∀p∈q,p.1.chg.length<=1000000):
 jr jp 16 #[ja (aD g vm vt).toArray,v] w λe w'=>e=js (jw #[jf jg ((dJ g (q.map (·.1))).elim 0 λc=>(c.ix:je)),.bool (dJ g (q.map (·.1))).isSome])/\jm w w w':=by
 obtain⟨p1,k1,rfl⟩:=b.form;obtain⟨y,a⟩:=J ((aD g vm vt).toArray);have YH:=O a;have aa:jc (y.size=VG.n):=O (by rw[a,jE,eE h.llen];rfl);rw[<-a];obtain⟨M,j⟩:=J w.heap.size;obtain⟨x0,n⟩:=J (w.alloc (jl y 45));have f:jc (x0.heap[M]?=jb (jl y VG.t (0,0))):=O (by rw[n,j];exact jF _ _);have d:jc (jm w w x0):=O (by rw[n];exact ao _ _);have K:=O b;have HG:=O h;have P:=O k;have Q:=O l;have R:=O m;have Wu:=O o;have WL:=O r;have VS:=O s;have HM:=O j;have p:=O n;clear a j n b h k l m o r s
 go_enter func16,ntmps16
 go_upto_region 1 with fail
 rw[<-p,<-HM];clear p;refine jW ?_;refine fb (λb=>b.heap[M]?=jb (jl y VG.t (0,0))) 10
  (.t 0 (.t 2 (.w 1 7 (.w 3 7 (.t 4 (.t 5 (.t 6 (.o 7 (.o 8 (.t 9 .done)))))) (.o 3 (.t 4 (.t 5 (.t 6 (.o 8 (.t 9 .done))))))) (.o 1 (.o 3 (.t 4 (.t 5 (.t 6 (.o 8 (.t 9 .done)))))))))) af af af af G (λ_ _ _ _ h=>h) f ?_
 have a:=bV x0;obtain⟨x1,r⟩:=J x0.drew;rw[<-r]at a⊢;replace d:=ah d a;replace f:=ae f a;clear r a;refine bX ?_
 (refine cD (v:=ja y) N aj (λb j=>cU VG.hu VG.hd (by rw[aa];exact VG.hi) N N j) ?_;refine L ?_)
 refine Bg ?_ ?_
 ·refine cO N (λx j=>?_)
  go_simp;refine(pZ q _ x1 (K.below d) P (Q.below d) R).mono ?_;rintro e x2 ⟨v2,v3,rfl,S,a⟩;have F:=O (S.mono (E:=(·<x2.heap.size)) λb o=>o.2);replace d:=ah d a;replace f:=ae f a;refine j _ _ f.out λ_=>?_
  clear j S a;refine L ?_;refine Bg ?_ ?_
  ·refine cO N (λx j=>?_)
   go_simp;have n:=uk q _ v2 v3 g vm vt x2 F (HG.below d) P (Q.below d) R Wu WL VS;rw[<-YH]at n;refine n.mono ?_;rintro e H ⟨wk,rfl,z,s,a⟩;replace d:=ah d a;replace f:=ae f a;have t:=O (sO (wk:=wk) λk U=>(z k U).kin (K.below d));have V:=O s;have W:jc ((dj wk)[0]?=jb (jf jg ((dJ g (q.map (·.1))).elim 0 λc=>(c.ix:je)))):=O (by rw[<-s];cases wk<;>rfl);refine j _ _ f.out λ_=>?_
   clear j n z s a;refine L ?_;iterate 3 refine bX ?_
   refine cO N (λx j=>?_);rw[jz aj];refine fS VK.t N VK.Z VK.hal ?_;have B:=O d.size;obtain⟨p,l,r,o,m,a⟩:=dl H VK.Z VK.t;rw[<-r,<-o];replace d:=ah d a;replace f:=ae f a;have X:jc (w.heap.size<=l):=O (by rw[o];exact B);refine j _ _ f.out λ_=>?_
   clear j r o a B;refine L ?_;refine cO N (λx j=>?_);rw[jz aj];refine jV VK.t _ _ N l (dj wk) N N VK.t VK.Z m.out (by rw[t.1];exact VK.hi) (VK.hZ.trans t.1.symm) t.2 ?_;have C:jc ((p.setRow l (dj wk)).heap[l]?=jb (jl (dj wk) VK.t (0,0))):=O (j4 _ _ _ _ _ _ m.out);have D:jc (jm w w (p.setRow l (dj wk))):=O (iP d X _);have u:(p.setRow l (dj wk)).heap[M]?=jb (jl y VG.t (0,0)):=(jP _ _ _ _ (λe=>by have h:=m.out;rw[<-e,f]at h;injection h with h;injection h with _ h;exact jq h G)).trans f;generalize p.setRow l (dj wk)=x9 at C D u⊢;refine j _ _ u λ_=>?_
   clear j u;refine L ?_;refine bX ?_;refine eH ?_;have c0:=ai (i:=0) C W
   go_wp2_with fail
   go_ret2;exact⟨yW (jJ (λb=>qy #[_,.bool b]) (by rw[<-V];cases wk<;>rfl)),D⟩
  refine cO N (λx j=>?_);rw[jz aj];refine fS VK.t N VK.Z VK.hal ?_;have B:=O d.size;obtain⟨H,l,r,o,m,a⟩:=dl x2 VK.Z VK.t;rw[<-r,<-o];replace d:=ah d a;replace f:=ae f a;replace F:=O (F.below a);have X:jc (w.heap.size<=l):=O (by rw[o];exact B);refine j _ _ f.out λ_=>?_
  clear j r o a B;refine L ?_;refine cO N (λx j=>?_);go_simp;have n:=uk q _ v2 v3 g vm vt H F (HG.below d) P (Q.below d) R Wu WL VS;rw[<-YH]at n;refine n.mono ?_;rintro e p ⟨wk,rfl,z,s,a⟩;replace d:=ah d a;replace f:=ae f a;replace m:=ae m a;have t:=O (sO (wk:=wk) λk U=>(z k U).kin (K.below d));have V:=O s;have W:jc ((dj wk)[0]?=jb (jf jg ((dJ g (q.map (·.1))).elim 0 λc=>(c.ix:je)))):=O (by rw[<-s];cases wk<;>rfl);refine j _ _ f.out λ_=>?_
  clear j n z s a;refine L ?_;iterate 3 refine bX ?_
  refine cO N (λx j=>?_);rw[jz aj];refine jV VK.t _ _ N l (dj wk) N N VK.t VK.Z m.out (by rw[t.1];exact VK.hi) (VK.hZ.trans t.1.symm) t.2 ?_;have C:jc ((p.setRow l (dj wk)).heap[l]?=jb (jl (dj wk) VK.t (0,0))):=O (j4 _ _ _ _ _ _ m.out);have D:jc (jm w w (p.setRow l (dj wk))):=O (iP d X _);have u:(p.setRow l (dj wk)).heap[M]?=jb (jl y VG.t (0,0)):=(jP _ _ _ _ (λe=>by have h:=m.out;rw[<-e,f]at h;injection h with h;injection h with _ h;exact jq h G)).trans f;generalize p.setRow l (dj wk)=x9 at C D u⊢;refine j _ _ u λ_=>?_
  clear j u;refine L ?_;refine bX ?_;refine eH ?_;have c0:=ai (i:=0) C W
  go_wp2_with fail
  go_ret2;exact⟨yW (jJ (λb=>qy #[_,.bool b]) (by rw[<-V];cases wk<;>rfl)),D⟩
 refine cO N (λx j=>?_);rw[jz aj];refine fS VK.t N VK.Z VK.hal ?_;have B:=O d.size;obtain⟨x2,l,r,o,m,a⟩:=dl x1 VK.Z VK.t;rw[<-r,<-o];replace d:=ah d a;replace f:=ae f a;have X:jc (w.heap.size<=l):=O (by rw[o];exact B);refine j _ _ f.out λ_=>?_
 clear j r o a B;refine L ?_;refine cO N (λx j=>?_);go_simp;refine(pZ q _ x2 (K.below d) P (Q.below d) R).mono ?_;rintro e H ⟨v2,v3,rfl,S,a⟩;have F:=O (S.mono (E:=(·<H.heap.size)) λb o=>o.2);replace d:=ah d a;replace f:=ae f a;replace m:=ae m a;refine j _ _ f.out λ_=>?_
 clear j S a;refine L ?_;refine cO N (λx j=>?_);go_simp;have n:=uk q _ v2 v3 g vm vt H F (HG.below d) P (Q.below d) R Wu WL VS;rw[<-YH]at n;refine n.mono ?_;rintro e p ⟨wk,rfl,z,s,a⟩;replace d:=ah d a;replace f:=ae f a;replace m:=ae m a;have t:=O (sO (wk:=wk) λk U=>(z k U).kin (K.below d));have V:=O s;have W:jc ((dj wk)[0]?=jb (jf jg ((dJ g (q.map (·.1))).elim 0 λc=>(c.ix:je)))):=O (by rw[<-s];cases wk<;>rfl);refine j _ _ f.out λ_=>?_
 clear j n z s a;refine L ?_;iterate 3 refine bX ?_
 refine cO N (λx j=>?_);rw[jz aj];refine jV VK.t _ _ N l (dj wk) N N VK.t VK.Z m.out (by rw[t.1];exact VK.hi) (VK.hZ.trans t.1.symm) t.2 ?_;have C:jc ((p.setRow l (dj wk)).heap[l]?=jb (jl (dj wk) VK.t (0,0))):=O (j4 _ _ _ _ _ _ m.out);have D:jc (jm w w (p.setRow l (dj wk))):=O (iP d X _);have u:(p.setRow l (dj wk)).heap[M]?=jb (jl y VG.t (0,0)):=(jP _ _ _ _ (λe=>by have h:=m.out;rw[<-e,f]at h;injection h with h;injection h with _ h;exact jq h G)).trans f;generalize p.setRow l (dj wk)=x9 at C D u⊢;refine j _ _ u λ_=>?_
 clear j u;refine L ?_;refine bX ?_;refine eH ?_;have c0:=ai (i:=0) C W
 go_wp2_with fail
 go_ret2;exact⟨yW (jJ (λb=>qy #[_,.bool b]) (by rw[<-V];cases wk<;>rfl)),D⟩
section
section
variable {q1 q2 q3 q4:CQ}
theorem Dd{P:Cmt->Prop}(b:P cS3)(c:P bS)(d:P cM)(e:P bF):∀p∈[(cS3,q3),(bS,q2),(cM,q4),(bF,q1)],P p.1:=by
 intro p a;simp only[jR,j9,or_false]at a
 rcases a with rfl|rfl|rfl|rfl
 ·exact b
 ·exact c
 ·exact d
 exact e
theorem rZ:[(cS3,q3),(bS,q2),(cM,q4),(bF,q1)].map (·.1)=[cS3,bS,cM,bF]:=N
theorem AB:∀p∈[(cS3,q3),(bS,q2),(cM,q4),(bF,q1)],p.1.chg.length<=1000000:=
 Dd (P:=λc=>c.chg.length<=1000000) (by rw[iL.1];decide) (by rw[nU.1];simp) (by rw[iL.2.2.1];decide) (by rw[mC.1];simp)
theorem wO:∀p∈[(cS3,q3),(bS,q2),(cM,q4),(bF,q1)],cY (aR p.1):=
 Dd (P:=λc=>cY (aR c)) lE.2.2.1 lE.2.1 lE.2.2.2 lE.1
theorem N1(v:jd)(W:jj)(l:cC W v [(cS3,q3),(bS,q2),(cM,q4),(bF,q1)])(m:bQ W):
 jr jp 6 #[ja (dc 3 (aG bF)).toArray,v] W λe w'=>∃a b f g,e=js (jw #[ji a 3 b,ji f 3 g])/\
  aH (·<w'.heap.size) w' (ji a 3 b) 1 3 [jf jg 3,jf jg 1,jf jg 2]/\jm W W w':=by
 refine(uF _ v 3 (aG bF) (dX _) W l wO m ar AB).mono ?_;rintro e w' ⟨u1,u2,Ks,rfl,i,d,j,-,n⟩;rw[rZ,oP.chain]at i;have o:Ks.length=3:=by have h:=jJ n0 i;simpa using h
 have p:(Ks.map λk=>jy .i64 k.ix)=[jf jg 3,jf jg 1,jf jg 2]:=by
  have h:=jJ (List.map λc:aN=>jy .i64 (c.ix:je)) i;rw[ms]at h;exact h.trans (by unfold cP;rfl)
 rw[o]at d j;rw[p]at d;obtain⟨a,b,rfl⟩:=d.form;obtain⟨f,g,rfl⟩:=j.form;exact⟨a,b,f,g,N,d.mono λk c=>c.2,n⟩
theorem LX(g:Grp)(c:Cmt)(i:jo):(cP g c i).ix=i:=by unfold cP;rfl
theorem MH{a:je}{b:LBy}{l:jk Cmt}{c:aN}(h:eI a b l=jb c):pW a b l=sQ l c:=by unfold pW;rw[h]
theorem NC:pW 3 (aG bF) [cS3,bS,cM,bF]=[⟨3,bF,aG bF,0,aC (aJ 3) bF⟩,cP (aC (aJ 3) bF) bS 1,cP (aC (aC (aJ 3) bF) bS) cM 2,cP (aC (aC (aJ 3) bF) bS) cS3 0]:=by
 rw[MH oP.first];exact oP.all
theorem Q1(v:jd)(W:jj)(h:cC W v [(cS3,q3),(bS,q2),(cM,q4),(bF,q1)])(i:bQ W):
 jr jp 14 #[ja (dc 3 (aG bF)).toArray,v] W λe w'=>∃a b u2,e=js (jw #[ji a 4 b,u2])/\
  aH (·<w'.heap.size) w' (ji a 4 b) 1 4 [jf jg 3,jf jg 1,jf jg 2,jf jg 0]/\jm W W w':=by
 refine(Kl _ v 3 (aG bF) (dX _) W h wO i ar).mono ?_;rintro e w' ⟨u1,u2,Ks,rfl,d,g,-,-,j⟩;rw[rZ,NC]at d;have l:Ks.length=4:=(jB (f:=CK.cand) ..).symm.trans ((jJ n0 d).trans N);have m:ixs Ks=[jf jg 3,jf jg 1,jf jg 2,jf jg 0]:=by
  have e:ixs Ks=(Ks.map CK.cand).map λc=>jy .i64 (c.ix:jo):=by rw[ms];rfl
  rw[e,d];simp only[jY,jK,LX]
  rfl
 rw[l,m]at g;obtain⟨a,b,rfl⟩:=g.form;exact⟨a,b,u2,N,g.mono λk c=>c.2,j⟩
theorem Lt(v:jd)(W:jj)(d:cC W v [(cS3,q3),(bS,q2),(cM,q4),(bF,q1)])(f:bQ W):
 jr jp 15 #[ja (dc 3 (aG bF)).toArray,v] W λe w'=>∃vm vt,e=js (jw #[ja (aD (aC cX cM) vm vt).toArray,.bool jh])/\bU w' (aC cX cM) vm vt/\jm W W w':=by
 refine(BW _ v 3 (aG bF) (dX _) W d wO f ar AB).mono ?_;rintro e w' ⟨k,rfl,a,g,i⟩;rw[rZ,oP.chain]at a
 rcases k with _|k
 ·cases a
 have b:k.g=aC cX cM:=by
  have h:=jJ (Option.map aN.leads) a;exact qo.inj (h.trans (by unfold cP;rfl))
 have c:=(g k N).grp.grp;rw[b]at c;refine⟨k.vm,k.vt,?_,c,i⟩;rw[<-b];rfl
theorem Dw(v:jd)(W:jj)(d:cC W v [(cS3,q3),(bS,q2),(cM,q4),(bF,q1)])(f:bQ W)(a:jt jd)(b:je)(g:∀t u,((aG bS).map v8)[t]?=jb u->a[1+t]?=jb u)(i:a[33]?=jb (jf jg 0))(j:a[34]?=jb (jf jg b)):
 jr jp 18 #[ja (dc 3 (aG bF)).toArray,v,ja a] W λe w'=>e=js (.bool (decide (b<=5)))/\jm W W w':=by
 have h:=Dx _ v 3 (aG bF) (dX _) a (aG bS) 0 b (dX _) g i j W d wO f ar AB (by
  rw[rZ,oP.chain];intro k c;have l:=oU (iw lV);have m:=oU (iw ln);have n:=oU (iw mY);simp only[jR,j9,or_false]at c
  rcases c with rfl|rfl|rfl
  ·exact jN l.1 G
  ·exact jN m.1 G
  exact jN n.1 G)
 rw[rZ,MP oP]at h;exact h
end
theorem uA(W:jj):cC W (ji jn 0 0) []:=⟨⟨N,jn,0,N,jA _,λ_=>rfl,λh=>jq h (qd _)⟩,λp a=>by cases a⟩
theorem vu(a:je)(b:LBy):dU a b []=[]:=by
 rw[ov];rfl
theorem PZ(g:Grp):dJ g []=jn:=by
 unfold dJ eS ez;simp[bH]
theorem Jb(a:LBy)(h:a.length=32)(W:jj)(i:bQ W):
 jr jp 6 #[ja (dc 3 a).toArray,ji jn 0 0] W λe w'=>∃b c d f,e=js (jw #[ji b 0 c,ji d 0 f])/\jm W W w':=by
 refine(uF [] _ 3 a h W (uA W) (λp g=>by cases g) i ar (λp g=>by cases g)).mono ?_;rintro e w' ⟨u1,u2,Ks,rfl,g,j,k,-,l⟩;rw[jK,vu]at g;obtain rfl:Ks=[]:=ak g;obtain⟨b,c,rfl⟩:=j.form;obtain⟨d,f,rfl⟩:=k.form;exact⟨b,c,d,f,N,l⟩
theorem OO(a:LBy)(c:a.length=32)(W:jj)(d:bQ W):
 jr jp 15 #[ja (dc 3 a).toArray,ji jn 0 0] W λe w'=>e=js (jw #[ja (kR jn),.bool jv])/\jm W W w':=by
 refine(BW [] _ 3 a c W (uA W) (λp b=>by cases b) d ar (λp b=>by cases b)).mono ?_;rintro e w' ⟨k,rfl,b,g,f⟩;rw[jK,vu]at b;obtain rfl:k=jn:=ak b;exact⟨N,f⟩
theorem Ms(W:jj)(b:bQ W):
 jr jp 16 #[ja (aD kw vN vN).toArray,ji jn 0 0] W λe w'=>e=js (jw #[jf jg 0,.bool jv])/\jm W W w':=by
 refine(Ro [] _ kw vN vN W (uA W) ⟨⟨N,jn,0,N,jA _,λ_=>rfl,λh=>jq h (qd _)⟩,oM W,by decide⟩ (λp a=>by cases a) b ar G G (λp a=>by cases a)).mono ?_;rintro e w' ⟨rfl,a⟩;rw[jK,PZ];exact⟨N,a⟩
theorem J8(b:LBy)(i:b.length=32)(W:jj)(j:bQ W)(a:jt jd)(c:LBy)(l:c.length=32)(f g:je)(m:∀t u,(c.map v8)[t]?=jb u->a[1+t]?=jb u)(n:a[33]?=jb (jf jg f))(o:a[34]?=jb (jf jg g)):
 jr jp 18 #[ja (dc 3 b).toArray,ji jn 0 0,ja a] W λe w'=>e=js (.bool jv)/\jm W W w':=by
 have h:=Dx [] (ji jn 0 0) 3 b i a c f g l m n o W (uA W) (λp d=>by cases d) j ar (λp d=>by cases d) (by rw[jK,vu];intro k d;cases d);rw[jK,vu]at h;exact h
end
section
variable{b:CQ}{a:Cmt}{e:mz}
section
variable {P:Program} {ops:jt jO} {Q:Exit->Act->jj->Prop}
theorem dQ.four(R:dQ P){o:jO}{l:jk jO}{a:Act}{w:jj}(m:o.guard=jn)(f g j k:qc)(n:o.op=.buildSlice R.t 4 #[(0,f),(1,g),(2,j),(3,k)])(A0 b c d:jt jd)(p:a.eval f=ja A0)(q:a.eval g=ja b)(r:a.eval j=ja c)(s:a.eval k=ja d)
 (t:A0.size=R.k) (s1:b.size=R.k) (s2:c.size=R.k) (s3:d.size=R.k) (h:wpList P ops Q l (a.put o.dst (ji (jb ⟨w,0,jn⟩) 4 4)) (w.alloc (jl (A0.toList++(b.toList++(c.toList++d.toList))).toArray R.e))):wpList P ops Q (o::l) a w:=by
 have u:=R.hk;have y:=R.h0;refine wpList_buildSlice m R.t R.e 4 _ n (A0.toList++(b.toList++(c.toList++d.toList))).toArray R.i R.z R.ht R.hi R.hz (by rw[R.hs];omega) (by rw[R.hs];omega) ?_ h;have e:((#[(0,f),(1,g),(2,j),(3,k)]:jt (jo×qc)).map fun(i,x)=>(i,a.eval x)).toList=(([ob A0,ja b,ja c,ja d]:jk jd).zipIdx 0).map λx=>(x.2,x.1):=by simp[p,q,r,s]
 rw[e,R.hs];refine(Great.fill_whole R.h0 [ob A0,ja b,ja c,ja d] _ (λv i=>?_) ar).trans (by simp[j8]);simp only[jR,j9,or_false]at i
 rcases i with rfl|rfl|rfl|rfl
 ·exact t
 ·exact s1
 ·exact s2
 exact s3
end
noncomputable def RCm:dQ jp:=.of 26 34 73 200 (ja (aF mU nN).toArray) qk af (by rw[j8,jE];exact dx _ _ G G) G G G
theorem O7{a:Act}{o:jO}{x:qc}{b:jt jd}(c:b.size=32)(d:o.op=.build 25 #[(0,.const (jf jg 3)),(1,x)])(e:a.eval x=ja b)(W:jj):
 (j3 a.eval o).run jp W=.ok (.value (ja (#[jf jg 3]++b))) W:=by
 have f:(dc 0 cH).toArray=([]++([jy .i64 0]++(cH.map v8++[]))).toArray:=by kernel_rfl
 have g:=uG (P:=jp) (t:=25) (zero:=ja (dc 0 cH).toArray) (places:=#[(0,1),(1,32)]) (λw=>by kernel_rfl) qF (λw=>by kernel_rfl)
  (parts:=#[(0,jf jg 3),(1,ja b)]) (X:=(#[jf jg 3]++b)) (by
   show Instr.fill _ (dc 0 cH).toArray [(0,jy .i64 3),(1,ob b)]=_;rw[f,mJ (A0:=[]) (off:=0) (size:=1) N N N N];show Instr.fill _ ([jy .i64 3]++_).toArray _ =_;rw[mJ (A0:=[jy .i64 3]) (off:=1) (size:=32) N N N (v:=ja b) c,Instr.fill];simp[j8]) W
 simp only[j3,d,qh,jY,jK,e];simp only[Sem.run_bind,show a.eval (.const (jf jg 3))=jy .i64 3 from N,g,Result.andThen_ok,Sem.run_pure]
def itT:jk jd:=[jf jg 0,jf jg 0,jf jg 0,jf jg 0]++(cH.map v8++[ji jn 0 0,jf jg 0,jf jg 0])
def itC(a:jk jd)(b:je):jk jd:=[jf jg 0]++(a++([jf jg 0]++([jf jg b]++itT)))
noncomputable def VIt:VarT jp:=⟨68,74,(itC (cH.map v8) 0).toArray,_,underlying68,N,by kernel_rfl,rfl,λ_=>by kernel_rfl⟩
theorem MO{a:Act}{o:jO}{x:qc}{b:jt jd}(c:b.size=32)(d:o.op=.build 68 #[(1,x),(3,.const (jf jg 5))])(f:a.eval x=ja b)(W:jj):
 (j3 a.eval o).run jp W=.ok (.value (ja (itC b.toList 5).toArray)) W:=by
 have g:=uG (P:=jp) (t:=68) (zero:=ja (itC (cH.map v8) 0).toArray) (places:=#[(0,1),(1,32),(33,1),(34,1),(35,1),(36,1),(37,34),(71,1),(72,2)]) (λw=>by kernel_rfl) underlying68 (λw=>by kernel_rfl)
  (parts:=#[(1,ja b),(3,jf jg 5)]) (X:=(itC b.toList 5).toArray) (by
   show Instr.fill _ (itC (cH.map v8) 0).toArray [(1,ob b),(3,jy .i64 5)]=_;have h:b.toList.length=32:=by rw[j6];exact c
   unfold itC;rw[mJ (A0:=[jy .i64 0]) (off:=1) (size:=32) N N N (v:=ja b) c];show Instr.fill _ ([jy .i64 0]++(b.toList++([jy .i64 0]++([jy .i64 0]++itT)))).toArray _ =_;have e:∀l:jk jd,[jy .i64 0]++(b.toList++([jy .i64 0]++l))=([jy .i64 0]++b.toList++[jy .i64 0])++l:=λl=>by simp
   rw[e,mJ (A0:=[jy .i64 0]++b.toList++[jy .i64 0]) (off:=34) (size:=1) N (by simp[h]) N (v:=jf jg 5) N,Instr.fill];show jb (([jy .i64 0]++b.toList++[jy .i64 0])++([jy .i64 5]++itT)).toArray=_;rw[<-e]) W
 simp only[j3,d,qh,jY,jK,f];simp only[Sem.run_bind,show a.eval (.const (jf jg 5))=jy .i64 5 from N,g,Result.andThen_ok,Sem.run_pure]
structure ItP(a:jt jd)(b:LBy)(c:je):Prop where
 sz:a.size=VIt.n
 one:a.all (·.oneCell')=jh
 id:∀t u,(b.map v8)[t]?=jb u->a[1+t]?=jb u
 dev:a[33]?=jb (jf jg 0)
 ctr:a[34]?=jb (jf jg c)
theorem itP(b:LBy)(c:je)(h:b.length=32):ItP (itC (b.map v8).toArray.toList c).toArray b c:=by
 have d:(b.map v8).length=32:=by rw[jB];exact h
 refine⟨?_,?_,λt u a=>?_,?_,?_⟩
 ·show _ =74
  unfold itC itT;simp[h,cH]
 ·rw[jX]
  intro u a;unfold itC itT at a;simp only[qz,jL,jR,j9,or_false,qj]at a
  rcases a with rfl|a|rfl|rfl|(rfl|rfl|rfl|rfl)|a|rfl|rfl|rfl
  all_goals first|rfl|exact im _ u a
 ·have e:t<(b.map v8).length:=(jT.1 a).1
  unfold itC;rw[qj,j7,j0 ar,j1,show 1+t-1=t by omega,p6 e];exact a
 ·unfold itC
  rw[qj,j7,j0 ar,j1,j0 Y,d]
  rfl
 unfold itC;rw[qj,j7,j0 ar,j1,j0 Y,d]
 rfl
theorem Ow(c:jk jd)(a b:je)(h:c.length=32):(itC c a).toArray.setIfInBounds 34 (jf jg b)=(itC c b).toArray:=by
 rw[List.setIfInBounds_toArray];refine jJ List.toArray ?_;unfold itC;rw[qL _ _ ar,j1,qL _ _ Y,h]
 rfl
theorem CE(W:jj):bU W kw vN vN:=⟨⟨N,jn,0,N,jA _,λ_=>rfl,λh=>jq h (qd _)⟩,oM W,by decide⟩
structure S5(w:jj)(BL:jk (jo×jt jd×jC))(CL:jk CP)(GL:jk (Grp×jd×jd))(v:jd)(LS:jk CP)(g:Grp)(m t u1 u2:jd)(x:jj):Prop where
 s:SSt w BL CL GL x
 ci:cC x v LS
 gi:bU x g m t
 at_:aH (·<x.heap.size) x u1 1 3 [jf jg 3,jf jg 1,jf jg 2]
 al:aH (·<x.heap.size) x u2 1 4 [jf jg 3,jf jg 1,jf jg 2,jf jg 0]
section
variable {w x x':jj} {BL:jk (jo×jt jd×jC)} {CL LS:jk CP} {GL:jk (Grp×jd×jd)} {v m t u1 u2:jd} {g:Grp}
theorem S5.below(h:S5 w BL CL GL v LS g m t u1 u2 x)(a:jm x x x'):S5 w BL CL GL v LS g m t u1 u2 x':=
 ⟨h.s.below a,h.ci.below a,h.gi.below a,(h.at_.keep λk b=>a.block k b).mono λk b=>ju b a.size,(h.al.keep λk b=>a.block k b).mono λk b=>ju b a.size⟩
theorem S5.block(h:S5 w BL CL GL v LS g m t u1 u2 x){b:jo}{a:jt jd}{c:jC}(d:x.heap[b]?=jb (jl a c (0,0))):S5 w ((b,a,c)::BL) CL GL v LS g m t u1 u2 x:=⟨h.s.block d,h.ci,h.gi,h.at_,h.al⟩
end
structure gX(g:Grp)(c:Cmt)(W w':jj)(e:mz)(q:CQ)(vm vt:jd)(a b:jt jd):Prop where
 ret:e=js (jw #[ja a,ja b,.bool jh])
 ac:a=(aF c q).toArray
 ag:b=(aD (aC g c) vm vt).toArray
 com:aS (λk=>W.heap.size<=k/\k<w'.heap.size) w' c q
 grp:dN (λk=>W.heap.size<=k/\k<w'.heap.size) w' (aC g c) vm vt
 bel:jm W W w'
theorem gX.csz{g:Grp}{W w':jj}{vm vt:jd}{c q:jt jd}(h:gX g a W w' e b vm vt c q):c.size=VC.n:=by
 rw[h.ac,jE];exact dx _ _ h.com.plen h.com.clen
theorem gX.cone{g:Grp}{W w':jj}{vm vt:jd}{c q:jt jd}(h:gX g a W w' e b vm vt c q):c.all (·.oneCell')=jh:=by
 rw[h.ac,jX];exact λu d=>lU h.com u (ak d)
theorem gX.gsz{g:Grp}{W w':jj}{vm vt:jd}{q c:jt jd}(h:gX g a W w' e b vm vt q c):c.size=VG.n:=by
 rw[h.ag,jE];exact eE h.grp.grp.llen
theorem gX.gone{g:Grp}{W w':jj}{vm vt:jd}{i f:jt jd}(h:gX g a W w' e b vm vt i f):f.all (·.oneCell')=jh:=by
 obtain⟨p,l,c,n',q,rfl,rfl⟩:∃p k c n' q,vm=ji p (aC g a).mem.length k/\vt=ji c n' q:=by
  obtain⟨p,a,d,-⟩:=h.grp.grp.mem.form;obtain⟨c,n',q,j⟩:=gN h.grp.grp.tree;exact⟨p,a,c,n',q,d,j⟩
 rw[h.ag,jX];intro u d;simp only[aD,qz,jR,jL,j9,or_false]at d
 rcases d with rfl|rfl|d|rfl|rfl
 ·rfl
 ·rfl
 ·exact im _ u d
 ·rfl
 rfl
theorem vH{g:Grp}{vm vt:jd}{d:jo}(h:d<512)(b:BitVec 8){x:ap}{c:Cmt}(i:gY g (d:je) ((d+2:jo):je) [x]=0)(j:c=mkC g (d:je) (d+2) [x] (kz b) (kz 1) (kz b))(k:gQ g c)(l:cY (aR c))
 {a:jt jd} (n:a=(aD g vm vt).toArray) {f:jd} {W:jj} (o:bU W g vm vt) (p:gI W) (r:aH (·<W.heap.size) W f 5 1 x.cells):
 jr jp 11 #[ja a,jf jg (d:je),v8 b,f] W λe w'=>∃q s u v w,gX g c W w' e q s u v w:=by
 rw[n];refine(Pi h b o r p i c j k l).mono ?_;rintro e w' ⟨q,m,t,y,z,B,C⟩;exact⟨q,m,t,_,_,y,N,N,z,B,C⟩
theorem BU(V U:VarT jp)(x:jj)(a:jt jd):(((x.alloc (jl V.Z V.t)).alloc (jl U.Z U.t)).setRow x.heap.size a).heap[x.heap.size+1]?=jb (jl U.Z U.t (0,0)):=by
 have h:=jF (x.alloc (jl V.Z V.t)) (jl U.Z U.t);rw[nv]at h;exact(jP _ _ _ _ Y).trans h
theorem JD(V U:VarT jp)(a B:jt jd)(x:jj):∃x' b,x'=(((x.alloc (jl V.Z V.t)).alloc (jl U.Z U.t)).setRow x.heap.size a).setRow (x.heap.size+1) B/\b=x.heap.size/\
 x'.heap[b]?=jb (jl a V.t (0,0))/\x'.heap[b+1]?=jb (jl B U.t (0,0))/\jm x x x':=by
 have c:((x.alloc (jl V.Z V.t)).alloc (jl U.Z U.t)).heap[x.heap.size]?=jb (jl V.Z V.t (0,0)):=av (jF x _) (ao _ _);have d:=(ao x (jl V.Z V.t)).trans ((ao (x.alloc (jl V.Z V.t)) (jl U.Z U.t)).mono (ao x (jl V.Z V.t)).size);refine⟨_,_,N,N,(jP _ _ _ _ Y).trans (j4 _ _ _ _ _ _ c),j4 _ _ _ _ _ _ (BU V U x a),o1 (o1 d (jA _) a) (Nat.le_succ _) B⟩
structure fA(d W:jj)(e f:jd)(g:Grp)(c:Cmt)(q:CQ)(m t:jd)(a b:jt jd):Prop where
 ac:a=(aF c q).toArray
 ag:b=(aD (aC g c) m t).toArray
 csz:a.size=VC.n
 cone:a.all (·.oneCell')=jh
 gsz:b.size=VG.n
 gone:b.all (·.oneCell')=jh
 ex:∃D:jo->Prop,aS D W c q/\dN D W (aC g c) m t/\∀k,D k->d.heap.size<=k/\k<W.heap.size/\e≠ptr k/\f≠ptr k
theorem fA.keep{e W f:jj}{i j:jd}{g:Grp}{c:Cmt}{q:CQ}{m t:jd}{l n:jt jd}(h:fA e W i j g c q m t l n)(d:jm W W f):fA e f i j g c q m t l n:=by
 obtain⟨o,p,r,s,u,v,D,w,x,b⟩:=h;exact⟨o,p,r,s,u,v,D,w.keep λk a=>d.block k (b k a).2.1,x.keep λk a=>d.block k (b k a).2.1,λk a=>⟨(b k a).1,ju (b k a).2.1 d.size,(b k a).2.2⟩⟩
theorem fA.c{d W:jj}{l f:jd}{g:Grp}{c:Cmt}{q:CQ}{m t:jd}{i j:jt jd}(h:fA d W l f g c q m t i j){n:jo}(y:W.heap.size<=n):fA d W (ptr n) f g c q m t i j:=by
 obtain⟨o,p,r,s,u,v,D,w,x,a⟩:=h;exact⟨o,p,r,s,u,v,D,w,x,λk b=>⟨(a k b).1,(a k b).2.1,λe=>(by injection e with e;injection e with e;injection e with e;have:=(a k b).2.1;omega),(a k b).2.2.2⟩⟩
theorem fA.g{d W:jj}{f l:jd}{g:Grp}{c:Cmt}{q:CQ}{m t:jd}{i j:jt jd}(h:fA d W f l g c q m t i j){n:jo}(y:W.heap.size<=n):fA d W f (ptr n) g c q m t i j:=by
 obtain⟨o,p,r,s,u,v,D,w,x,a⟩:=h;exact⟨o,p,r,s,u,v,D,w,x,λk b=>⟨(a k b).1,(a k b).2.1,(a k b).2.2.1,λe=>(by injection e with e;injection e with e;injection e with e;have:=(a k b).2.1;omega)⟩⟩
theorem fA.of{b W d:jj}{f i:jd}{g:Grp}{c:Cmt}{q:CQ}{m t:jd}{j l:jt jd}(h:gX g c W d e q m t j l)(n:b.heap.size<=W.heap.size)(o:∀k,W.heap.size<=k->f≠ptr k)(p:∀k,W.heap.size<=k->i≠ptr k):fA b d f i g c q m t j l:=
 ⟨h.ac,h.ag,h.csz,h.cone,h.gsz,h.gone,_,h.com,h.grp,λk a=>⟨jN n a.1,a.2,o k a.1,p k a.1⟩⟩
theorem fA.end{d W:jj}{C K:jo}{g:Grp}{m t:jd}{c q:jt jd}(h:fA d W (ptr C) (ptr K) g a b m t c q)(r:jm d d W)(l:W.heap[C]?=jb (jl VC.Z VC.t (0,0)))(s:d.heap.size<=C)
 (i:W.heap[K]?=jb (jl VG.Z VG.t (0,0))) (u:d.heap.size<=K):(W.setRow C c).heap[K]?=jb (jl VG.Z VG.t (0,0))/\∃y,y=(W.setRow C c).setRow K q/\y.heap[C]?=jb (jl c VC.t (0,0))/\y.heap[K]?=jb (jl q VG.t (0,0))/\aS (·<y.heap.size) y a b/\bU y (aC g a) m t/\jm d d y:=by
 have n:C≠K:=by
  rintro rfl;rw[l]at i;simp[VC,VG]at i
 obtain⟨z,B,-,-,-,-,D,v,w,j⟩:=h;have o:=(jP W C K c (Ne.symm n)).trans i;have x:((W.setRow C c).setRow K q).heap.size=W.heap.size:=by rw[setRow_size,setRow_size]
 have p:∀k,D k->((W.setRow C c).setRow K q).heap[k]?=W.heap[k]?:=λk f=>(jP _ K k q (λe=>(j k f).2.2.2 (by rw[e]))).trans (jP W C k c (λe=>(j k f).2.2.1 (by rw[e])))
 exact⟨o,_,N,(jP _ K C q n).trans (j4 W C _ c _ _ l),j4 _ K _ q _ _ o,(v.keep p).mono λk f=>by rw[x];exact(j k f).2.1,(w.keep p).grp,o1 (o1 r s c) u q⟩
def Uk(b:jj)(f s1 s2 s3 s29 s30 s31 s32 s33 s34 s35 s36:jd)(h E:jt jd)(g:Grp)(c:Cmt)(j:jo)(i k:Bool)(a:Act)(W:jj):Prop:=
 ∃T39 T40 T41 T37 T42 T43 T44 T4 T5,a={tmps:=#[f,s1,s2,s3,T4,T5,I,I,I,I,I,I,I,I,I,I,I,I,I,I,I,I,I,I,I,I,I,I,I,s29,s30,s31,s32,s33,s34,s35,s36,T37,ja h,T39,T40,T41,T42,T43,T44,I,I,I,I,I,I,I,I,I,I,I,I,I,I,I,I,I,I,I,I,I,I,I,I,I,I,I,I,I,I,I,I,I,I,I,I,I,I,I,I,I,I,I,I,I,I,I,I,I,I,I,I,I,I,I,I,I,I,I,I,I,I,I,I,I,I,I,I,I,I,I,I,I,I,I,I,I,I,I,I,I,I,I,I,I,I,I,I,I,I,I,I,I,I,I,I,I,I,I,I,I,I,I,I,I,I,I,I,I,I,I,I,I,I,I,I,I,I,I,I,I,I,I,I,I,I,I,I,I,I,I,I,I,I,I,I,I,I,I,I,I,I,I,I,I,I,I,I,I,I,I,I,I,I,I,I,I,I,I,I,I,I,I,I,I,I],defers:=[]}/\jm b b W/\(1<=j->T39=ja E)/\(2<=j->aH (·<W.heap.size) W T40 5 1 E.toList)/\
  (3<=j->∃q m t d e,T41=jw #[ja d,ja e,.bool jh]/\(4<=j->T37=T41)/\(5<=j->T42=ja d)/\(6<=j->T43=ja e)/\(7<=j->T44=.bool jh)/\fA b W T4 T5 g c q m t d e)/\
  ir VC.t VC.Z b i T4 W/\ir VG.t VG.Z b k T5 W
def OI(b:jj)(f s1 s2 s3 s4 s5 s6 s29 s30 s31 s32 s33 s34 s35 s36 s37 s38 s39 s40 s41 s42 s43 s44:jd)(h E:jt jd)(g:Grp)(c:Cmt)(j:jo)(i k:Bool)(a:Act)(W:jj):Prop:=
 ∃T47 T48 T49 T45 T50 T51 T52 T7 T8,a={tmps:=#[f,s1,s2,s3,s4,s5,s6,T7,T8,I,I,I,I,I,I,I,I,I,I,I,I,I,I,I,I,I,I,I,I,s29,s30,s31,s32,s33,s34,s35,s36,s37,s38,s39,s40,s41,s42,s43,s44,T45,ja h,T47,T48,T49,T50,T51,T52,I,I,I,I,I,I,I,I,I,I,I,I,I,I,I,I,I,I,I,I,I,I,I,I,I,I,I,I,I,I,I,I,I,I,I,I,I,I,I,I,I,I,I,I,I,I,I,I,I,I,I,I,I,I,I,I,I,I,I,I,I,I,I,I,I,I,I,I,I,I,I,I,I,I,I,I,I,I,I,I,I,I,I,I,I,I,I,I,I,I,I,I,I,I,I,I,I,I,I,I,I,I,I,I,I,I,I,I,I,I,I,I,I,I,I,I,I,I,I,I,I,I,I,I,I,I,I,I,I,I,I,I,I,I,I,I,I,I,I,I,I,I,I,I,I,I,I,I,I,I,I,I,I,I,I,I,I,I],defers:=[]}/\jm b b W/\(1<=j->T47=ja E)/\(2<=j->aH (·<W.heap.size) W T48 5 1 E.toList)/\
  (3<=j->∃q m t d e,T49=jw #[ja d,ja e,.bool jh]/\(4<=j->T45=T49)/\(5<=j->T50=ja d)/\(6<=j->T51=ja e)/\(7<=j->T52=.bool jh)/\fA b W T7 T8 g c q m t d e)/\
  ir VC.t VC.Z b i T7 W/\ir VG.t VG.Z b k T8 W
def Jo(b:jj)(f s1 s2 s3 s4 s5 s6 s7 s8 s9 s29 s30 s31 s32 s33 s34 s35 s36 s37 s38 s39 s40 s41 s42 s43 s44 s45 s46 s47 s48 s49 s50 s51 s52:jd)(h E:jt jd)(g:Grp)(c:Cmt)(j:jo)(i k:Bool)(a:Act)(W:jj):Prop:=
 ∃T55 T56 T57 T53 T58 T59 T60 T10 WQ,a={tmps:=#[f,s1,s2,s3,s4,s5,s6,s7,s8,s9,T10,WQ,I,I,I,I,I,I,I,I,I,I,I,I,I,I,I,I,I,s29,s30,s31,s32,s33,s34,s35,s36,s37,s38,s39,s40,s41,s42,s43,s44,s45,s46,s47,s48,s49,s50,s51,s52,T53,ja h,T55,T56,T57,T58,T59,T60,I,I,I,I,I,I,I,I,I,I,I,I,I,I,I,I,I,I,I,I,I,I,I,I,I,I,I,I,I,I,I,I,I,I,I,I,I,I,I,I,I,I,I,I,I,I,I,I,I,I,I,I,I,I,I,I,I,I,I,I,I,I,I,I,I,I,I,I,I,I,I,I,I,I,I,I,I,I,I,I,I,I,I,I,I,I,I,I,I,I,I,I,I,I,I,I,I,I,I,I,I,I,I,I,I,I,I,I,I,I,I,I,I,I,I,I,I,I,I,I,I,I,I,I,I,I,I,I,I,I,I,I,I,I,I,I,I,I,I,I,I,I,I,I,I,I,I,I,I,I],defers:=[]}/\jm b b W/\(1<=j->T55=ja E)/\(2<=j->aH (·<W.heap.size) W T56 5 1 E.toList)/\
  (3<=j->∃q m t d e,T57=jw #[ja d,ja e,.bool jh]/\(4<=j->T53=T57)/\(5<=j->T58=ja d)/\(6<=j->T59=ja e)/\(7<=j->T60=.bool jh)/\fA b W T10 WQ g c q m t d e)/\
  ir VC.t VC.Z b i T10 W/\ir VG.t VG.Z b k WQ W
theorem J2(w:jj)(a:gI w):jr jp 4 #[] w λe w'=>e=js (.bool jh)/\jm w w w':=by
 have f:=O (SSt.start a);clear a;obtain⟨ba,h⟩:=J AG3;have j:=O h;obtain⟨E1,a⟩:=J ((cR 1).cells.toArray);have i:jc (E1.size=5):=O (by rw[a];rfl);have m:jc (E1.toList=(cR 1).cells):=O (by rw[a]);have k:jc (∀W,jr jp 12 #[jf jg 1] W λe w'=>e=js (ja E1)/\jm W W w'):=O (λW=>by rw[a];exact FK 1 G W);have n:jc (∀(W:jj) (vl:jd),gI W->aH (·<W.heap.size) W vl 5 1 E1.toList->jr jp 11 #[ja ba,jf jg 1,jf .u8 1,vl] W λe w'=>∃q vm vt l AG,gX (aJ 3) bF W w' e q vm vt l AG):=O (λW vl Q hs=>by
  rw[m]at hs;exact vH (d:=1) G 1#8 wu.1 N lV lE.1 h (S9 W 3) Q hs)
 obtain⟨E0,b⟩:=J ((cR 0).cells.toArray);have WN:jc (E0.size=5):=O (by rw[b];rfl);have au:jc (E0.toList=(cR 0).cells):=O (by rw[b]);have Vz:jc (∀W,jr jp 12 #[jf jg 0] W λe w'=>e=js (ja E0)/\jm W W w'):=O (λW=>by rw[b];exact FK 0 G W);obtain⟨F1,c⟩:=J ((dI 1 5).cells.toArray);have Z5:jc (F1.size=5):=O (by rw[c];rfl);have a5:jc (F1.toList=(dI 1 5).cells):=O (by rw[c]);have U1:jc (∀W,jr jp 13 #[jf jg 1,jf jg 5] W λe w'=>e=js (ja F1)/\jm W W w'):=O (λW=>by rw[c];exact Gu 1 5 W);obtain⟨F0,g⟩:=J ((dI 0 5).cells.toArray);have bg:jc (F0.size=5):=O (by rw[g];rfl);have bk:jc (F0.toList=(dI 0 5).cells):=O (by rw[g]);have Va:jc (∀W,jr jp 13 #[jf jg 0,jf jg 5] W λe w'=>e=js (ja F0)/\jm W W w'):=O (λW=>by rw[g];exact Gu 0 5 W);clear h a b c g
 go_enter func4,ntmps4
 go_upto_region 1 with fail
 go_wp2_with (refine eB (v:=ja ba) aj (by rw[j];exact Jd N _) ?_;refine L ?_)
 refine(k w).mono ?_;rintro e x1 ⟨rfl,b⟩;replace f:=O (f.below b);clear b k
 go_wp2_with (refine qE N λ_ C=>RCg.wp_build (.tmp 31) N (ja E1) N i (C _ _ ?_);clear C;refine L ?_)
 have g:jc (aH (·<(x1.alloc (jl E1 RCg.e)).heap.size) (x1.alloc (jl E1 RCg.e)) (ji (jb ⟨x1,0,jn⟩) 1 1) 5 1 E1.toList):=O (uS (jF x1 _) i);replace f:=O (f.below (ao x1 (jl E1 RCg.e)));refine(n _ _ f.tab g).mono ?_;rintro e x2 ⟨q1,m1,t1,U,S,a⟩;obtain rfl:=a.ret;replace f:=O ((f.below a.bel).made a.com (λk h=>h.2) a.grp.grp);have c:=O a;have bh:=O a.ac;have bu:=O a.ag;clear a n g i m j
 go_upto_region 2 with(first|(refine VC.made N N (L ?_))|(refine VG.made N N ?_;rw[nv];refine L ?_)|(refine VC.store N N N U N c.csz c.cone (av (jF x2 _) (ao _ _)) VC.hZ (L ?_))|(refine VG.store N N N S N c.gsz c.gone (BU VC VG x2 U) VG.hZ (L ?_)))
 obtain⟨x3,B1,B,V,x,z,b⟩:=JD VC VG U S x2;rw[<-B,<-V];replace f:=O (((f.below b).block z).block x);have bb:jc (S.size=VG.n):=O c.gsz;have bd:jc (U.size=VC.n):=O c.csz;clear B V x z b c;have V8:jc (∀(W:jj) (vl:jd),gI W->bU W (aC (aJ 3) bF) m1 t1->aH (·<W.heap.size) W vl 5 1 E0.toList->jr jp 11 #[ja S,jf jg 1,jf .u8 2,vl] W λe w'=>∃q vm vt l AG,gX (aC (aJ 3) bF) bS W w' e q vm vt l AG):=O (λW vl Q hg hs=>by
  rw[au]at hs;exact vH (d:=1) G 2#8 wu.2.1 N ln lE.2.1 bu hg Q hs)
 have b:=bV x3;obtain⟨x4,B⟩:=J x3.drew;have HX:=O B;rw[<-B]at b;replace f:=O (f.below b);clear B b;refine jW ?_;refine uy (λu=>u.heap[B1+1]?=jb (jl S VG.t (0,0))) [0] [(1,jv),(2,jv),(3,jv),(4,jh),(5,jh),(6,jh),(7,jh)] 8 9 (.o 10 (.o 11 (.t 12 .done))) (Uk x4 (.bool jv) (ptr B1) (ptr (B1+1)) (.bool jh) (jw #[ja U,ja S,.bool jh]) (ja ba) (ja E1) (ji (jb ⟨x1,0,jn⟩) 1 1) (jw #[ja U,ja S,.bool jh]) (ja U) (ja S) (.bool jh) S E0 (aC (aJ 3) bF) bS) af af af af af G (λ_ _ _ _ h=>h) (by rw[<-HX];exact f.blk (_,_,_) ar) ?hIR2 ?hTR2 ?hCR2 ?h1R2 ?h2R2 ?hER2 ?h0R2
 case hIR2=>
  rintro j b1 b2 a W ⟨T39,T40,T41,T37,T42,T43,T44,T4,T5,rfl,b,x,z,D,r,s⟩;exact av (f.blk (_,_,_) ar) b
 case h1R2=>
  rintro j b2 a W ⟨T39,T40,T41,T37,T42,T43,T44,T4,T5,rfl,b,x,z,D,r,s⟩;refine jH (o:=_) N (λF C=>?_);rw[jz aj];refine fS VC.t N VC.Z VC.hal ?_;have c:=ao W (jl VC.Z VC.t);refine C _ _ ⟨T39,T40,T41,T37,T42,T43,T44,ptr W.heap.size,T5,N,b.trans (c.mono b.size),x,(λe=>((z e).keep λk g=>c.block k g).mono λk (g:k<W.heap.size)=>ju g c.size),λe=>?_,⟨λ_=>⟨_,N,jF _ _,b.size⟩,λh=>(by cases h)⟩,s.keep c⟩;obtain⟨q,m,t,l,p,X,E,H,M,P,n⟩:=D e;exact⟨q,m,t,l,p,X,E,H,M,P,(n.c (jA _)).keep c⟩
 case h2R2=>
  rintro j b1 a W ⟨T39,T40,T41,T37,T42,T43,T44,T4,T5,rfl,b,x,z,D,r,s⟩;refine jH (o:=_) N (λF C=>?_);rw[jz aj];refine fS VG.t N VG.Z VG.hal ?_;have c:=ao W (jl VG.Z VG.t);refine C _ _ ⟨T39,T40,T41,T37,T42,T43,T44,T4,ptr W.heap.size,N,b.trans (c.mono b.size),x,(λe=>((z e).keep λk g=>c.block k g).mono λk (g:k<W.heap.size)=>ju g c.size),λe=>?_,r.keep c,⟨λ_=>⟨_,N,jF _ _,b.size⟩,λh=>(by cases h)⟩⟩;obtain⟨q,m,t,l,p,X,E,H,M,P,n⟩:=D e;exact⟨q,m,t,l,p,X,E,H,M,P,(n.g (jA _)).keep c⟩
 case h0R2=>
  rw[<-HX]
  (refine nO (v:=ja S) N aj (λu hS=>cU VG.hu VG.hd (by rw[bb];exact VG.hi) N N hS) ?_;refine L ?_)
  exact⟨I,I,I,I,I,I,I,I,I,N,jD _ _,λh=>jq h G,λh=>jq h G,λh=>jq h G,⟨λh=>(by cases h),λ_=>rfl⟩,⟨λh=>(by cases h),λ_=>rfl⟩⟩
 case hTR2=>
  rintro j i K b1 b2 a W ⟨T39,T40,T41,T37,T42,T43,T44,T4,T5,rfl,b,x,z,D,r,s⟩
  rcases j with _ |_ |_ |_ |_ |_ |_ |j
  iterate 3 (·simp at K)
  ·obtain rfl:i=4:=ak K.symm
   obtain⟨q,m,t,l,p,X,E,H,M,P,n⟩:=D Y;refine⟨_,T41,N,.inl ⟨by rfl,λu hS=>.inl (by go_simp;try with_reducible rfl)⟩,?_⟩;exact⟨T39,T40,T41,T41,T42,T43,T44,T4,T5,N,b,λ_=>x Y,λ_=>z Y,λ_=>⟨q,m,t,l,p,X,λ_=>rfl,(λh=>jq h Y),(λh=>jq h Y),(λh=>jq h Y),n⟩,r,s⟩
  ·obtain rfl:i=5:=ak K.symm
   obtain⟨q,m,t,l,p,rfl,E,H,M,P,n⟩:=D Y;obtain rfl:=E Y;refine⟨_,ja l,N,.inl ⟨by rfl,λu hS=>.inl (by go_simp;try with_reducible rfl)⟩,?_⟩;exact⟨T39,T40,_,_,_,T43,T44,T4,T5,N,b,λ_=>x Y,λ_=>z Y,λ_=>⟨q,m,t,l,p,N,λ_=>rfl,λ_=>rfl,(λh=>jq h Y),(λh=>jq h Y),n⟩,r,s⟩
  ·obtain rfl:i=6:=ak K.symm
   obtain⟨q,m,t,l,p,rfl,E,H,M,P,n⟩:=D Y;obtain rfl:=E Y;refine⟨_,ja p,N,.inl ⟨by rfl,λu hS=>.inl (by go_simp;try with_reducible rfl)⟩,?_⟩;exact⟨T39,T40,_,_,T42,_,T44,T4,T5,N,b,λ_=>x Y,λ_=>z Y,λ_=>⟨q,m,t,l,p,N,λ_=>rfl,λ_=>H Y,λ_=>rfl,(λh=>jq h Y),n⟩,r,s⟩
  ·obtain rfl:i=7:=ak K.symm
   obtain⟨q,m,t,l,p,rfl,E,H,M,P,n⟩:=D Y;obtain rfl:=E Y;refine⟨_,.bool jh,N,.inl ⟨by rfl,λu hS=>.inl (by go_simp;try with_reducible rfl)⟩,?_⟩;exact⟨T39,T40,_,_,T42,T43,_,T4,T5,N,b,λ_=>x Y,λ_=>z Y,λ_=>⟨q,m,t,l,p,N,λ_=>rfl,λ_=>H Y,λ_=>M Y,λ_=>rfl,n⟩,r,s⟩
  simp at K
 case hCR2=>
  rintro j i K b1 b2 a W ⟨T39,T40,T41,T37,T42,T43,T44,T4,T5,rfl,b,x,z,D,r,s⟩
  rcases j with _ |_ |_ |_ |_ |_ |_ |j
  ·obtain rfl:i=1:=ak K.symm
   refine jH (o:=_) N (λF C=>?_);go_simp;refine(Vz W).mono ?_;rintro e u ⟨rfl,c⟩;exact C _ _ ⟨_,T40,T41,T37,T42,T43,T44,T4,T5,N,b.trans (c.mono b.size),λ_=>rfl,(λh=>jq h Y),(λh=>jq h Y),r.keep c,s.keep c⟩
  ·obtain rfl:i=2:=ak K.symm
   obtain rfl:=x Y;refine jH (o:=_) N (λF C=>?_);rw[jz aj];refine RCg.wp_build (.tmp 39) N (ja E0) N WN ?_;have c:=ao W (jl E0 RCg.e);exact C _ _ ⟨_,_,T41,T37,T42,T43,T44,T4,T5,N,b.trans (c.mono b.size),λ_=>rfl,λ_=>uS (jF W _) WN,(λh=>jq h Y),r.keep c,s.keep c⟩
  ·obtain rfl:i=3:=ak K.symm
   have ad:=z Y;obtain rfl:=x Y;clear z;refine jH (o:=_) N (λF C=>?_);go_simp;refine(V8 W _ ((f.below b).tab) ((f.below b).grp ((aC (aJ 3) bF),m1,t1) ar) ad).mono ?_;rintro e u ⟨q,m,t,l,p,hP⟩;obtain rfl:=hP.ret;have c:=hP.bel;exact C _ _ ⟨_,T40,_,T37,T42,T43,T44,T4,T5,N,b.trans (c.mono b.size),λ_=>rfl,λ_=>(ad.keep λk g=>c.block k g).mono λk (g:k<W.heap.size)=>ju g c.size,λ_=>⟨q,m,t,l,p,N,(λh=>jq h Y),(λh=>jq h Y),(λh=>jq h Y),(λh=>jq h Y),fA.of hP b.size (λk g=>r.ne g) (λk g=>s.ne g)⟩,r.keep c,s.keep c⟩
  iterate 5 (·simp at K)
 rintro a W ⟨T39,T40,T41,T37,T42,T43,T44,T4,T5,rfl,b,x,z,D,r,s⟩;obtain⟨q2,m2,t2,aa,R,rfl,E,H,M,P,n⟩:=D G;obtain rfl:=E G;obtain rfl:=H G;obtain rfl:=M G;obtain rfl:=P G;obtain⟨C2,rfl,hC,ax⟩:=r.1 N;obtain⟨K2,rfl,C,ay⟩:=s.1 N;obtain⟨a1,y,hy,y1,y2,y3,y4,y5⟩:=n.end b hC ax C ay;have a2:=(f.below b).blk (B1+1,S,VG.t) ar;have a3:=(f.below y5).blk (B1+1,S,VG.t) ar;have a6:=O n.csz;have bf:=O n.gsz;have bi:=O n.ac;have bl:=O n.ag;have a4:B1+1≠C2:=λe=>by have h:=(jI.1 (f.blk (B1+1,S,VG.t) ar)).1;dsimp only at h;omega
 replace f:=O ((((f.below y5).made y3 (λk h=>h) y4).block y2).block y1);refine aE N (λF Vo=>?_);rw[jz aj];refine jV VC.t _ _ N C2 aa N N VC.t VC.Z hC (by rw[a6];exact VC.hi) (VC.hZ.trans a6.symm) n.cone ?_;refine Vo _ _ ((jP W C2 _ aa a4).trans a2) λ_=>?_
 clear Vo;refine L ?_;refine aE N (λF Vo=>?_);rw[jz aj];refine jV VG.t _ _ N K2 R N N VG.t VG.Z a1 (by rw[bf];exact VG.hi) (VG.hZ.trans bf.symm) n.gone ?_;rw[<-hy];refine Vo _ _ a3 λ_=>?_
 clear Vo hC ax C ay b x z D E H M P n r s a1 hy y1 y2 y3 y4 y5 a2 a3 a4 HX;refine L ?_;refine aQ ?_;refine oj ?_;obtain⟨x5,B⟩:=J y;rw[<-B]at f⊢;clear B
 go_upto_region 3 with fail
 clear V8 Vz WN au bb;have WM:jc (∀(W:jj) (vl:jd),gI W->bU W (aC (aC (aJ 3) bF) bS) m2 t2->aH (·<W.heap.size) W vl 5 1 F1.toList->jr jp 11 #[ja R,jf jg 0,jf .u8 3,vl] W λe w'=>∃q vm vt l AG,gX (aC (aC (aJ 3) bF) bS) cS3 W w' e q vm vt l AG):=O (λW vl Q hg hs=>by
  rw[a5]at hs;exact vH (d:=0) G 3#8 wu.2.2.1 N D3 lE.2.2.1 bl hg Q hs)
 have b:=bV x5;obtain⟨x6,B⟩:=J x5.drew;have HX:=O B;rw[<-B]at b;replace f:=O (f.below b);clear B b;refine jW ?_;refine uy (λu=>u.heap[K2]?=jb (jl R VG.t (0,0))) [0] [(1,jv),(2,jv),(3,jv),(4,jh),(5,jh),(6,jh),(7,jh)] 8 9 (.o 10 (.o 11 (.t 12 .done))) (OI x6 (.bool jv) (ptr B1) (ptr (B1+1)) (.bool jh) (ptr C2) (ptr K2) (.bool jh) (jw #[ja U,ja S,.bool jh]) (ja ba) (ja E1) (ji (jb ⟨x1,0,jn⟩) 1 1) (jw #[ja U,ja S,.bool jh]) (ja U) (ja S) (.bool jh) (jw #[ja aa,ja R,.bool jh]) (ja S) (T39) (T40) (jw #[ja aa,ja R,.bool jh]) (ja aa) (ja R) (.bool jh) R F1 (aC (aC (aJ 3) bF) bS) cS3) af af af af af G (λ_ _ _ _ h=>h) (by rw[<-HX];exact f.blk (_,_,_) ar) ?hIR3 ?hTR3 ?hCR3 ?h1R3 ?h2R3 ?hER3 ?h0R3
 case hIR3=>
  rintro j b1 b2 a W ⟨T47,T48,T49,T45,T50,T51,T52,T7,T8,rfl,b,x,z,D,r,s⟩;exact av (f.blk (_,_,_) ar) b
 case h1R3=>
  rintro j b2 a W ⟨T47,T48,T49,T45,T50,T51,T52,T7,T8,rfl,b,x,z,D,r,s⟩;refine jH (o:=_) N (λF C=>?_);rw[jz aj];refine fS VC.t N VC.Z VC.hal ?_;have c:=ao W (jl VC.Z VC.t);refine C _ _ ⟨T47,T48,T49,T45,T50,T51,T52,ptr W.heap.size,T8,N,b.trans (c.mono b.size),x,(λe=>((z e).keep λk g=>c.block k g).mono λk (g:k<W.heap.size)=>ju g c.size),λe=>?_,⟨λ_=>⟨_,N,jF _ _,b.size⟩,λh=>(by cases h)⟩,s.keep c⟩;obtain⟨q,m,t,l,p,X,E,H,M,P,n⟩:=D e;exact⟨q,m,t,l,p,X,E,H,M,P,(n.c (jA _)).keep c⟩
 case h2R3=>
  rintro j b1 a W ⟨T47,T48,T49,T45,T50,T51,T52,T7,T8,rfl,b,x,z,D,r,s⟩;refine jH (o:=_) N (λF C=>?_);rw[jz aj];refine fS VG.t N VG.Z VG.hal ?_;have c:=ao W (jl VG.Z VG.t);refine C _ _ ⟨T47,T48,T49,T45,T50,T51,T52,T7,ptr W.heap.size,N,b.trans (c.mono b.size),x,(λe=>((z e).keep λk g=>c.block k g).mono λk (g:k<W.heap.size)=>ju g c.size),λe=>?_,r.keep c,⟨λ_=>⟨_,N,jF _ _,b.size⟩,λh=>(by cases h)⟩⟩;obtain⟨q,m,t,l,p,X,E,H,M,P,n⟩:=D e;exact⟨q,m,t,l,p,X,E,H,M,P,(n.g (jA _)).keep c⟩
 case h0R3=>
  rw[<-HX]
  (refine nO (v:=ja R) N aj (λu hS=>cU VG.hu VG.hd (by rw[bf];exact VG.hi) N N hS) ?_;refine L ?_)
  exact⟨I,I,I,I,I,I,I,I,I,N,jD _ _,λh=>jq h G,λh=>jq h G,λh=>jq h G,⟨λh=>(by cases h),λ_=>rfl⟩,⟨λh=>(by cases h),λ_=>rfl⟩⟩
 case hTR3=>
  rintro j i K b1 b2 a W ⟨T47,T48,T49,T45,T50,T51,T52,T7,T8,rfl,b,x,z,D,r,s⟩
  rcases j with _ |_ |_ |_ |_ |_ |_ |j
  iterate 3 (·simp at K)
  ·obtain rfl:i=4:=ak K.symm
   obtain⟨q,m,t,l,p,X,E,H,M,P,n⟩:=D Y;refine⟨_,T49,N,.inl ⟨by rfl,λu hS=>.inl (by go_simp;try with_reducible rfl)⟩,?_⟩;exact⟨T47,T48,T49,T49,T50,T51,T52,T7,T8,N,b,λ_=>x Y,λ_=>z Y,λ_=>⟨q,m,t,l,p,X,λ_=>rfl,(λh=>jq h Y),(λh=>jq h Y),(λh=>jq h Y),n⟩,r,s⟩
  ·obtain rfl:i=5:=ak K.symm
   obtain⟨q,m,t,l,p,rfl,E,H,M,P,n⟩:=D Y;obtain rfl:=E Y;refine⟨_,ja l,N,.inl ⟨by rfl,λu hS=>.inl (by go_simp;try with_reducible rfl)⟩,?_⟩;exact⟨T47,T48,_,_,_,T51,T52,T7,T8,N,b,λ_=>x Y,λ_=>z Y,λ_=>⟨q,m,t,l,p,N,λ_=>rfl,λ_=>rfl,(λh=>jq h Y),(λh=>jq h Y),n⟩,r,s⟩
  ·obtain rfl:i=6:=ak K.symm
   obtain⟨q,m,t,l,p,rfl,E,H,M,P,n⟩:=D Y;obtain rfl:=E Y;refine⟨_,ja p,N,.inl ⟨by rfl,λu hS=>.inl (by go_simp;try with_reducible rfl)⟩,?_⟩;exact⟨T47,T48,_,_,T50,_,T52,T7,T8,N,b,λ_=>x Y,λ_=>z Y,λ_=>⟨q,m,t,l,p,N,λ_=>rfl,λ_=>H Y,λ_=>rfl,(λh=>jq h Y),n⟩,r,s⟩
  ·obtain rfl:i=7:=ak K.symm
   obtain⟨q,m,t,l,p,rfl,E,H,M,P,n⟩:=D Y;obtain rfl:=E Y;refine⟨_,.bool jh,N,.inl ⟨by rfl,λu hS=>.inl (by go_simp;try with_reducible rfl)⟩,?_⟩;exact⟨T47,T48,_,_,T50,T51,_,T7,T8,N,b,λ_=>x Y,λ_=>z Y,λ_=>⟨q,m,t,l,p,N,λ_=>rfl,λ_=>H Y,λ_=>M Y,λ_=>rfl,n⟩,r,s⟩
  simp at K
 case hCR3=>
  rintro j i K b1 b2 a W ⟨T47,T48,T49,T45,T50,T51,T52,T7,T8,rfl,b,x,z,D,r,s⟩
  rcases j with _ |_ |_ |_ |_ |_ |_ |j
  ·obtain rfl:i=1:=ak K.symm
   refine jH (o:=_) N (λF C=>?_);go_simp;refine(U1 W).mono ?_;rintro e u ⟨rfl,c⟩;exact C _ _ ⟨_,T48,T49,T45,T50,T51,T52,T7,T8,N,b.trans (c.mono b.size),λ_=>rfl,(λh=>jq h Y),(λh=>jq h Y),r.keep c,s.keep c⟩
  ·obtain rfl:i=2:=ak K.symm
   obtain rfl:=x Y;refine jH (o:=_) N (λF C=>?_);rw[jz aj];refine RCg.wp_build (.tmp 47) N (ja F1) N Z5 ?_;have c:=ao W (jl F1 RCg.e);exact C _ _ ⟨_,_,T49,T45,T50,T51,T52,T7,T8,N,b.trans (c.mono b.size),λ_=>rfl,λ_=>uS (jF W _) Z5,(λh=>jq h Y),r.keep c,s.keep c⟩
  ·obtain rfl:i=3:=ak K.symm
   have ad:=z Y;obtain rfl:=x Y;clear z;refine jH (o:=_) N (λF C=>?_);go_simp;refine(WM W _ ((f.below b).tab) ((f.below b).grp ((aC (aC (aJ 3) bF) bS),m2,t2) ar) ad).mono ?_;rintro e u ⟨q,m,t,l,p,hP⟩;obtain rfl:=hP.ret;have c:=hP.bel;exact C _ _ ⟨_,T48,_,T45,T50,T51,T52,T7,T8,N,b.trans (c.mono b.size),λ_=>rfl,λ_=>(ad.keep λk g=>c.block k g).mono λk (g:k<W.heap.size)=>ju g c.size,λ_=>⟨q,m,t,l,p,N,(λh=>jq h Y),(λh=>jq h Y),(λh=>jq h Y),(λh=>jq h Y),fA.of hP b.size (λk g=>r.ne g) (λk g=>s.ne g)⟩,r.keep c,s.keep c⟩
  iterate 5 (·simp at K)
 rintro a W ⟨T47,T48,T49,T45,T50,T51,T52,T7,T8,rfl,b,x,z,D,r,s⟩;obtain⟨q3,m3,t3,au,AG3,rfl,E,H,M,P,n⟩:=D G;obtain rfl:=E G;obtain rfl:=H G;obtain rfl:=M G;obtain rfl:=P G;obtain⟨C3,rfl,hC,ax⟩:=r.1 N;obtain⟨K3,rfl,C,ay⟩:=s.1 N;obtain⟨a1,y,hy,y1,y2,y3,y4,y5⟩:=n.end b hC ax C ay;have a2:=(f.below b).blk (K2,R,VG.t) ar;have a3:=(f.below y5).blk (K2,R,VG.t) ar;have bb:=O n.csz;have bm:=O n.gsz;have bn:=O n.ac;have b0:=O n.ag;have a4:K2≠C3:=λe=>by have h:=(jI.1 (f.blk (K2,R,VG.t) ar)).1;dsimp only at h;omega
 replace f:=O ((((f.below y5).made y3 (λk h=>h) y4).block y2).block y1);refine aE N (λF Vo=>?_);rw[jz aj];refine jV VC.t _ _ N C3 au N N VC.t VC.Z hC (by rw[bb];exact VC.hi) (VC.hZ.trans bb.symm) n.cone ?_;refine Vo _ _ ((jP W C3 _ au a4).trans a2) λ_=>?_
 clear Vo;refine L ?_;refine aE N (λF Vo=>?_);rw[jz aj];refine jV VG.t _ _ N K3 AG3 N N VG.t VG.Z a1 (by rw[bm];exact VG.hi) (VG.hZ.trans bm.symm) n.gone ?_;rw[<-hy];refine Vo _ _ a3 λ_=>?_
 clear Vo hC ax C ay b x z D E H M P n r s a1 hy y1 y2 y3 y4 y5 a2 a3 a4 HX;refine L ?_;refine aQ ?_;refine oj ?_;obtain⟨x7,B⟩:=J y;rw[<-B]at f⊢;clear B
 go_upto_region 4 with fail
 clear WM U1 Z5 a5;have bo:jc (∀(W:jj) (vl:jd),gI W->bU W (aC (aC (aJ 3) bF) bS) m2 t2->aH (·<W.heap.size) W vl 5 1 F0.toList->jr jp 11 #[ja R,jf jg 1,jf .u8 4,vl] W λe w'=>∃q vm vt l AG,gX (aC (aC (aJ 3) bF) bS) cM W w' e q vm vt l AG):=O (λW vl Q hg hs=>by
  rw[bk]at hs;exact vH (d:=1) G 4#8 wu.2.2.2 N mY lE.2.2.2 bl hg Q hs)
 have b:=bV x7;obtain⟨x8,B⟩:=J x7.drew;have HX:=O B;rw[<-B]at b;replace f:=O (f.below b);clear B b;refine jW ?_;refine uy (λu=>u.heap[K2]?=jb (jl R VG.t (0,0))) [0] [(1,jv),(2,jv),(3,jv),(4,jh),(5,jh),(6,jh),(7,jh)] 8 9 (.o 10 (.o 11 (.t 12 .done))) (Jo x8 (.bool jv) (ptr B1) (ptr (B1+1)) (.bool jh) (ptr C2) (ptr K2) (.bool jh) (ptr C3) (ptr K3) (.bool jh) (jw #[ja U,ja S,.bool jh]) (ja ba) (ja E1) (ji (jb ⟨x1,0,jn⟩) 1 1) (jw #[ja U,ja S,.bool jh]) (ja U) (ja S) (.bool jh) (jw #[ja aa,ja R,.bool jh]) (ja S) (T39) (T40) (jw #[ja aa,ja R,.bool jh]) (ja aa) (ja R) (.bool jh) (jw #[ja au,ja AG3,.bool jh]) (ja R) (T47) (T48) (jw #[ja au,ja AG3,.bool jh]) (ja au) (ja AG3) (.bool jh) R F0 (aC (aC (aJ 3) bF) bS) cM) af af af af af G (λ_ _ _ _ h=>h) (by rw[<-HX];exact f.blk (_,_,_) ar) ?hIR4 ?hTR4 ?hCR4 ?h1R4 ?h2R4 ?hER4 ?h0R4
 case hIR4=>
  rintro j b1 b2 a W ⟨T55,T56,T57,T53,T58,T59,T60,T10,WQ,rfl,b,x,z,D,r,s⟩;exact av (f.blk (_,_,_) ar) b
 case h1R4=>
  rintro j b2 a W ⟨T55,T56,T57,T53,T58,T59,T60,T10,WQ,rfl,b,x,z,D,r,s⟩;refine jH (o:=_) N (λF C=>?_);rw[jz aj];refine fS VC.t N VC.Z VC.hal ?_;have c:=ao W (jl VC.Z VC.t);refine C _ _ ⟨T55,T56,T57,T53,T58,T59,T60,ptr W.heap.size,WQ,N,b.trans (c.mono b.size),x,(λe=>((z e).keep λk g=>c.block k g).mono λk (g:k<W.heap.size)=>ju g c.size),λe=>?_,⟨λ_=>⟨_,N,jF _ _,b.size⟩,λh=>(by cases h)⟩,s.keep c⟩;obtain⟨q,m,t,l,p,X,E,H,M,P,n⟩:=D e;exact⟨q,m,t,l,p,X,E,H,M,P,(n.c (jA _)).keep c⟩
 case h2R4=>
  rintro j b1 a W ⟨T55,T56,T57,T53,T58,T59,T60,T10,WQ,rfl,b,x,z,D,r,s⟩;refine jH (o:=_) N (λF C=>?_);rw[jz aj];refine fS VG.t N VG.Z VG.hal ?_;have c:=ao W (jl VG.Z VG.t);refine C _ _ ⟨T55,T56,T57,T53,T58,T59,T60,T10,ptr W.heap.size,N,b.trans (c.mono b.size),x,(λe=>((z e).keep λk g=>c.block k g).mono λk (g:k<W.heap.size)=>ju g c.size),λe=>?_,r.keep c,⟨λ_=>⟨_,N,jF _ _,b.size⟩,λh=>(by cases h)⟩⟩;obtain⟨q,m,t,l,p,X,E,H,M,P,n⟩:=D e;exact⟨q,m,t,l,p,X,E,H,M,P,(n.g (jA _)).keep c⟩
 case h0R4=>
  rw[<-HX]
  (refine nO (v:=ja R) N aj (λu hS=>cU VG.hu VG.hd (by rw[bf];exact VG.hi) N N hS) ?_;refine L ?_)
  exact⟨I,I,I,I,I,I,I,I,I,N,jD _ _,λh=>jq h G,λh=>jq h G,λh=>jq h G,⟨λh=>(by cases h),λ_=>rfl⟩,⟨λh=>(by cases h),λ_=>rfl⟩⟩
 case hTR4=>
  rintro j i K b1 b2 a W ⟨T55,T56,T57,T53,T58,T59,T60,T10,WQ,rfl,b,x,z,D,r,s⟩
  rcases j with _ |_ |_ |_ |_ |_ |_ |j
  iterate 3 (·simp at K)
  ·obtain rfl:i=4:=ak K.symm
   obtain⟨q,m,t,l,p,X,E,H,M,P,n⟩:=D Y;refine⟨_,T57,N,.inl ⟨by rfl,λu hS=>.inl (by go_simp;try with_reducible rfl)⟩,?_⟩;exact⟨T55,T56,T57,T57,T58,T59,T60,T10,WQ,N,b,λ_=>x Y,λ_=>z Y,λ_=>⟨q,m,t,l,p,X,λ_=>rfl,(λh=>jq h Y),(λh=>jq h Y),(λh=>jq h Y),n⟩,r,s⟩
  ·obtain rfl:i=5:=ak K.symm
   obtain⟨q,m,t,l,p,rfl,E,H,M,P,n⟩:=D Y;obtain rfl:=E Y;refine⟨_,ja l,N,.inl ⟨by rfl,λu hS=>.inl (by go_simp;try with_reducible rfl)⟩,?_⟩;exact⟨T55,T56,_,_,_,T59,T60,T10,WQ,N,b,λ_=>x Y,λ_=>z Y,λ_=>⟨q,m,t,l,p,N,λ_=>rfl,λ_=>rfl,(λh=>jq h Y),(λh=>jq h Y),n⟩,r,s⟩
  ·obtain rfl:i=6:=ak K.symm
   obtain⟨q,m,t,l,p,rfl,E,H,M,P,n⟩:=D Y;obtain rfl:=E Y;refine⟨_,ja p,N,.inl ⟨by rfl,λu hS=>.inl (by go_simp;try with_reducible rfl)⟩,?_⟩;exact⟨T55,T56,_,_,T58,_,T60,T10,WQ,N,b,λ_=>x Y,λ_=>z Y,λ_=>⟨q,m,t,l,p,N,λ_=>rfl,λ_=>H Y,λ_=>rfl,(λh=>jq h Y),n⟩,r,s⟩
  ·obtain rfl:i=7:=ak K.symm
   obtain⟨q,m,t,l,p,rfl,E,H,M,P,n⟩:=D Y;obtain rfl:=E Y;refine⟨_,.bool jh,N,.inl ⟨by rfl,λu hS=>.inl (by go_simp;try with_reducible rfl)⟩,?_⟩;exact⟨T55,T56,_,_,T58,T59,_,T10,WQ,N,b,λ_=>x Y,λ_=>z Y,λ_=>⟨q,m,t,l,p,N,λ_=>rfl,λ_=>H Y,λ_=>M Y,λ_=>rfl,n⟩,r,s⟩
  simp at K
 case hCR4=>
  rintro j i K b1 b2 a W ⟨T55,T56,T57,T53,T58,T59,T60,T10,WQ,rfl,b,x,z,D,r,s⟩
  rcases j with _ |_ |_ |_ |_ |_ |_ |j
  ·obtain rfl:i=1:=ak K.symm
   refine jH (o:=_) N (λF C=>?_);go_simp;refine(Va W).mono ?_;rintro e u ⟨rfl,c⟩;exact C _ _ ⟨_,T56,T57,T53,T58,T59,T60,T10,WQ,N,b.trans (c.mono b.size),λ_=>rfl,(λh=>jq h Y),(λh=>jq h Y),r.keep c,s.keep c⟩
  ·obtain rfl:i=2:=ak K.symm
   obtain rfl:=x Y;refine jH (o:=_) N (λF C=>?_);rw[jz aj];refine RCg.wp_build (.tmp 55) N (ja F0) N bg ?_;have c:=ao W (jl F0 RCg.e);exact C _ _ ⟨_,_,T57,T53,T58,T59,T60,T10,WQ,N,b.trans (c.mono b.size),λ_=>rfl,λ_=>uS (jF W _) bg,(λh=>jq h Y),r.keep c,s.keep c⟩
  ·obtain rfl:i=3:=ak K.symm
   have ad:=z Y;obtain rfl:=x Y;clear z;refine jH (o:=_) N (λF C=>?_);go_simp;refine(bo W _ ((f.below b).tab) ((f.below b).grp ((aC (aC (aJ 3) bF) bS),m2,t2) ar) ad).mono ?_;rintro e u ⟨q,m,t,l,p,hP⟩;obtain rfl:=hP.ret;have c:=hP.bel;exact C _ _ ⟨_,T56,_,T53,T58,T59,T60,T10,WQ,N,b.trans (c.mono b.size),λ_=>rfl,λ_=>(ad.keep λk g=>c.block k g).mono λk (g:k<W.heap.size)=>ju g c.size,λ_=>⟨q,m,t,l,p,N,(λh=>jq h Y),(λh=>jq h Y),(λh=>jq h Y),(λh=>jq h Y),fA.of hP b.size (λk g=>r.ne g) (λk g=>s.ne g)⟩,r.keep c,s.keep c⟩
  iterate 5 (·simp at K)
 rintro a W ⟨T55,T56,T57,T53,T58,T59,T60,T10,WQ,rfl,b,x,z,D,r,s⟩;obtain⟨q4,m4,t4,a5,bp,rfl,E,H,M,P,n⟩:=D G;obtain rfl:=E G;obtain rfl:=H G;obtain rfl:=M G;obtain rfl:=P G;obtain⟨C4,rfl,hC,ax⟩:=r.1 N;obtain⟨K4,rfl,C,ay⟩:=s.1 N;obtain⟨a1,y,hy,y1,y2,y3,y4,y5⟩:=n.end b hC ax C ay;have a2:=(f.below b).blk (K2,R,VG.t) ar;have a3:=(f.below y5).blk (K2,R,VG.t) ar;have bc:=O n.csz;have bq:=O n.gsz;have br:=O n.ac;have b1:=O n.ag;have a4:K2≠C4:=λe=>by have h:=(jI.1 (f.blk (K2,R,VG.t) ar)).1;dsimp only at h;omega
 replace f:=O ((((f.below y5).made y3 (λk h=>h) y4).block y2).block y1);refine aE N (λF Vo=>?_);rw[jz aj];refine jV VC.t _ _ N C4 a5 N N VC.t VC.Z hC (by rw[bc];exact VC.hi) (VC.hZ.trans bc.symm) n.cone ?_;refine Vo _ _ ((jP W C4 _ a5 a4).trans a2) λ_=>?_
 clear Vo;refine L ?_;refine aE N (λF Vo=>?_);rw[jz aj];refine jV VG.t _ _ N K4 bp N N VG.t VG.Z a1 (by rw[bq];exact VG.hi) (VG.hZ.trans bq.symm) n.gone ?_;rw[<-hy];refine Vo _ _ a3 λ_=>?_
 clear Vo hC ax C ay b x z D E H M P n r s a1 hy y1 y2 y3 y4 y5 a2 a3 a4 HX;refine L ?_;refine aQ ?_;refine oj ?_;obtain⟨x9,B⟩:=J y;rw[<-B]at f⊢;clear B
 go_upto_region 5 with fail
 clear bo Va bg bk
 go_upto_region 6 with(first|(refine VC.loadA aj N N au bb (f.blk (C3,au,VC.t) ar) (L ?_))|(refine VC.loadA aj N N aa a6 (f.blk (C2,aa,VC.t) ar) (L ?_))|(refine VC.loadA aj N N a5 bc (f.blk (C4,a5,VC.t) ar) (L ?_))|(refine VC.loadA aj N N U bd (f.blk (B1,U,VC.t) ar) (L ?_))|(refine RCm.four N _ _ _ _ N au aa a5 U N N N N bb a6 bc bd (L ?_)))
 obtain⟨bv,t,B,V,c,b⟩:=dl x9 (au.toList++(aa.toList++(a5.toList++U.toList))).toArray RCm.e;rw[<-B,<-V];obtain⟨LS,m⟩:∃l:jk CP,l=[(cS3,q3),(bS,q2),(cM,q4),(bF,q1)]:=⟨_,N⟩;have q:jc (cC bv (ji (jb ⟨t,0,jn⟩) 4 4) LS):=O (by
  rw[m];refine⟨⟨?_,_,4,N,jA _,(λe=>by cases e),λ_=>⟨t,0,N,(jI.1 c).1,λj u hj=>?_⟩⟩,λp F=>(f.below b).com p (by rcases(by simpa using F:p=(cS3,q3)\/p=(bS,q2)\/p=(cM,q4)\/p=(bF,q1))with h|h|h|h<;>simp[h])⟩
  ·have X:(aF cS3 q3).length=73:=by have h:=bb.out;rw[bn,jE]at h;exact h
   have e2:(aF bS q2).length=73:=by have h:=a6.out;rw[bi,jE]at h;exact h
   have e3:(aF cM q4).length=73:=by have h:=bc.out;rw[br,jE]at h;exact h
   have e4:(aF bF q1).length=73:=by have h:=bd.out;rw[bh,jE]at h;exact h
   simp only[o5,ql,jQ,List.length_nil,mB,X,e2,e3,e4]
   rfl
  have h:=c.out;rw[bn,bi,br,bh]at h;refine ai h ?_
  simpa [mB]using hj)
 have a1:=O m;replace f:=O (f.below b);clear B V b c m;obtain⟨I1,F⟩:=J (((aG bF).map v8).toArray);have WU:jc (I1.size=32):=O (by rw[F,jE,jB,dX]);have ay:jc (∀W,SSt w [(C4,a5,VC.t),(K4,bp,VG.t),(C3,au,VC.t),(K3,AG3,VG.t),(C2,aa,VC.t),(K2,R,VG.t),(B1,U,VC.t),(B1+1,S,VG.t)] [(cM,q4),(cS3,q3),(bS,q2),(bF,q1)] [(aC (aC (aC (aJ 3) bF) bS) cM,m4,t4),(aC (aC (aC (aJ 3) bF) bS) cS3,m3,t3),(aC (aC (aJ 3) bF) bS,m2,t2),(aC (aJ 3) bF,m1,t1)] W->jr jp 8 #[ja U] W λe w'=>e=js (ja I1)/\jm W W w'):=O (λW c=>by
  rw[bh,F];exact ti bF q1 W (c.com (bF,q1) ar) lE.1 c.tab.s.dig)
 obtain⟨m,X⟩:=J (#[jy .i64 3]++I1);have ax:jc (m=(dc 3 (aG bF)).toArray):=O (by rw[X,F];unfold dc;simp);have a2:=O X;have ZK:jc (m.size=VF.n):=O (by rw[ax,jE];unfold dc;rw[qi,jB,dX];rfl);have Z5:jc (m.all (·.oneCell')=jh):=O (by
  rw[ax,jX];intro u c;simp only[dc,qz,jR]at c
  rcases c with rfl|c
  ·rfl
  exact im _ u c)
 clear F X
 go_wp2_with (refine VC.loadA aj N N U bd (f.blk (B1,U,VC.t) ar) (L ?_))
 refine(ay _ f.out).mono ?_;rintro e bw ⟨rfl,b⟩;replace f:=O (f.below b);replace q:=O (q.below b);clear b ay
 go_upto_region 7 with(first|(refine eB (v:=ja m) aj (by rw[a2];exact O7 WU N N _) ?_;refine L ?_)|(refine VF.made N N (L ?_))|(refine VF.first N N N m N ZK Z5 (L ?_)))
 obtain⟨b2,F,B,V,X,b⟩:=dl bw m VF.t;rw[<-B,<-V];replace f:=O (((f.below b)).block X);replace q:=O (q.below b);clear B V b X a2 Z5 WU;have VS:jc (∀W,cC W (ji (jb ⟨t,0,jn⟩) 4 4) LS->bQ W->jr jp 6 #[ja m,(ji (jb ⟨t,0,jn⟩) 4 4)] W λe w'=>∃p1 X p2 c2,e=js (jw #[ji p1 3 X,ji p2 3 c2])/\
  aH (·<w'.heap.size) w' (ji p1 3 X) 1 3 [jf jg 3,jf jg 1,jf jg 2]/\jm W W w'):=O (λW h Q=>by
   rw[ax];rw[a1]at h;exact N1 _ W h Q)
 go_wp2_with (refine VF.loadA aj N N m ZK (f.blk (F,m,VF.t) ar) (L ?_))
 refine(VS _ q.out f.tab.s.dig).mono ?_;rintro e b3 ⟨pa,ka,pg,kg,rfl,ad,b⟩;replace f:=O (f.below b);replace q:=O (q.below b);have Vl:=O ad;clear b ad VS
 go_upto_region 8 with fail
 have Wc:jc (∀W,cC W (ji (jb ⟨t,0,jn⟩) 4 4) LS->bQ W->jr jp 14 #[ja m,(ji (jb ⟨t,0,jn⟩) 4 4)] W λe w'=>∃p1 X u2,e=js (jw #[ji p1 4 X,u2])/\
  aH (·<w'.heap.size) w' (ji p1 4 X) 1 4 [jf jg 3,jf jg 1,jf jg 2,jf jg 0]/\jm W W w'):=O (λW h Q=>by
   rw[ax];rw[a1]at h;exact Q1 _ W h Q)
 go_wp2_with (refine VF.loadA aj N N m ZK (f.blk (F,m,VF.t) ar) (L ?_))
 refine(Wc _ q.out f.tab.s.dig).mono ?_;rintro e b4 ⟨pl,kl,ul,rfl,ad,b⟩;replace f:=O (f.below b);replace q:=O (q.below b);replace Vl:=O ((Vl.keep λk g=>b.block k g).mono λk g=>ju g b.size);have ay:=O ad;clear b ad Wc
 go_upto_region 9 with fail
 have bg:jc (∀W,cC W (ji (jb ⟨t,0,jn⟩) 4 4) LS->bQ W->jr jp 15 #[ja m,(ji (jb ⟨t,0,jn⟩) 4 4)] W λe w'=>∃vm vt,e=js (jw #[ja (aD (aC cX cM) vm vt).toArray,.bool jh])/\bU w' (aC cX cM) vm vt/\jm W W w'):=O (λW h Q=>by
  rw[ax];rw[a1]at h;exact Lt _ W h Q)
 go_wp2_with (refine VF.loadA aj N N m ZK (f.blk (F,m,VF.t) ar) (L ?_))
 refine(bg _ q.out f.tab.s.dig).mono ?_;rintro e bA ⟨mn,tn,rfl,a3,b⟩;replace f:=O (f.below b);replace q:=O (q.below b);replace Vl:=O ((Vl.keep λk g=>b.block k g).mono λk g=>ju g b.size);replace ay:=O ((ay.keep λk g=>b.block k g).mono λk g=>ju g b.size);obtain⟨GN,a2⟩:=J ((aD (aC cX cM) mn tn).toArray);have bB:=O a2;have bC:jc (GN.size=VG.n):=O (by rw[a2,jE];exact eE a3.llen);have bk:jc (GN.all (·.oneCell')=jh):=O (by rw[a2,jX];exact λu c=>mi a3 u (ak c));have a4:=O a3;rw[<-a2];clear b bg a2 a3
 go_upto_region 10 with(first|(refine VG.made N N (L ?_))|(refine VG.first N N N GN N bC bk (L ?_)))
 obtain⟨bI,NB,B,V,Z8,b⟩:=dl bA GN VG.t;rw[<-B,<-V];replace f:=O ((f.below b).block Z8);replace q:=O (q.below b);replace a4:=O (a4.below b);replace Vl:=O ((Vl.keep λk g=>b.block k g).mono λk g=>ju g b.size);replace ay:=O ((ay.keep λk g=>b.block k g).mono λk g=>ju g b.size);clear B V b Z8 bk;have c:jc (S5 w _ _ _ (ji (jb ⟨t,0,jn⟩) 4 4) LS (aC cX cM) mn tn (ji pa 3 ka) (ji pl 4 kl) bI):=O (S5.mk f q a4 Vl ay);clear f q a4 Vl ay;obtain⟨ZG,f⟩:=J ((aD kw vN vN).toArray);have a4:=O f;clear f
 go_wp2_with (refine eB (v:=ja ZG) aj (by rw[a4];exact Ac N _) ?_;refine L ?_)
 rw[a4];refine(Ms _ c.s.tab.s.dig).mono ?_;rintro e b5 ⟨rfl,b⟩;replace c:=O (c.below b);clear b
 go_upto_region 11 with fail
 have f:jc (∀W,bQ W->jr jp 6 #[ja m,ji jn 0 0] W λe w'=>∃p1 X p2 c2,e=js (jw #[ji p1 0 X,ji p2 0 c2])/\jm W W w'):=O (λW Q=>by
  rw[ax];exact Jb _ (dX _) W Q)
 go_wp2_with (refine VF.loadA aj N N m ZK (c.s.blk (F,m,VF.t) ar) (L ?_))
 refine(f _ c.s.tab.s.dig).mono ?_;rintro e b6 ⟨b7,b8,b9,ca,rfl,b⟩;replace c:=O (c.below b);clear b;clear f
 go_upto_region 12 with fail
 obtain⟨k,f⟩:=J (kR jn);have ay:jc (k.size=VG.n):=O (by rw[f];exact VG.hZ);have g:jc (k.all (·.oneCell')=jh):=O (by rw[f];kernel_rfl);have a2:jc (k=(aD kw vN vN).toArray):=O (by rw[f];rfl);have q:jc (∀W,bQ W->jr jp 15 #[ja m,ji jn 0 0] W λe w'=>e=js (jw #[ja k,.bool jv])/\jm W W w'):=O (λW Q=>by
  rw[ax,f];exact OO _ (dX _) W Q)
 clear f
 go_wp2_with (refine VF.loadA aj N N m ZK (c.s.blk (F,m,VF.t) ar) (L ?_))
 refine(q _ c.s.tab.s.dig).mono ?_;rintro e bK ⟨rfl,b⟩;replace c:=O (c.below b);clear b;clear q
 go_upto_region 13 with(first|(refine VG.made N N (L ?_))|(refine VG.first N N N k N ay g (L ?_)))
 obtain⟨cb,ZB,B,V,bM,b⟩:=dl bK k VG.t;rw[<-B,<-V];replace c:=O (c.below b);replace c:=O (c.block bM);clear B V b;clear g;obtain⟨I2,q⟩:=J (((aG bS).map v8).toArray);have Yh:jc (I2.size=32):=O (by rw[q,jE,jB,dX]);have bg:jc (∀W,aS (·<W.heap.size) W bS q2->bQ W->jr jp 8 #[ja aa] W λe w'=>e=js (ja I2)/\jm W W w'):=O (λW h Q=>by
  rw[bi,q];exact ti bS q2 W h lE.2.1 Q)
 obtain⟨g,a3⟩:=J ((itC I2.toList 5).toArray);obtain⟨IL,bk⟩:=J ((itC I2.toList 6).toArray);have f:jc (ItP g (aG bS) 5/\ItP IL (aG bS) 6/\g.setIfInBounds 34 (jf jg 6)=IL):=O (by
  rw[a3,bk,q];exact⟨itP _ 5 (dX _),itP _ 6 (dX _),Ow _ 5 6 (by simp[dX])⟩)
 have bo:=O a3;clear q a3 bk
 go_wp2_with (refine VC.loadA aj N N aa a6 (c.s.blk (C2,aa,VC.t) ar) (L ?_))
 refine(bg _ (c.s.com (bS,q2) ar) c.s.tab.s.dig).mono ?_;rintro e bN ⟨rfl,b⟩;replace c:=O (c.below b);clear b;clear bg
 go_upto_region 14 with(first|(refine eB (v:=ja g) aj (by rw[bo];exact MO Yh N N _) ?_;refine L ?_)|(refine VIt.made N N (L ?_))|(refine VIt.first N N N g N f.1.sz f.1.one (L ?_)))
 obtain⟨a3,IB,B,V,bO,b⟩:=dl bN g VIt.t;rw[<-B,<-V];replace c:=O (c.below b);replace c:=O (c.block bO);clear B V b;clear bo Yh
 go_upto_region 15 with(first|(refine VIt.loadA aj N N g f.1.sz (c.s.blk (IB,g,VIt.t) ar) (L ?_))|(refine VIt.made N N (L ?_))|(refine VIt.first N N N g N f.1.sz f.1.one (L ?_)))
 obtain⟨bT,NL,B,V,q,b⟩:=dl a3 g VIt.t;rw[<-B,<-V];have bg:a3.heap.size<=NL:=qx V.symm;clear B V;have V:=ai (i:=34) q f.1.ctr;have bo:=gs (o:=34) q;have UE:=O b;have bk:=O bg;clear b bg
 go_upto_region 16 with fail
 clear V bo;have b:=Below.setCell UE.out (p:=⟨NL,34,jn⟩) bk (jf jg 6);have V:=ft (i:=34) (jf jg 6) q;rw[f.2.2]at V;obtain⟨cc,B⟩:=J (bT.setCell ⟨NL,34,jn⟩ (jf jg 6));rw[<-B]at b V⊢;replace c:=O (c.below b);replace c:=O (c.block V);clear B b V UE bk q;have q:jc (∀W,jr jp 17 #[ja k,ja k] W λe w'=>e=js (.bool jh)/\jm W W w'):=O (λW=>by
  rw[a2];exact Gv kw vN vN vN vN W (CE W) (CE W) G G)
 go_wp2_with (first|(refine VG.loadA aj N N k ay (c.s.blk (ZB,k,VG.t) ar) (L ?_))|(refine eB (v:=ja k) aj (by rw[a2];exact Ac N _) ?_;refine L ?_))
 refine(q _).mono ?_;rintro e V ⟨rfl,b⟩;replace c:=O (c.below b);clear b;clear q a2 ay
 go_upto_region 18 with fail
 have ay:jc (∀W u,c8 W u [3,1,2]->c8 W (ji pa 3 ka) [3,1,2]->jr jp 9 #[ji pa 3 ka,u] W λe w'=>e=js (.bool jh)/\jm W W w'):=O (λW u x z=>by
  exact I7 [3,1,2] [3,1,2] _ _ W z x G G)
 obtain⟨-,cd,ce,q,-,-,u⟩:=(show _ from c.al);obtain⟨gl,ol,a2,-,bg⟩:=u G;obtain rfl:pl=jb ⟨gl,ol,jn⟩:=by injection q with e;rw[e,a2]
 have VJ:=O bg;obtain⟨pm,km,bk,-⟩:=c.gi.mem.form;rw[TE oP]at bk;subst bk;have Z8:jc (V.cell? ⟨NB,34,jn⟩=jb (ji pm 1 km)):=O (ai (c.s.blk (NB,GN,VG.t) ar) (by rw[bB,j7];exact(lR c.gi.llen).2.2.1));have bo:jc (∀W,cC W (ji (jb ⟨t,0,jn⟩) 4 4) LS->bQ W->jr jp 18 #[ja m,(ji (jb ⟨t,0,jn⟩) 4 4),ja g] W λe w'=>e=js (.bool jh)/\jm W W w'):=O (λW h Q=>by
  rw[ax];rw[a1]at h;exact Dw _ W h Q g 5 f.1.id f.1.dev f.1.ctr)
 have bs:jc (∀W,cC W (ji (jb ⟨t,0,jn⟩) 4 4) LS->bQ W->jr jp 18 #[ja m,(ji (jb ⟨t,0,jn⟩) 4 4),ja IL] W λe w'=>e=js (.bool jv)/\jm W W w'):=O (λW h Q=>by
  rw[ax];rw[a1]at h;exact Dw _ W h Q IL 6 f.2.1.id f.2.1.dev f.2.1.ctr)
 have Vz:jc (∀W,bQ W->jr jp 18 #[ja m,ji jn 0 0,ja g] W λe w'=>e=js (.bool jv)/\jm W W w'):=O (λW Q=>by
  rw[ax];exact J8 _ (dX _) W Q g (aG bS) (dX _) 0 5 f.1.id f.1.dev f.1.ctr)
 clear u bg q a2
 go_wp2_with fail
 have b:=ao V (jl #[jf jg 3,jf jg 1,jf jg 2] 3);have Q:=jF V (jl #[jf jg 3,jf jg 1,jf jg 2] 3);obtain⟨u,B⟩:=J (V.alloc (jl #[jf jg 3,jf jg 1,jf jg 2] 3));obtain⟨I3,a2⟩:=J V.heap.size;rw[<-B,<-a2]at Q⊢;rw[<-B]at b;have c0:u.cell? ⟨gl,ol,jn⟩=jb (jf jg 3):=aB (VJ 0 _ N) b;have X:u.cell? ⟨gl,ol+1,jn⟩=jb (jf jg 1):=aB (VJ 1 _ N) b;have c2:u.cell? ⟨gl,ol+2,jn⟩=jb (jf jg 2):=aB (VJ 2 _ N) b;have c3:u.cell? ⟨gl,ol+3,jn⟩=jb (jf jg 0):=aB (VJ 3 _ N) b;have c4:=aB Z8 b;replace c:=O (c.below b);have K:c8 u (ji (jb ⟨I3,0,jn⟩) 3 3) [3,1,2]:=⟨_,3,N,by decide,λ_=>⟨I3,0,rfl,λj hj=>by rw[pz];exact ai Q (by match j,hj with|0,_=>rfl|1,_=>rfl|2,_=>rfl)⟩⟩;refine(ay u _ K (aH.ints (l:=[3,1,2]) c.at_)).mono ?_;rintro e bg ⟨rfl,q⟩;replace c:=O (c.below q);replace c0:=aB c0 q;replace X:=aB X q;replace c2:=aB c2 q;replace c3:=aB c3 q;replace c4:=aB c4 q;clear b q K Q B a2 ay VJ Z8
 go_wp2_with (first|(refine VF.loadA aj N N m ZK (c.s.blk (F,m,VF.t) ar) (L ?_))|(refine VIt.loadA aj N N g f.1.sz (c.s.blk (IB,g,VIt.t) ar) (L ?_)))
 clear c0 X c2 c3 c4;refine(bo _ c.ci c.s.tab.s.dig).mono ?_;rintro e q ⟨rfl,b⟩;replace c:=O (c.below b);clear b;clear bo
 go_wp2_with (first|(refine VF.loadA aj N N m ZK (c.s.blk (F,m,VF.t) ar) (L ?_))|(refine VIt.loadA aj N N IL f.2.1.sz (c.s.blk (NL,IL,VIt.t) ar) (L ?_)))
 refine(bs _ c.ci c.s.tab.s.dig).mono ?_;rintro e B ⟨rfl,b⟩;replace c:=O (c.below b);clear b;clear bs
 go_wp2_with (first|(refine VF.loadA aj N N m ZK (c.s.blk (F,m,VF.t) ar) (L ?_))|(refine VIt.loadA aj N N g f.1.sz (c.s.blk (IB,g,VIt.t) ar) (L ?_)))
 refine(Vz _ c.s.tab.s.dig).mono ?_;rintro e Q ⟨rfl,b⟩;replace c:=O (c.below b);clear b;clear Vz
 go_wp2_with fail
 go_ret;exact⟨N,c.s.bel⟩
end
section
section
variable {P:Program} {ops:jt jO} {Q:Exit->Act->jj->Prop}
end
structure NxA(g:Grp)(c:Cmt)(W w':jj)(e:mz)(X:jt jd)(m t:jd):Prop where
 ret:e=js (jw #[ja X,jf jg (cA g c)])
 sz:X.size=VG.n
 one:X.all (·.oneCell')=jh
 ok:cA g c=0->X=(aD (aC g c) m t).toArray/\bU w' (aC g c) m t
 bel:jm W W w'
theorem Jq(g:Grp)(vm vt:jd)(c:Cmt)(q:CQ)(w:jj)(h:bU w g vm vt)(f:aS (·<w.heap.size) w c q)(i:cY (aR c))(j:bQ w)(k:g.mem.length<=900000)(l:g.tree.length<=600000):
 jr jp 7 #[ja (aD g vm vt).toArray,ja (aF c q).toArray] w λe w'=>∃X m t,NxA g c w w' e X m t:=by
 refine(yV g vm vt c q w h f i j k l).mono ?_;rintro e w' ⟨n,o,d⟩
 by_cases a:cA g c=0
 ·obtain⟨m,t,rfl,b,-,-⟩:=n a
  refine⟨_,m,t,by rw[a],by rw[jE];exact eE b.llen,?_,λ_=>⟨N,b⟩,d⟩;rw[jX];exact λu p=>mi b u (ak p)
 exact⟨_,jf jg 0,jf jg 0,o a,VG.hZ,by kernel_rfl,λh=>jq h a,d⟩
end
section
open Go.RowKit Go.ChangeShapes Go.WideShapes Go.Deep
theorem Ra{enc:jC×jd->H}{d:j5 H}(h:DataW.Trod enc jp w 0 (λ_=>jh) jh 25 u d p)(k:qa jp w .any x 25 u):
 ∃(l:je) (b:LBy),u=.agg (dc l b).toArray/\b.length=32:=by
 obtain⟨q,rfl,B⟩:=okWide_struct qF k;obtain⟨cl⟩:=q;obtain⟨fuel,c⟩:=h;have r:(ob ⟨cl⟩).cells.toList=cl:=N;rw[r]at c;obtain⟨xs,n,-,-,s,t,e⟩:=DataW.trod_struct qF c;have C:cl.length=33:=s.trans af;have v:jp.cellsOf 3=1:=by kernel_rfl
 have f:jp.cellsOf 23=32:=by kernel_rfl
 match xs,t with
 |[y0,y1],_=>
  have g:=e 0 _ N;have i:=e 1 _ N;simp only[List.getElem_toArray,List.getElem_cons_zero,List.getElem_cons_succ,v,f]at g i;obtain⟨W,base,-,w0⟩:=DataW.trod_int underlying3 g;obtain⟨kb,y,z⟩:=zD underlying23 f i;refine⟨W,kb,?_,z⟩;have a:=k6 (cl:=cl) (o:=0) (n:=1) (m:=1) N;have j:=k6 (cl:=cl) (o:=1) (n:=32) (m:=33) N;rw[base,List.drop_zero]at a;have bz:cl.drop 33=[]:=List.drop_eq_nil_of_le Y;rw[y,bz,o8]at j;rw[j]at a;rw[a];rfl
structure It where
 f:je
 id:LBy
 dev:je
 ctr:je
 kd:je
 sz:je
 a:je
 b:je
 pad:LBy
 r:je
 s:je
def It.cells(x:It)(body:jd):jk jd:=[.int .i64 x.f]++(x.id.map v8++([.int .i64 x.dev]++([.int .i64 x.ctr]++([.int .i64 x.kd]++([.int .i64 x.sz]++(([.int .i64 x.a]++([.int .i64 x.b]++x.pad.map v8))++([body]++[.int .i64 x.r,.int .i64 x.s])))))))
structure ItG(a:jt jd)(b:LBy)(c d:je):Prop where
 sz:a.size=74
 one:a.all (·.oneCell')=jh
 id:∀t u,(b.map v8)[t]?=jb u->a[1+t]?=jb u
 dev:a[33]?=jb (.int .i64 c)
 ctr:a[34]?=jb (.int .i64 d)
theorem KQ{enc:jC×jd->H}{v:jd}{d:j5 H}(h:DataW.Trod enc jp w 0 (λ_=>jh) jh 26 v d p)(b:qa jp w .any x 26 v):
 ∃a:jk CP,cC w v a/\a.length<=jU/\∀p∈a,td p.1:=by
 obtain⟨c,e,f,rfl⟩:=okWide_slice qk b;obtain⟨fuel,g⟩:=h;exact N7 (v:=.slice c e f) qk (by simpa [j8]using g)
theorem Jk{l:jk Cmt}{c:aN}(h:c∈dU a b l):∃g,gT g l c:=by
 rw[ov]at h
 cases hf:eI a b l with
 |none=>rw[hf]at h;cases h
 |some d=>
  rw[hf]at h;obtain⟨k,e⟩:=List.mem_iff_getElem?.1 h;exact⟨_,(Rc d (aJ a) (Ao hf).1 k c e).1⟩
theorem gT.small{d:jk Cmt}{S:aN}(h:gT f d S):S.leads.mem.length<=512/\S.leads.tree.length<=1023:=by
 rw[h.leads];exact oU (iw (rX h))
theorem OY(a:je)(b:LBy)(l:jk Cmt):(dU a b l).length<=l.length+1:=zi l _ _
end

theorem S6(w:jj)(a B:jt jd)(t1 t2:jC):∃x M,x=(w.alloc (jl a t1)).alloc (jl B t2)/\M=w.heap.size/\x.heap[M]?=jb (jl a t1 (0,0))/\x.heap[M+1]?=jb (jl B t2 (0,0))/\jm w w x:=by
 obtain⟨x1,M,b,c,f,d⟩:=dl w a t1;obtain⟨x2,g,h,i,j,e⟩:=dl x1 B t2;have k:g=M+1:=by rw[i,b,nv,c]
 subst k;exact⟨x2,M,by rw[h,b],c,av f e,j,d.trans (e.mono d.size)⟩
theorem ItG.set{d:jt jd}{c:LBy}{f g m:je}(h:ItG d c f g)(j:c.length=32):ItG (d.setIfInBounds 34 (jf jg m)) c f m:=by
 have k:=h.sz;refine⟨by rw[Array.size_setIfInBounds];exact k,?_,λt u b=>?_,?_,?_⟩
 ·rw[jX]
  intro u b;obtain⟨i,a⟩:=Array.mem_iff_getElem?.1 b
  by_cases e:i=34
  ·subst e
   rw[qM Y]at a;injection a with a
   rw[<-a];rfl
  rw[qA (Ne.symm e)]at a;exact jX.1 h.one u (Array.mem_of_getElem? a)
 ·have a:t<32:=by have:=(jT.1 b).1;rwa [jB,j]at this
  rw[qA Y];exact h.id t u b
 ·rw[qA Y];exact h.dev
 rw[qM Y]
section
section
variable {P:Program} {ops:jt jO} {Q:Exit->Act->jj->Prop}
theorem dQ.run_build0(R:dQ P)(w:jj):(Instr.buildSlice R.t 0 #[]).run P w=.ok (ji (jb ⟨w,0,jn⟩) 0 0) (w.alloc (jl #[] R.e)):=by
 simp[Instr.buildSlice,qD R.ht,sizeOf,typeInfo,R.hi,Instr.fill,newRow];rw[show Array.range 0=(#[]:jt jo) by decide,Array.map_empty]
theorem dQ.wp_build0(R:dQ P){o:jO}{a:Act}{w:jj}{K:Act->jj->Prop}(b:o.op=.buildSlice R.t 0 #[])
 (h:K (a.put o.dst (ji (jb ⟨w,0,jn⟩) 0 0)) (w.alloc (jl #[] R.e))):o.wp P a w K Q:=by
 refine Bz (v:=ji (jb ⟨w,0,jn⟩) 0 0) (w':=w.alloc (jl #[] R.e)) ?_ h;unfold j3;simp only[b,qh,jK,Sem.run_bind,R.run_build0 w,Result.andThen_ok,Sem.run_pure]
theorem dQ.copy_one(R:dQ P){S:jj->Prop}{f:jo}{a:Act}{w:jj}{r:bE}{B D F H:jO}{k0 k2 kb k5 p r2 rb r5 U s:jo}(hs:Region.noSelect ops=jh)(au:∀c a d w,Q (.panic c) a w->Q (.panic c) d w)
 (ax:mj ops kb k0=jh) (ay:mj ops kb k2=jh) (h0:ops[k0]?=jb B) (h2:ops[k2]?=jb D) (h4:ops[kb]?=jb F) (h5:ops[k5]?=jb H)
 (g0:B.guard=jn) (g2:D.guard=jn) (g4:F.guard=jn) (g5:H.guard=jn) (d0:B.dst=jb p) (d2:D.dst=jb r2) (d4:F.dst=jb rb) (d5:H.dst=jb r5)
 (p0:B.op=.buildSlice R.t 0 #[]) (p2:D.op=.call {callee:=.builtin .append,args:=#[.tmp p,.tmp U],argTypes:=#[R.t,R.t]})
 (p4:F.op=.buildSlice R.t 1 #[(0,.tmp s)]) (p5:H.op=.call {callee:=.builtin .append,args:=#[.tmp r2,.tmp rb],argTypes:=#[R.t,R.t]})
 (l0:p<a.tmps.size) (l2:r2<a.tmps.size) (lb:rb<a.tmps.size) (q1:p≠U) (q2:p≠s) (q3:r2≠s) (q4:rb≠r2)
 {u:jd} {n:jo} {xs:jk jd} {C:jt jd} (eu:a.eval (.tmp U)=u) (hu:cF w u R.k n xs) (a1:∀u∈xs,u.oneCell'=jh) (V:a.eval (.tmp s)=ja C) (hC:C.size=R.k) (a2:∀u∈C.toList,u.oneCell'=jh) (hn:n<=900000)
 (aa:∀w',jm w w w'->S w')
 (hQ:∀b l c v w',w'.ownsRow w R.e R.k v (n+1) (xs++C.toList)->jm w w w'->cV P ops Q S f r ((((a.put (jb p) b).put (jb r2) l).put (jb rb) c).put (jb r5) v) w'):
 cV P ops Q S f (.w k0 kb (.w k2 kb (.o kb (.o k5 r)) (.o k2 (.o k5 r))) (.o k0 (.o k2 (.o k5 r)))) a w:=by
 refine G9 (Tf:=λx=>x) (E:=λx=>x) h4 hs au ax ay (λj d w' t=>jm w w w'/\
  (∀v,t=jb v->∃g,v=ji (jb ⟨g,0,jn⟩) 1 1/\w.heap.size<=g/\w'.heap[g]?=jb (jl C R.e (0,0)))/\
  match j with
  |0=>d=a
  |1=>∃b,d=a.put (jb p) b/\w'.ownsRow w R.e R.k b 0 []/\∀g,t=jb (ji (jb ⟨g,0,jn⟩) 1 1)->∀k,b.ownBlock=jb k->k≠g
  |j+2=>∃b l,d=(a.put (jb p) b).put (jb r2) l/\w'.ownsRow w R.e R.k l n xs/\∀g,t=jb (ji (jb ⟨g,0,jn⟩) 1 1)->∀k,l.ownBlock=jb k->k≠g)
  ⟨jD _ _,(λv e=>by cases e),rfl⟩ (λ_ _ _ _ x=>aa _ x.1) ?_ ?_ ?_ (λa w t h=>⟨h,λR h=>h,λv R h=>h⟩) ?_
 ·rintro K d t ⟨c,q,rfl⟩
  refine rH h0 g0 (R.wp_build0 p0 ?_);rw[d0];have y:=ao d (jl #[] R.e);refine⟨c.trans (y.mono c.size),λv e=>?_,_,N,uY d [] R.e R.k 0 w.heap.size c.size (Nat.zero_mul _).symm (jS _),λg e k m=>?_⟩
  ·obtain⟨g,rfl,z,k2⟩:=q v e
   exact⟨g,N,z,av k2 y⟩
  obtain⟨g',W,z,k2⟩:=q _ e;obtain rfl:g=g':=ak W;have a3:=(jI.1 k2).1;have:k=d.heap.size:=by
   have h:(Value.slice (jb ⟨d,0,jn⟩) 0 0).ownBlock=jb d.heap.size:=N;rw[h]at m;exact(qo.inj m).symm
  omega
 ·rintro K d t ⟨c,q,b,rfl,o,X⟩
  have a4:=R.hbb;refine rH h2 g2 (m0 _ _ R.t p2 w.heap.size R.e R.i R.z R.k R.b R.ht R.hi R.hz R.hs R.hb R.hzs R.h0 b 0 [] (su l0) o u n xs ((fB q1).trans eu) (hu.below c) a1 (by unfold jU;omega) (by
   have h2:(0+n)*R.b<=900000*8000:=Nat.mul_le_mul Y a4
   omega) c.size ?_)
  intro v' w' M i ad;rw[d2];rw[pz,List.nil_append]at M;refine⟨c.trans ⟨i.os,i.tape,i.output,i.size,λk hk=>i.block k (ju hk c.size) (λe=>by have:=(o.lt k e.symm).1;omega)⟩,λv e=>?_,_,_,N,M,λg e k m=>?_⟩
  ·obtain⟨gb,rfl,z,k2⟩:=q v e
   exact⟨gb,N,z,(i.block gb (jI.1 k2).1 (λe2=>X gb e gb e2.symm N)).trans k2⟩
  obtain⟨a5,W,z,k2⟩:=q _ e;obtain rfl:g=a5:=ak W;have a3:=(jI.1 k2).1
  rcases ad with h|h
  ·rw[h]at m
   exact X g e k m
  rw[h]at m
  cases m
  omega
 ·intro j K d x
  obtain⟨c,q,x⟩:=x;have t:K.eval (.tmp s)=ja C:=by
   match j,x with
   |0,h=>rw[h];exact V
   |1,⟨b,h,_⟩=>rw[h];exact(fB q2).trans V
   |j+2,⟨b,l,h,_⟩=>rw[h];exact(fB q3).trans ((fB q2).trans V)
  refine rH h4 g4 (R.wp_build _ p4 (ja C) t hC ?_);have y:=ao d (jl C R.e);refine⟨_,N,c.trans (y.mono c.size),λv e=>?_,?_⟩
  ·injection e with e
   exact⟨_,e.symm,c.size,jF d _⟩
  match j,x with
  |0,h=>exact h
  |1,⟨b,h,o,_⟩=>
   refine⟨b,h,cK o y,λg e k m=>?_⟩;have W:d.heap.size=g:=ak e;have:=(o.lt k m).2;omega
  |j+2,⟨b,l,h,o,_⟩=>
   refine⟨b,l,h,cK o y,λg e k m=>?_⟩;have W:d.heap.size=g:=ak e;have:=(o.lt k m).2;omega
 rintro K d v ⟨c,q,b,l,rfl,o,X⟩;obtain⟨gb,rfl,z,k2⟩:=q v N;rw[d4];refine cO h5 λj h=>?_
 rw[jz (by unfold Region.wanted;simp[g5])];refine R.wp_append _ _ p5 w.heap.size l n xs ((fB q4).trans (su (by rw[pO];exact l2))) o gb C (su (by rw[pO,pO];exact lb)) k2 hC a2 Y c.size λv' w' M i ad=>?_
 have g:jm w w w':=c.trans ⟨i.os,i.tape,i.output,i.size,λk hk=>i.block k (ju hk c.size) (λe=>by have:=(o.lt k e.symm).1;omega)⟩;refine h _ _ (aa _ g) λ_=>?_
 rw[d5];exact hQ b l _ v' w' M g
end
end
theorem DV{W w0:jj}{b:jk CP}{c:Cmt}{q:CQ}{v:jd}{B n:jo}{e:jC}{d:jt jd}(h:W.ownsRow B e 73 v (n+1) (b.flatMap mB++d.toList))(i:n=b.length)(j:d=(aF c q).toArray)(k:∀p∈b,aS (·<W.heap.size) W p.1 p.2)(l:aS (·<W.heap.size) W c q):cC W v (b++[(c,q)]):=by
 have f:=aH.of_own (D:=(·<W.heap.size)) h (λg a=>(h.lt g a).2);refine⟨?_,λp a=>?_⟩
 ·rw[qu,o5,ql,o8,jQ,j1,<-i]
  rw[j]at f;exact f
 rcases jL.1 a with a|a
 ·exact k p a
 rw[jM]at a;rw[a];exact l
theorem IU{e:jk CP}(h:cC w u e):∀v∈e.flatMap mB,v.oneCell'=jh:=λv b=>by
 obtain⟨p,c,d⟩:=qK.1 b;exact lU (h.all p c) v d
theorem Oa{D:jo->Prop}{c:Cmt}{q:CQ}(h:aS D w c q):((aF c q).toArray).size=VC.n/\∀u∈((aF c q).toArray).toList,u.oneCell'=jh:=
 ⟨by rw[jE];exact dx _ _ h.plen h.clen,λu a=>lU h u (ak a)⟩
def gpK(k:CK):GP:=(k.g,k.vm,k.vt)
theorem EU(Ks:jk CK):(Ks.map gpK).flatMap Ht=Ks.flatMap λk=>aD k.g k.vm k.vt:=by rw[List.flatMap_map];rfl
theorem L1{a:jk CK}{l:jk aN}(b:m.map CK.cand=l)(d:a.map CK.cand=l):(m.map λk=>(k.ix:je))=(a.map λk=>(k.ix:je))/\(m.map gpK).map (·.1)=(a.map gpK).map (·.1)/\m.length=a.length:=by
 have e:∀l:jk CK,(l.map λk=>(k.ix:je))=(l.map CK.cand).map λc=>(c.ix:je):=λl=>by rw[ms];rfl
 have f:∀l:jk CK,(l.map gpK).map (·.1)=(l.map CK.cand).map aN.leads:=λl=>by rw[ms,ms];rfl
 refine⟨by rw[e,e,b,d],by rw[f,f,b,d],?_⟩;have:=jJ n0 (b.trans d.symm)
 simpa using this
theorem Ry(aa:je)(UJ:LBy)(h:UJ.length=32)(F:jk CP)(vl:jd)(c:Cmt)(q:CQ)(w:jj)(b:cC w vl F)(k:F.length<=900000)(m:∀p∈F,td p.1)(hc:aS (·<w.heap.size) w c q)(n:td c)(t:gI w):
 jr jp 3 #[ja (dc aa UJ).toArray,vl,ja (aF c q).toArray] w λe w'=>e=js (.bool jh)/\jm w w w':=by
 obtain⟨p1,k1,rfl⟩:=b.form;obtain⟨a1,hN⟩:=J F.length;rw[<-hN]at b⊢;obtain⟨H,a⟩:=J ((dc aa UJ).toArray);obtain⟨B,g⟩:=J ((aF c q).toArray);have ZK:jc (H.size=VF.n):=O (by rw[a,jE];unfold dc;rw[qi,jB,h];rfl);have Z5:jc (∀j v,(UJ.map v8)[j]?=jb v->H[1+j]?=jb v):=O (λj v hj=>by rw[a,j7,Nat.add_comm];exact hj);have i:=Oa hc;rw[<-g]at i;have VU:=O i;have ba:=O a;have WZ:=O g;rw[<-a,<-g];have Ww:=O (And.intro hN (And.intro k h));have a2:=O (And.intro m n);obtain⟨x1,M,r,u,x,y,d⟩:=S6 w H B VF.t VC.t;have o:jc (SSt w [(M,H,VF.t),(M+1,B,VC.t)] [(c,q)] [] x1):=O ⟨λe he=>by
  simp only[jR,j9,or_false]at he
  rcases he with rfl|rfl
  ·exact x
  ·exact y,λp s=>by
  simp only[jR,j9,or_false]at s;subst s;exact hc.below d,λp s=>(by cases s),t.below d,d⟩
 have D:=O (b.below d);have S:=O r;have z:=O u;clear a g m n hc i r u x y d b t h k hN
 go_enter func3,ntmps3
 go_upto_region 1 with fail
 rw[show(w.alloc (jl H 25)).alloc (jl B 34)=x1 from S.symm]
 try simp only[nv]
 rw[<-z];clear S z
 go_wp2_with fail
 refine(J2 x1 o.tab).mono ?_;rintro e x2 ⟨rfl,d⟩;replace o:=O (o.below d);replace D:=O (D.below d);clear d
 go_upto_region 3 with fail
 have d:=bV x2;obtain⟨x3,r⟩:=J x2.drew;have S:=O r;rw[<-r]at d;replace o:=O (o.below d);replace D:=O (D.below d);clear r d;refine jW ?_;refine fb (λK=>K.heap[M+1]?=jb (jl B VC.t (0,0))/\K.heap[M]?=jb (jl H VF.t (0,0))) 8 (.t 1 (.t 3 (.w 0 4 (.w 2 4 (.o 4 (.o 5 (.o 6 (.t 7 .done)))) (.o 2 (.o 5 (.o 6 (.t 7 .done))))) (.o 0 (.o 2 (.o 5 (.o 6 (.t 7 .done)))))))) af af af af G (λ_ _ _ _ h=>h) (by rw[<-S];exact⟨o.blk (M+1,B,VC.t) ar,o.blk (M,H,VF.t) ar⟩) ?_;rw[<-S];clear S;refine bX ?_
 (refine cD (v:=ja B) N aj (λK hS=>cU VC.hu VC.hd (by rw[VU.1];exact VC.hi) N N hS.1) ?_;refine L ?_)
 refine RCm.copy_one (k0:=0) (k2:=2) (kb:=4) (k5:=5) af (λ_ _ _ _ h=>h) af af N N N N N N N N N N N N N N N N (show 16<71 by decide) (show 18<71 by decide) (show 20<71 by decide) G G G G
  (u:=ji p1 a1 k1) (n:=a1) (xs:=F.flatMap mB) (C:=B) rfl (by have h:=D.row.row;rw[<-Ww.1]at h;exact h) (IU D) rfl VU.1 VU.2 (by have h1:=Ww.1;have h2:=Ww.2.1;omega) (λw' d=>⟨av (o.blk (M+1,B,VC.t) ar) d,av (o.blk (M,H,VF.t) ar) d⟩) ?_
 intro z0 z2 zb v x4 ho d;replace o:=O (o.below d);replace D:=O (D.below d);have a3:jc (cC x4 v (F++[(c,q)])):=O (DV (w0:=w) ho Ww.1 WZ D.all (o.com (c,q) ar));clear ho d;refine L ?_;refine cO N (λK' E=>?_);go_simp;refine(RE (F++[(c,q)]) v x4 a3 (λp s=>?_) (by rw[jQ,j1];exact jN (Nat.succ_le_succ Ww.2.1) G)).mono ?_
 ·rcases jL.1 s with s|s
  ·exact⟨(a2.1 p s).nbox,(a2.1 p s).nwel⟩
  rw[jM]at s;rw[s];exact⟨a2.2.nbox,a2.2.nwel⟩
 rintro e x5 ⟨⟨y1,rfl,b⟩,d⟩;replace o:=O (o.below d);replace D:=O (D.below d);refine E _ _ ⟨o.blk (M+1,B,VC.t) ar,o.blk (M,H,VF.t) ar⟩ λ_=>?_
 clear E d a3;refine L ?_;refine bX ?_;refine eH ?_
 rcases y1 with _|_
 ·clear b
  go_wp2_with fail
  go_ret;exact⟨N,o.bel⟩
 have a:=b N;have ad:jc (F.length<=6/\(∀p∈F,rq p.1)/\rq c):=O ⟨by have h:=a.1;rw[jQ,j1]at h;omega,λp s=>a.2 p (qB _ s),a.2 (c,q) (qN _ (jM.2 rfl))⟩;clear b a;have a4:jc (∀p∈F++[(c,q)],cY (aR p.1)):=O (λp s=>by
  rcases jL.1 s with s|s
  ·exact(FG (ad.2.1 p s) (a2.1 p s).ints (D.all p s).plen (D.all p s).clen).encOk
  rw[jM]at s;rw[s];exact(FG ad.2.2 a2.2.ints (o.com (c,q) ar).plen (o.com (c,q) ar).clen).encOk)
 have bi:jc (∀p∈F,cY (aR p.1)):=O λp s=>a4 p (qB _ s)
 have bb:jc (cY (aR c)):=O (a4 (c,q) (qN _ (jM.2 N)));have bc:jc (∀p∈F++[(c,q)],p.1.chg.length<=1000000):=O (λp s=>by
  rcases jL.1 s with s|s
  ·exact jN (ad.2.1 p s).nchg G
  rw[jM]at s;rw[s];exact jN ad.2.2.nchg G)
 go_upto_region 5 with fail
 have m:jc (∀W,cC W (ji p1 a1 k1) F->bQ W->jr jp 6 #[ja H,ji p1 a1 k1] W λe w'=>∃(u1 u2:jd) (Ks:jk CK),e=js (jw #[u1,u2])/\Ks.map CK.cand=dU aa UJ (F.map (·.1))/\aH (λb=>W.heap.size<=b/\b<w'.heap.size) w' u1 1 Ks.length (Ks.map λk=>jy .i64 k.ix)/\
  aH (λb=>W.heap.size<=b/\b<w'.heap.size) w' u2 36 Ks.length (Ks.flatMap λk=>aD k.g k.vm k.vt)/\(∀k∈Ks,KD (λb=>b<w'.heap.size) F w' k)/\jm W W w'):=O (λW h ht=>by
   rw[ba];exact uF F _ aa UJ Ww.2.2 W h bi ht (cT ad.1) λp s=>bc p (qB _ s))
 go_wp2_with (first|(refine VF.loadA aj N N H ZK (o.blk (M,H,VF.t) ar) (L ?_)))
 refine(m x5 D o.tab.s.dig).mono ?_;rintro e Q ⟨u1,u2,Ks,rfl,h1,h2,h3,h4,d⟩;replace o:=O (o.below d);replace D:=O (D.below d);obtain⟨n,i⟩:=J Ks.length;have bp:n<=8:=by
  have a:=jJ n0 h1;have b:=OY aa UJ (F.map (·.1));have c:=ad.1;rw[jB]at a b;omega
 obtain⟨pa,ka,rfl⟩:=h2.form;obtain⟨pg,kg,rfl⟩:=h3.form;have U:jc (aH (·<Q.heap.size) Q (ji pa Ks.length ka) 1 Ks.length ((Ks.map λk=>(k.ix:je)).map (jy .i64))):=O (by rw[ms];exact h2.mono λb R=>R.2);rw[<-i]at h3 U⊢;have HN:=O i;have a5:=O h1;have V:jc (aH (·<Q.heap.size) Q (ji pg n kg) 36 n (Ks.flatMap λk=>aD k.g k.vm k.vt)):=O (h3.mono λb R=>R.2);have P:jc (∀k∈Ks,bU Q k.g k.vm k.vt):=O λk a=>(h4 k a).grp.grp
 have bd:jc (∀k∈Ks,k.g.mem.length<=512/\k.g.tree.length<=1023):=O λk a=>by
  obtain⟨g,hc⟩:=Jk (c:=k.cand) (by rw[<-a5];exact List.mem_map_of_mem a);exact hc.small
 clear d m h1 h2 h3 h4 i
 go_wp2_with fail
 go_loopw [9] (λg wr=>∃(k:jo),g=jf jg k/\k<=n/\jc (∀x∈Ks.take k,cA x.g c≠0)/\jc (jm Q Q wr)) (λi _=>n-(jG i).toNat)
 case atStart=>exact⟨0,N,jS _,O ar,O (jD _ _)⟩
 obtain⟨k,rfl,a,HE,HB⟩:=hrel
 by_cases bk:k<n
 ·have hd:=aA ((k:je)<(n:je))
  have UY:=aA (k<n);obtain⟨y,hy,Vp⟩:=dL (l:=Ks) (j:=k) (by rw[<-HN];exact bk);obtain⟨W0,UN,g⟩:∃W0,W0=wr.drew/\jc (jm Q Q W0):=⟨_,N,O (HB.trans ⟨N,N,N,jA _,λ_ _=>rfl⟩)⟩;have i:=jZ hy;obtain⟨g2,o2,bq,bl,-,-,-,ay⟩:=aH.rowM V HN (f:=λk:CK=>aD k.g k.vm k.vt) (λc hc=>eE (P c hc).llen) hy;injection bl with e7 e8 e9
  subst e7;subst e9;have au:jc (∀W,jm Q Q W->W.rangeAt g2 (o2+k*36) (aD y.g y.vm y.vt)):=O (λW h j u hj=>aB (ay j u hj) h);obtain⟨GA,ax⟩:=J ((aD y.g y.vm y.vt).toArray);obtain⟨z,Zf⟩:=J (cA y.g c);have bf:jc (∀W,bU W y.g y.vm y.vt->bQ W->aS (·<W.heap.size) W c q->jr jp 7 #[ja GA,ja B] W λe w'=>∃X m t,e=js (jw #[ja X,jf jg z])/\NxA y.g c W w' e X m t):=O (λW hg ht hc=>by
   rw[ax,WZ,Zf];have hs:=bd y i;exact(Jq y.g y.vm y.vt c q W hg hc bb ht Y Y).mono λe w' ⟨X,m,t,h⟩=>⟨X,m,t,h.ret,h⟩)
  have bm:jc ((aD y.g y.vm y.vt).length=VG.n):=O (eE (P y i).llen);have VO:=O Vp;have bg:=O i;have bn:=O ax;have bh:=O Zf;have bo:jc (W0.rangeAt g2 (o2+k*36) (aD y.g y.vm y.vt)/\W0.heap[M+1]?=jb (jl B VC.t (0,0))):=O ⟨au W0 g,(o.below g).blk (M+1,B,VC.t) ar⟩;clear hy Vp i e8 ay ax Zf
  go_upto_region 9 with fail
  refine jW ?_;refine di (λK=>K.rangeAt g2 (o2+k*36) (aD y.g y.vm y.vt)/\K.heap[M+1]?=jb (jl B VC.t (0,0))) (.t 0 (.t 1 (.t 2 (.t 3 (.t 4 (.w 5 9 (.t 6 (.t 7 (.t 8 (.o 9 (.o 10 (.t 11 .done)))))) (.o 5 (.t 6 (.t 7 (.t 8 (.o 10 (.t 11 .done)))))))))))) af af af G (λ_ _ _ _ h=>h) (by rw[<-UN];exact bo) ?_;rw[<-UN];clear UN;iterate 3 refine aQ ?_
  (refine aW (v:=ja GA) N aj (λK hS=>by rw[bn];exact fk _ _ VG.t _ N _ _ N _ VG.d hS.1 VG.hu VG.hd (by rw[bm];exact VG.hi)) ?_;refine L ?_)
  (refine aW (v:=ja B) N aj (λK hS=>cU VC.hu VC.hd (by rw[VU.1];exact VC.hi) N N hS.2) ?_;refine L ?_)
  refine iA ?_ ?_
  ·refine aE N (λK' E=>?_)
   go_simp;refine(bf W0 (P y bg.out|>.below g) (o.below g).tab.s.dig ((o.below g).com (c,q) ar)).mono ?_;rintro e y2 ⟨X,m,t,rfl,hN⟩;have ax:=O (And.intro hN.sz hN.one);have d:=hN.bel;replace g:=ah g d;refine E _ _ ⟨au y2 g,(o.below g).blk (M+1,B,VC.t) ar⟩ λ_=>?_
   clear E hN d;refine L ?_;iterate 3 refine aQ ?_
   refine aE N (λK' E=>?_);rw[jz aj];refine fS VG.t N VG.Z VG.hal ?_;obtain⟨y3,XB,r,R,YV,d⟩:=dl y2 VG.Z VG.t;rw[<-r,<-R];have a6:jc (Q.heap.size<=XB):=O (by rw[R];exact g.size);replace g:=ah g d;refine E _ _ ⟨au y3 g,(o.below g).blk (M+1,B,VC.t) ar⟩ λ_=>?_
   clear E r R d;refine L ?_;refine aE N (λK' E=>?_);rw[jz aj];refine jV VG.t _ _ N XB X N N VG.t VG.Z YV.out (by rw[ax.1];exact VG.hi) (VG.hZ.trans ax.1.symm) ax.2 ?_;have ay:=o1 g a6 X;obtain⟨y4,r⟩:=J (y3.setRow XB X);rw[<-r]at ay⊢;have UK:=O ay;refine E _ _ ⟨au y4 UK,(o.below UK).blk (M+1,B,VC.t) ar⟩ λ_=>?_
   clear E r ay;refine L ?_;refine aQ ?_;refine oj ?_
   go_upto_region 10 with fail
   by_cases i:z=0
   ·have t1:(z==0)=jh:=ak i
    have t2:decide (z=0)=jh:=ak i;have d:=UK.out;replace o:=O (o.below d);clear i d
    go_wp2_with fail
    go_ret;exact⟨N,o.bel⟩
   have t1:(z==0)=jv:=ak i;have t2:decide (z=0)=jv:=ak i;have HZ:=O i;clear i
   go_wp2_with fail
   exact⟨⟨k+1,by go_num,by omega,O (by
    rw[VO];intro x r
    rcases jL.1 r with r|r
    ·exact HE x r
    rw[jM]at r;rw[r,<-bh];exact HZ),UK⟩,by simp only[jG];omega⟩
  refine aE N (λK' E=>?_);rw[jz aj];refine fS VG.t N VG.Z VG.hal ?_;obtain⟨y2,XB,r,R,YV,d⟩:=dl W0 VG.Z VG.t;rw[<-r,<-R];have a6:jc (Q.heap.size<=XB):=O (by rw[R];exact g.size);replace g:=ah g d;refine E _ _ ⟨au y2 g,(o.below g).blk (M+1,B,VC.t) ar⟩ λ_=>?_
  clear E r R d;refine L ?_;refine aE N (λK' E=>?_);go_simp;refine(bf y2 (P y bg.out|>.below g) (o.below g).tab.s.dig ((o.below g).com (c,q) ar)).mono ?_;rintro e y3 ⟨X,m,t,rfl,hN⟩;have ax:=O (And.intro hN.sz hN.one);have d:=hN.bel;replace YV:=ae YV d;replace g:=ah g d;refine E _ _ ⟨au y3 g,(o.below g).blk (M+1,B,VC.t) ar⟩ λ_=>?_
  clear E hN d;refine L ?_;iterate 3 refine aQ ?_
  refine aE N (λK' E=>?_);rw[jz aj];refine jV VG.t _ _ N XB X N N VG.t VG.Z YV.out (by rw[ax.1];exact VG.hi) (VG.hZ.trans ax.1.symm) ax.2 ?_;have ay:=o1 g a6 X;obtain⟨y4,r⟩:=J (y3.setRow XB X);rw[<-r]at ay⊢;have UK:=O ay;refine E _ _ ⟨au y4 UK,(o.below UK).blk (M+1,B,VC.t) ar⟩ λ_=>?_
  clear E r ay;refine L ?_;refine aQ ?_;refine oj ?_
  go_upto_region 10 with fail
  by_cases i:z=0
  ·have t1:(z==0)=jh:=ak i
   have t2:decide (z=0)=jh:=ak i;have d:=UK.out;replace o:=O (o.below d);clear i d
   go_wp2_with fail
   go_ret;exact⟨N,o.bel⟩
  have t1:(z==0)=jv:=ak i;have t2:decide (z=0)=jv:=ak i;have HZ:=O i;clear i
  go_wp2_with fail
  exact⟨⟨k+1,by go_num,by omega,O (by
   rw[VO];intro x r
   rcases jL.1 r with r|r
   ·exact HE x r
   rw[jM]at r;rw[r,<-bh];exact HZ),UK⟩,by simp only[jG];omega⟩
 have hd:=az ((k:je)<(n:je));have UY:=az (k<n);obtain rfl:k=n:=Y;have ax:jc (∀x∈Ks,cA x.g c≠0):=O (by
  have h:=HE.out
  rwa [qe (by rw[<-HN];exact jA _)]at h)
 obtain⟨m,g⟩:=J wr;rw[<-g]at HB⊢;have d:=HB.out;replace o:=O (o.below d);replace D:=O (D.below d);replace V:=O ((V.keep λk a=>d.block k a).mono λk (a:k<Q.heap.size)=>ju a d.size);replace U:=O ((U.keep λk a=>d.block k a).mono λk (a:k<Q.heap.size)=>ju a d.size);replace P:jc (∀k∈Ks,bU m k.g k.vm k.vt):=O λk a=>(P k a).below d
 clear d HB HE g;obtain⟨X,g⟩:=J (((aG c).map v8).toArray);obtain⟨TI,i⟩:=J ((UJ.map v8).toArray);obtain⟨eb,t⟩:=J (decide (aG c=UJ));have au:jc (∀z,(Op.equalIn 10000 23 (ja X) (ja TI)).run jp z=.ok eb z):=O (λz=>by rw[g,i,t];exact nZ _ _ (dX c) Ww.2.2 z);have z:jc (∀W,aS (·<W.heap.size) W c q->bQ W->jr jp 8 #[ja B] W λe w'=>e=js (ja X)/\jm W W w'):=O (λW h ht=>by
  rw[WZ,g];exact ti c q W h bb ht)
 have ay:=O i;have a6:=O t;have Yo:jc ((UJ.map v8).length=VD.n):=O (by rw[jB];exact Ww.2.2);clear g i t
 go_upto_region 12 with fail
 have d:=bV m;obtain⟨x8,r⟩:=J m.drew;have S:=O r;rw[<-r]at d;replace o:=O (o.below d);replace D:=O (D.below d);replace V:=O ((V.keep λk a=>d.block k a).mono λk a=>ju a d.size);replace U:=O ((U.keep λk a=>d.block k a).mono λk a=>ju a d.size);replace P:=O λk a=>(P k a).below d
 clear r d;refine jW ?_;refine di (λK=>K.heap[M+1]?=jb (jl B VC.t (0,0))/\K.heap[M]?=jb (jl H VF.t (0,0))) (.t 0 (.t 2 (.t 3 (.o 1 (.t 4 .done))))) af af af G (λ_ _ _ _ h=>h) (by rw[<-S];exact⟨o.blk (M+1,B,VC.t) ar,o.blk (M,H,VF.t) ar⟩) ?_;rw[<-S];clear S
 (refine aW (v:=ja B) N aj (λK hS=>cU VC.hu VC.hd (by rw[VU.1];exact VC.hi) N N hS.1) ?_;refine L ?_)
 refine aQ ?_
 (refine aW (v:=ja TI) N aj (λK hS=>by rw[ay];exact fk _ _ VD.t _ N _ _ N _ VD.d (λj v hj=>ai hS.2 (Z5 j v hj)) VD.hu VD.hd (by rw[Yo];exact VD.hi)) ?_;refine L ?_)
 refine aE N (λK' E=>?_);go_simp;refine(z x8 (o.com (c,q) ar) o.tab.s.dig).mono ?_;rintro e x9 ⟨rfl,d⟩;replace o:=O (o.below d);replace D:=O (D.below d);replace V:=O ((V.keep λk a=>d.block k a).mono λk a=>ju a d.size);replace U:=O ((U.keep λk a=>d.block k a).mono λk a=>ju a d.size);replace P:=O λk a=>(P k a).below d
 refine E _ _ ⟨o.blk (M+1,B,VC.t) ar,o.blk (M,H,VF.t) ar⟩ λ_=>?_
 clear E d;refine L ?_;have g:=au.out;refine fJ ?_;clear g au z;refine oj ?_
 cases eb with
 |true=>
  go_wp2_with fail
  go_ret;exact⟨N,o.bel⟩
 |false=>
  go_upto_region 14 with fail
  have d:=bV x9;obtain⟨au,r⟩:=J x9.drew;have S:=O r;rw[<-r]at d;replace o:=O (o.below d);replace D:=O (D.below d);replace V:=O ((V.keep λk a=>d.block k a).mono λk a=>ju a d.size);replace U:=O ((U.keep λk a=>d.block k a).mono λk a=>ju a d.size);replace P:=O λk a=>(P k a).below d
  clear r d;refine jW ?_;refine fb (λK=>K.heap[M+1]?=jb (jl B VC.t (0,0))/\K.heap[M]?=jb (jl H VF.t (0,0))) 13 (.t 0 (.t 2 (.t 4 (.w 1 5 (.w 3 5 (.o 5 (.o 6 (.o 7 (.t 8 (.t 9 (.t 10 (.t 11 (.t 12 .done)))))))) (.o 3 (.o 6 (.o 7 (.t 8 (.t 9 (.t 10 (.t 11 (.t 12 .done))))))))) (.o 1 (.o 3 (.o 6 (.o 7 (.t 8 (.t 9 (.t 10 (.t 11 (.t 12 .done))))))))))))) af af af af G (λ_ _ _ _ h=>h) (by rw[<-S];exact⟨o.blk (M+1,B,VC.t) ar,o.blk (M,H,VF.t) ar⟩) ?_;rw[<-S];clear S
  (refine cD (v:=ja H) N aj (λK hS=>cU VF.hu VF.hd (by rw[ZK];exact VF.hi) N N hS.2) ?_;refine L ?_)
  refine bX ?_
  (refine cD (v:=ja B) N aj (λK hS=>cU VC.hu VC.hd (by rw[VU.1];exact VC.hi) N N hS.1) ?_;refine L ?_)
  refine RCm.copy_one (k0:=1) (k2:=3) (kb:=5) (k5:=6) af (λ_ _ _ _ h=>h) af af N N N N N N N N N N N N N N N N (show 54<71 by decide) (show 56<71 by decide) (show 58<71 by decide) G G G G
   (u:=ji p1 a1 k1) (n:=a1) (xs:=F.flatMap mB) (C:=B) rfl (by have h:=D.row.row;rw[<-Ww.1]at h;exact h) (IU D) rfl VU.1 VU.2 (by have h1:=Ww.1;have h2:=Ww.2.1;omega) (λw' d=>⟨av (o.blk (M+1,B,VC.t) ar) d,av (o.blk (M,H,VF.t) ar) d⟩) ?_
  intro z0 z2 zb v z ho d;replace o:=O (o.below d);replace D:=O (D.below d);replace V:=O ((V.keep λk a=>d.block k a).mono λk a=>ju a d.size);replace U:=O ((U.keep λk a=>d.block k a).mono λk a=>ju a d.size);replace P:=O λk a=>(P k a).below d
  have a3:jc (cC z v (F++[(c,q)])):=O (DV (w0:=w) ho Ww.1 WZ D.all (o.com (c,q) ar));clear ho d;refine L ?_;have K:jc (∀W,cC W v (F++[(c,q)])->bQ W->jr jp 6 #[ja H,v] W λe w'=>∃(u1 u2:jd) (g:jk CK),e=js (jw #[u1,u2])/\g.map CK.cand=dU aa UJ (F.map (·.1))/\aH (λb=>W.heap.size<=b/\b<w'.heap.size) w' u1 1 g.length (g.map λk=>jy .i64 k.ix)/\
   aH (λb=>W.heap.size<=b/\b<w'.heap.size) w' u2 36 g.length (g.flatMap λk=>aD k.g k.vm k.vt)/\(∀k∈g,KD (λb=>b<w'.heap.size) (F++[(c,q)]) w' k)/\jm W W w'):=O (λW h ht=>by
    rw[ba];have r:=uF (F++[(c,q)]) v aa UJ Ww.2.2 W h a4 ht (by rw[jQ,j1];have:=ad.1;omega) bc;rw[qt,jY,jK,Mo (of_decide_eq_false a6.symm) (λy hy=>by
     rw[<-a5]at hy;obtain⟨x,r,rfl⟩:=qb.1 hy;exact ax x r)]at r
    exact r)
  refine cO N (λK' E=>?_);go_simp;refine(K z a3 o.tab.s.dig).mono ?_;rintro e i ⟨u1,u2,g,rfl,h1,h2,h3,h4,d⟩;replace o:=O (o.below d);replace D:=O (D.below d);replace V:=O ((V.keep λk a=>d.block k a).mono λk a=>ju a d.size);replace U:=O ((U.keep λk a=>d.block k a).mono λk a=>ju a d.size);replace P:=O λk a=>(P k a).below d
  refine E _ _ ⟨o.blk (M+1,B,VC.t) ar,o.blk (M,H,VF.t) ar⟩ λ_=>?_
  obtain⟨S,e2,j⟩:=L1 a5 h1;obtain⟨t,kb,rfl⟩:=h2.form;obtain⟨u,y,rfl⟩:=h3.form;have Vu:jc (aH (·<i.heap.size) i (ji t g.length kb) 1 g.length ((g.map λk=>(k.ix:je)).map (jy .i64))):=O (by rw[ms];exact h2.mono λb R=>R.2);have VM:jc (aH (·<i.heap.size) i (ji u g.length y) 36 g.length (g.flatMap λk=>aD k.g k.vm k.vt)):=O (h3.mono λb R=>R.2);have R:jc (∀k∈g,bU i k.g k.vm k.vt):=O λk a=>(h4 k a).grp.grp
  rw[<-j,<-HN]at Vu VM⊢;have b:=O (And.intro S (And.intro e2 j));clear E d K a3 h1 h2 h3 h4 S e2 j;refine L ?_;iterate 5 refine bX ?_
  refine eH ?_
  go_upto_region 15 with fail
  have E:jc (jr jp 9 #[ji pa k ka,ji t k kb] i λe w'=>e=js (.bool jh)/\jm i i w'):=O (by
   have j:c8 i (ji pa k ka) (Ks.map λk=>(k.ix:je)):=aH.ints (by rw[jB,<-HN];exact U);have K:c8 i (ji t k kb) (g.map λk=>(k.ix:je)):=aH.ints (by rw[jB,<-b.2.2,<-HN];exact Vu);have h:=I7 _ _ _ _ i j K (by rw[jB,<-HN];omega) (by rw[jB,<-b.2.2,<-HN];omega);rw[ow b.1]at h;exact h)
  have K:jc (∀W,jm i i W->jr jp 10 #[ji pg k kg,ji u k y] W λe w'=>e=js (.bool jh)/\jm W W w'):=O (λW d=>by
   have j:iK W (ji pg k kg) (Ks.map gpK):=iK.below ⟨by rw[EU,jB,<-HN];exact V,λx r=>by obtain⟨k,a,rfl⟩:=qb.1 r;exact P k a⟩ d;have S:iK W (ji u k y) (g.map gpK):=iK.below ⟨by rw[EU,jB,<-b.2.2,<-HN];exact VM,λx r=>by obtain⟨k,a,rfl⟩:=qb.1 r;exact R k a⟩ d;exact Lk _ _ _ _ W j S b.2.1 (by rw[jB,<-HN];omega) (λx r=>by
    obtain⟨k,a,rfl⟩:=qb.1 r;have h:=bd k a;exact⟨jN h.1 G,jN h.2 G⟩))
  go_wp2_with fail
  refine E.mono ?_;rintro e x ⟨rfl,d⟩;replace o:=O (o.below d);have j:=K x d;replace j:=O j;clear d E K
  go_wp2_with fail
  refine j.mono ?_;rintro e E ⟨rfl,d⟩;replace o:=O (o.below d);clear d j
  go_wp2_with fail
  go_ret;exact⟨N,o.bel⟩
section
open Go.RowKit Go.ChangeShapes Go.WideShapes Go.Deep
theorem MZ(d:j5 H):1<=Rows.uptoBulk d:=by
 cases d with
 |lit l=>cases l<;>simp[Rows.uptoBulk]
 |nil=>simp[Rows.uptoBulk]
 |ptr d=>simp[Rows.uptoBulk]
 |slice a b=>simp[Rows.uptoBulk]
 |agg a=>simp[Rows.uptoBulk]
 |iface a b=>simp[Rows.uptoBulk]
 |map a=>simp[Rows.uptoBulk]
 |held a=>simp[Rows.uptoBulk]
theorem IZ:∀l:jk (j5 H),(∀d∈l,2<=Rows.uptoBulk d)->2*l.length<=Rows.uptoBulkAll l
 |[],_=>jS _
 |d::r,h=>by
  have b:=IZ r (λx a=>h x (List.mem_cons_of_mem _ a));have a:=h d List.mem_cons_self;rw[qi,Rows.uptoBulkAll];omega
theorem OF{enc:jC×jd->H}{l:Option Addr}{i:jo}{d:j5 H}(h:DataW.Trod enc jp w 0 (λ_=>jh) jh 26 (.slice l x i) d p):2*x<=Rows.uptoBulk d:=by
 obtain⟨fuel,o⟩:=h;have q:DataW.trod enc jp w 0 (λ_=>jh) jh fuel 26 [.slice l x i]=jb (d,p):=by simpa [j8]using o
 rcases open_slice qk q with⟨b,-⟩|⟨a,c,r,m,W,D,z,b,-,B,-,s,f,he⟩
 ·obtain rfl:x=0:=by
   injection b with b _
   injection b
  exact jS _
 have t:d=.slice ((qC c).map D) ((qC (m-c)).map λj=>D (c+j)):=jJ Prod.fst f;obtain rfl:x=c:=by
  injection b with b _
  injection b
 have C:m=r:=ak s;have g:=IZ ((qC x).map D) (λn f=>by
  obtain⟨k,j,rfl⟩:=qb.1 f;rw[List.mem_range]at j;obtain⟨E,-,g⟩:=he k Y;obtain⟨xs,n',-,e,-,u,-⟩:=DataW.trod_struct underlying34 g;have v:D k=.agg (xs.map (·.1)):=jJ Prod.fst e;rw[v]
  match xs,u with
  |y::ys,_=>
   have:=MZ y.1;rw[jY,Rows.uptoBulk,Rows.uptoBulkAll]
   omega)
 rw[jB,List.length_range]at g;rw[t,Rows.uptoBulk];omega
theorem alone_w{enc:jC×jd->H}(b:jd)(d:j5 H)(m:jk o3)(n:DataW.Trod enc jp w 0 (λ_=>jh) jh 25 b d m)(o:qa jp w .any x 25 b)
 (a:jd) (f:j5 H) (r:jk o3) (i:DataW.Trod enc jp w 0 (λ_=>jh) jh 26 a f r) (s:qa jp w .any x 26 a)
 (g:jd) (h:j5 H) (t:jk o3) (u:DataW.Trod enc jp w 0 (λ_=>jh) jh 34 g h t) (v:qa jp w .any x 34 g) (W:laidMetH jp tc w) (base:Rows.uptoSmall H [d,f,h]=jh):
 jr jp 3 #[b,a,g] w λe y=>e=.returned (.bool jh)/\jm w w y:=by
 obtain⟨z,B,rfl,C⟩:=Ra n o;obtain⟨j,l,Q,D⟩:=KQ i s;obtain⟨c,q,rfl,E,F,-,lb,K⟩:=ND u v;have M:j.length<=900000:=by
  obtain⟨p,k,rfl⟩:=l.form;have R:=OF i;have P:Rows.uptoBulkAll [d,f,h]<=1048576:=of_decide_eq_true base;rw[Rows.uptoBulkAll,Rows.uptoBulkAll]at P;omega
 exact Ry z B C j a c q w l M D E ⟨F,lb,K⟩ (Lp W)
end

end Go.Proofs.YtjbiancnijgmgaaGreatDoor
